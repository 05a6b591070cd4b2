/- Tracked sets, patterns and well-formed tables: the reference's and the program's. Inverses, letters, positions after a letter: the reference's and the program's. A table's faults, in plain words. The laws' drawn permutations, puzzles, tracked sets (laws 10, 11). -/
import Derived.Test.YtoinaidncncdhaaRowDescentsG4
import Derived.Test.YtoinaidncncdhaaRowDescentsG3
import Derived.Test.YtoinaidncncdhaaRowDescentsG1
namespace Go.Proofs.Ytoinaidncncdhaa
open Go.RowKit
set_option maxRecDepth 10000

/-- a strictly increasing list of points of n -/
def Inc (n : Int) (l : List Int) : Prop := (∀ x ∈ l, 0 ≤ x ∧ x < n) ∧ l.Pairwise (· < ·)
instance (n : Int) (l : List Int) : Decidable (Inc n l) := inferInstanceAs (Decidable (_ ∧ _))
/-- distinct points of n -/
def Dis (n : Int) (l : List Int) : Prop := (∀ x ∈ l, 0 ≤ x ∧ x < n) ∧ l.Nodup
instance (n : Int) (l : List Int) : Decidable (Dis n l) := inferInstanceAs (Decidable (_ ∧ _))
def trackB (n : Int) (l : List Int) : Bool := decide (0 < l.length) && decide (Inc n l)
def patB (n : Int) (k : Nat) (l : List Int) : Bool := decide (l.length = k) && decide (Dis n l)
theorem pw_take_step {l : List Int} {j : Nat} (h : j < l.length) (h1 : (l.take j).Pairwise (· < ·)) (h2 : ∀ i (hi : i + 1 = j), l[i]'(by omega) < l[j]) : (l.take (j + 1)).Pairwise (· < ·) := by
  rw [take_succ_get l j h]
  refine List.pairwise_append.2 ⟨h1, by simp, fun a ha b hb => ?_⟩
  simp at hb; subst hb
  rcases Nat.eq_zero_or_pos j with h0 | h0
  · subst h0; simp at ha
  · obtain ⟨i, rfl⟩ : ∃ i, j = i + 1 := ⟨j - 1, by omega⟩
    have hi : i < l.length := by omega
    have h3 := h2 i rfl
    obtain ⟨k, hk, rfl⟩ := List.mem_take_iff_getElem.1 ha
    rcases Nat.lt_or_ge k i with hki | hki
    · rw [take_succ_get l i hi] at h1
      have := (List.pairwise_append.1 h1).2.2 l[k] (List.mem_take_iff_getElem.2 ⟨k, by omega, rfl⟩) l[i] (by simp)
      omega
    · have : k = i := by omega
      subst this; exact h3
theorem pw_take_not {l : List Int} {i : Nat} (h : i + 1 < l.length) (h2 : ¬ l[i] < l[i + 1]) : ¬ l.Pairwise (· < ·) := by
  intro hp
  exact h2 (List.pairwise_iff_getElem.1 hp i (i + 1) (by omega) h (by omega))
theorem inc_ge {l : List Int} (h0 : ∀ x ∈ l, 0 ≤ x) (hp : l.Pairwise (· < ·)) : ∀ k (hk : k < l.length), (k : Int) ≤ l[k] := by
  intro k
  induction k with
  | zero => intro hk; have := h0 _ (List.getElem_mem hk); omega
  | succ k ih =>
    intro hk
    have h1 := ih (by omega)
    have h2 := List.pairwise_iff_getElem.1 hp k (k + 1) (by omega) hk (by omega)
    omega
theorem Inc.len {n : Int} {l : List Int} (h : Inc n l) : (l.length : Int) ≤ n ∨ l.length = 0 := by
  rcases Nat.eq_zero_or_pos l.length with h0 | h0
  · exact .inr h0
  · left
    have h1 := inc_ge (fun x hx => (h.1 x hx).1) h.2 (l.length - 1) (by omega)
    have h2 := (h.1 l[l.length - 1] (List.getElem_mem _)).2
    omega
theorem pw_nodup {l : List Int} (h : l.Pairwise (· < ·)) : l.Nodup := by
  rw [List.nodup_iff_pairwise_ne]
  exact h.imp fun h => Int.ne_of_lt h
theorem Inc.dis {n : Int} {l : List Int} (h : Inc n l) : Dis n l := ⟨h.1, pw_nodup h.2⟩
theorem trackB_iff {n : Int} {l : List Int} : trackB n l = true ↔ 0 < l.length ∧ Inc n l := by simp [trackB]
theorem patB_iff {n : Int} {k : Nat} {l : List Int} : patB n k l = true ↔ l.length = k ∧ Dis n l := by simp [patB]
theorem trackB_no {n : Int} {l : List Int} (h : ¬ Inc n l) : trackB n l = false := by simp [trackB, h]
theorem patB_no {n : Int} {k : Nat} {l : List Int} (h : ¬ Dis n l) : patB n k l = false := by simp [patB, h]
theorem trackB_pat {n : Int} {l : List Int} (h : trackB n l = true) : patB n l.length l = true := patB_iff.2 ⟨rfl, (trackB_iff.1 h).2.dis⟩
theorem wrap64_pred (i : Nat) (h : i < 9223372036854775807) : wrap64 (((i + 1 : Nat) : Int) - 1) = (i : Int) := by unfold wrap64; omega

set_option maxHeartbeats 1000000 in
theorem isPointList_any (n : Int) (a : Option Addr) (cap : Nat) (l : List Int) (fp : List Nat) (w : World) (h : IntsA w a cap l fp) (n0 : 0 ≤ n) (n1 : n ≤ 1000) :
    Calls Try.prog 47 #[.int .i64 n, .slice a l.length cap] w fun e w' => e = .returned (.bool (trackB n l)) ∧ Drew w w' := by
  have hb := h.bound
  rcases hq : inR l.length 1 n
  · go_enter Try.func47, Try.ntmps47
    go_wp2_with ((go_at_call 48; (with_reducible refine (inRange_any l.length 1 n _).mono ?_); rintro e w1 ⟨rfl, rfl⟩))
    go_ret
    exact ⟨ret_bool (by
      rw [eq_comm, ← Bool.not_eq_true, trackB_iff]; rintro ⟨h0, h1⟩
      rw [inR_not] at hq; have := h1.len; omega), Drew.refl _⟩
  obtain ⟨g1, g2⟩ := inR_iff.1 hq
  have hfin : trackB n l = decide (Inc n l) := by unfold trackB; rw [decide_eq_true (by omega)]; rfl
  have Hfin := Lib.hid hfin; clear hfin
  go_enter Try.func47, Try.ntmps47
  go_wp2_with ((go_at_call 48; (with_reducible refine (inRange_any l.length 1 n _).mono ?_); rintro e w ⟨rfl, rfl⟩))
  go_loopw [5] (fun i wr => ∃ j : Nat, j ≤ l.length ∧ i = .int .i64 j ∧ (∀ x ∈ l.take j, 0 ≤ x ∧ x < n) ∧ (l.take j).Pairwise (· < ·) ∧ Drew w wr)
    (fun i _ => l.length - (intOf i).toNat)
  case atStart => exact ⟨0, Nat.zero_le _, rfl, by simp, by simp, Drew.refl _⟩
  case round =>
    obtain ⟨j, hj, rfl, hr, hn, k, rfl⟩ := hrel
    have Hr := Lib.hid hr; clear hr
    have Hn := Lib.hid hn; clear hn
    by_cases hlt : j < l.length
    · rcases c1 : inR l[j] 0 (n - 1)
      · obtain ⟨b, off, rfl, -, hc⟩ := h.at_ j hlt
        go_wp2
        go_quiet ((go_at_call 48; exact quiet_drewN (inRange_q l[j] 0 (n - 1) _)))
        go_wp2
        go_ret
        exact ⟨ret_bool (by rw [Hfin.out, eq_comm, decide_eq_false_iff_not]; intro hp; have := hp.1 l[j] (List.getElem_mem _); rw [inR_not] at c1; omega), ((Drew.refl _).drewN _).drewN _⟩
      have hx := inR_iff.1 c1
      have Hx := Lib.hid hx; clear hx
      rcases Nat.eq_zero_or_pos j with hj0 | hj0
      · subst hj0
        obtain ⟨b, off, rfl, -, hc⟩ := h.at_ 0 hlt
        rw [Nat.add_zero] at hc
        go_wp2
        go_quiet ((go_at_call 48; exact quiet_drewN (inRange_q l[0] 0 (n - 1) _)))
        go_wp2
        go_roundw
        case rel => exact ⟨1, by omega, by go_num, mem_take_step hlt Hr.out (by have := Hx.out; omega), pw_take_step hlt Hn.out (by intro i hi; omega), ⟨_, rfl⟩⟩
        case measure => simp [intOf]; omega
      · obtain ⟨i, rfl⟩ : ∃ i, j = i + 1 := ⟨j - 1, by omega⟩
        have hi : i < l.length := by omega
        have hw := wrap64_pred i (by omega)
        have hgt : decide ((((i + 1 : Nat) : Int)) > 0) = true := decide_eq_true (by omega)
        obtain ⟨b, off, rfl, -, hc⟩ := h.at_ (i + 1) hlt
        obtain ⟨b2, off2, he, -, hc2⟩ := h.at_ i hi
        obtain ⟨rfl, rfl⟩ : b = b2 ∧ off = off2 := by simpa using he
        by_cases c2 : l[i + 1] ≤ l[i]
        · have d2 : decide (l[i + 1] ≤ l[i]) = true := decide_eq_true c2
          have C2 := Lib.hid c2; clear c2
          go_wp2
          go_quiet ((go_at_call 48; exact quiet_drewN (inRange_q l[i + 1] 0 (n - 1) _)))
          go_wp2
          go_ret
          exact ⟨ret_bool (by rw [Hfin.out, eq_comm, decide_eq_false_iff_not]; intro hp; exact pw_take_not hlt (by have := C2.out; omega) hp.2), ((Drew.refl _).drewN _).drewN _⟩
        · have d2 : decide (l[i + 1] ≤ l[i]) = false := decide_eq_false c2
          have C2 := Lib.hid c2; clear c2
          go_wp2
          go_quiet ((go_at_call 48; exact quiet_drewN (inRange_q l[i + 1] 0 (n - 1) _)))
          go_wp2
          go_roundw
          case rel => exact ⟨i + 2, by omega, by go_num, mem_take_step hlt Hr.out (by have := Hx.out; omega), pw_take_step hlt Hn.out (by
            intro q hq; have : q = i := (by omega); subst this; have := C2.out; omega), ⟨_, rfl⟩⟩
          case measure => simp [intOf]; omega
    · go_wp2
      go_ret
      exact ⟨ret_bool (by rw [Hfin.out, eq_comm, decide_eq_true_iff]; have h1 := Hr.out; have h2 := Hn.out; rw [List.take_of_length_le (by omega)] at h1 h2; exact ⟨h1, h2⟩), ⟨_, rfl⟩⟩
theorem isPointList_rd (n : Int) (v : Value) (l : List Int) (fp : List Nat) (w : World) (h : Rd w v l fp) (n0 : 0 ≤ n) (n1 : n ≤ 1000) :
    Calls Try.prog 47 #[.int .i64 n, v] w fun e w' => e = .returned (.bool (trackB n l)) ∧ Drew w w' := by
  obtain ⟨a, cap, rfl, hI⟩ := h.ints
  exact isPointList_any n a cap l fp w hI n0 n1
set_option maxHeartbeats 1000000 in
theorem isDistinctList_any (n : Int) (a : Option Addr) (cap : Nat) (l : List Int) (m : Nat) (fp : List Nat) (w : World) (h : IntsA w a cap l fp) (n0 : 0 ≤ n) (n1 : n ≤ 1000) (hm : m ≤ 9223372036854775807) :
    Calls Try.prog 49 #[.int .i64 n, .slice a l.length cap, .int .i64 m] w fun e w' => e = .returned (.bool (patB n m l)) ∧ Drew w w' := by
  have hb := h.bound
  by_cases hq : l.length = m
  · subst hq
    have hfin : patB n l.length l = decide (Dis n l) := by unfold patB; rw [decide_eq_true rfl]; rfl
    have Hfin := Lib.hid hfin; clear hfin
    go_enter Try.func49, Try.ntmps49
    go_wp2
    go_loopw [7] (fun i wr => ∃ j : Nat, j ≤ l.length ∧ i = .int .i64 j ∧ (∀ x ∈ l.take j, 0 ≤ x ∧ x < n) ∧ (l.take j).Nodup ∧ Drew w wr)
      (fun i _ => l.length - (intOf i).toNat)
    case atStart => exact ⟨0, Nat.zero_le _, rfl, by simp, by simp, Drew.refl _⟩
    case round =>
      obtain ⟨j, hj, rfl, hr, hn, k, rfl⟩ := hrel
      have Hr := Lib.hid hr; clear hr
      have Hn := Lib.hid hn; clear hn
      by_cases hlt : j < l.length
      · obtain ⟨b, off, rfl, -, hc⟩ := h.at_ j hlt
        have hcap := h.len
        have hi1 : (0 : Int) ≤ (j : Int) := by omega
        have hi2 : (j : Int) < (l.length : Int) := by omega
        rcases c1 : inR l[j] 0 (n - 1)
        · go_wp2
          go_quiet ((go_at_call 48; exact quiet_drewN (inRange_q l[j] 0 (n - 1) _)))
          go_wp2
          go_ret
          exact ⟨ret_bool (by rw [Hfin.out, eq_comm, decide_eq_false_iff_not]; intro hp; have := hp.1 l[j] (List.getElem_mem _); rw [inR_not] at c1; omega), ((Drew.refl _).drewN _).drewN _⟩
        have hx := inR_iff.1 c1
        have Hx := Lib.hid hx; clear hx
        rcases c2 : decide (l[j] ∈ l.take j)
        all_goals go_wp2
        all_goals go_quiet (first
          | (go_at_call 48; exact quiet_drewN (inRange_q l[j] 0 (n - 1) _))
          | (go_at_call 89; exact quiet_drewN (containsInt_pre (some ⟨b, off, none⟩) cap l j l[j] fp _ (h.keep (Only.ofDrewN _ _ _)) hj)))
        · have C2 := Lib.hid (of_decide_eq_false c2); clear c2
          go_wp2
          go_roundw
          case rel => exact ⟨j + 1, by omega, by go_num, mem_take_step hlt Hr.out (by have := Hx.out; omega), nodup_take_step hlt Hn.out C2.out, ⟨_, rfl⟩⟩
          case measure => simp [intOf]; omega
        · have C2 := Lib.hid (of_decide_eq_true c2); clear c2
          go_wp2
          go_ret
          exact ⟨ret_bool (by rw [Hfin.out, eq_comm, decide_eq_false_iff_not]; intro hp; exact nodup_take_not hlt C2.out hp.2), ((Drew.refl _).drewN _).drewN _⟩
      · go_wp2
        go_ret
        exact ⟨ret_bool (by rw [Hfin.out, eq_comm, decide_eq_true_iff]; have h1 := Hr.out; have h2 := Hn.out; rw [List.take_of_length_le (by omega)] at h1 h2; exact ⟨h1, h2⟩), ⟨_, rfl⟩⟩
  · have d1 : ((l.length : Int) != (m : Int)) = true := by simp only [bne_iff_ne, ne_eq]; omega
    have Hq := Lib.hid hq; clear hq
    go_enter Try.func49, Try.ntmps49
    go_wp2
    go_ret
    exact ⟨ret_bool (by unfold patB; rw [decide_eq_false Hq.out]; rfl), Drew.refl _⟩
theorem isDistinctList_rd (n : Int) (v : Value) (l : List Int) (m : Nat) (fp : List Nat) (w : World) (h : Rd w v l fp) (n0 : 0 ≤ n) (n1 : n ≤ 1000) (hm : m ≤ 9223372036854775807) :
    Calls Try.prog 49 #[.int .i64 n, v, .int .i64 m] w fun e w' => e = .returned (.bool (patB n m l)) ∧ Drew w w' := by
  obtain ⟨a, cap, rfl, hI⟩ := h.ints
  exact isDistinctList_any n a cap l m fp w hI n0 n1 hm
theorem isPoint_q (n x : Int) (w : World) (n0 : 0 ≤ n) (n1 : n ≤ 1000) :
    Calls Try.prog 103 #[.int .i64 n, .int .i64 x] w fun e w' => e = .returned (.bool (inR x 0 (n - 1))) ∧ Drew w w' := by
  go_enter Try.func103, Try.ntmps103
  go_wp2_with ((go_at_call 83; (with_reducible refine (within_any x 0 (n - 1) _).mono ?_); rintro e w1 ⟨rfl, rfl⟩))
  go_ret
  exact ⟨rfl, Drew.refl _⟩
set_option maxHeartbeats 1000000 in
theorem isTracked_any (n : Int) (a : Option Addr) (cap : Nat) (l : List Int) (fp : List Nat) (w : World) (h : IntsA w a cap l fp) (n0 : 0 ≤ n) (n1 : n ≤ 1000) :
    Calls Try.prog 76 #[.int .i64 n, .slice a l.length cap] w fun e w' => e = .returned (.bool (trackB n l)) ∧ Drew w w' := by
  have hb := h.bound
  go_enter Try.func76, Try.ntmps76
  go_wp2
  go_loopw [9] (fun i wr => ∃ j : Nat, j ≤ l.length ∧ i = .int .i64 j ∧ (∀ x ∈ l.take j, 0 ≤ x ∧ x < n) ∧ (l.take j).Pairwise (· < ·) ∧ Drew w wr)
    (fun i _ => l.length - (intOf i).toNat)
  case atStart => exact ⟨0, Nat.zero_le _, rfl, by simp, by simp, Drew.refl _⟩
  case round =>
    obtain ⟨j, hj, rfl, hr, hn, k, rfl⟩ := hrel
    have Hr := Lib.hid hr; clear hr
    have Hn := Lib.hid hn; clear hn
    by_cases hlt : j < l.length
    · rcases c1 : inR l[j] 0 (n - 1)
      · obtain ⟨b, off, rfl, -, hc⟩ := h.at_ j hlt
        go_wp2_with ((go_at_call 103; (with_reducible refine (isPoint_q n l[j] _ n0 n1).mono ?_); rintro e w1 ⟨rfl, m, rfl⟩))
        go_ret
        exact ⟨ret_bool (by rw [eq_comm]; exact trackB_no fun hp => by have := hp.1 l[j] (List.getElem_mem _); rw [inR_not] at c1; omega), ⟨_, rfl⟩⟩
      have hx := inR_iff.1 c1
      have Hx := Lib.hid hx; clear hx
      rcases Nat.eq_zero_or_pos j with hj0 | hj0
      · subst hj0
        obtain ⟨b, off, rfl, -, hc⟩ := h.at_ 0 hlt
        rw [Nat.add_zero] at hc
        go_wp2_with ((go_at_call 103; (with_reducible refine (isPoint_q n l[0] _ n0 n1).mono ?_); rintro e w1 ⟨rfl, m, rfl⟩))
        go_roundw
        case rel => exact ⟨1, by omega, by go_num, mem_take_step hlt Hr.out (by have := Hx.out; omega), pw_take_step hlt Hn.out (by intro i hi; omega), ⟨_, rfl⟩⟩
        case measure => simp [intOf]; omega
      · obtain ⟨i, rfl⟩ : ∃ i, j = i + 1 := ⟨j - 1, by omega⟩
        have hi : i < l.length := by omega
        have hw := wrap64_pred i (by omega)
        have hgt : decide ((((i + 1 : Nat) : Int)) > 0) = true := decide_eq_true (by omega)
        obtain ⟨b, off, rfl, -, hc⟩ := h.at_ (i + 1) hlt
        obtain ⟨b2, off2, he, -, hc2⟩ := h.at_ i hi
        obtain ⟨rfl, rfl⟩ : b = b2 ∧ off = off2 := by simpa using he
        by_cases c2 : l[i + 1] ≤ l[i]
        · have d2 : decide (l[i] ≥ l[i + 1]) = true := decide_eq_true c2
          have C2 := Lib.hid c2; clear c2
          go_wp2_with ((go_at_call 103; (with_reducible refine (isPoint_q n l[i + 1] _ n0 n1).mono ?_); rintro e w1 ⟨rfl, m, rfl⟩))
          go_ret
          exact ⟨ret_bool (by rw [eq_comm]; exact trackB_no fun hp => pw_take_not hlt (by have := C2.out; omega) hp.2), ⟨_, rfl⟩⟩
        · have d2 : decide (l[i] ≥ l[i + 1]) = false := decide_eq_false c2
          have C2 := Lib.hid c2; clear c2
          go_wp2_with ((go_at_call 103; (with_reducible refine (isPoint_q n l[i + 1] _ n0 n1).mono ?_); rintro e w1 ⟨rfl, m, rfl⟩))
          go_roundw
          case rel => exact ⟨i + 2, by omega, by go_num, mem_take_step hlt Hr.out (by have := Hx.out; omega), pw_take_step hlt Hn.out (by
            intro q hq; have : q = i := (by omega); subst this; have := C2.out; omega), ⟨_, rfl⟩⟩
          case measure => simp [intOf]; omega
    · go_wp2
      go_ret
      refine ⟨ret_bool ?_, ⟨_, rfl⟩⟩
      have h1 := Hr.out; have h2 := Hn.out; rw [List.take_of_length_le (by omega)] at h1 h2
      unfold trackB
      rw [decide_eq_true (show Inc n l from ⟨h1, h2⟩)]; simp
theorem isTracked_rd (n : Int) (v : Value) (l : List Int) (fp : List Nat) (w : World) (h : Rd w v l fp) (n0 : 0 ≤ n) (n1 : n ≤ 1000) :
    Calls Try.prog 76 #[.int .i64 n, v] w fun e w' => e = .returned (.bool (trackB n l)) ∧ Drew w w' := by
  obtain ⟨a, cap, rfl, hI⟩ := h.ints
  exact isTracked_any n a cap l fp w hI n0 n1
set_option maxHeartbeats 400000 in
theorem Index_ints (a : Option Addr) (cap : Nat) (l : List Int) (n : Int) (fp : List Nat) (w : World) (h : IntsA w a cap l fp) :
    Calls Try.prog 120 #[.slice a l.length cap, .int .i64 n] w fun e w' => e = .returned (.int .i64 (idxF (fun x => decide (n = x)) l)) ∧ Drew w w' := by
  have hb := h.bound
  go_enter Try.func120, Try.ntmps120
  go_wp2
  go_loopw [5, 8] (fun i t wr => ∃ j : Nat, j ≤ l.length ∧ t = .int .i64 j ∧ (∀ x ∈ l.take j, decide (n = x) = false) ∧ Drew w wr)
    (fun _ t _ => l.length - (intOf t).toNat)
  case atStart => exact ⟨0, Nat.zero_le _, rfl, by simp, Drew.refl _⟩
  case round =>
    obtain ⟨j, hj, rfl, hr, k, rfl⟩ := hrel
    have Hr := Lib.hid hr; clear hr
    by_cases hlt : j < l.length
    · obtain ⟨b, off, rfl, -, hc⟩ := h.at_ j hlt
      by_cases hx : n = l[j]
      · have hq : (n == l[j]) = true := by simp [hx]
        have Hx := Lib.hid hx; clear hx
        go_wp2
        go_ret
        exact ⟨ret_int (idxF_some hlt Hr.out (decide_eq_true Hx.out)).symm, ⟨_, rfl⟩⟩
      · have hq : (n == l[j]) = false := by simpa using hx
        have Hx := Lib.hid hx; clear hx
        go_wp2
        go_roundw
        case rel => exact ⟨j + 1, by omega, by go_num, mem_take_step hlt Hr.out (decide_eq_false Hx.out), ⟨_, rfl⟩⟩
        case measure => simp [intOf]; omega
    · go_wp2
      go_ret
      exact ⟨ret_int (idxF_none (by have := Hr.out; rwa [List.take_of_length_le (by omega)] at this)).symm, ⟨_, rfl⟩⟩
theorem any_eq_mem (l : List Int) (n : Int) : l.any (fun x => decide (n = x)) = decide (n ∈ l) := by
  rw [Bool.eq_iff_iff, List.any_eq_true, decide_eq_true_iff]
  constructor
  · rintro ⟨x, hx, he⟩; rw [of_decide_eq_true he]; exact hx
  · intro h; exact ⟨n, h, decide_eq_true rfl⟩
theorem Contains_ints (a : Option Addr) (cap : Nat) (l : List Int) (n : Int) (fp : List Nat) (w : World) (h : IntsA w a cap l fp) :
    Calls Try.prog 104 #[.slice a l.length cap, .int .i64 n] w fun e w' => e = .returned (.bool (decide (n ∈ l))) ∧ Drew w w' := by
  go_enter Try.func104, Try.ntmps104
  go_wp2_with ((go_at_call 120; (with_reducible refine (Index_ints a cap l n fp _ h).mono ?_); rintro e w1 ⟨rfl, m, rfl⟩))
  go_ret
  exact ⟨ret_bool ((idxF_ge).trans (any_eq_mem l n)), ⟨_, rfl⟩⟩
theorem Contains_pre (a : Option Addr) (cap : Nat) (l : List Int) (j : Nat) (n : Int) (fp : List Nat) (w : World) (h : IntsA w a cap l fp) (hj : j ≤ l.length) :
    Calls Try.prog 104 #[.slice a j cap, .int .i64 n] w fun e w' => e = .returned (.bool (decide (n ∈ l.take j))) ∧ Drew w w' := by
  have := Contains_ints a cap (l.take j) n fp w (h.take j)
  rwa [show (l.take j).length = j by simp; omega] at this
set_option maxHeartbeats 1000000 in
theorem isPattern_any (n : Int) (m : Nat) (a : Option Addr) (cap : Nat) (l : List Int) (fp : List Nat) (w : World) (h : IntsA w a cap l fp) (n0 : 0 ≤ n) (n1 : n ≤ 1000) (_ : m ≤ 9223372036854775807) :
    Calls Try.prog 78 #[.int .i64 n, .int .i64 m, .slice a l.length cap] w fun e w' => e = .returned (.bool (patB n m l)) ∧ Drew w w' := by
  have hb := h.bound
  go_enter Try.func78, Try.ntmps78
  go_wp2
  go_loopw [11] (fun i wr => ∃ j : Nat, j ≤ l.length ∧ i = .int .i64 j ∧ (∀ x ∈ l.take j, 0 ≤ x ∧ x < n) ∧ (l.take j).Nodup ∧ Drew w wr)
    (fun i _ => l.length - (intOf i).toNat)
  case atStart => exact ⟨0, Nat.zero_le _, rfl, by simp, by simp, Drew.refl _⟩
  case round =>
    obtain ⟨j, hj, rfl, hr, hn, k, rfl⟩ := hrel
    have Hr := Lib.hid hr; clear hr
    have Hn := Lib.hid hn; clear hn
    by_cases hlt : j < l.length
    · obtain ⟨b, off, rfl, -, hc⟩ := h.at_ j hlt
      have hcap := h.len
      have hi1 : (0 : Int) ≤ (j : Int) := by omega
      have hi2 : (j : Int) < (l.length : Int) := by omega
      rcases c1 : inR l[j] 0 (n - 1)
      · go_wp2_with ((go_at_call 103; (with_reducible refine (isPoint_q n l[j] _ n0 n1).mono ?_); rintro e w1 ⟨rfl, m, rfl⟩))
        go_ret
        exact ⟨ret_bool (by rw [eq_comm]; exact patB_no fun hp => by have := hp.1 l[j] (List.getElem_mem _); rw [inR_not] at c1; omega), ⟨_, rfl⟩⟩
      have hx := inR_iff.1 c1
      have Hx := Lib.hid hx; clear hx
      rcases c2 : decide (l[j] ∈ l.take j)
      all_goals go_wp2_with (first | (go_at_call 103; (with_reducible refine (isPoint_q n l[j] _ n0 n1).mono ?_); rintro e w1 ⟨rfl, m1, rfl⟩) | (go_at_call 104; (with_reducible refine (Contains_pre (some ⟨b, off, none⟩) cap l j l[j] fp _ (h.keep (by with_reducible repeat (first | exact Only.refl _ _ | assumption | refine Only.drewN ?_ _ | refine Only.drew ?_ | refine Only.alloc ?_ _ | refine Only.setCell ?_ (by intro hh; exfalso; simp at hh; try omega) _ | refine Only.trans ?_ (by assumption)))) hj).mono ?_); rintro e w1 ⟨rfl, m2, rfl⟩))
      · have C2 := Lib.hid (of_decide_eq_false c2); clear c2
        go_roundw
        case rel => exact ⟨j + 1, by omega, by go_num, mem_take_step hlt Hr.out (by have := Hx.out; omega), nodup_take_step hlt Hn.out C2.out, ⟨_, rfl⟩⟩
        case measure => simp [intOf]; omega
      · have C2 := Lib.hid (of_decide_eq_true c2); clear c2
        go_ret
        exact ⟨ret_bool (by rw [eq_comm]; exact patB_no fun hp => nodup_take_not hlt C2.out hp.2), ⟨_, rfl⟩⟩
    · go_wp2
      go_ret
      refine ⟨ret_bool ?_, ⟨_, rfl⟩⟩
      have h1 := Hr.out; have h2 := Hn.out; rw [List.take_of_length_le (by omega)] at h1 h2
      unfold patB
      rw [decide_eq_true (show Dis n l from ⟨h1, h2⟩)]
      by_cases he : l.length = m
      · simp [he]
      · have : ¬ ((l.length : Int) = (m : Int)) := by omega
        simp [he, this]
theorem isPattern_rd (n : Int) (m : Nat) (v : Value) (l : List Int) (fp : List Nat) (w : World) (h : Rd w v l fp) (n0 : 0 ≤ n) (n1 : n ≤ 1000) (hm : m ≤ 9223372036854775807) :
    Calls Try.prog 78 #[.int .i64 n, .int .i64 m, v] w fun e w' => e = .returned (.bool (patB n m l)) ∧ Drew w w' := by
  obtain ⟨a, cap, rfl, hI⟩ := h.ints
  exact isPattern_any n m a cap l fp w hI n0 n1 hm
def wfT (t : Table) : Bool := trackB 20 t.tracked && (inR t.patterns.length 1 3000 && (decide (t.distances.length = t.patterns.length) && (t.patterns.all (patB 20 t.tracked.length) && t.distances.all (fun d => inR d 0 3000))))
theorem wfT_iff {t : Table} : wfT t = true ↔ trackB 20 t.tracked = true ∧ (1 ≤ t.patterns.length ∧ t.patterns.length ≤ 3000) ∧ t.distances.length = t.patterns.length ∧ (∀ x ∈ t.patterns, patB 20 t.tracked.length x = true) ∧ (∀ d ∈ t.distances, inR d 0 3000 = true) := by
  simp [wfT, inR]; omega
theorem mem_take_stepR {l : List (List Int)} {j : Nat} (h : j < l.length) {P : List Int → Prop} (h1 : ∀ x ∈ l.take j, P x) (h2 : P l[j]) : ∀ x ∈ l.take (j + 1), P x := by
  rw [take_succ_get l j h]
  intro x hx
  rcases List.mem_append.1 hx with hx | hx
  · exact h1 x hx
  · simp at hx; subst hx; exact h2
set_option maxHeartbeats 2000000 in
theorem implWfTable_any (cs : List Value) (t : Table) (fp : List Nat) (w : World) (h : Rp.rep w cs t fp) :
    Calls Try.prog 52 #[.agg cs.toArray] w fun e w' => e = .returned (.bool (wfT t)) ∧ Only [] w w' := by
  obtain ⟨v0, v1, v2, f0, f1, f2, rfl, rfl, h0, h1, h2⟩ := h
  obtain ⟨A0, C0, rfl, I0⟩ := h0.ints
  obtain ⟨A1, C1, ob, fps, rfl, -, hs⟩ := h1.open_
  obtain ⟨A2, C2, rfl, I2⟩ := h2.ints
  have b0 := I0.bound
  have b1 := hs.bound
  have b2 := I2.bound
  rcases q0 : trackB 20 t.tracked
  · have hf : wfT t = false := by unfold wfT; rw [q0]; rfl
    have Hf := Lib.hid hf; clear hf
    go_enter Try.func52, Try.ntmps52
    go_wp2_with ((go_at_call 76; (with_reducible refine (isTracked_rd 20 _ t.tracked _ _ (Rp.keep h0 (by with_reducible repeat (first | exact Only.refl _ _ | assumption | refine Only.drewN ?_ _ | refine Only.drew ?_ | refine Only.alloc ?_ _ | refine Only.setCell ?_ (by intro hh; exfalso; simp at hh; try omega) _ | refine Only.trans ?_ (by assumption)))) (by omega) (by omega)).mono ?_); rintro e w1 ⟨rfl, m1, rfl⟩))
    go_ret
    exact ⟨ret_bool Hf.out.symm, (by with_reducible repeat (first | exact Only.refl _ _ | assumption | refine Only.drewN ?_ _ | refine Only.drew ?_ | refine Only.alloc ?_ _ | refine Only.setCell ?_ (by intro hh; exfalso; simp at hh; try omega) _ | refine Only.trans ?_ (by assumption)))⟩
  by_cases q2 : t.patterns.length = t.distances.length
  · have d2 : ((t.patterns.length : Int) != (t.distances.length : Int)) = false := by simp [q2]
    rcases q1 : inR t.patterns.length 1 3000
    · have hf : wfT t = false := by unfold wfT; rw [q1]; simp
      have Hf := Lib.hid hf; clear hf
      have Q2 := Lib.hid q2; clear q2
      go_enter Try.func52, Try.ntmps52
      go_wp2_with (first | (go_at_call 76; (with_reducible refine (isTracked_rd 20 _ t.tracked _ _ (Rp.keep h0 (by with_reducible repeat (first | exact Only.refl _ _ | assumption | refine Only.drewN ?_ _ | refine Only.drew ?_ | refine Only.alloc ?_ _ | refine Only.setCell ?_ (by intro hh; exfalso; simp at hh; try omega) _ | refine Only.trans ?_ (by assumption)))) (by omega) (by omega)).mono ?_); rintro e w1 ⟨rfl, m1, rfl⟩) | (go_at_call 58; (with_reducible refine (lengthRows_rd _ t.patterns _ _ (Rp.keep h1 (by with_reducible repeat (first | exact Only.refl _ _ | assumption | refine Only.drewN ?_ _ | refine Only.drew ?_ | refine Only.alloc ?_ _ | refine Only.setCell ?_ (by intro hh; exfalso; simp at hh; try omega) _ | refine Only.trans ?_ (by assumption))))).mono ?_); rintro e w1 ⟨rfl, rfl⟩) | (go_at_call 83; (with_reducible refine (within_any t.patterns.length 1 3000 _).mono ?_); rintro e w1 ⟨rfl, rfl⟩))
      go_ret
      exact ⟨ret_bool Hf.out.symm, (by with_reducible repeat (first | exact Only.refl _ _ | assumption | refine Only.drewN ?_ _ | refine Only.drew ?_ | refine Only.alloc ?_ _ | refine Only.setCell ?_ (by intro hh; exfalso; simp at hh; try omega) _ | refine Only.trans ?_ (by assumption)))⟩
    have hf : wfT t = (t.patterns.all (patB 20 t.tracked.length) && t.distances.all (fun d => inR d 0 3000)) := by unfold wfT; rw [q0, q1, decide_eq_true q2.symm]; rfl
    have Hf := Lib.hid hf; clear hf
    have Q2 := Lib.hid q2; clear q2
    go_enter Try.func52, Try.ntmps52
    go_wp2_with (first | (go_at_call 76; (with_reducible refine (isTracked_rd 20 _ t.tracked _ _ (Rp.keep h0 (by with_reducible repeat (first | exact Only.refl _ _ | assumption | refine Only.drewN ?_ _ | refine Only.drew ?_ | refine Only.alloc ?_ _ | refine Only.setCell ?_ (by intro hh; exfalso; simp at hh; try omega) _ | refine Only.trans ?_ (by assumption)))) (by omega) (by omega)).mono ?_); rintro e w1 ⟨rfl, m1, rfl⟩) | (go_at_call 58; (with_reducible refine (lengthRows_rd _ t.patterns _ _ (Rp.keep h1 (by with_reducible repeat (first | exact Only.refl _ _ | assumption | refine Only.drewN ?_ _ | refine Only.drew ?_ | refine Only.alloc ?_ _ | refine Only.setCell ?_ (by intro hh; exfalso; simp at hh; try omega) _ | refine Only.trans ?_ (by assumption))))).mono ?_); rintro e w1 ⟨rfl, rfl⟩) | (go_at_call 83; (with_reducible refine (within_any t.patterns.length 1 3000 _).mono ?_); rintro e w1 ⟨rfl, rfl⟩))
    go_loopw [28] (fun i wr => ∃ j : Nat, j ≤ t.patterns.length ∧ i = .int .i64 j ∧ (∀ x ∈ t.patterns.take j, patB 20 t.tracked.length x = true) ∧ (∀ d ∈ t.distances.take j, inR d 0 3000 = true) ∧ Drew (w.alloc (.cells #[.slice A0 t.tracked.length C0, .slice A1 t.patterns.length C1, .slice A2 t.distances.length C2] 33)) wr)
      (fun i _ => t.patterns.length - (intOf i).toNat)
    case atStart => exact ⟨0, Nat.zero_le _, rfl, by simp, by simp, ⟨_, rfl⟩⟩
    case round =>
      obtain ⟨j, hj, rfl, hr, hn, k, rfl⟩ := hrel
      have Hr := Lib.hid hr; clear hr
      have Hn := Lib.hid hn; clear hn
      by_cases hlt : j < t.patterns.length
      · have hlt2 : j < t.distances.length := by have := Q2.out; omega
        obtain ⟨b, off, v, rfl, -, hc, hv⟩ := hs.atRow j hlt
        obtain ⟨bd, offd, rfl, -, hcd⟩ := I2.at_ j hlt2
        have hcw := ((Only.refl [] w).alloc (.cells #[.slice A0 t.tracked.length C0, .slice (some ⟨b, off, none⟩) t.patterns.length C1, .slice (some ⟨bd, offd, none⟩) t.distances.length C2] 33)).cell (by simp) hc
        have hcdw := ((Only.refl [] w).alloc (.cells #[.slice A0 t.tracked.length C0, .slice (some ⟨b, off, none⟩) t.patterns.length C1, .slice (some ⟨bd, offd, none⟩) t.distances.length C2] 33)).cell (by simp) hcd
        rcases c1 : patB 20 t.tracked.length t.patterns[j]
        · go_wp2_with ((go_at_call 78; (with_reducible refine (isPattern_rd 20 t.tracked.length v t.patterns[j] _ _ (Rp.keep hv (by with_reducible repeat (first | exact Only.refl _ _ | assumption | refine Only.drewN ?_ _ | refine Only.drew ?_ | refine Only.alloc ?_ _ | refine Only.setCell ?_ (by intro hh; exfalso; simp at hh; try omega) _ | refine Only.trans ?_ (by assumption)))) (by omega) (by omega) b0).mono ?_); rintro e w1 ⟨rfl, m1, rfl⟩))
          go_ret
          exact ⟨ret_bool (by rw [Hf.out, eq_comm, Bool.and_eq_false_iff]; left; rw [List.all_eq_false]; exact ⟨t.patterns[j], List.getElem_mem _, by simp [c1]⟩), (by with_reducible repeat (first | exact Only.refl _ _ | assumption | refine Only.drewN ?_ _ | refine Only.drew ?_ | refine Only.alloc ?_ _ | refine Only.setCell ?_ (by intro hh; exfalso; simp at hh; try omega) _ | refine Only.trans ?_ (by assumption)))⟩
        rcases c2 : inR t.distances[j] 0 3000
        all_goals go_wp2_with (first | (go_at_call 78; (with_reducible refine (isPattern_rd 20 t.tracked.length v t.patterns[j] _ _ (Rp.keep hv (by with_reducible repeat (first | exact Only.refl _ _ | assumption | refine Only.drewN ?_ _ | refine Only.drew ?_ | refine Only.alloc ?_ _ | refine Only.setCell ?_ (by intro hh; exfalso; simp at hh; try omega) _ | refine Only.trans ?_ (by assumption)))) (by omega) (by omega) b0).mono ?_); rintro e w1 ⟨rfl, m1, rfl⟩) | (go_at_call 83; (with_reducible refine (within_any t.distances[j] 0 3000 _).mono ?_); rintro e w1 ⟨rfl, rfl⟩))
        · go_ret
          exact ⟨ret_bool (by rw [Hf.out, eq_comm, Bool.and_eq_false_iff]; right; rw [List.all_eq_false]; exact ⟨t.distances[j], List.getElem_mem _, by simp [c2]⟩), (by with_reducible repeat (first | exact Only.refl _ _ | assumption | refine Only.drewN ?_ _ | refine Only.drew ?_ | refine Only.alloc ?_ _ | refine Only.setCell ?_ (by intro hh; exfalso; simp at hh; try omega) _ | refine Only.trans ?_ (by assumption)))⟩
        · go_roundw
          case rel => exact ⟨j + 1, by omega, by go_num, mem_take_stepR hlt Hr.out c1, mem_take_step hlt2 Hn.out c2, ⟨_, rfl⟩⟩
          case measure => simp [intOf]; omega
      · go_wp2
        go_ret
        refine ⟨ret_bool ?_, (by with_reducible repeat (first | exact Only.refl _ _ | assumption | refine Only.drewN ?_ _ | refine Only.drew ?_ | refine Only.alloc ?_ _ | refine Only.setCell ?_ (by intro hh; exfalso; simp at hh; try omega) _ | refine Only.trans ?_ (by assumption)))⟩
        have r1 := Hr.out; have r2 := Hn.out; rw [List.take_of_length_le (by have := Q2.out; omega)] at r1 r2
        rw [Hf.out, eq_comm, Bool.and_eq_true, List.all_eq_true, List.all_eq_true]; exact ⟨r1, r2⟩
  · have d2 : ((t.patterns.length : Int) != (t.distances.length : Int)) = true := by simp only [bne_iff_ne, ne_eq]; omega
    have hf : wfT t = false := by unfold wfT; rw [decide_eq_false (fun e => q2 e.symm)]; simp
    have Hf := Lib.hid hf; clear hf
    have Q2 := Lib.hid q2; clear q2
    go_enter Try.func52, Try.ntmps52
    go_wp2_with ((go_at_call 76; (with_reducible refine (isTracked_rd 20 _ t.tracked _ _ (Rp.keep h0 (by with_reducible repeat (first | exact Only.refl _ _ | assumption | refine Only.drewN ?_ _ | refine Only.drew ?_ | refine Only.alloc ?_ _ | refine Only.setCell ?_ (by intro hh; exfalso; simp at hh; try omega) _ | refine Only.trans ?_ (by assumption)))) (by omega) (by omega)).mono ?_); rintro e w1 ⟨rfl, m1, rfl⟩))
    go_ret
    exact ⟨ret_bool Hf.out.symm, (by with_reducible repeat (first | exact Only.refl _ _ | assumption | refine Only.drewN ?_ _ | refine Only.drew ?_ | refine Only.alloc ?_ _ | refine Only.setCell ?_ (by intro hh; exfalso; simp at hh; try omega) _ | refine Only.trans ?_ (by assumption)))⟩
end Go.Proofs.Ytoinaidncncdhaa

namespace Go.Proofs.Ytoinaidncncdhaa
open Go.RowKit
set_option maxRecDepth 10000

/-- the letters of n moves, in order -/
def ltrs : Nat → List Int
  | 0 => []
  | n + 1 => ltrs n ++ [((n + 1 : Nat) : Int), -((n + 1 : Nat) : Int)]
theorem ltrs_len (n : Nat) : (ltrs n).length = 2 * n := by
  induction n with
  | zero => rfl
  | succ n ih => simp [ltrs, ih]; omega
theorem mem_ltrs {n : Nat} {x : Int} : x ∈ ltrs n ↔ x ≠ 0 ∧ -(n : Int) ≤ x ∧ x ≤ n := by
  induction n with
  | zero => simp [ltrs]; omega
  | succ n ih => simp [ltrs, ih]; omega
/-- the permutation of a letter -/
def mv (gens : List (List Int)) (l : Int) : List Int := if 0 < l then gens.getD (l - 1).toNat [] else PM.inv (gens.getD (-l - 1).toNat [])
theorem mv_pos {gens : List (List Int)} {l : Int} {k : Nat} (h : l = (k : Int) + 1) (hk : k < gens.length) : mv gens l = gens[k] := by
  unfold mv
  rw [if_pos (by omega), show (l - 1).toNat = k by omega, List.getD_eq_getElem?_getD, List.getElem?_eq_getElem hk]; rfl
theorem mv_neg {gens : List (List Int)} {l : Int} {k : Nat} (h : l = -((k : Int) + 1)) (hk : k < gens.length) : mv gens l = PM.inv gens[k] := by
  unfold mv
  rw [if_neg (by omega), show (-l - 1).toNat = k by omega, List.getD_eq_getElem?_getD, List.getElem?_eq_getElem hk]; rfl
theorem letter_cases {n : Nat} {l : Int} (h : l ∈ ltrs n) : (∃ k : Nat, k < n ∧ l = (k : Int) + 1) ∨ (∃ k : Nat, k < n ∧ l = -((k : Int) + 1)) := by
  rw [mem_ltrs] at h
  rcases Int.lt_or_gt_of_ne h.1 with h0 | h0
  · right; exact ⟨(-l - 1).toNat, by omega, by omega⟩
  · left; exact ⟨(l - 1).toNat, by omega, by omega⟩
theorem mv_pn {n : Nat} {gens : List (List Int)} (h : ∀ g ∈ gens, PM.PN n g) {l : Int} (hl : l ∈ ltrs gens.length) : PM.PN n (mv gens l) := by
  rcases letter_cases hl with ⟨k, hk, e⟩ | ⟨k, hk, e⟩
  · rw [mv_pos e hk]; exact h _ (List.getElem_mem _)
  · rw [mv_neg e hk]; exact (h _ (List.getElem_mem _)).inv

theorem lit_srcA (w : World) (cs : List Value) (e : TypeId) {g : Nat} (hg : g = w.heap.size) : ∀ ad, some (⟨g, 0, none⟩ : Addr) = some ad → ∀ j u, cs[j]? = some u → (w.alloc (.cells cs.toArray e)).cell? (ad.add j) = some u := by
  intro ad had j u hu
  injection had with had; subst had
  have hadd : (⟨g, 0, none⟩ : Addr).add j = ⟨g, j, none⟩ := by unfold Addr.add; split <;> simp_all
  rw [hadd]; exact lit_src w cs e hg j u hu
theorem wrap64_lit (n : Int) (h0 : -9223372036854775808 ≤ n) (h1 : n < 9223372036854775808) : wrap64 n = n := by unfold wrap64; omega

/-- an array of int64s that a call fills -/
def Arr (B : Nat) (e : TypeId) (w : World) (g m : Nat) (l : List Int) : Prop := w.ownsRow B e 1 (.slice (some ⟨g, 0, none⟩) m m) m (l.map (Value.int .i64))
section
variable {B : Nat} {e : TypeId} {w : World} {g m : Nat} {l : List Int}
theorem Arr.len (h : Arr B e w g m l) : l.length = m := by have := h.1; simpa using this
theorem Arr.set (h : Arr B e w g m l) (i : Nat) (x : Int) : Arr B e (w.setCell ⟨g, i, none⟩ (.int .i64 x)) g m (l.set i x) := by
  have := (World.ownsRow.stored h i (.int .i64 x)).1
  unfold Arr
  rwa [List.map_set]
theorem Arr.cell (h : Arr B e w g m l) {i : Nat} (hi : i < l.length) : w.cell? ⟨g, i, none⟩ = some (.int .i64 l[i]) := by
  rw [World.ownsRow.cellAt h i (by have := h.len; omega)]; simp [hi]
theorem Arr.frozen (h : Arr B e w g m l) (i : Nat) : w.frozen? ⟨g, i, none⟩ = false := World.ownsRow.frozenAt h i
theorem Arr.rd (h : Arr B e w g m l) (hw : ∀ x ∈ l, I64 x) : Rd w (.slice (some ⟨g, 0, none⟩) m m) l [g] ∧ Fresh B w [g] := by
  have h' : w.ownsRow B e 1 (.slice (some ⟨g, 0, none⟩) m m) m (l.map (Value.int .i64)) := h
  obtain ⟨a, cap, hv, -, hI, hF⟩ := own_ints h' hw
  have hr := hI.rd
  rw [← hv] at hr
  exact ⟨hr, hF⟩
theorem Arr.only {w' : World} {fp : List Nat} (h : Arr B e w g m l) (ho : Only fp w w') (hg : g ∉ fp) : Arr B e w' g m l := by
  refine ⟨h.1, ?_⟩
  rcases h.2 with ⟨h', _⟩ | ⟨g', cp, cur, h', hb, hgg, hrest⟩
  · simp at h'
  · have : g' = g := by simp at h'; exact h'.1.symm
    subst this
    exact .inr ⟨g', cp, cur, h', hb, by rw [ho.block g' (Array.getElem?_eq_some_iff.1 hgg).1 hg]; exact hgg, hrest⟩
end

/-- the inverse so far -/
def invUp (p : List Int) (j : Nat) : List Int := (PM.pts p.length).map fun y => if p.idxOf y < j then (p.idxOf y : Int) else 0
theorem invUp_zero (p : List Int) : invUp p 0 = List.replicate p.length 0 := by
  unfold invUp
  apply List.ext_getElem (by simp [PM.pts_len])
  intro k h1 h2; simp
theorem invUp_len (p : List Int) (j : Nat) : (invUp p j).length = p.length := by simp [invUp, PM.pts_len]
theorem invUp_all {p : List Int} (h : PM.IsP p) : invUp p p.length = PM.inv p := by
  unfold invUp PM.inv
  apply List.map_congr_left
  intro y hy
  have := h.all hy
  rw [if_pos (List.idxOf_lt_length_of_mem this)]
theorem invUp_step {p : List Int} (h : PM.IsP p) {j : Nat} (hj : j < p.length) : (invUp p j).set p[j].toNat (j : Int) = invUp p (j + 1) := by
  have hp := h.1 p[j] (List.getElem_mem hj)
  apply List.ext_getElem (by simp [invUp_len])
  intro k h1 h2
  have hk : k < p.length := by simpa [invUp_len] using h2
  have hm : ((k : Int)) ∈ p := h.all (PM.mem_pts.2 ⟨by omega, by omega⟩)
  have hi := List.idxOf_lt_length_of_mem hm
  have hgi : p[p.idxOf (k : Int)] = (k : Int) := List.getElem_idxOf hi
  rw [List.getElem_set]
  simp only [invUp, List.getElem_map, PM.pts_get]
  by_cases hjk : p[j].toNat = k
  · rw [if_pos hjk]
    have : p.idxOf (k : Int) = j := PM.nodup_inj h.2 hi hj (by rw [hgi]; omega)
    rw [this, if_pos (by omega)]
  · rw [if_neg hjk]
    have : p.idxOf (k : Int) ≠ j := by
      intro he
      apply hjk
      have : p[j] = (k : Int) := by rw [← hgi]; congr 1; exact he.symm
      omega
    by_cases hlt : p.idxOf (k : Int) < j
    · rw [if_pos hlt, if_pos (by omega)]
    · rw [if_neg hlt, if_neg (by omega)]
theorem madeArr {B : Nat} {e : TypeId} {w : World} {g m : Nat} (h : w.ownsRow B e 1 (.slice (some ⟨g, 0, none⟩) m m) m (List.replicate m (.int .i64 0))) : Arr B e w g m (List.replicate m 0) := by
  unfold Arr; rwa [List.map_replicate]
theorem inv_i64 {p : List Int} (hl : p.length ≤ 1000) : ∀ x ∈ PM.inv p, I64 x := by
  intro x hx
  unfold PM.inv at hx
  obtain ⟨y, -, rfl⟩ := List.mem_map.1 hx
  have := List.idxOf_le_length (a := y) (l := p)
  unfold I64; omega

set_option maxHeartbeats 1000000 in
theorem specInverse0_any (a : Option Addr) (cap : Nat) (p : List Int) (fp : List Nat) (w : World) (h : IntsA w a cap p fp) (hp : PM.IsP p) (hl : p.length ≤ 1000) :
    Calls Try.prog 122 #[.slice a p.length cap] w fun e w' => ∃ v fp', e = .returned v ∧ Rd w' v (PM.inv p) fp' ∧ Fresh w.heap.size w' fp' ∧ Only [] w w' := by
  obtain ⟨i0, hi, hz0, hz1, hz2⟩ := info_parts Try.info2
  go_enter Try.func122, Try.ntmps122
  go_wp2_with (at_make; refine wpList_make_full _ rfl _ _ 31 rfl w.heap.size 2 i0 _ 1 Try.underlying31 hi hz0 hz1 _ _ _ _ p.length rfl rfl rfl rfl (by rw [hz2]; omega) (by unfold maxLen; omega) (Nat.le_refl _) ?_; intro w1 hown hg)
  rw [madeInts, Nat.mul_one] at hown
  have hA := madeArr hown
  clear hown
  go_loopw [4] (fun i wr => ∃ j : Nat, j ≤ p.length ∧ i = .int .i64 j ∧ Arr w.heap.size 2 wr w.heap.size p.length (invUp p j) ∧ Only [] w wr)
    (fun i _ => p.length - (intOf i).toNat)
  case atStart => exact ⟨0, Nat.zero_le _, rfl, by rw [invUp_zero]; exact hA, (Only.refl _ _).grown hg (by simp)⟩
  case round =>
    obtain ⟨j, hj, rfl, hO, hK⟩ := hrel
    by_cases hlt : j < p.length
    · obtain ⟨b, off, rfl, -, hc0⟩ := h.at_ j hlt
      have hc := hK.cell (by simp) hc0
      have hr := hp.1 p[j] (List.getElem_mem _)
      have hO2 := hO.set p[j].toNat j
      rw [invUp_step hp hlt] at hO2
      have hc2 := hO.cell (i := p[j].toNat) (by rw [invUp_len]; omega)
      have hf2 := hO.frozen p[j].toNat
      have hK2 := hK.setCell (p := ⟨w.heap.size, p[j].toNat, none⟩) (by simp) (.int .i64 j)
      obtain ⟨hr0, hr1⟩ := hr
      have HO := Lib.hid hO2
      clear hO hO2 hA hc0
      go_wp2
      go_roundw
      case rel => exact ⟨j + 1, by omega, by go_num, HO.out, hK2⟩
      case measure => simp [intOf]; omega
    · have hjl : j = p.length := by omega
      rw [hjl, invUp_all hp] at hO
      have HO := Lib.hid (hO.rd (inv_i64 hl))
      clear hjl hO hA
      go_wp2
      go_ret
      exact ⟨_, _, rfl, HO.out.1, HO.out.2, hK⟩
set_option maxHeartbeats 1000000 in
theorem implInverse0_any (a : Option Addr) (cap : Nat) (p : List Int) (fp : List Nat) (w : World) (h : IntsA w a cap p fp) (hp : PM.IsP p) (hl : p.length ≤ 1000) :
    Calls Try.prog 105 #[.slice a p.length cap] w fun e w' => ∃ v fp', e = .returned v ∧ Rd w' v (PM.inv p) fp' ∧ Fresh w.heap.size w' fp' ∧ Only [] w w' := by
  obtain ⟨i0, hi, hz0, hz1, hz2⟩ := info_parts Try.info2
  go_enter Try.func105, Try.ntmps105
  go_wp2_with (at_make; refine wpList_make_full _ rfl _ _ 31 rfl w.heap.size 2 i0 _ 1 Try.underlying31 hi hz0 hz1 _ _ _ _ p.length rfl rfl rfl rfl (by rw [hz2]; omega) (by unfold maxLen; omega) (Nat.le_refl _) ?_; intro w1 hown hg)
  rw [madeInts, Nat.mul_one] at hown
  have hA := madeArr hown
  clear hown
  go_loopw [11] (fun i wr => ∃ j : Nat, j ≤ p.length ∧ i = .int .i64 j ∧ Arr w.heap.size 2 wr w.heap.size p.length (invUp p j) ∧ Only [] w wr)
    (fun i _ => p.length - (intOf i).toNat)
  case atStart => exact ⟨0, Nat.zero_le _, rfl, by rw [invUp_zero]; exact hA, (Only.refl _ _).grown hg (by simp)⟩
  case round =>
    obtain ⟨j, hj, rfl, hO, hK⟩ := hrel
    by_cases hlt : j < p.length
    · obtain ⟨b, off, rfl, -, hc0⟩ := h.at_ j hlt
      have hc := hK.cell (by simp) hc0
      have hr := hp.1 p[j] (List.getElem_mem _)
      have hO2 := hO.set p[j].toNat j
      rw [invUp_step hp hlt] at hO2
      have hc2 := hO.cell (i := p[j].toNat) (by rw [invUp_len]; omega)
      have hf2 := hO.frozen p[j].toNat
      have hK2 := hK.setCell (p := ⟨w.heap.size, p[j].toNat, none⟩) (by simp) (.int .i64 j)
      obtain ⟨hr0, hr1⟩ := hr
      have HO := Lib.hid hO2
      clear hO hO2 hA hc0
      go_wp2
      go_roundw
      case rel => exact ⟨j + 1, by omega, by go_num, HO.out, hK2⟩
      case measure => simp [intOf]; omega
    · have hjl : j = p.length := by omega
      rw [hjl, invUp_all hp] at hO
      have HO := Lib.hid (hO.rd (inv_i64 hl))
      clear hjl hO hA
      go_wp2
      go_ret
      exact ⟨_, _, rfl, HO.out.1, HO.out.2, hK⟩
theorem implInverse0_rd (v : Value) (p : List Int) (fp : List Nat) (w : World) (h : Rd w v p fp) (hp : PM.IsP p) (hl : p.length ≤ 1000) :
    Calls Try.prog 105 #[v] w fun e w' => ∃ v fp', e = .returned v ∧ Rd w' v (PM.inv p) fp' ∧ Fresh w.heap.size w' fp' ∧ Only [] w w' := by
  obtain ⟨a, cap, rfl, hI⟩ := h.ints
  exact implInverse0_any a cap p fp w hI hp hl
theorem specInverse0_rd (v : Value) (p : List Int) (fp : List Nat) (w : World) (h : Rd w v p fp) (hp : PM.IsP p) (hl : p.length ≤ 1000) :
    Calls Try.prog 122 #[v] w fun e w' => ∃ v fp', e = .returned v ∧ Rd w' v (PM.inv p) fp' ∧ Fresh w.heap.size w' fp' ∧ Only [] w w' := by
  obtain ⟨a, cap, rfl, hI⟩ := h.ints
  exact specInverse0_any a cap p fp w hI hp hl
theorem specInverse_rd (v : Value) (p : List Int) (fp : List Nat) (w : World) (h : Rd w v p fp) (hp : permB p = true) :
    Calls Try.prog 106 #[v] w fun e w' => ∃ v fp', e = .returned v ∧ Rd w' v (PM.inv p) fp' ∧ Fresh w.heap.size w' fp' ∧ Only [] w w' := by
  have hp' := permB_iff.1 hp
  go_enter Try.func106, Try.ntmps106
  go_wp2_with (first | (go_at_call 121; (with_reducible refine (specIsPerm_rd v p _ _ h).mono ?_); rintro e w1 ⟨rfl, n1, rfl⟩) | (go_at_call 122; (with_reducible refine (specInverse0_rd v p _ _ (Rp.keep h (Only.ofDrewN _ _ _)) hp'.2 (by omega)).mono ?_); rintro e w2 ⟨u, f2, rfl, r2, F2, t2⟩))
  go_ret
  exact ⟨_, _, rfl, r2, F2, (by with_reducible repeat (first | exact Only.refl _ _ | assumption | refine Only.drewN ?_ _ | refine Only.drew ?_ | refine Only.alloc ?_ _ | refine Only.setCell ?_ (by intro hh; exfalso; simp at hh; try omega) _ | refine Only.trans ?_ (by assumption)))⟩
set_option maxHeartbeats 1000000 in
theorem picked_rd (v u : Value) (l ix : List Int) (f1 f2 : List Nat) (w : World) (h : Rd w v l f1) (h' : Rd w u ix f2) (hx : ∀ x ∈ ix, 0 ≤ x ∧ x < l.length) (hl : ix.length ≤ 1000) :
    Calls Try.prog 41 #[v, u] w fun e w' => ∃ v fp', e = .returned v ∧ Rd w' v (PM.comp ix l) fp' ∧ Fresh w.heap.size w' fp' ∧ Only [] w w' := by
  obtain ⟨a, cap, rfl, hI⟩ := h.ints
  obtain ⟨a', cap', rfl, hI'⟩ := h'.ints
  have hb := hI.bound
  obtain ⟨i0, hi, hz0, hz1, hz2⟩ := info_parts Try.info2
  go_enter Try.func41, Try.ntmps41
  go_wp2_with (at_make; refine wpList_make_full _ rfl _ _ 31 rfl w.heap.size 2 i0 _ 1 Try.underlying31 hi hz0 hz1 _ _ _ _ ix.length rfl rfl rfl rfl (by rw [hz2]; omega) (by unfold maxLen; omega) (Nat.le_refl _) ?_; intro w1 hown hg)
  rw [madeInts, Nat.mul_one] at hown
  have hA := madeArr hown
  clear hown
  go_loopw [13] (fun i wr => ∃ j : Nat, j ≤ ix.length ∧ i = .int .i64 j ∧ Arr w.heap.size 2 wr w.heap.size ix.length ((PM.comp (ix.take j) l) ++ List.replicate (ix.length - j) 0) ∧ Only [] w wr)
    (fun i _ => ix.length - (intOf i).toNat)
  case atStart => exact ⟨0, Nat.zero_le _, rfl, by simpa [PM.comp] using hA, (Only.refl _ _).grown hg (by simp)⟩
  case round =>
    obtain ⟨j, hj, rfl, hO, hK⟩ := hrel
    have hcl : (PM.comp (ix.take j) l).length = j := by rw [PM.comp_len, List.length_take]; omega
    by_cases hlt : j < ix.length
    · obtain ⟨b, off, rfl, -, hc0⟩ := hI'.at_ j hlt
      obtain ⟨hr0, hr1⟩ := hx ix[j] (List.getElem_mem _)
      have hxl : ix[j].toNat < l.length := by omega
      obtain ⟨b2, off2, rfl, -, hd0⟩ := hI.at_ ix[j].toNat hxl
      have hc := hK.cell (by simp) hc0
      have hd := hK.cell (by simp) hd0
      have hstep : (PM.comp (ix.take j) l ++ List.replicate (ix.length - j) 0).set j l[ix[j].toNat] = PM.comp (ix.take (j + 1)) l ++ List.replicate (ix.length - (j + 1)) 0 := by
        have e1 : PM.at_ l ix[j] = l[ix[j].toNat] := by
          have := PM.at_nat l ix[j].toNat hxl
          rwa [show ((ix[j].toNat : Nat) : Int) = ix[j] by omega] at this
        rw [show ix.length - j = (ix.length - (j + 1)) + 1 by omega, List.replicate_succ, List.set_append_right _ _ (by omega), hcl, Nat.sub_self, take_succ_get ix j hlt]
        simp only [PM.comp, List.map_append, List.map_cons, List.map_nil, List.append_assoc, List.cons_append, List.nil_append, List.set_cons_zero, e1]
      have hO2 := hO.set j l[ix[j].toNat]
      rw [hstep] at hO2
      obtain ⟨z2, hc2⟩ : ∃ z, wr.cell? ⟨w.heap.size, j, none⟩ = some z := ⟨_, hO.cell (i := j) (by simp [hcl]; omega)⟩
      have hf2 := hO.frozen j
      have hK2 := hK.setCell (p := ⟨w.heap.size, j, none⟩) (by simp) (.int .i64 l[ix[j].toNat])
      have HO := Lib.hid hO2
      clear hO hO2 hA hc0 hd0 hstep hcl
      go_wp2
      go_roundw
      case rel => exact ⟨j + 1, by omega, by go_num, HO.out, hK2⟩
      case measure => simp [intOf]; omega
    · have hjl : j = ix.length := by omega
      rw [hjl] at hO
      simp only [Nat.sub_self, List.replicate_zero, List.append_nil, List.take_length] at hO
      have hw : ∀ x ∈ PM.comp ix l, I64 x := by
        intro x hxm
        obtain ⟨y, hy, rfl⟩ := List.mem_map.1 hxm
        have := hx y hy
        exact hI.wf _ (PM.at_mem this.1 this.2)
      have HO := Lib.hid (hO.rd hw)
      clear hjl hO hA hcl hw
      go_wp2
      go_ret
      exact ⟨_, _, rfl, HO.out.1, HO.out.2, hK⟩
set_option maxHeartbeats 1000000 in
/-- a move, or its inverse: old memory, or new -/
theorem letterOf_rd (v : Value) (gens : List (List Int)) (l : Int) (fp : List Nat) (w : World) (h : Rd w v gens fp) (hg : ∀ g ∈ gens, PM.IsP g ∧ g.length ≤ 1000) (hl : l ∈ ltrs gens.length) (hn : gens.length ≤ 1000) :
    Calls Try.prog 79 #[v, .int .i64 l] w fun e w' => ∃ v fp', e = .returned v ∧ Rd w' v (mv gens l) fp' ∧ (∀ b ∈ fp', b ∈ fp ∨ w.heap.size ≤ b) ∧ Only [] w w' := by
  obtain ⟨a, cap, ob, fps, rfl, rfl, hs⟩ := h.open_
  have hb := hs.bound
  rcases letter_cases hl with ⟨k, hk, rfl⟩ | ⟨k, hk, rfl⟩
  · have hm := mv_pos rfl hk
    have Hm := Lib.hid hm; clear hm
    obtain ⟨b, off, u, rfl, hob, hc, hu⟩ := hs.atRow k hk
    have e1 : wrap64 ((k : Int) + 1 - 1) = (k : Int) := wrap64_lit _ (by omega) (by omega) |>.trans (by omega)
    have e2 : (0 : Int) < (k : Int) + 1 := by omega
    go_enter Try.func79, Try.ntmps79
    go_wp2
    go_ret
    refine ⟨_, _, rfl, by rw [Hm.out]; exact hu, fun b' hb' => ?_, (by with_reducible repeat (first | exact Only.refl _ _ | assumption | refine Only.drewN ?_ _ | refine Only.drew ?_ | refine Only.alloc ?_ _ | refine Only.setCell ?_ (by intro hh; exfalso; simp at hh; try omega) _ | refine Only.trans ?_ (by assumption)))⟩
    left
    exact List.mem_append_right _ (List.mem_flatten.2 ⟨_, List.getElem_mem _, hb'⟩)
  · have hm := mv_neg rfl hk
    have Hm := Lib.hid hm; clear hm
    obtain ⟨b, off, u, rfl, hob, hc, hu⟩ := hs.atRow k hk
    have e1 : wrap64 (wrap64 (-(-((k : Int) + 1))) - 1) = (k : Int) := by
      rw [wrap64_lit (-(-((k : Int) + 1))) (by omega) (by omega), wrap64_lit _ (by omega) (by omega)]; omega
    have e2 : ¬ (0 : Int) < -((k : Int) + 1) := by omega
    have hg2 := hg _ (List.getElem_mem hk)
    go_enter Try.func79, Try.ntmps79
    go_wp2_with ((go_at_call 105; (with_reducible refine (implInverse0_rd u gens[k] _ _ hu hg2.1 hg2.2).mono ?_); rintro e w2 ⟨u2, f2, rfl, r2, F2, t2⟩))
    go_ret
    exact ⟨_, _, rfl, by rw [Hm.out]; exact r2, fun b' hb' => .inr (F2.ge b' hb'), (by with_reducible repeat (first | exact Only.refl _ _ | assumption | refine Only.drewN ?_ _ | refine Only.drew ?_ | refine Only.alloc ?_ _ | refine Only.setCell ?_ (by intro hh; exfalso; simp at hh; try omega) _ | refine Only.trans ?_ (by assumption)))⟩
set_option maxHeartbeats 1000000 in
theorem letters_any (m : Nat) (w : World) (hm : m ≤ 1000) :
    Calls Try.prog 77 #[.int .i64 m] w fun e w' => ∃ v fp', e = .returned v ∧ Rd w' v (ltrs m) fp' ∧ Fresh w.heap.size w' fp' ∧ Only [] w w' := by
  obtain ⟨i0, hi, hz0, hz1, hz2⟩ := info_parts Try.info2
  go_enter Try.func77, Try.ntmps77
  go_wp2
  go_loopw [3, 6] (fun o i wr => ∃ j : Nat, j ≤ m ∧ i = .int .i64 j ∧ wr.ownsRow w.heap.size 2 1 o (ltrs j).length ((ltrs j).map (Value.int .i64)) ∧ Only [] w wr)
    (fun _ i _ => m - (intOf i).toNat)
  case atStart => exact ⟨0, Nat.zero_le _, rfl, World.ownsRow_nil w _ _ _, Only.refl _ _⟩
  case round =>
    obtain ⟨j, hj, rfl, hO, hK⟩ := hrel
    by_cases hlt : j < m
    · have hsz := hK.size
      have hlj : (ltrs j).length ≤ 2000 := by rw [ltrs_len]; omega
      go_wp2_with (at_builtin; refine wpList_app _ rfl _ _ 31 rfl w.heap.size 2 i0 _ 1 8 Try.underlying31 hi hz0 hz1 hz2 rfl (by omega) _ (ltrs j).length _ rfl (hO.alloc _) (some ⟨wr.heap.size, 0, none⟩) 2 2 [.int .i64 ((j : Int) + 1), .int .i64 (-((j : Int) + 1))] rfl rfl (lit_srcA wr [.int .i64 ((j : Int) + 1), .int .i64 (-((j : Int) + 1))] _ rfl) (by simp) (by intro u hu; simp at hu; rcases hu with rfl | rfl <;> rfl) (by unfold maxLen; omega) (by omega) (by simp; omega) ?_; intro v1 w1 hO1 hg1 hb1)
      go_roundw
      case rel => exact ⟨j + 1, by omega, by go_num, by simpa [ltrs] using hO1, (hK.alloc _).grown hg1 (by intro k hk hk2; have := (hO.lt k hk).1; omega)⟩
      case measure => simp [intOf]; omega
    · have hjl : j = m := by omega
      rw [hjl] at hO
      have hw : ∀ x ∈ ltrs m, I64 x := fun x hx => by have := mem_ltrs.1 hx; unfold I64; omega
      obtain ⟨a', cap', hv, -, hI, hF⟩ := own_ints hO hw
      have HI := Lib.hid hI
      have Hv := Lib.hid hv
      clear hjl hO hv hI hw
      go_wp2
      go_ret
      refine ⟨_, _, rfl, ?_, hF, hK⟩
      have hr := HI.out.rd
      rw [← Hv.out] at hr; exact hr
end Go.Proofs.Ytoinaidncncdhaa

namespace Go.Proofs.Ytoinaidncncdhaa
open Go.RowKit
set_option maxRecDepth 10000

theorem validPz_facts {x : Puzzle} (h : validPz x = true) : 1 ≤ x.points ∧ x.points ≤ 20 ∧ x.moves.length ≤ 8 ∧ ∀ y ∈ x.moves, (y.length : Int) = x.points ∧ permB y = true := by
  unfold validPz at h
  rw [Bool.and_eq_true] at h
  have h1 := h.1
  unfold gensB at h1
  rw [Bool.and_eq_true, Bool.and_eq_true, inR_iff, decide_eq_true_iff, List.all_eq_true] at h1
  refine ⟨h1.1.1.1, h1.1.1.2, h1.1.2, fun y hy => ?_⟩
  have := h1.2 y hy
  unfold genB at this
  simpa using this
theorem validPz_pn {x : Puzzle} (h : validPz x = true) : ∀ g ∈ x.moves, PM.PN x.points.toNat g := by
  intro g hg
  obtain ⟨h1, h2, h3, h4⟩ := validPz_facts h
  obtain ⟨h5, h6⟩ := h4 g hg
  exact ⟨by omega, (permB_iff.1 h6).2⟩
/-- the tables that can be checked -/
def checkT (x : Puzzle) (t : Table) : Bool := validPz x && (wfT t && (trackB x.points t.tracked && t.patterns.all (patB x.points t.tracked.length)))
theorem checkT_iff {x : Puzzle} {t : Table} : checkT x t = true ↔ validPz x = true ∧ wfT t = true ∧ trackB x.points t.tracked = true ∧ ∀ p ∈ t.patterns, patB x.points t.tracked.length p = true := by
  simp [checkT]
/-- the index of the first pattern that is this one, -1 if there is none -/
def idxL (l : List (List Int)) (p : List Int) : Int := idxF (fun q => decide (q = p)) l
/-- the pattern behind a letter -/
def nxt (x : Puzzle) (p : List Int) (l : Int) : List Int := PM.comp p (mv x.moves l)
/-- where a letter leads -/
def nextI (x : Puzzle) (t : Table) (p : List Int) (l : Int) : Int := idxL t.patterns (nxt x p l)
/-- a letter leads to an entry of this distance -/
def leads (x : Puzzle) (t : Table) (p : List Int) (d : Int) (l : Int) : Bool := decide (0 ≤ nextI x t p l) && decide (t.distances.getD (nextI x t p l).toNat 0 = d)
/-- the first letter that leads to an entry of this distance, 0 if there is none -/
def descL (x : Puzzle) (t : Table) (p : List Int) (d : Int) : Int := ((ltrs x.moves.length).find? (leads x t p d)).getD 0
structure Fault where
  kind : Int
  entry : Int
  letter : Int
instance : Rp Fault where
  size := 3
  rep _ cs x fp := cs = [Value.int .i64 x.kind, Value.int .i64 x.entry, Value.int .i64 x.letter] ∧ (I64 x.kind ∧ I64 x.entry ∧ I64 x.letter) ∧ fp = []
  len h := by rw [h.1]; rfl
  frame h _ := h
  lt h := by rw [h.2.2]; simp
def atD (t : Table) (i : Int) : Int := t.distances.getD i.toNat 0
def atP (t : Table) (i : Nat) : List Int := t.patterns.getD i []
def one (b : Bool) (f : Fault) : List Fault := if b = true then [f] else []
/-- the fault of a letter -/
def letF (x : Puzzle) (t : Table) (i : Nat) (l : Int) : List Fault :=
  if nextI x t (atP t i) l < 0 then [⟨4, i, l⟩] else if inR (atD t (nextI x t (atP t i) l) - atD t i) (-1) 1 = true then [] else [⟨5, i, l⟩]
def entF (x : Puzzle) (t : Table) (i : Nat) : List Fault :=
  one (decide (i = 0) && (decide (atD t i ≠ 0) || decide (atP t 0 ≠ t.tracked))) ⟨1, i, 0⟩ ++
  (one (decide (idxL t.patterns (atP t i) < i)) ⟨2, i, 0⟩ ++
  (one (decide (0 < i) && decide (atD t i = 0)) ⟨3, i, 0⟩ ++
  ((ltrs x.moves.length).flatMap (letF x t i) ++
  one (decide (0 < atD t i) && decide (descL x t (atP t i) (atD t i - 1) = 0)) ⟨6, i, 0⟩)))
theorem idxF_nonneg_or {α : Type} (pr : α → Bool) (l : List α) : idxF pr l = -1 ∨ ∃ k : Nat, ∃ h : k < l.length, idxF pr l = k ∧ pr l[k] = true := by
  unfold idxF
  cases h : l.findIdx? pr with
  | none => exact .inl rfl
  | some i =>
    right
    obtain ⟨hi, hp, -⟩ := List.findIdx?_eq_some_iff_getElem.1 h
    exact ⟨i, hi, rfl, hp⟩
theorem idxL_lt {l : List (List Int)} {p : List Int} : -1 ≤ idxL l p ∧ idxL l p < l.length := by
  rcases idxF_nonneg_or (fun q => decide (q = p)) l with h | ⟨k, hk, h, -⟩
  · unfold idxL; omega
  · unfold idxL; omega
theorem atD_of {t : Table} {i : Nat} {j : Int} (hj : j = i) (h : i < t.distances.length) : atD t j = t.distances[i] := by
  unfold atD; rw [hj, Int.toNat_natCast, List.getD_eq_getElem?_getD, List.getElem?_eq_getElem h]; rfl
theorem nxt_pat {x : Puzzle} {k : Nat} {p : List Int} {l : Int} (hv : validPz x = true) (hp : patB x.points k p = true) (hl : l ∈ ltrs x.moves.length) : patB x.points k (nxt x p l) = true := by
  obtain ⟨h1, h2, h3, h4⟩ := validPz_facts hv
  obtain ⟨h5, h6, h7⟩ := patB_iff.1 hp
  have hm := mv_pn (validPz_pn hv) hl
  refine patB_iff.2 ⟨by unfold nxt; rw [PM.comp_len]; exact h5, fun y hy => ?_, ?_⟩
  · obtain ⟨z, hz, rfl⟩ := List.mem_map.1 hy
    have := h6 z hz
    have := hm.rng this.1 (by omega)
    omega
  · unfold nxt PM.comp
    rw [List.nodup_iff_pairwise_ne, List.pairwise_map]
    refine (List.nodup_iff_pairwise_ne.1 h7).imp_of_mem fun {a b} ha hb hab he => hab ?_
    have h8 := h6 a ha; have h9 := h6 b hb
    exact hm.inj h8.1 (by omega) h9.1 (by omega) he
end Go.Proofs.Ytoinaidncncdhaa

namespace Go.Proofs.Ytoinaidncncdhaa
open Go.RowKit
set_option maxRecDepth 10000

/-- one point more is laid into a permutation -/
theorem ins_isP {p : List Int} (h : PM.IsP p) {k : Nat} (_ : k ≤ p.length) : PM.IsP (p.take k ++ ((p.length : Int) :: p.drop k)) := by
  have hperm : (p.take k ++ ((p.length : Int) :: p.drop k)).Perm ((p.length : Int) :: p) := by
    have := List.perm_middle (l₁ := p.take k) (l₂ := p.drop k) (a := (p.length : Int))
    rwa [List.take_append_drop] at this
  have hl : (p.take k ++ ((p.length : Int) :: p.drop k)).length = p.length + 1 := by rw [hperm.length_eq]; rfl
  refine ⟨fun x hx => ?_, hperm.nodup_iff.2 (List.nodup_cons.2 ⟨fun hm => ?_, h.2⟩)⟩
  · rw [hl]
    rcases List.mem_cons.1 (hperm.mem_iff.1 hx) with rfl | hx
    · omega
    · have := h.1 x hx; omega
  · have := h.1 _ hm; omega
theorem IntsA.drop {w : World} {b off cap : Nat} {l : List Int} {fp : List Nat} (h : IntsA w (some ⟨b, off, none⟩) cap l fp) {k : Nat} (hk : k ≤ l.length) : IntsA w (some ⟨b, off + k, none⟩) (cap - k) (l.drop k) fp := by
  have hl := h.len
  have hc := h.cap
  refine ⟨by rw [List.length_drop]; omega, by omega, fun x hx => h.wf x (List.mem_of_mem_drop hx), fun i hi => ?_, h.lt, h.one⟩
  rw [List.length_drop] at hi
  obtain ⟨b', off', ha, hf, hcell⟩ := h.at_ (k + i) (by omega)
  injection ha with ha; injection ha with e1 e2; subst e1; subst e2
  refine ⟨b, off + k, rfl, hf, ?_⟩
  rw [Nat.add_assoc, List.getElem_drop]
  exact hcell
set_option maxHeartbeats 4000000 in
theorem w6Perm_any (g : Nat) (fc : List Nat) (l : List UInt8) (n : Nat) (w : World) (h : Dice w g fc l) (hn : n ≤ 1000) (hl : l.length ≤ 4096) :
    Calls Try.prog 31 #[.pointer (some ⟨g, 0, none⟩), .int .i64 n] w fun e w' => ∃ v p fp, e = .returned v ∧ Rd w' v p fp ∧ PM.PN n p ∧ Fresh w.heap.size w' fp ∧ Dice w' g fc l ∧ Only [g] w w' := by
  obtain ⟨i0, hi, hz0, hz1, hz2⟩ := info_parts Try.info2
  go_enter Try.func31, Try.ntmps31
  go_wp2
  go_loopw [5, 6] (fun o i wr => ∃ (j : Nat) (p : List Int) (fp : List Nat), j ≤ n ∧ i = .int .i64 j ∧ (∃ b off c, o = .slice (some ⟨b, off, none⟩) p.length c ∧ IntsA wr (some ⟨b, off, none⟩) c p fp) ∧ PM.PN j p ∧ Fresh w.heap.size wr fp ∧ Dice wr g fc l ∧ Only [g] w wr)
    (fun _ i _ => n - (intOf i).toNat)
  case atStart => exact ⟨0, [], [], Nat.zero_le _, rfl, ⟨w.heap.size, 0, 0, rfl, IntsA.nil _ _ (by simp [maxLen])⟩, ⟨rfl, by simp [PM.IsP]⟩, Fresh.nil _ _, h.keep ((Only.refl _ _).alloc _), (Only.refl _ _).alloc _⟩
  case round =>
    obtain ⟨W2, hnew⟩ : ∃ W, W = wr := ⟨_, rfl⟩
    subst hnew
    obtain ⟨j, p, fp, hj, rfl, ⟨b, off, c, rfl, I⟩, hp, hF, hD, hK⟩ := hrel
    by_cases hlt : j < n
    · have hwj : IntKind.i64.wrap ((j : Int) + 1) = (j : Int) + 1 := by rw [IntKind.wrap_i64]; omega
      go_upto_region 6 with ((go_at_call 15; (with_reducible refine (below_any g fc l ((j : Int) + 1) _ hD (by omega) (by omega) hl).mono ?_); rintro e w3 ⟨r, rfl, q1, q2, D3, K3⟩))
      obtain ⟨k, rfl⟩ := Int.eq_ofNat_of_zero_le q1
      have hpl := hp.1
      have hcap := I.len
      have hkp : k ≤ p.length := by omega
      have hkc : k ≤ c := by omega
      have hkp' : (k : Int) ≤ (p.length : Int) := by omega
      have hkc' : (k : Int) ≤ (c : Int) := by omega
      have hc0 : (p.length : Int) ≤ (c : Int) := by omega
      have Hpl := Lib.hid hpl
      have Hp := Lib.hid hp
      clear hpl hp
      have K3' : Only [g] w w3 := hK.trans K3
      have hg := h.lt
      have I3 := I.only K3 (fun b hb hm => by have := hF.ge b hb; simp at hm; omega)
      have hk0 : (0 : Int) ≤ (k : Int) := by omega
      have hlk : (p.take k).length = k := by rw [List.length_take]; omega
      have HK := Lib.hid hlk
      clear hlk
      have I3' := I3.keep ((Only.refl [] w3).alloc (.cells #[] 2))
      obtain ⟨s1, s2⟩ := ints_src (I3'.take k)
      have hsl : ((p.take k).map (Value.int .i64)).length = k * 1 := by rw [List.length_map, HK.out, Nat.mul_one]
      have hj1000 : j ≤ 1000 := by omega
      have Hsl := Lib.hid hsl
      clear hsl
      have hpl1 : p.length ≤ 1000 := by have := Hpl.out; omega
      have hend : ∀ v6 w6, w6.ownsRow w3.heap.size 2 1 v6 (k + 1 + (p.length - k)) (((p.take k).map (Value.int .i64) ++ [.int .i64 (j : Int)]) ++ (p.drop k).map (Value.int .i64)) → Only [] w3 w6 →
          ∃ (p' : List Int) (fp' : List Nat), (∃ b off c, v6 = .slice (some ⟨b, off, none⟩) p'.length c ∧ IntsA w6 (some ⟨b, off, none⟩) c p' fp') ∧ PM.PN (j + 1) p' ∧ Fresh w.heap.size w6 fp' ∧ Dice w6 g fc l ∧ Only [g] w w6 := fun v6 w6 hO ho => by
        have hcells : ((p.take k).map (Value.int .i64) ++ [Value.int .i64 (j : Int)]) ++ (p.drop k).map (Value.int .i64) = (p.take k ++ ((p.length : Int) :: p.drop k)).map (Value.int .i64) := by
          rw [Hpl.out]; simp
        rw [hcells] at hO
        have hP := ins_isP Hp.out.2 hkp
        have hlen : (p.take k ++ ((p.length : Int) :: p.drop k)).length = j + 1 := by
          rw [List.length_append, List.length_cons, HK.out, List.length_drop]; have := Hpl.out; omega
        obtain ⟨a6, c6, hv6, -, I6, F6⟩ := own_ints hO (fun x hx => by have := hP.1 x hx; rw [hlen] at this; unfold I64; omega)
        obtain ⟨b6, o6, ha6, -, -⟩ := I6.at_ 0 (by rw [hlen]; omega)
        subst ha6
        exact ⟨_, _, ⟨b6, o6, c6, hv6, I6⟩, ⟨hlen, hP⟩, F6.mono K3'.size, D3.keep ho, K3'.keepThen ho⟩
      by_cases hck : c = k
      · subst hck
        have hd0 : p.drop c = [] := List.drop_eq_nil_of_le (by omega)
        have Hd0 := Lib.hid hd0
        clear hd0
        go_wp2_with (first
          | (at_builtin; refine wpList_app _ rfl _ _ 31 rfl w3.heap.size 2 i0 _ 1 8 Try.underlying31 hi hz0 hz1 hz2 rfl (by omega) (.slice (some ⟨w3.heap.size, 0, none⟩) 0 0) 0 [] rfl (World.ownsRow_made w3 #[] 0 (Nat.le_refl _) (by unfold maxLen; omega) rfl) (some ⟨b, off, none⟩) c c ((p.take c).map (Value.int .i64)) rfl Hsl.out s1 (by intro hh; cases hh) (ints_one _) (by unfold maxLen; omega) (by omega) (by simp) ?_; intro v4 w4 hO4 hg4 hb4; rw [Nat.zero_add, List.nil_append] at hO4; have o4 : Only [] w3 w4 := ((Only.refl [] w3).alloc _).grown hg4 (by intro z hz hzl; simp [Value.ownBlock] at hz; omega); have m4 := lit_srcA w4 [.int .i64 (j : Int)] 2 rfl)
          | (at_builtin; refine wpList_app _ rfl _ _ 31 rfl w3.heap.size 2 i0 _ 1 8 Try.underlying31 hi hz0 hz1 hz2 rfl (by omega) v4 c ((p.take c).map (Value.int .i64)) rfl (hO4.alloc _) (some ⟨w4.heap.size, 0, none⟩) 1 1 [.int .i64 (j : Int)] rfl rfl m4 (by intro hh; cases hh) (by intro u hu; simp at hu; subst hu; rfl) (by unfold maxLen; omega) (by omega) (Nat.le_trans o4.size ((Only.refl [] w4).alloc _).size) ?_; intro v5 w5 hO5 hg5 hb5; have o5 : Only [] w3 w5 := (o4.alloc _).grown hg5 (by intro z hz hzl; have := (hO4.lt z hz).1; omega); )
          | (at_builtin; refine wpList_app _ rfl _ _ 31 rfl w3.heap.size 2 i0 _ 1 8 Try.underlying31 hi hz0 hz1 hz2 rfl (by omega) v5 (c + 1) ((p.take c).map (Value.int .i64) ++ [.int .i64 (j : Int)]) rfl hO5 (some ⟨b, off, none⟩) 0 0 [] rfl rfl (by intro ad hh j1 u hu; simp at hu) (by intro hh; cases hh) (by intro u hu; simp at hu) (by unfold maxLen; omega) (by omega) o5.size ?_; intro v6 w6 hO6 hg6 hb6)
          | fail "no arm")
        have hfin := hend v6 w6 (by have e : p.length - c = 0 := (by omega); rw [e, Hd0.out]; simpa using hO6) (o5.grown hg6 (by intro z hz hzl; have := (hO5.lt z hz).1; omega))
        go_roundw
        case rel => obtain ⟨p', fp', e1, e2, e3, e4, e5⟩ := hfin; exact ⟨j + 1, p', fp', by omega, by go_num, e1, e2, e3, e4, e5⟩
        case measure => simp [intOf]; omega
      · go_wp2_with (first
          | (at_builtin; refine wpList_app _ rfl _ _ 31 rfl w3.heap.size 2 i0 _ 1 8 Try.underlying31 hi hz0 hz1 hz2 rfl (by omega) (.slice (some ⟨w3.heap.size, 0, none⟩) 0 0) 0 [] rfl (World.ownsRow_made w3 #[] 0 (Nat.le_refl _) (by unfold maxLen; omega) rfl) (some ⟨b, off, none⟩) k c ((p.take k).map (Value.int .i64)) rfl Hsl.out s1 (by intro hh; cases hh) (ints_one _) (by unfold maxLen; omega) (by omega) (by simp) ?_; intro v4 w4 hO4 hg4 hb4; rw [Nat.zero_add, List.nil_append] at hO4; have o4 : Only [] w3 w4 := ((Only.refl [] w3).alloc _).grown hg4 (by intro z hz hzl; simp [Value.ownBlock] at hz; omega); have m4 := lit_srcA w4 [.int .i64 (j : Int)] 2 rfl)
          | (at_builtin; refine wpList_app _ rfl _ _ 31 rfl w3.heap.size 2 i0 _ 1 8 Try.underlying31 hi hz0 hz1 hz2 rfl (by omega) v4 k ((p.take k).map (Value.int .i64)) rfl (hO4.alloc _) (some ⟨w4.heap.size, 0, none⟩) 1 1 [.int .i64 (j : Int)] rfl rfl m4 (by intro hh; cases hh) (by intro u hu; simp at hu; subst hu; rfl) (by unfold maxLen; omega) (by omega) (Nat.le_trans o4.size ((Only.refl [] w4).alloc _).size) ?_; intro v5 w5 hO5 hg5 hb5; have o5 : Only [] w3 w5 := (o4.alloc _).grown hg5 (by intro z hz hzl; have := (hO4.lt z hz).1; omega); have ID := (I3.keep o5).drop hkp; have s5 := ints_src ID; have hdl : ((p.drop k).map (Value.int .i64)).length = (p.length - k) * 1 := (by simp); have Hdl := Lib.hid hdl; clear hdl)
          | (at_builtin; refine wpList_app _ rfl _ _ 31 rfl w3.heap.size 2 i0 _ 1 8 Try.underlying31 hi hz0 hz1 hz2 rfl (by omega) v5 (k + 1) ((p.take k).map (Value.int .i64) ++ [.int .i64 (j : Int)]) rfl hO5 (some ⟨b, off + k, none⟩) (p.length - k) (c - k) ((p.drop k).map (Value.int .i64)) rfl Hdl.out s5.1 (by intro hh; cases hh) (ints_one _) (by unfold maxLen; omega) (by omega) o5.size ?_; intro v6 w6 hO6 hg6 hb6)
          | fail "no arm")
        have hfin := hend v6 w6 hO6 (o5.grown hg6 (by intro z hz hzl; have := (hO5.lt z hz).1; omega))
        go_roundw
        case rel => obtain ⟨p', fp', e1, e2, e3, e4, e5⟩ := hfin; exact ⟨j + 1, p', fp', by omega, by go_num, e1, e2, e3, e4, e5⟩
        case measure => simp [intOf]; omega
    · obtain rfl : j = n := by omega
      go_wp2
      go_ret
      exact ⟨_, p, fp, rfl, I.rd, hp, hF, hD, hK⟩
end Go.Proofs.Ytoinaidncncdhaa
