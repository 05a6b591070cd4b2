/- Tracked sets, patterns and well-formed tables: the reference's and the program's. A table's faults, in plain words. Breadth-first search of patterns in plain words (law 16). Lists of one length in order; an index kept sorted by them (law 16). The reference's search: an index of lists kept sorted (law 16). A slice that a loop appends to, beside other memory of the call's own that stays as it is. Plain facts on stabilizer chains. -/
import Derived.Test.YtkhdmiemfpelcaaGreatRowCrashFillG4
import Derived.Test.YtkhdmiemfpelcaaGreatRowCrashFillG5
import Derived.Laws.CopyOwn
import Derived.Test.YtkhdmiemfpelcaaGreatRowCrashFillG3
namespace Go.Proofs.YtkhdmiemfpelcaaGreat
open Go.RowKit
set_option maxRecDepth 10000

/-- a strictly increasing list of points of n -/
def Inc (n : Int) (l : List Int) : Prop := (∀ x ∈ l, 0 ≤ x ∧ x < n) ∧ l.Pairwise (· < ·)
instance (n : Int) (l : List Int) : Decidable (Inc n l) := inferInstanceAs (Decidable (_ ∧ _))
/-- distinct points of n -/
def Dis (n : Int) (l : List Int) : Prop := (∀ x ∈ l, 0 ≤ x ∧ x < n) ∧ l.Nodup
instance (n : Int) (l : List Int) : Decidable (Dis n l) := inferInstanceAs (Decidable (_ ∧ _))
def trackB (n : Int) (l : List Int) : Bool := decide (0 < l.length) && decide (Inc n l)
def patB (n : Int) (k : Nat) (l : List Int) : Bool := decide (l.length = k) && decide (Dis n l)
theorem pw_take_step {l : List Int} {j : Nat} (h : j < l.length) (h1 : (l.take j).Pairwise (· < ·)) (h2 : ∀ i (hi : i + 1 = j), l[i]'(by omega) < l[j]) : (l.take (j + 1)).Pairwise (· < ·) := by
  rw [take_succ_get l j h]
  refine List.pairwise_append.2 ⟨h1, by simp, fun a ha b hb => ?_⟩
  simp at hb; subst hb
  rcases Nat.eq_zero_or_pos j with h0 | h0
  · subst h0; simp at ha
  · obtain ⟨i, rfl⟩ : ∃ i, j = i + 1 := ⟨j - 1, by omega⟩
    have hi : i < l.length := by omega
    have h3 := h2 i rfl
    obtain ⟨k, hk, rfl⟩ := List.mem_take_iff_getElem.1 ha
    rcases Nat.lt_or_ge k i with hki | hki
    · rw [take_succ_get l i hi] at h1
      have := (List.pairwise_append.1 h1).2.2 l[k] (List.mem_take_iff_getElem.2 ⟨k, by omega, rfl⟩) l[i] (by simp)
      omega
    · have : k = i := by omega
      subst this; exact h3
theorem pw_take_not {l : List Int} {i : Nat} (h : i + 1 < l.length) (h2 : ¬ l[i] < l[i + 1]) : ¬ l.Pairwise (· < ·) := by
  intro hp
  exact h2 (List.pairwise_iff_getElem.1 hp i (i + 1) (by omega) h (by omega))
theorem inc_ge {l : List Int} (h0 : ∀ x ∈ l, 0 ≤ x) (hp : l.Pairwise (· < ·)) : ∀ k (hk : k < l.length), (k : Int) ≤ l[k] := by
  intro k
  induction k with
  | zero => intro hk; have := h0 _ (List.getElem_mem hk); omega
  | succ k ih =>
    intro hk
    have h1 := ih (by omega)
    have h2 := List.pairwise_iff_getElem.1 hp k (k + 1) (by omega) hk (by omega)
    omega
theorem Inc.len {n : Int} {l : List Int} (h : Inc n l) : (l.length : Int) ≤ n ∨ l.length = 0 := by
  rcases Nat.eq_zero_or_pos l.length with h0 | h0
  · exact .inr h0
  · left
    have h1 := inc_ge (fun x hx => (h.1 x hx).1) h.2 (l.length - 1) (by omega)
    have h2 := (h.1 l[l.length - 1] (List.getElem_mem _)).2
    omega
theorem pw_nodup {l : List Int} (h : l.Pairwise (· < ·)) : l.Nodup := by
  rw [List.nodup_iff_pairwise_ne]
  exact h.imp fun h => Int.ne_of_lt h
theorem Inc.dis {n : Int} {l : List Int} (h : Inc n l) : Dis n l := ⟨h.1, pw_nodup h.2⟩
theorem trackB_iff {n : Int} {l : List Int} : trackB n l = true ↔ 0 < l.length ∧ Inc n l := by simp [trackB]
theorem patB_iff {n : Int} {k : Nat} {l : List Int} : patB n k l = true ↔ l.length = k ∧ Dis n l := by simp [patB]
theorem trackB_no {n : Int} {l : List Int} (h : ¬ Inc n l) : trackB n l = false := by simp [trackB, h]
theorem trackB_pat {n : Int} {l : List Int} (h : trackB n l = true) : patB n l.length l = true := patB_iff.2 ⟨rfl, (trackB_iff.1 h).2.dis⟩
theorem wrap64_pred (i : Nat) (h : i < 9223372036854775807) : wrap64 (((i + 1 : Nat) : Int) - 1) = (i : Int) := by unfold wrap64; omega

set_option maxHeartbeats 1000000 in
theorem isPointList_any (n : Int) (a : Option Addr) (cap : Nat) (l : List Int) (fp : List Nat) (w : World) (h : IntsA w a cap l fp) (n0 : 0 ≤ n) (n1 : n ≤ 1000) :
    Calls Tryz.prog 95 #[.int .i64 n, .slice a l.length cap] w fun e w' => e = .returned (.bool (trackB n l)) ∧ Drew w w' := by
  have hb := h.bound
  rcases hq : inR l.length 1 n
  · go_enter Tryz.func95, Tryz.ntmps95
    go_wp2_with ((go_at_call 18; (with_reducible refine (inRange_any l.length 1 n _).mono ?_); rintro e w1 ⟨rfl, rfl⟩))
    go_ret
    exact ⟨ret_bool (by
      rw [eq_comm, ← Bool.not_eq_true, trackB_iff]; rintro ⟨h0, h1⟩
      rw [inR_not] at hq; have := h1.len; omega), Drew.refl _⟩
  obtain ⟨g1, g2⟩ := inR_iff.1 hq
  have hfin : trackB n l = decide (Inc n l) := by unfold trackB; rw [decide_eq_true (by omega)]; rfl
  have Hfin := Lib.hid hfin; clear hfin
  go_enter Tryz.func95, Tryz.ntmps95
  go_wp2_with ((go_at_call 18; (with_reducible refine (inRange_any l.length 1 n _).mono ?_); rintro e w ⟨rfl, rfl⟩))
  go_loopw [5] (fun i wr => ∃ j : Nat, j ≤ l.length ∧ i = .int .i64 j ∧ (∀ x ∈ l.take j, 0 ≤ x ∧ x < n) ∧ (l.take j).Pairwise (· < ·) ∧ Drew w wr)
    (fun i _ => l.length - (intOf i).toNat)
  case atStart => exact ⟨0, Nat.zero_le _, rfl, by simp, by simp, Drew.refl _⟩
  case round =>
    obtain ⟨j, hj, rfl, hr, hn, k, rfl⟩ := hrel
    have Hr := Lib.hid hr; clear hr
    have Hn := Lib.hid hn; clear hn
    by_cases hlt : j < l.length
    · rcases c1 : inR l[j] 0 (n - 1)
      · obtain ⟨b, off, rfl, -, hc⟩ := h.at_ j hlt
        go_wp2
        go_quiet ((go_at_call 18; exact quiet_drewN (inRange_q l[j] 0 (n - 1) _)))
        go_wp2
        go_ret
        exact ⟨ret_bool (by rw [Hfin.out, eq_comm, decide_eq_false_iff_not]; intro hp; have := hp.1 l[j] (List.getElem_mem _); rw [inR_not] at c1; omega), ((Drew.refl _).drewN _).drewN _⟩
      have hx := inR_iff.1 c1
      have Hx := Lib.hid hx; clear hx
      rcases Nat.eq_zero_or_pos j with hj0 | hj0
      · subst hj0
        obtain ⟨b, off, rfl, -, hc⟩ := h.at_ 0 hlt
        rw [Nat.add_zero] at hc
        go_wp2
        go_quiet ((go_at_call 18; exact quiet_drewN (inRange_q l[0] 0 (n - 1) _)))
        go_wp2
        go_roundw
        case rel => exact ⟨1, by omega, by go_num, mem_take_step hlt Hr.out (by have := Hx.out; omega), pw_take_step hlt Hn.out (by intro i hi; omega), ⟨_, rfl⟩⟩
        case measure => simp [intOf]; omega
      · obtain ⟨i, rfl⟩ : ∃ i, j = i + 1 := ⟨j - 1, by omega⟩
        have hi : i < l.length := by omega
        have hw := wrap64_pred i (by omega)
        have hgt : decide ((((i + 1 : Nat) : Int)) > 0) = true := decide_eq_true (by omega)
        obtain ⟨b, off, rfl, -, hc⟩ := h.at_ (i + 1) hlt
        obtain ⟨b2, off2, he, -, hc2⟩ := h.at_ i hi
        obtain ⟨rfl, rfl⟩ : b = b2 ∧ off = off2 := by simpa using he
        by_cases c2 : l[i + 1] ≤ l[i]
        · have d2 : decide (l[i + 1] ≤ l[i]) = true := decide_eq_true c2
          have C2 := Lib.hid c2; clear c2
          go_wp2
          go_quiet ((go_at_call 18; exact quiet_drewN (inRange_q l[i + 1] 0 (n - 1) _)))
          go_wp2
          go_ret
          exact ⟨ret_bool (by rw [Hfin.out, eq_comm, decide_eq_false_iff_not]; intro hp; exact pw_take_not hlt (by have := C2.out; omega) hp.2), ((Drew.refl _).drewN _).drewN _⟩
        · have d2 : decide (l[i + 1] ≤ l[i]) = false := decide_eq_false c2
          have C2 := Lib.hid c2; clear c2
          go_wp2
          go_quiet ((go_at_call 18; exact quiet_drewN (inRange_q l[i + 1] 0 (n - 1) _)))
          go_wp2
          go_roundw
          case rel => exact ⟨i + 2, by omega, by go_num, mem_take_step hlt Hr.out (by have := Hx.out; omega), pw_take_step hlt Hn.out (by
            intro q hq; have : q = i := (by omega); subst this; have := C2.out; omega), ⟨_, rfl⟩⟩
          case measure => simp [intOf]; omega
    · go_wp2
      go_ret
      exact ⟨ret_bool (by rw [Hfin.out, eq_comm, decide_eq_true_iff]; have h1 := Hr.out; have h2 := Hn.out; rw [List.take_of_length_le (by omega)] at h1 h2; exact ⟨h1, h2⟩), ⟨_, rfl⟩⟩
theorem isPointList_rd (n : Int) (v : Value) (l : List Int) (fp : List Nat) (w : World) (h : Rd w v l fp) (n0 : 0 ≤ n) (n1 : n ≤ 1000) :
    Calls Tryz.prog 95 #[.int .i64 n, v] w fun e w' => e = .returned (.bool (trackB n l)) ∧ Drew w w' := by
  obtain ⟨a, cap, rfl, hI⟩ := h.ints
  exact isPointList_any n a cap l fp w hI n0 n1
set_option maxHeartbeats 1000000 in
theorem isDistinctList_any (n : Int) (a : Option Addr) (cap : Nat) (l : List Int) (m : Nat) (fp : List Nat) (w : World) (h : IntsA w a cap l fp) (n0 : 0 ≤ n) (n1 : n ≤ 1000) (hm : m ≤ 9223372036854775807) :
    Calls Tryz.prog 87 #[.int .i64 n, .slice a l.length cap, .int .i64 m] w fun e w' => e = .returned (.bool (patB n m l)) ∧ Drew w w' := by
  have hb := h.bound
  by_cases hq : l.length = m
  · subst hq
    have hfin : patB n l.length l = decide (Dis n l) := by unfold patB; rw [decide_eq_true rfl]; rfl
    have Hfin := Lib.hid hfin; clear hfin
    go_enter Tryz.func87, Tryz.ntmps87
    go_wp2
    go_loopw [7] (fun i wr => ∃ j : Nat, j ≤ l.length ∧ i = .int .i64 j ∧ (∀ x ∈ l.take j, 0 ≤ x ∧ x < n) ∧ (l.take j).Nodup ∧ Drew w wr)
      (fun i _ => l.length - (intOf i).toNat)
    case atStart => exact ⟨0, Nat.zero_le _, rfl, by simp, by simp, Drew.refl _⟩
    case round =>
      obtain ⟨j, hj, rfl, hr, hn, k, rfl⟩ := hrel
      have Hr := Lib.hid hr; clear hr
      have Hn := Lib.hid hn; clear hn
      by_cases hlt : j < l.length
      · obtain ⟨b, off, rfl, -, hc⟩ := h.at_ j hlt
        have hcap := h.len
        have hi1 : (0 : Int) ≤ (j : Int) := by omega
        have hi2 : (j : Int) < (l.length : Int) := by omega
        rcases c1 : inR l[j] 0 (n - 1)
        · go_wp2
          go_quiet ((go_at_call 18; exact quiet_drewN (inRange_q l[j] 0 (n - 1) _)))
          go_wp2
          go_ret
          exact ⟨ret_bool (by rw [Hfin.out, eq_comm, decide_eq_false_iff_not]; intro hp; have := hp.1 l[j] (List.getElem_mem _); rw [inR_not] at c1; omega), ((Drew.refl _).drewN _).drewN _⟩
        have hx := inR_iff.1 c1
        have Hx := Lib.hid hx; clear hx
        rcases c2 : decide (l[j] ∈ l.take j)
        all_goals go_wp2
        all_goals go_quiet (first
          | (go_at_call 18; exact quiet_drewN (inRange_q l[j] 0 (n - 1) _))
          | (go_at_call 99; exact quiet_drewN (containsInt_pre (some ⟨b, off, none⟩) cap l j l[j] fp _ (h.keep (Only.ofDrewN _ _ _)) hj)))
        · have C2 := Lib.hid (of_decide_eq_false c2); clear c2
          go_wp2
          go_roundw
          case rel => exact ⟨j + 1, by omega, by go_num, mem_take_step hlt Hr.out (by have := Hx.out; omega), nodup_take_step hlt Hn.out C2.out, ⟨_, rfl⟩⟩
          case measure => simp [intOf]; omega
        · have C2 := Lib.hid (of_decide_eq_true c2); clear c2
          go_wp2
          go_ret
          exact ⟨ret_bool (by rw [Hfin.out, eq_comm, decide_eq_false_iff_not]; intro hp; exact nodup_take_not hlt C2.out hp.2), ((Drew.refl _).drewN _).drewN _⟩
      · go_wp2
        go_ret
        exact ⟨ret_bool (by rw [Hfin.out, eq_comm, decide_eq_true_iff]; have h1 := Hr.out; have h2 := Hn.out; rw [List.take_of_length_le (by omega)] at h1 h2; exact ⟨h1, h2⟩), ⟨_, rfl⟩⟩
  · have d1 : ((l.length : Int) != (m : Int)) = true := by simp only [bne_iff_ne, ne_eq]; omega
    have Hq := Lib.hid hq; clear hq
    go_enter Tryz.func87, Tryz.ntmps87
    go_wp2
    go_ret
    exact ⟨ret_bool (by unfold patB; rw [decide_eq_false Hq.out]; rfl), Drew.refl _⟩
theorem isDistinctList_rd (n : Int) (v : Value) (l : List Int) (m : Nat) (fp : List Nat) (w : World) (h : Rd w v l fp) (n0 : 0 ≤ n) (n1 : n ≤ 1000) (hm : m ≤ 9223372036854775807) :
    Calls Tryz.prog 87 #[.int .i64 n, v, .int .i64 m] w fun e w' => e = .returned (.bool (patB n m l)) ∧ Drew w w' := by
  obtain ⟨a, cap, rfl, hI⟩ := h.ints
  exact isDistinctList_any n a cap l m fp w hI n0 n1 hm
theorem isPoint_q (n x : Int) (w : World) (n0 : 0 ≤ n) (n1 : n ≤ 1000) :
    Calls Tryz.prog 107 #[.int .i64 n, .int .i64 x] w fun e w' => e = .returned (.bool (inR x 0 (n - 1))) ∧ Drew w w' := by
  go_enter Tryz.func107, Tryz.ntmps107
  go_wp2_with ((go_at_call 24; (with_reducible refine (within_any x 0 (n - 1) _).mono ?_); rintro e w1 ⟨rfl, rfl⟩))
  go_ret
  exact ⟨rfl, Drew.refl _⟩
set_option maxHeartbeats 1000000 in
theorem isTracked_any (n : Int) (a : Option Addr) (cap : Nat) (l : List Int) (fp : List Nat) (w : World) (h : IntsA w a cap l fp) (n0 : 0 ≤ n) (n1 : n ≤ 1000) :
    Calls Tryz.prog 102 #[.int .i64 n, .slice a l.length cap] w fun e w' => e = .returned (.bool (trackB n l)) ∧ Drew w w' := by
  have hb := h.bound
  go_enter Tryz.func102, Tryz.ntmps102
  go_wp2
  go_loopw [9] (fun i wr => ∃ j : Nat, j ≤ l.length ∧ i = .int .i64 j ∧ (∀ x ∈ l.take j, 0 ≤ x ∧ x < n) ∧ (l.take j).Pairwise (· < ·) ∧ Drew w wr)
    (fun i _ => l.length - (intOf i).toNat)
  case atStart => exact ⟨0, Nat.zero_le _, rfl, by simp, by simp, Drew.refl _⟩
  case round =>
    obtain ⟨j, hj, rfl, hr, hn, k, rfl⟩ := hrel
    have Hr := Lib.hid hr; clear hr
    have Hn := Lib.hid hn; clear hn
    by_cases hlt : j < l.length
    · rcases c1 : inR l[j] 0 (n - 1)
      · obtain ⟨b, off, rfl, -, hc⟩ := h.at_ j hlt
        go_wp2_with ((go_at_call 107; (with_reducible refine (isPoint_q n l[j] _ n0 n1).mono ?_); rintro e w1 ⟨rfl, m, rfl⟩))
        go_ret
        exact ⟨ret_bool (by rw [eq_comm]; exact trackB_no fun hp => by have := hp.1 l[j] (List.getElem_mem _); rw [inR_not] at c1; omega), ⟨_, rfl⟩⟩
      have hx := inR_iff.1 c1
      have Hx := Lib.hid hx; clear hx
      rcases Nat.eq_zero_or_pos j with hj0 | hj0
      · subst hj0
        obtain ⟨b, off, rfl, -, hc⟩ := h.at_ 0 hlt
        rw [Nat.add_zero] at hc
        go_wp2_with ((go_at_call 107; (with_reducible refine (isPoint_q n l[0] _ n0 n1).mono ?_); rintro e w1 ⟨rfl, m, rfl⟩))
        go_roundw
        case rel => exact ⟨1, by omega, by go_num, mem_take_step hlt Hr.out (by have := Hx.out; omega), pw_take_step hlt Hn.out (by intro i hi; omega), ⟨_, rfl⟩⟩
        case measure => simp [intOf]; omega
      · obtain ⟨i, rfl⟩ : ∃ i, j = i + 1 := ⟨j - 1, by omega⟩
        have hi : i < l.length := by omega
        have hw := wrap64_pred i (by omega)
        have hgt : decide ((((i + 1 : Nat) : Int)) > 0) = true := decide_eq_true (by omega)
        obtain ⟨b, off, rfl, -, hc⟩ := h.at_ (i + 1) hlt
        obtain ⟨b2, off2, he, -, hc2⟩ := h.at_ i hi
        obtain ⟨rfl, rfl⟩ : b = b2 ∧ off = off2 := by simpa using he
        by_cases c2 : l[i + 1] ≤ l[i]
        · have d2 : decide (l[i] ≥ l[i + 1]) = true := decide_eq_true c2
          have C2 := Lib.hid c2; clear c2
          go_wp2_with ((go_at_call 107; (with_reducible refine (isPoint_q n l[i + 1] _ n0 n1).mono ?_); rintro e w1 ⟨rfl, m, rfl⟩))
          go_ret
          exact ⟨ret_bool (by rw [eq_comm]; exact trackB_no fun hp => pw_take_not hlt (by have := C2.out; omega) hp.2), ⟨_, rfl⟩⟩
        · have d2 : decide (l[i] ≥ l[i + 1]) = false := decide_eq_false c2
          have C2 := Lib.hid c2; clear c2
          go_wp2_with ((go_at_call 107; (with_reducible refine (isPoint_q n l[i + 1] _ n0 n1).mono ?_); rintro e w1 ⟨rfl, m, rfl⟩))
          go_roundw
          case rel => exact ⟨i + 2, by omega, by go_num, mem_take_step hlt Hr.out (by have := Hx.out; omega), pw_take_step hlt Hn.out (by
            intro q hq; have : q = i := (by omega); subst this; have := C2.out; omega), ⟨_, rfl⟩⟩
          case measure => simp [intOf]; omega
    · go_wp2
      go_ret
      refine ⟨ret_bool ?_, ⟨_, rfl⟩⟩
      have h1 := Hr.out; have h2 := Hn.out; rw [List.take_of_length_le (by omega)] at h1 h2
      unfold trackB
      rw [decide_eq_true (show Inc n l from ⟨h1, h2⟩)]; simp
theorem isTracked_rd (n : Int) (v : Value) (l : List Int) (fp : List Nat) (w : World) (h : Rd w v l fp) (n0 : 0 ≤ n) (n1 : n ≤ 1000) :
    Calls Tryz.prog 102 #[.int .i64 n, v] w fun e w' => e = .returned (.bool (trackB n l)) ∧ Drew w w' := by
  obtain ⟨a, cap, rfl, hI⟩ := h.ints
  exact isTracked_any n a cap l fp w hI n0 n1
def wfT (t : Table) : Bool := trackB 20 t.tracked && (inR t.patterns.length 1 3000 && (decide (t.distances.length = t.patterns.length) && (t.patterns.all (patB 20 t.tracked.length) && t.distances.all (fun d => inR d 0 3000))))
theorem wfT_iff {t : Table} : wfT t = true ↔ trackB 20 t.tracked = true ∧ (1 ≤ t.patterns.length ∧ t.patterns.length ≤ 3000) ∧ t.distances.length = t.patterns.length ∧ (∀ x ∈ t.patterns, patB 20 t.tracked.length x = true) ∧ (∀ d ∈ t.distances, inR d 0 3000 = true) := by
  simp [wfT, inR]; omega
theorem mem_take_stepR {l : List (List Int)} {j : Nat} (h : j < l.length) {P : List Int → Prop} (h1 : ∀ x ∈ l.take j, P x) (h2 : P l[j]) : ∀ x ∈ l.take (j + 1), P x := by
  rw [take_succ_get l j h]
  intro x hx
  rcases List.mem_append.1 hx with hx | hx
  · exact h1 x hx
  · simp at hx; subst hx; exact h2


end Go.Proofs.YtkhdmiemfpelcaaGreat

namespace Go.Proofs.YtkhdmiemfpelcaaGreat
open Go.RowKit
set_option maxRecDepth 10000

theorem validPz_facts {x : Puzzle} (h : validPz x = true) : 1 ≤ x.points ∧ x.points ≤ 20 ∧ x.moves.length ≤ 8 ∧ ∀ y ∈ x.moves, (y.length : Int) = x.points ∧ permB y = true := by
  unfold validPz at h
  rw [Bool.and_eq_true] at h
  have h1 := h.1
  unfold gensB at h1
  rw [Bool.and_eq_true, Bool.and_eq_true, inR_iff, decide_eq_true_iff, List.all_eq_true] at h1
  refine ⟨h1.1.1.1, h1.1.1.2, h1.1.2, fun y hy => ?_⟩
  have := h1.2 y hy
  unfold genB at this
  simpa using this
theorem validPz_pn {x : Puzzle} (h : validPz x = true) : ∀ g ∈ x.moves, PM.PN x.points.toNat g := by
  intro g hg
  obtain ⟨h1, h2, h3, h4⟩ := validPz_facts h
  obtain ⟨h5, h6⟩ := h4 g hg
  exact ⟨by omega, (permB_iff.1 h6).2⟩
/-- the tables that can be checked -/
def checkT (x : Puzzle) (t : Table) : Bool := validPz x && (wfT t && (trackB x.points t.tracked && t.patterns.all (patB x.points t.tracked.length)))
theorem checkT_iff {x : Puzzle} {t : Table} : checkT x t = true ↔ validPz x = true ∧ wfT t = true ∧ trackB x.points t.tracked = true ∧ ∀ p ∈ t.patterns, patB x.points t.tracked.length p = true := by
  simp [checkT]
/-- the index of the first pattern that is this one, -1 if there is none -/
def idxL (l : List (List Int)) (p : List Int) : Int := idxF (fun q => decide (q = p)) l
/-- the pattern behind a letter -/
def nxt (x : Puzzle) (p : List Int) (l : Int) : List Int := PM.comp p (mv x.moves l)
/-- where a letter leads -/
def nextI (x : Puzzle) (t : Table) (p : List Int) (l : Int) : Int := idxL t.patterns (nxt x p l)
/-- a letter leads to an entry of this distance -/
def leads (x : Puzzle) (t : Table) (p : List Int) (d : Int) (l : Int) : Bool := decide (0 ≤ nextI x t p l) && decide (t.distances.getD (nextI x t p l).toNat 0 = d)
/-- the first letter that leads to an entry of this distance, 0 if there is none -/
def descL (x : Puzzle) (t : Table) (p : List Int) (d : Int) : Int := ((ltrs x.moves.length).find? (leads x t p d)).getD 0
structure Fault where
  kind : Int
  entry : Int
  letter : Int
instance : Rp Fault where
  size := 3
  rep _ cs x fp := cs = [Value.int .i64 x.kind, Value.int .i64 x.entry, Value.int .i64 x.letter] ∧ (I64 x.kind ∧ I64 x.entry ∧ I64 x.letter) ∧ fp = []
  len h := by rw [h.1]; rfl
  frame h _ := h
  lt h := by rw [h.2.2]; simp
def atD (t : Table) (i : Int) : Int := t.distances.getD i.toNat 0
def atP (t : Table) (i : Nat) : List Int := t.patterns.getD i []
def one (b : Bool) (f : Fault) : List Fault := if b = true then [f] else []
/-- the fault of a letter -/
def letF (x : Puzzle) (t : Table) (i : Nat) (l : Int) : List Fault :=
  if nextI x t (atP t i) l < 0 then [⟨4, i, l⟩] else if inR (atD t (nextI x t (atP t i) l) - atD t i) (-1) 1 = true then [] else [⟨5, i, l⟩]
def entF (x : Puzzle) (t : Table) (i : Nat) : List Fault :=
  one (decide (i = 0) && (decide (atD t i ≠ 0) || decide (atP t 0 ≠ t.tracked))) ⟨1, i, 0⟩ ++
  (one (decide (idxL t.patterns (atP t i) < i)) ⟨2, i, 0⟩ ++
  (one (decide (0 < i) && decide (atD t i = 0)) ⟨3, i, 0⟩ ++
  ((ltrs x.moves.length).flatMap (letF x t i) ++
  one (decide (0 < atD t i) && decide (descL x t (atP t i) (atD t i - 1) = 0)) ⟨6, i, 0⟩)))
theorem idxF_nonneg_or {α : Type} (pr : α → Bool) (l : List α) : idxF pr l = -1 ∨ ∃ k : Nat, ∃ h : k < l.length, idxF pr l = k ∧ pr l[k] = true := by
  unfold idxF
  cases h : l.findIdx? pr with
  | none => exact .inl rfl
  | some i =>
    right
    obtain ⟨hi, hp, -⟩ := List.findIdx?_eq_some_iff_getElem.1 h
    exact ⟨i, hi, rfl, hp⟩
theorem idxL_lt {l : List (List Int)} {p : List Int} : -1 ≤ idxL l p ∧ idxL l p < l.length := by
  rcases idxF_nonneg_or (fun q => decide (q = p)) l with h | ⟨k, hk, h, -⟩
  · unfold idxL; omega
  · unfold idxL; omega
theorem nxt_pat {x : Puzzle} {k : Nat} {p : List Int} {l : Int} (hv : validPz x = true) (hp : patB x.points k p = true) (hl : l ∈ ltrs x.moves.length) : patB x.points k (nxt x p l) = true := by
  obtain ⟨h1, h2, h3, h4⟩ := validPz_facts hv
  obtain ⟨h5, h6, h7⟩ := patB_iff.1 hp
  have hm := mv_pn (validPz_pn hv) hl
  refine patB_iff.2 ⟨by unfold nxt; rw [PM.comp_len]; exact h5, fun y hy => ?_, ?_⟩
  · obtain ⟨z, hz, rfl⟩ := List.mem_map.1 hy
    have := h6 z hz
    have := hm.rng this.1 (by omega)
    omega
  · unfold nxt PM.comp
    rw [List.nodup_iff_pairwise_ne, List.pairwise_map]
    refine (List.nodup_iff_pairwise_ne.1 h7).imp_of_mem fun {a b} ha hb hab he => hab ?_
    have h8 := h6 a ha; have h9 := h6 b hb
    exact hm.inj h8.1 (by omega) h9.1 (by omega) he
end Go.Proofs.YtkhdmiemfpelcaaGreat

namespace Go.Proofs.YtkhdmiemfpelcaaGreat
open Go.RowKit
set_option maxRecDepth 10000

/-- the patterns met so far and their depths -/
abbrev Met16 := List (List Int) × List Int
/-- a pattern of depth d is met; none: too many -/
def bMeet (s : Met16) (d : Int) (y : List Int) : Option Met16 := if y ∈ s.1 then some s else if s.1.length = 3000 then none else some (s.1 ++ [y], s.2 ++ [d])
/-- the letters from an entry -/
def bLets (x : Puzzle) (q : List Int) (d : Int) : List Int → Met16 → Option Met16
  | [], s => some s
  | l :: ls, s => (bMeet s d (nxt x q l)).bind (bLets x q d ls)
/-- the entries from the k-th on; n: enough -/
def bFrom (x : Puzzle) : Nat → Nat → Met16 → Option Met16
  | 0, _, s => some s
  | n + 1, k, s => if k < s.1.length then (bLets x (s.1.getD k []) (s.2.getD k 0 + 1) (ltrs x.moves.length) s).bind (bFrom x n (k + 1)) else some s
def bfs16 (x : Puzzle) (tr : List Int) : Option Met16 := if (validPz x && trackB x.points tr) = true then bFrom x 3001 0 ([tr], [0]) else none
theorem bMeet_len {s s' : Met16} {d : Int} {y : List Int} (h : bMeet s d y = some s') (h1 : s.1.length = s.2.length) (h2 : s.1.length ≤ 3000) : s'.1.length = s'.2.length ∧ s'.1.length ≤ 3000 ∧ s.1.length ≤ s'.1.length := by
  unfold bMeet at h
  split at h
  · injection h with h; subst h; exact ⟨h1, h2, Nat.le_refl _⟩
  · split at h
    · cases h
    · injection h with h; subst h; simp; omega
theorem bLets_len {x : Puzzle} {q : List Int} {d : Int} : ∀ {ls : List Int} {s s' : Met16}, bLets x q d ls s = some s' → s.1.length = s.2.length → s.1.length ≤ 3000 → s'.1.length = s'.2.length ∧ s'.1.length ≤ 3000 ∧ s.1.length ≤ s'.1.length
  | [], s, s', h, h1, h2 => by unfold bLets at h; injection h with h; subst h; exact ⟨h1, h2, Nat.le_refl _⟩
  | l :: ls, s, s', h, h1, h2 => by
    unfold bLets at h
    rw [Option.bind_eq_some_iff] at h
    obtain ⟨s1, e1, e2⟩ := h
    obtain ⟨a, b, c⟩ := bMeet_len e1 h1 h2
    obtain ⟨a', b', c'⟩ := bLets_len e2 a b
    exact ⟨a', b', Nat.le_trans c c'⟩
end Go.Proofs.YtkhdmiemfpelcaaGreat

namespace Go.Proofs.YtkhdmiemfpelcaaGreat
open Go.RowKit
set_option maxRecDepth 10000

/-- a precedes b -/
def prec : List Int → List Int → Bool
  | a :: xs, b :: ys => if a = b then prec xs ys else decide (a < b)
  | _, _ => false
theorem prec_irr : ∀ (a : List Int), prec a a = false
  | [] => rfl
  | a :: xs => by simp [prec, prec_irr xs]
theorem prec_trans : ∀ {a b c : List Int}, a.length = b.length → b.length = c.length → prec a b = true → prec b c = true → prec a c = true
  | [], _, _, _, _, h, _ => by cases h
  | _ :: _, [], _, h, _, _, _ => by cases h
  | _ :: _, _ :: _, [], _, h, _, _ => by cases h
  | a :: xs, b :: ys, c :: zs, h1, h2, h3, h4 => by
    unfold prec at h3 h4 ⊢
    by_cases e1 : a = b
    · by_cases e2 : b = c
      · rw [if_pos e1] at h3; rw [if_pos e2] at h4; rw [if_pos (e1.trans e2)]
        exact prec_trans (by simpa using h1) (by simpa using h2) h3 h4
      · rw [if_neg e2] at h4; subst e1; rw [if_neg e2]; exact h4
    · rw [if_neg e1] at h3
      have h3 := of_decide_eq_true h3
      by_cases e2 : b = c
      · subst e2; rw [if_neg e1]; exact decide_eq_true h3
      · rw [if_neg e2] at h4
        have h4 := of_decide_eq_true h4
        rw [if_neg (by omega)]; exact decide_eq_true (by omega)
theorem prec_tri : ∀ {a b : List Int}, a.length = b.length → a ≠ b → prec a b = false → prec b a = true
  | [], [], _, h, _ => absurd rfl h
  | [], _ :: _, h, _, _ => by cases h
  | _ :: _, [], h, _, _ => by cases h
  | a :: xs, b :: ys, h1, h2, h3 => by
    unfold prec at h3 ⊢
    by_cases e1 : a = b
    · subst e1
      rw [if_pos rfl] at h3 ⊢
      exact prec_tri (by simpa using h1) (fun e => h2 (by rw [e])) h3
    · rw [if_neg e1] at h3
      rw [if_neg (fun e => e1 e.symm)]
      have := of_decide_eq_false h3
      exact decide_eq_true (by omega)
theorem prec_drop : ∀ {a b : List Int} {j : Nat}, (∀ i, i < j → a[i]? = b[i]?) → j ≤ a.length → j ≤ b.length → prec a b = prec (a.drop j) (b.drop j)
  | _, _, 0, _, _, _ => by simp
  | [], _, j + 1, _, h, _ => by simp at h
  | _ :: _, [], j + 1, _, _, h => by simp at h
  | a :: xs, b :: ys, j + 1, h, h1, h2 => by
    have h0 := h 0 (by omega)
    simp only [List.getElem?_cons_zero, Option.some.injEq] at h0
    rw [List.drop_succ_cons, List.drop_succ_cons]
    rw [show prec (a :: xs) (b :: ys) = if a = b then prec xs ys else decide (a < b) from rfl, if_pos h0]
    exact prec_drop (fun i hi => by simpa using h (i + 1) (by omega)) (by simpa using h1) (by simpa using h2)
theorem prec_at {a b : List Int} {j : Nat} (h : ∀ i, i < j → a[i]? = b[i]?) (h1 : j < a.length) (h2 : j < b.length) (hne : a[j] ≠ b[j]) : prec a b = decide (a[j] < b[j]) := by
  rw [prec_drop h (by omega) (by omega), List.drop_eq_getElem_cons h1, List.drop_eq_getElem_cons h2]
  rw [show ∀ (x y : Int) (xs ys : List Int), prec (x :: xs) (y :: ys) = if x = y then prec xs ys else decide (x < y) from fun _ _ _ _ => rfl, if_neg hne]
theorem prec_all {a b : List Int} (h : ∀ i, i < a.length → a[i]? = b[i]?) (hl : a.length = b.length) : prec a b = false := by
  rw [prec_drop h (Nat.le_refl _) (by omega), List.drop_length]
  rfl

/-- so: an index of the lists L, sorted by them -/
structure Srt (m : Nat) (L : List (List Int)) (so : List Nat) : Prop where
  len : so.length = L.length
  many : ∀ x ∈ L, x.length = m
  in_ : ∀ i ∈ so, i < L.length
  all : ∀ i, i < L.length → i ∈ so
  asc : ∀ (i j : Nat) (hi : i < so.length) (hj : j < so.length), i < j → prec (L.getD so[i] []) (L.getD so[j] []) = true
theorem Srt.nil (m : Nat) : Srt m [] [] := ⟨rfl, by simp, by simp, by simp, by simp⟩
theorem Srt.mem {m : Nat} {L : List (List Int)} {so : List Nat} (h : Srt m L so) {i : Nat} (hi : i < so.length) : L.getD so[i] [] ∈ L := by
  have := h.in_ so[i] (List.getElem_mem hi)
  rw [List.getD_eq_getElem?_getD, List.getElem?_eq_getElem this]
  exact List.getElem_mem this
/-- k: the place at which s is or would be -/
structure Slot (L : List (List Int)) (so : List Nat) (s : List Int) (k : Nat) : Prop where
  le : k ≤ so.length
  lo : ∀ (i : Nat) (hi : i < so.length), i < k → prec (L.getD so[i] []) s = true
  hi : ∀ (i : Nat) (hi : i < so.length), k ≤ i → prec (L.getD so[i] []) s = false
theorem Srt.below {m : Nat} {L : List (List Int)} {so : List Nat} (h : Srt m L so) {s : List Int} (hs : s.length = m) {k : Nat} (hk : k < so.length) (hp : prec (L.getD so[k] []) s = true) {i : Nat} (hi : i < so.length) (hik : i ≤ k) : prec (L.getD so[i] []) s = true := by
  rcases Nat.lt_or_eq_of_le hik with hlt | rfl
  · exact prec_trans (by rw [h.many _ (h.mem hi), h.many _ (h.mem hk)]) (by rw [h.many _ (h.mem hk), hs]) (h.asc i k hi hk hlt) hp
  · exact hp
theorem Srt.above {m : Nat} {L : List (List Int)} {so : List Nat} (h : Srt m L so) {s : List Int} (hs : s.length = m) {k : Nat} (hk : k < so.length) (hp : prec (L.getD so[k] []) s = false) {i : Nat} (hi : i < so.length) (hik : k ≤ i) : prec (L.getD so[i] []) s = false := by
  rcases hq : prec (L.getD so[i] []) s
  · rfl
  · rw [h.below hs hi hq hk hik] at hp; cases hp
theorem Srt.slot_mem {m : Nat} {L : List (List Int)} {so : List Nat} (h : Srt m L so) {s : List Int} {k : Nat} (hk : Slot L so s k) : s ∈ L ↔ ∃ hk : k < so.length, L.getD so[k] [] = s := by
  constructor
  · intro hm
    obtain ⟨i, hi, he⟩ := List.mem_iff_getElem.1 hm
    obtain ⟨t, ht, hte⟩ := List.mem_iff_getElem.1 (h.all i hi)
    have hts : L.getD so[t] [] = s := by rw [hte, List.getD_eq_getElem?_getD, List.getElem?_eq_getElem hi]; exact he
    rcases Nat.lt_trichotomy t k with hlt | heq | hgt
    · have := hk.lo t ht hlt
      rw [hts, prec_irr] at this; cases this
    · subst heq; exact ⟨ht, hts⟩
    · have h1 := h.asc k t (by omega) ht hgt
      have h2 := hk.hi k (by omega) (Nat.le_refl _)
      rw [hts] at h1; rw [h1] at h2; cases h2
  · rintro ⟨hk, he⟩
    rw [← he]; exact h.mem hk
/-- one list more -/
theorem Srt.add {m : Nat} {L : List (List Int)} {so : List Nat} (h : Srt m L so) {s : List Int} (hs : s.length = m) (hn : s ∉ L) {k : Nat} (hk : Slot L so s k) : Srt m (L ++ [s]) (so.take k ++ L.length :: so.drop k) := by
  have hD : ∀ (t : Nat) (ht : t < so.length), (L ++ [s]).getD so[t] [] = L.getD so[t] [] := fun t ht => by
    have := h.in_ so[t] (List.getElem_mem ht)
    simp only [List.getD_eq_getElem?_getD, List.getElem?_append_left this]
  have hS : (L ++ [s]).getD L.length [] = s := by simp [List.getD_eq_getElem?_getD]
  have hle := hk.le
  have hG : ∀ (t : Nat) (ht : t < (so.take k ++ L.length :: so.drop k).length), (L ++ [s]).getD (so.take k ++ L.length :: so.drop k)[t] [] = if t < k then L.getD (so.getD t 0) [] else if t = k then s else L.getD (so.getD (t - 1) 0) [] := by
    intro t ht
    have htl : t < so.length + 1 := by simp at ht; omega
    by_cases h1 : t < k
    · rw [if_pos h1]
      rw [List.getElem_append_left (by simp; omega), List.getElem_take]
      rw [hD t (by omega)]
      simp [List.getD_eq_getElem?_getD, List.getElem?_eq_getElem (show t < so.length by omega)]
    · rw [if_neg h1]
      have hkl : (so.take k).length = k := by simp; omega
      rw [List.getElem_append_right (by rw [hkl]; omega)]
      by_cases h2 : t = k
      · subst h2; rw [if_pos rfl]; simp only [hkl, Nat.sub_self, List.getElem_cons_zero]; exact hS
      · rw [if_neg h2]
        have h3 : t - (so.take k).length = (t - 1 - k) + 1 := by rw [hkl]; omega
        simp only [h3, List.getElem_cons_succ, List.getElem_drop]
        have h4 : k + (t - 1 - k) = t - 1 := by omega
        have h5 : t - 1 < so.length := by omega
        simp only [h4]
        rw [hD _ h5]
        simp [List.getD_eq_getElem?_getD, List.getElem?_eq_getElem h5]
  refine ⟨?_, ?_, ?_, ?_, ?_⟩
  · have := h.len; simp; omega
  · intro x hx
    rcases List.mem_append.1 hx with hx | hx
    · exact h.many x hx
    · simp at hx; subst hx; exact hs
  · intro i hi
    rw [List.length_append, List.length_singleton]
    rcases List.mem_append.1 hi with hi | hi
    · have := h.in_ i (List.mem_of_mem_take hi); omega
    · rcases List.mem_cons.1 hi with rfl | hi
      · omega
      · have := h.in_ i (List.mem_of_mem_drop hi); omega
  · intro i hi
    rw [List.length_append, List.length_singleton] at hi
    by_cases he : i = L.length
    · subst he; simp
    · have := h.all i (by omega)
      rw [← List.take_append_drop k so] at this
      rcases List.mem_append.1 this with h1 | h1
      · exact List.mem_append_left _ h1
      · exact List.mem_append_right _ (List.mem_cons_of_mem _ h1)
  · intro i j hi hj hij
    rw [hG i hi, hG j hj]
    have hjl : j < so.length + 1 := by simp at hj; omega
    have gd : ∀ (t : Nat) (ht : t < so.length), so.getD t 0 = so[t] := fun t ht => by simp [List.getD_eq_getElem?_getD, List.getElem?_eq_getElem ht]
    by_cases j1 : j < k
    · rw [if_pos j1, if_pos (by omega), gd i (by omega), gd j (by omega)]
      exact h.asc i j (by omega) (by omega) hij
    · rw [if_neg j1]
      by_cases j2 : j = k
      · subst j2
        rw [if_pos rfl, if_pos hij, gd i (by omega)]
        exact hk.lo i (by omega) hij
      · rw [if_neg j2, gd (j - 1) (by omega)]
        by_cases i1 : i < k
        · rw [if_pos i1, gd i (by omega)]
          exact h.asc i (j - 1) (by omega) (by omega) (by omega)
        · rw [if_neg i1]
          by_cases i2 : i = k
          · rw [if_pos i2]
            have hj1 : j - 1 < so.length := by omega
            have hne : L.getD so[j - 1] [] ≠ s := fun e => hn (e ▸ h.mem hj1)
            exact prec_tri (by rw [h.many _ (h.mem hj1), hs]) hne (hk.hi (j - 1) hj1 (by omega))
          · rw [if_neg i2, gd (i - 1) (by omega)]
            exact h.asc (i - 1) (j - 1) (by omega) (by omega) (by omega)
end Go.Proofs.YtkhdmiemfpelcaaGreat

namespace Go.Proofs.YtkhdmiemfpelcaaGreat
open Go.RowKit
set_option maxRecDepth 10000

set_option maxHeartbeats 1000000 in
theorem listPrecedes_rd (v u : Value) (l p : List Int) (f g : List Nat) (w : World) (h : Rd w v l f) (h' : Rd w u p g) (hl : l.length = p.length) :
    Calls Tryz.prog 108 #[v, u] w fun e w' => e = .returned (.bool (prec l p)) ∧ Drew w w' := by
  obtain ⟨a, cap, rfl, IL⟩ := h.ints
  obtain ⟨a', cap', rfl, IP⟩ := h'.ints
  have hb := IL.bound
  have hb' := IP.bound
  have Hl := Lib.hid hl
  clear hl
  go_enter Tryz.func108, Tryz.ntmps108
  go_wp2
  go_loopw [5] (fun i wr => ∃ j : Nat, j ≤ l.length ∧ i = .int .i64 j ∧ (∀ i, i < j → l[i]? = p[i]?) ∧ Drew w wr)
    (fun i _ => l.length - (intOf i).toNat)
  case atStart => exact ⟨0, Nat.zero_le _, rfl, by simp, Drew.refl _⟩
  case round =>
    obtain ⟨j, hj, rfl, hr, n, rfl⟩ := hrel
    have Hr := Lib.hid hr
    clear hr
    by_cases hlt : j < l.length
    · have hlt' : j < p.length := by have := Hl.out; omega
      obtain ⟨b, off, rfl, -, hc⟩ := IL.at_ j hlt
      obtain ⟨b', off', rfl, -, hc'⟩ := IP.at_ j hlt'
      rcases hq : (l[j] != p[j])
      · have heq : l[j] = p[j] := by simpa using hq
        have Heq := Lib.hid heq
        clear heq
        go_wp2
        go_quiet (fail)
        go_wp2
        go_roundw
        case rel => exact ⟨j + 1, by omega, by go_num, fun i hi => by
          rcases Nat.lt_or_eq_of_le (Nat.lt_succ_iff.1 hi) with h1 | rfl
          · exact Hr.out i h1
          · rw [List.getElem?_eq_getElem hlt, List.getElem?_eq_getElem hlt', Heq.out], ⟨_, rfl⟩⟩
        case measure => simp [intOf]; omega
      · have hne : l[j] ≠ p[j] := by simpa using hq
        have Hne := Lib.hid hne
        clear hne
        go_wp2
        go_quiet (fail)
        go_wp2
        go_quiet (fail)
        go_wp2
        go_ret
        exact ⟨ret_bool (prec_at Hr.out hlt hlt' Hne.out).symm, (((Drew.refl _).drewN _).drewN _).drewN _⟩
    · obtain rfl : j = l.length := by omega
      go_wp2
      go_ret
      exact ⟨ret_bool (prec_all Hr.out Hl.out).symm, ⟨_, rfl⟩⟩
/-- the index as numbers -/
def soI (so : List Nat) : List Int := so.map fun i : Nat => (i : Int)
theorem soI_len (so : List Nat) : (soI so).length = so.length := by simp [soI]
theorem soI_get (so : List Nat) {j : Nat} (h : j < so.length) : (soI so)[j]'(by rw [soI_len]; exact h) = (so[j] : Int) := by simp [soI]
/-- what a search holds, as its functions read it -/
structure SrR (w : World) (A1 A2 A3 : Option Addr) (C1 C2 C3 : Nat) (L : List (List Int)) (D : List Int) (so : List Nat) (ob : List Nat) (fps : List (List Nat)) (fd fs : List Nat) : Prop where
  ls : SeqA w A1 C1 L ob fps
  dp : IntsA w A2 C2 D fd
  st : IntsA w A3 C3 (soI so) fs
theorem SrR.keep {w w' : World} {A1 A2 A3 : Option Addr} {C1 C2 C3 : Nat} {L : List (List Int)} {D : List Int} {so : List Nat} {ob : List Nat} {fps : List (List Nat)} {fd fs : List Nat} (h : SrR w A1 A2 A3 C1 C2 C3 L D so ob fps fd fs) (ho : Only [] w w') : SrR w' A1 A2 A3 C1 C2 C3 L D so ob fps fd fs :=
  ⟨h.ls.frame fun b hb => ho.block b (h.ls.lt_all b hb) (by simp), h.dp.keep ho, h.st.keep ho⟩
theorem SrR.only {w w' : World} {A1 A2 A3 : Option Addr} {C1 C2 C3 : Nat} {L : List (List Int)} {D : List Int} {so : List Nat} {ob : List Nat} {fps : List (List Nat)} {fd fs fp : List Nat} (h : SrR w A1 A2 A3 C1 C2 C3 L D so ob fps fd fs) (ho : Only fp w w') (hd : ∀ g ∈ (ob ++ fps.flatten) ++ (fd ++ fs), g ∉ fp) : SrR w' A1 A2 A3 C1 C2 C3 L D so ob fps fd fs :=
  ⟨h.ls.frame fun b hb => ho.block b (h.ls.lt_all b hb) (hd b (List.mem_append_left _ hb)), h.dp.only ho fun b hb => hd b (List.mem_append_right _ (List.mem_append_left _ hb)), h.st.only ho fun b hb => hd b (List.mem_append_right _ (List.mem_append_right _ hb))⟩
set_option maxHeartbeats 2000000 in
theorem searchSlot_any (A1 A2 A3 : Option Addr) (C1 C2 C3 : Nat) (wh : Bool) (L : List (List Int)) (D : List Int) (so : List Nat) (ob : List Nat) (fps : List (List Nat)) (fd fs : List Nat) (m : Nat) (v : Value) (s : List Int) (f : List Nat) (w : World)
    (h : SrR w A1 A2 A3 C1 C2 C3 L D so ob fps fd fs) (hS : Srt m L so) (hv : Rd w v s f) (hs : s.length = m) (hL : L.length ≤ 3000) :
    Calls Tryz.prog 103 #[.agg #[.slice A1 L.length C1, .slice A2 D.length C2, .slice A3 so.length C3, .bool wh], v] w fun e w' => ∃ k : Nat, e = .returned (.int .i64 k) ∧ Slot L so s k ∧ k ≤ 3000 ∧ Only [] w w' := by
  have hlen : so.length ≤ 3000 := by rw [hS.len]; exact hL
  have HS := Lib.hid hS
  clear hS
  go_enter Tryz.func103, Tryz.ntmps103
  go_wp2
  go_loopw [5, 6] (fun lo hi wr => ∃ a b : Nat, a ≤ b ∧ b ≤ so.length ∧ lo = .int .i64 a ∧ hi = .int .i64 b ∧ (∀ (i : Nat) (hi : i < so.length), i < a → prec (L.getD so[i] []) s = true) ∧ (∀ (i : Nat) (hi : i < so.length), b ≤ i → prec (L.getD so[i] []) s = false) ∧ Drew (w.alloc (.cells #[.slice A1 L.length C1, .slice A2 D.length C2, .slice A3 so.length C3, .bool wh] 92)) wr)
    (fun lo hi _ => (intOf hi - intOf lo).toNat)
  case atStart => exact ⟨0, so.length, Nat.zero_le _, Nat.le_refl _, rfl, rfl, by simp, fun i hi h => absurd hi (Nat.not_lt.2 h), Drew.refl _⟩
  case round =>
    obtain ⟨a, b, hab, hbl, rfl, rfl, hlo, hhi, n, rfl⟩ := hrel
    have Hlo := Lib.hid hlo
    have Hhi := Lib.hid hhi
    clear hlo hhi
    by_cases hlt : a < b
    · obtain ⟨mid, hmid⟩ : ∃ mid, mid = (a + b) / 2 := ⟨_, rfl⟩
      have hm1 : a ≤ mid := by omega
      have hm2 : mid < b := by omega
      have hq1 : ((a : Int) + (b : Int)) / 2 = (mid : Int) := by omega
      have hq2 : ((a : Int) + (b : Int)).tdiv 2 = (mid : Int) := by rw [Int.tdiv_eq_ediv_of_nonneg (by omega)]; exact hq1
      clear hmid
      have hml : mid < so.length := by omega
      obtain ⟨b3, off3, rfl, -, hc3⟩ := h.st.at_ mid (by rw [soI_len]; exact hml)
      have hin := HS.out.in_ so[mid] (List.getElem_mem hml)
      have hget := soI_get so hml
      obtain ⟨i0, hi0⟩ : ∃ i0, i0 = so[mid] := ⟨_, rfl⟩
      rw [hget, ← hi0] at hc3
      rw [← hi0] at hin
      obtain ⟨b1, off1, u, rfl, -, hc1, hu⟩ := h.ls.atRow i0 hin
      have hmany := HS.out.many L[i0] (List.getElem_mem hin)
      have hlu : L[i0].length = s.length := by rw [hmany, hs]
      have hD : L.getD so[mid] [] = L[i0] := by rw [← hi0, List.getD_eq_getElem?_getD, List.getElem?_eq_getElem hin]; rfl
      have HD := Lib.hid hD
      have HU := Lib.hid hlu
      have K : Only [] w (w.alloc (.cells #[.slice (some ⟨b1, off1, none⟩) L.length C1, .slice A2 D.length C2, .slice (some ⟨b3, off3, none⟩) so.length C3, .bool wh] 92)) := (Only.refl _ _).alloc _
      have hk3 := K.cell (by simp) hc3
      have hk1 := K.cell (by simp) hc1
      clear hget hi0 hmany hlu hD
      go_wp2
      go_quiet ((go_at_call 108; exact quiet_drewN (listPrecedes_rd u v L[i0] s _ _ _ (Rp.keep hu (K.drewN _)) (Rp.keep hv (K.drewN _)) HU.out)))
      go_wp2
      · have hp : prec L[i0] s = true := by assumption
        go_roundw
        case rel => exact ⟨mid + 1, b, by omega, hbl, by go_num, by go_num, fun i hi h1 => HS.out.below hs hml (by rw [HD.out]; exact hp) hi (by omega), Hhi.out, by first | exact (Drew.refl _).drewN _ | exact ((Drew.refl _).drewN _).drewN _⟩
        case measure => simp [intOf]; omega
      · have hp : prec L[i0] s = false := by assumption
        go_roundw
        case rel => exact ⟨a, mid, hm1, by omega, by go_num, by go_num, Hlo.out, fun i hi h1 => HS.out.above hs hml (by rw [HD.out]; exact hp) hi h1, by first | exact (Drew.refl _).drewN _ | exact ((Drew.refl _).drewN _).drewN _⟩
        case measure => simp [intOf]; omega
    · obtain rfl : a = b := by omega
      go_wp2
      go_ret
      exact ⟨a, rfl, ⟨hbl, Hlo.out, Hhi.out⟩, by omega, (by with_reducible repeat (first | exact Only.refl _ _ | assumption | refine Only.drewN ?_ _ | refine Only.drew ?_ | refine Only.alloc ?_ _ | refine Only.setCell ?_ (by intro hh; exfalso; simp at hh; try omega) _ | refine Only.trans ?_ (by assumption)))⟩
set_option maxHeartbeats 2000000 in
theorem searchIndex_at (A1 A2 A3 : Option Addr) (C1 C2 C3 : Nat) (wh : Bool) (L : List (List Int)) (D : List Int) (so : List Nat) (ob : List Nat) (fps : List (List Nat)) (fd fs : List Nat) (m : Nat) (v : Value) (s : List Int) (f : List Nat) (w : World)
    (h : SrR w A1 A2 A3 C1 C2 C3 L D so ob fps fd fs) (hS : Srt m L so) (hv : Rd w v s f) (hs : s.length = m) (hL : L.length ≤ 3000) :
    Calls Tryz.prog 97 #[.agg #[.slice A1 L.length C1, .slice A2 D.length C2, .slice A3 so.length C3, .bool wh], v] w fun e w' => ∃ r : Int, e = .returned (.int .i64 r) ∧ (0 ≤ r ↔ s ∈ L) ∧ (r = -1 ∨ ∃ i : Nat, r = i ∧ i < L.length ∧ L.getD i [] = s) ∧ Only [] w w' := by
  have hlen : so.length ≤ 3000 := by rw [hS.len]; exact hL
  have HS := Lib.hid hS
  clear hS
  have K : Only [] w (w.alloc (.cells #[.slice A1 L.length C1, .slice A2 D.length C2, .slice A3 so.length C3, .bool wh] 92)) := (Only.refl _ _).alloc _
  have hB := Blk.new w [.slice A1 L.length C1, .slice A2 D.length C2, .slice A3 so.length C3, .bool wh] 92
  go_enter Tryz.func97, Tryz.ntmps97
  go_wp2_with (first
    | (go_at_call 103; (with_reducible refine (searchSlot_any A1 A2 A3 C1 C2 C3 wh L D so ob fps fd fs m _ s f _ (h.keep K) HS.out (Rp.keep hv K) hs hL).mono ?_); rintro e w1 ⟨k, rfl, hk, hk3, t1⟩; have y0 := (hB.keep t1).cell 0 rfl; have y2 := (hB.keep t1).cell 2 rfl)
    | fail "no arm")
  have KK := K.trans t1
  have Hk := Lib.hid hk
  clear hk
  by_cases hlt : k < so.length
  · obtain ⟨b3, off3, rfl, -, hc3⟩ := h.st.at_ k (by rw [soI_len]; exact hlt)
    have hin := HS.out.in_ so[k] (List.getElem_mem hlt)
    have hget := soI_get so hlt
    obtain ⟨i0, hi0⟩ : ∃ i0, i0 = so[k] := ⟨_, rfl⟩
    rw [hget, ← hi0] at hc3
    rw [← hi0] at hin
    obtain ⟨b1, off1, u, rfl, -, hc1, hu⟩ := h.ls.atRow i0 hin
    have hD : L.getD so[k] [] = L[i0] := by rw [← hi0, List.getD_eq_getElem?_getD, List.getElem?_eq_getElem hin]; rfl
    have HD := Lib.hid hD
    have hk3' := KK.cell (by simp) hc3
    have hk1 := KK.cell (by simp) hc1
    clear hget hi0 hD hc3 hc1 hB
    go_quiet ((go_at_call 74; exact quiet_drewN0 (equalInts_rd u v L[i0] s _ _ _ (Rp.keep hu (KK.drewN _)) (Rp.keep hv (KK.drewN _)))))
    go_wp2
    · have hp : eqV L[i0] s = true := by assumption
      go_ret
      exact ⟨i0, rfl, ⟨fun _ => (HS.out.slot_mem Hk.out).2 ⟨hlt, HD.out.trans (eqV_iff.1 hp)⟩, fun _ => by omega⟩, .inr ⟨i0, rfl, hin, by rw [List.getD_eq_getElem?_getD, List.getElem?_eq_getElem hin]; exact eqV_iff.1 hp⟩, (by with_reducible repeat (first | exact Only.refl _ _ | assumption | refine Only.drewN ?_ _ | refine Only.drew ?_ | refine Only.alloc ?_ _ | refine Only.setCell ?_ (by intro hh; exfalso; simp at hh; try omega) _ | refine Only.trans ?_ (by assumption)))⟩
    · have hp : eqV L[i0] s = false := by assumption
      go_ret
      exact ⟨-1, rfl, ⟨fun h => by omega, fun h => by
        obtain ⟨_, he⟩ := (HS.out.slot_mem Hk.out).1 h
        exact absurd (HD.out.symm.trans he) (eqV_iff'.1 hp)⟩, .inl rfl, (by with_reducible repeat (first | exact Only.refl _ _ | assumption | refine Only.drewN ?_ _ | refine Only.drew ?_ | refine Only.alloc ?_ _ | refine Only.setCell ?_ (by intro hh; exfalso; simp at hh; try omega) _ | refine Only.trans ?_ (by assumption)))⟩
  · have hge : so.length ≤ k := by omega
    clear hB
    go_quiet (fail)
    go_wp2
    go_ret
    exact ⟨-1, rfl, ⟨fun h => by omega, fun h => by
      obtain ⟨h1, _⟩ := (HS.out.slot_mem Hk.out).1 h
      exact absurd h1 hlt⟩, .inl rfl, (by with_reducible repeat (first | exact Only.refl _ _ | assumption | refine Only.drewN ?_ _ | refine Only.drew ?_ | refine Only.alloc ?_ _ | refine Only.setCell ?_ (by intro hh; exfalso; simp at hh; try omega) _ | refine Only.trans ?_ (by assumption)))⟩
theorem searchIndex_any (A1 A2 A3 : Option Addr) (C1 C2 C3 : Nat) (wh : Bool) (L : List (List Int)) (D : List Int) (so : List Nat) (ob : List Nat) (fps : List (List Nat)) (fd fs : List Nat) (m : Nat) (v : Value) (s : List Int) (f : List Nat) (w : World)
    (h : SrR w A1 A2 A3 C1 C2 C3 L D so ob fps fd fs) (hS : Srt m L so) (hv : Rd w v s f) (hs : s.length = m) (hL : L.length ≤ 3000) :
    Calls Tryz.prog 97 #[.agg #[.slice A1 L.length C1, .slice A2 D.length C2, .slice A3 so.length C3, .bool wh], v] w fun e w' => ∃ r : Int, e = .returned (.int .i64 r) ∧ (0 ≤ r ↔ s ∈ L) ∧ Only [] w w' := by
  refine (searchIndex_at A1 A2 A3 C1 C2 C3 wh L D so ob fps fd fs m v s f w h hS hv hs hL).mono ?_
  rintro e w' ⟨r, e1, h1, -, h2⟩
  exact ⟨r, e1, h1, h2⟩
end Go.Proofs.YtkhdmiemfpelcaaGreat

namespace Go.Proofs.YtkhdmiemfpelcaaGreat
open Go.RowKit
set_option maxRecDepth 10000

section
variable {P : Program} {α : Type} [Rp α] {ops : Array Oper} {rest : List Oper} {o : Oper} {a : Act} {w : World} {Q : Exit → Act → World → Prop} {K : Act → World → Prop}
/-- append(v, y), y one element -/
theorem wp_push2 (s x : Operand) (t : TypeId)
    (ho : o.op = .call { callee := .builtin .append, args := #[s, x], argTypes := #[t, t] })
    (B : Nat) (e : TypeId) (i : TypeInfo) (z : Value) (bytes : Nat) (ht : P.underlying t = some (.slice e)) (hi : P.info? e = some i) (hz : i.zero = some z)
    (hsize : i.size = Rp.size α) (hby : i.bytes = bytes) (hzs : z.cells.size = Rp.size α) (hsz : 0 < Rp.size α) (hbb : bytes ≤ 65536)
    (w0 : World) (v : Value) (l : List α) (fs : List (List Nat)) (hs : a.eval s = v) (hA : Acc B e w0 v l fs) (hK0 : Only [] w0 w) (hB : B ≤ w0.heap.size)
    (g c : Nat) (cs : List Value) (y : α) (fp : List Nat) (hx : a.eval x = .slice (some ⟨g, 0, none⟩) 1 c) (hsrc : ∀ j u, cs[j]? = some u → w.cell? ⟨g, j, none⟩ = some u) (hcs : ∀ u ∈ cs, u.oneCell' = true)
    (hy : Rp.rep w cs y fp) (hap : ∀ b ∈ fp, v.ownBlock ≠ some b) (hlen : l.length + 1 ≤ 1073741824)
    (h : ∀ v' w', Acc B e w' v' (l ++ [y]) (fs ++ [fp]) → Only v.ownBlock.toList w w' → (∀ wz, Only [] wz w → wz.heap.size ≤ B → Only [] wz w') →
      (Fresh B w0 fs.flatten → Fresh w0.heap.size w fp → Fresh B w' (fs ++ [fp]).flatten) → (v'.ownBlock = v.ownBlock ∨ v'.ownBlock = some w.heap.size) → K (a.put o.dst v') w') : o.wp P a w K Q := by
  obtain ⟨css, hown, hcl, hre⟩ := (hA.keep hK0).own
  have hcsl : cs.length = 1 * Rp.size α := by rw [Nat.one_mul]; exact Rp.len hy
  have hfl := hA.fl
  have hbytes : (l.length + 1) * bytes ≤ 140737488355328 := by
    have := Nat.mul_le_mul hlen hbb; omega
  refine wp_app w s x t ho B e i z (Rp.size α) bytes ht hi hz hsize hby hzs hsz v l.length css.flatten hs hown (some ⟨g, 0, none⟩) 1 c cs hx hcsl ?_ (by simp) hcs (by unfold maxLen; omega) hbytes (Nat.le_trans hB hK0.size) ?_
  · intro ad had j u hu
    injection had with had; subst had
    have hadd : (⟨g, 0, none⟩ : Addr).add j = ⟨g, j, none⟩ := by unfold Addr.add; split <;> simp_all
    rw [hadd]; exact hsrc j u hu
  intro v' w' hO hg hb
  have hW : Only v.ownBlock.toList w w' := (Only.refl _ _).grown hg (by intro k hk _; simp [hk])
  have hlt := (hA.keep hK0).lt
  have hap' : ∀ b ∈ fp, b ∉ v.ownBlock.toList := fun b hb hm => hap b hb (by simpa using hm)
  have hfs : ∀ b ∈ fs.flatten, b ∉ v.ownBlock.toList := fun b hb hm => hA.apart b (by simpa using hm) hb
  refine h v' w' ⟨⟨css ++ [cs], ?_, by simp [hcl], fun k h1 h2 h3 => ?_⟩, by simp [hfl], ?_⟩ hW ?_ ?_ hb
  · rw [List.length_append, List.flatten_append]; simpa using hO
  · by_cases hk : k < l.length
    · rw [List.getElem_append_left (by rw [hcl]; exact hk), List.getElem_append_left hk, List.getElem_append_left (by rw [hfl]; exact hk)]
      exact Rp.only (hre k (by omega) hk (by omega)) hW fun b hb => hfs b (List.mem_flatten.2 ⟨_, List.getElem_mem _, hb⟩)
    · have : k = l.length := by simp at h2; omega
      subst this
      rw [List.getElem_append_right (by rw [hcl]; omega), List.getElem_append_right (by omega), List.getElem_append_right (by rw [hfl]; omega)]
      simpa [hcl, hfl] using Rp.only hy hW hap'
  · intro g' hg' hm
    rw [List.flatten_append] at hm
    simp only [List.flatten_cons, List.flatten_nil, List.append_nil] at hm
    rcases hb with hb | hb
    · rw [hb] at hg'
      rcases List.mem_append.1 hm with hm | hm
      · exact hA.apart g' hg' hm
      · exact hap g' hm hg'
    · rw [hb] at hg'; injection hg' with hg'; subst hg'
      rcases List.mem_append.1 hm with hm | hm
      · exact absurd (hlt _ hm) (by omega)
      · exact absurd (Rp.lt hy _ hm) (by omega)
  · intro wz hz hzB
    refine hz.then_ hW fun b hm hb => ?_
    have hm' : v.ownBlock = some b := by simpa using hm
    have := (hA.ownlt b hm').1
    omega
  · intro hF hFy
    rw [List.flatten_append]
    simp only [List.flatten_cons, List.flatten_nil, List.append_nil]
    have hF' := (hF.keep hK0)
    refine ((Fresh.append hF' hFy hB fun b hb => hF.lt b hb)).only hW fun b hm => ?_
    rcases List.mem_append.1 hm with hm | hm
    · exact hfs b hm
    · exact hap' b hm
end

/-- the appended slice v reads as l; the blocks of G (of the call's own) are as in the world W; nothing older than w0 was written -/
def AccK {α : Type} [Rp α] (w0 : World) (B : Nat) (e : TypeId) (G : List Nat) (W wx : World) (v : Value) (l : List α) : Prop :=
  ∃ fs, Acc B e wx v l fs ∧ Fresh B wx fs.flatten ∧ Only [] w0 wx ∧ (∀ b ∈ G, wx.heap[b]? = W.heap[b]?) ∧ (∀ b ∈ G, b < wx.heap.size) ∧ (∀ b ∈ G, b ∉ v.ownBlock.toList)

section
variable {α : Type} [Rp α] {w0 W wx wy : World} {B : Nat} {e : TypeId} {G : List Nat} {v : Value} {l : List α}
theorem AccK.keep (h : AccK w0 B e G W wx v l) (ho : Only [] wx wy) : AccK w0 B e G W wy v l := by
  obtain ⟨fs, a, b, c, d, f, g⟩ := h
  exact ⟨fs, a.keep ho, b.keep ho, c.trans ho, fun x hx => (ho.block x (f x hx) (by simp)).trans (d x hx), fun x hx => Nat.lt_of_lt_of_le (f x hx) ho.size, g⟩
theorem AccK.only (h : AccK w0 B e G W wx v l) : Only [] w0 wx := by
  obtain ⟨fs, a, b, c, d, f, g⟩ := h
  exact c
theorem AccK.lt (h : AccK w0 B e G W wx v l) : ∀ b ∈ G, b < wx.heap.size := by
  obtain ⟨fs, a, b, c, d, f, g⟩ := h
  exact f
theorem AccK.frame (h : AccK w0 B e G W wx v l) {β : Type} [Rp β] {cs : List Value} {x : β} {fp : List Nat} (hr : Rp.rep W cs x fp) (hs : ∀ b ∈ fp, b ∈ G) : Rp.rep wx cs x fp := by
  obtain ⟨fs, a, b, c, d, f, g⟩ := h
  exact Rp.frame hr fun b hb => d b (hs b hb)
theorem AccK.cell (h : AccK w0 B e G W wx v l) {p : Addr} {u : Value} (hc : W.cell? p = some u) (hs : p.block ∈ G) : wx.cell? p = some u := by
  obtain ⟨fs, a, b, c, d, f, g⟩ := h
  exact (World.cell?_of_block (d _ hs)).trans hc
/-- more memory is held, from here on -/
theorem AccK.hold (h : AccK w0 B e G W wx v l) (ho : Only [] wx wy) {G' : List Nat} (hlt : ∀ b ∈ G', b < wy.heap.size) (hge : ∀ b ∈ G', wx.heap.size ≤ b) : AccK w0 B e (G ++ G') wy wy v l := by
  obtain ⟨fs, a, b, c, d, f, g⟩ := h
  refine ⟨fs, a.keep ho, b.keep ho, c.trans ho, fun _ _ => rfl, fun x hx => ?_, fun x hx hm => ?_⟩
  · rcases List.mem_append.1 hx with hx | hx
    · exact Nat.lt_of_lt_of_le (f x hx) ho.size
    · exact hlt x hx
  · rcases List.mem_append.1 hx with hx | hx
    · exact g x hx hm
    · have := (a.ownlt x (by simpa using hm)).2
      have := hge x hx; omega
/-- the held memory as it is now -/
theorem AccK.now (h : AccK w0 B e G W wx v l) : AccK w0 B e G wx wx v l := by
  obtain ⟨fs, a, b, c, d, f, g⟩ := h
  exact ⟨fs, a, b, c, fun _ _ => rfl, f, g⟩
theorem AccK.rd (h : AccK w0 B e G W wx v l) (hs : 0 < Rp.size α) : ∃ fp, Rd wx v l fp ∧ Fresh B wx fp := by
  obtain ⟨fs, a, b, c, d, f, g⟩ := h
  exact ⟨_, a.rd hs, a.fresh b⟩
theorem AccK.form (h : AccK w0 B e G W wx v l) : ∃ a c, v = .slice a l.length c := by
  obtain ⟨fs, a, b, c, d, f, g⟩ := h
  exact a.form
end

section
variable {P : Program} {α : Type} [Rp α] {ops : Array Oper} {rest : List Oper} {o : Oper} {a : Act} {w : World} {Q : Exit → Act → World → Prop} {K : Act → World → Prop}
end
end Go.Proofs.YtkhdmiemfpelcaaGreat

namespace PM

/-- the rows of a chain: at each level and point a permutation, [] where there is none -/
abbrev Rows := List (List (List Int))
def tr (T : Rows) (k : Nat) (y : Int) : List Int := if y < 0 then [] else (T.getD k []).getD y.toNat []
/-- the points below k are fixed -/
def Fix (k : Nat) (p : List Int) : Prop := ∀ x : Int, 0 ≤ x → x < k → at_ p x = x
/-- is p a product of rows' permutations, m levels from the end -/
def has (T : Rows) (n : Nat) : Nat → List Int → Bool
  | 0, _ => true
  | m + 1, p =>
    let t := tr T (n - (m + 1)) (at_ p ((n - (m + 1) : Nat) : Int))
    if t = [] then false else has T n m (comp p (inv t))
/-- more rows' permutations -/
def Ext (T T' : Rows) : Prop := ∀ k y, tr T k y ≠ [] → tr T' k y = tr T k y
theorem Ext.refl (T : Rows) : Ext T T := fun _ _ _ => rfl
theorem Ext.trans {T T' T'' : Rows} (h : Ext T T') (h' : Ext T' T'') : Ext T T'' := fun k y hn => by
  have := h k y hn
  rw [← this]; exact h' k y (by rw [this]; exact hn)
theorem has_mono {T T' : Rows} (h : Ext T T') (n : Nat) : ∀ (m : Nat) (p : List Int), has T n m p = true → has T' n m p = true := by
  intro m
  induction m with
  | zero => intro p _; rfl
  | succ m ih =>
    intro p hp
    simp only [has] at hp ⊢
    split at hp
    · cases hp
    · rename_i hn
      rw [h _ _ hn, if_neg hn]
      exact ih _ hp
theorem has_congr {T T' : Rows} {n m : Nat} (h : ∀ k y, n - m ≤ k → tr T' k y = tr T k y) : ∀ p, has T n m p = has T' n m p := by
  induction m with
  | zero => intro p; rfl
  | succ m ih =>
    intro p
    simp only [has]
    rw [h _ _ (Nat.le_refl _), ih (fun k y hk => h k y (by omega))]

/-- the rows as they should be: the k-th row has at y nothing, or a permutation that fixes what is below k and takes k to y -/
structure WF (n : Nat) (T : Rows) : Prop where
  pn : ∀ (k : Nat) (y : Int), k < n → tr T k y ≠ [] → PN n (tr T k y)
  fix : ∀ (k : Nat) (y : Int), k < n → tr T k y ≠ [] → Fix k (tr T k y)
  at_ : ∀ (k : Nat) (y : Int), k < n → tr T k y ≠ [] → at_ (tr T k y) k = y
  one : ∀ (k : Nat), k < n → tr T k k = pts n
theorem pts_ne {n : Nat} (h : 0 < n) : pts n ≠ [] := by
  intro e
  have := pts_len n
  rw [e] at this; simp at this; omega
theorem PN.ne {n : Nat} {p : List Int} (h : PN n p) (hn : 0 < n) : p ≠ [] := by
  intro e
  have := h.1
  rw [e] at this; simp at this; omega

/-- the generators of a level -/
abbrev Gens := List (List (List Int))
def lv (G : Gens) (k : Nat) : List (List Int) := G.getD k []

/-- the remainder of p at level k -/
def res (T : Rows) (k : Nat) (p : List Int) : List Int := comp p (inv (tr T k (at_ p (k : Int))))
/-- a product that the rows know -/
def Ok (T : Rows) (n k : Nat) (p : List Int) : Prop := tr T k (at_ p (k : Int)) ≠ [] ∧ has T n (n - (k + 1)) (res T k p) = true
theorem Ok.has {T : Rows} {n k : Nat} {p : List Int} (hk : k < n) : Ok T n k p ↔ has T n (n - k) p = true := by
  have h1 : n - k = (n - (k + 1)) + 1 := by omega
  have h2 : n - (n - (k + 1) + 1) = k := by omega
  rw [h1]
  simp only [PM.has, h2, Ok, res]
  constructor
  · rintro ⟨a, b⟩; rw [if_neg a]; exact b
  · intro h
    split at h
    · cases h
    · rename_i hn; exact ⟨hn, h⟩
theorem Ok.mono {T T' : Rows} (h : Ext T T') {n k : Nat} {p : List Int} (ho : Ok T n k p) : Ok T' n k p := by
  obtain ⟨a, b⟩ := ho
  have e := h _ _ a
  refine ⟨by rw [e]; exact a, ?_⟩
  have : res T' k p = res T k p := by simp only [res, e]
  rw [this]; exact has_mono h n _ _ b

/-- the chain's generators and rows, levels from k on complete -/
structure Inv (n k : Nat) (G : Gens) (T : Rows) : Prop where
  wf : WF n T
  gpn : ∀ j g, j < n → g ∈ lv G j → PN n g
  gfix : ∀ j g, j < n → g ∈ lv G j → Fix j g
  row : ∀ j y, j < n → tr T j y ≠ [] → Grp n (lv G j) (tr T j y)
  up : ∀ j g, j + 1 < n → g ∈ lv G (j + 1) → Grp n (lv G j) g
  cpl : ∀ j y g, k ≤ j → j < n → tr T j y ≠ [] → g ∈ lv G j → Ok T n j (comp (tr T j y) g)

theorem Fix.comp {n k : Nat} {p q : List Int} (hp : PN n p) (hk : k ≤ n) (h1 : Fix k p) (h2 : Fix k q) : Fix k (comp p q) := by
  intro x h0 hx
  rw [at_comp h0 (by rw [hp.1]; omega), h1 x h0 hx, h2 x h0 hx]
theorem Fix.inv {n k : Nat} {p : List Int} (hp : PN n p) (hk : k ≤ n) (h1 : Fix k p) : Fix k (inv p) := by
  intro x h0 hx
  have := at_inv hp h0 (by omega)
  rwa [h1 x h0 hx] at this
theorem Fix.all {n : Nat} {p : List Int} (hp : PN n p) (h : Fix n p) : p = pts n :=
  ext_at (by rw [hp.1, pts_len]) fun x h0 h1 => by rw [hp.1] at h1; rw [h x h0 h1, at_pts h0 h1]
theorem Fix.mono {j k : Nat} {p : List Int} (h : Fix k p) (hj : j ≤ k) : Fix j p := fun x h0 hx => h x h0 (by omega)
theorem Fix.id (n k : Nat) (hk : k ≤ n) : Fix k (pts n) := fun x h0 hx => at_pts h0 (by omega)
/-- dividing by the row's permutation fixes one point more -/
theorem Fix.res {n k : Nat} {T : Rows} (hw : WF n T) (hk : k < n) {p : List Int} (hp : PN n p) (hf : Fix k p) (hn : tr T k (at_ p (k : Int)) ≠ []) : PN n (res T k p) ∧ Fix (k + 1) (res T k p) := by
  have ht := hw.pn k _ hk hn
  refine ⟨hp.comp ht.inv, ?_⟩
  intro x h0 hx
  unfold PM.res
  rw [at_comp h0 (by rw [hp.1]; omega)]
  by_cases hxk : x < k
  · rw [hf x h0 hxk]
    exact Fix.inv ht (by omega) (hw.fix k _ hk hn) x h0 hxk
  · have : x = k := by omega
    subst this
    have h1 := hw.at_ k _ hk hn
    have h2 := at_inv ht (x := (k : Int)) (by omega) (by omega)
    rwa [h1] at h2
theorem res_mul {n k : Nat} {T : Rows} (hw : WF n T) (hk : k < n) {p : List Int} (hp : PN n p) (hn : tr T k (at_ p (k : Int)) ≠ []) : comp (res T k p) (tr T k (at_ p (k : Int))) = p := by
  have ht := hw.pn k _ hk hn
  unfold res
  rw [comp_assoc hp ht.inv, inv_comp ht, comp_id hp]

/-- p fixes what is below k, and the rows know it -/
def Sk (T : Rows) (n k : Nat) (p : List Int) : Prop := PN n p ∧ Fix k p ∧ has T n (n - k) p = true

/-- at complete levels the rows know just the group of the level's generators -/
theorem level_grp {n : Nat} {G : Gens} {T : Rows} : ∀ (m k : Nat), n - k = m → k < n → Inv n k G T → ∀ p, Sk T n k p ↔ Grp n (lv G k) p := by
  intro m
  induction m with
  | zero => intro k h1 h2; omega
  | succ m ih =>
    intro k hm hk hI
    have hG : ∀ g ∈ lv G k, PN n g := fun g hg => hI.gpn k g hk hg
    -- the next level: what it knows is a group, within this level's
    have next : (∀ p q, Sk T n (k + 1) p → Sk T n (k + 1) q → Sk T n (k + 1) (comp p q)) ∧ (∀ p, Sk T n (k + 1) p → Grp n (lv G k) p) ∧ Sk T n (k + 1) (pts n) := by
      by_cases hk1 : k + 1 < n
      · have hI1 : Inv n (k + 1) G T := ⟨hI.wf, hI.gpn, hI.gfix, hI.row, hI.up, fun j y g h1 h2 h3 h4 => hI.cpl j y g (by omega) h2 h3 h4⟩
        have hh := ih (k + 1) (by omega) hk1 hI1
        have hG1 : ∀ g ∈ lv G (k + 1), PN n g := fun g hg => hI.gpn (k + 1) g hk1 hg
        refine ⟨fun p q hp hq => (hh _).2 (Grp.comp hG1 ((hh p).1 hp) ((hh q).1 hq)), fun p hp => ?_, (hh _).2 .id⟩
        exact Grp.mono hG (fun g hg => hI.up k g hk1 hg) ((hh p).1 hp)
      · have hk2 : k + 1 = n := by omega
        have hid : ∀ p, Sk T n (k + 1) p → p = pts n := fun p hp => Fix.all hp.1 (by rw [← hk2]; exact hp.2.1)
        have h0 : Sk T n (k + 1) (pts n) := ⟨PN.id n, Fix.id n _ (by omega), by rw [hk2, Nat.sub_self]; rfl⟩
        refine ⟨fun p q hp hq => ?_, fun p hp => ?_, h0⟩
        · rw [hid p hp, hid q hq, comp_id (PN.id n)]; exact h0
        · rw [hid p hp]; exact .id
    obtain ⟨nmul, nsub, nid⟩ := next
    -- one step down
    have down : ∀ p, PN n p → Fix k p → (has T n (n - k) p = true ↔ tr T k (at_ p (k : Int)) ≠ [] ∧ Sk T n (k + 1) (res T k p)) := by
      intro p hp hf
      rw [← Ok.has hk]
      constructor
      · rintro ⟨a, b⟩
        obtain ⟨c, d⟩ := Fix.res hI.wf hk hp hf a
        exact ⟨a, c, d, b⟩
      · rintro ⟨a, b⟩; exact ⟨a, b.2.2⟩
    intro p
    constructor
    · rintro ⟨hp, hf, hh⟩
      obtain ⟨hn, hs⟩ := (down p hp hf).1 hh
      rw [← res_mul hI.wf hk hp hn]
      exact Grp.comp hG (nsub _ hs) (hI.row k _ hk hn)
    · intro hp
      refine grp_sub hG (S := Sk T n k) (fun p hp => hp.1) ?_ ?_ hp
      · refine ⟨PN.id n, Fix.id n k (by omega), ?_⟩
        refine (down _ (PN.id n) (Fix.id n k (by omega))).2 ?_
        have e : at_ (pts n) (k : Int) = k := at_pts (by omega) (by omega)
        have e2 : tr T k (at_ (pts n) (k : Int)) = pts n := by rw [e]; exact hI.wf.one k hk
        refine ⟨by rw [e2]; exact pts_ne (by omega), ?_⟩
        unfold res
        rw [e2, comp_inv (PN.id n)]; exact nid
      · rintro q g ⟨hq, hf, hh⟩ hg
        obtain ⟨hn, hs⟩ := (down q hq hf).1 hh
        have hgp := hG g hg
        have ht := hI.wf.pn k _ hk hn
        have hqg := hq.comp hgp
        have hfg : Fix k (comp q g) := Fix.comp hq (by omega) hf (hI.gfix k g hk hg)
        refine ⟨hqg, hfg, (down _ hqg hfg).2 ?_⟩
        -- the product of the row's permutation with g
        obtain ⟨o1, o2⟩ := hI.cpl k _ g (Nat.le_refl _) hk hn hg
        have e1 : at_ (comp q g) (k : Int) = at_ (comp (tr T k (at_ q (k : Int))) g) (k : Int) := by
          rw [at_comp (by omega) (by rw [hq.1]; omega), at_comp (by omega) (by rw [ht.1]; omega), hI.wf.at_ k _ hk hn]
        refine ⟨by rw [e1]; exact o1, ?_⟩
        have hft : Fix k (comp (tr T k (at_ q (k : Int))) g) := Fix.comp ht (by omega) (hI.wf.fix k _ hk hn) (hI.gfix k g hk hg)
        obtain ⟨c1, c2⟩ := Fix.res hI.wf hk (ht.comp hgp) hft o1
        have hu : Sk T n (k + 1) (res T k (comp (tr T k (at_ q (k : Int))) g)) := ⟨c1, c2, o2⟩
        have key : res T k (comp q g) = comp (res T k q) (res T k (comp (tr T k (at_ q (k : Int))) g)) := by
          have h1 := res_mul hI.wf hk hq hn
          have ht' := hI.wf.pn k _ hk o1
          have hr := (Fix.res hI.wf hk hq hf hn).1
          conv => lhs; unfold res
          rw [e1]
          conv => rhs; arg 2; unfold res
          rw [← comp_assoc hr (ht.comp hgp), ← comp_assoc hr ht, h1]
        rw [key]
        exact nmul _ _ hs hu
end PM
