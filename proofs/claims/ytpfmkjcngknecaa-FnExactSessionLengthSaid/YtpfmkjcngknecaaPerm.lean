/- IsPermutation: the reference's and the program's. -/
import Derived.Test.YtpfmkjcngknecaaWord
import Derived.Test.YtpfmkjcngknecaaMem
import Derived.Test.YtpfmkjcngknecaaPermMath
namespace Go.Proofs.Ytpfmkjcngknecaa
open Go.RowKit
set_option maxRecDepth 10000

/-- the same as quiet_drewN at a function's beginning -/
theorem quiet_drewN0 {P : Program} {f : FuncId} {args : Array Value} {w : World} {n : Nat} {v : Value}
    (h : Calls P f args (w.drewN n) fun e w' => e = .returned v ∧ Drew (w.drewN n) w') :
    Calls P f args (w.drewN n) fun e w'' => e = .returned v ∧ ∃ m, w'' = w.drewN m :=
  h.mono fun _ _ ⟨he, m, hm⟩ => ⟨he, n + m, by rw [hm, World.drewN_drewN]⟩
theorem IntsA.take {w : World} {a : Option Addr} {cap : Nat} {l : List Int} {fp : List Nat} (h : IntsA w a cap l fp) (j : Nat) : IntsA w a cap (l.take j) fp := by
  refine ⟨Nat.le_trans (by simp; omega) h.len, h.cap, fun x hx => h.wf x (List.mem_of_mem_take hx), fun k hk => ?_, h.lt, h.one⟩
  have hk' : k < l.length := by simp at hk; omega
  obtain ⟨b, off, e1, e2, e3⟩ := h.at_ k hk'
  exact ⟨b, off, e1, e2, by rw [e3]; simp⟩
def permB (l : List Int) : Bool := inR l.length 1 20 && decide (PM.IsP l)
theorem permB_iff {l : List Int} : permB l = true ↔ (1 ≤ l.length ∧ l.length ≤ 20) ∧ PM.IsP l := by
  simp [permB, inR]; omega
theorem mem_take_step {l : List Int} {j : Nat} (h : j < l.length) {P : Int → Prop} (h1 : ∀ x ∈ l.take j, P x) (h2 : P l[j]) : ∀ x ∈ l.take (j + 1), P x := by
  rw [take_succ_get l j h]
  intro x hx
  rcases List.mem_append.1 hx with hx | hx
  · exact h1 x hx
  · simp at hx; subst hx; exact h2
theorem nodup_take_step {l : List Int} {j : Nat} (h : j < l.length) (h1 : (l.take j).Nodup) (h2 : l[j] ∉ l.take j) : (l.take (j + 1)).Nodup := by
  rw [take_succ_get l j h]
  exact List.nodup_append.2 ⟨h1, by simp, by intro a ha b hb e; simp at hb; subst hb; subst e; exact h2 ha⟩
theorem nodup_take_not {l : List Int} {j : Nat} (h : j < l.length) (h2 : l[j] ∈ l.take j) : ¬ l.Nodup := by
  intro hn
  have h3 : (l.take (j + 1)).Nodup := List.Nodup.sublist (List.take_sublist _ _) hn
  rw [take_succ_get l j h] at h3
  exact (List.nodup_append.1 h3).2.2 _ h2 _ (by simp) rfl

set_option maxHeartbeats 400000 in
theorem containsInt_any (a : Option Addr) (cap : Nat) (l : List Int) (n : Int) (fp : List Nat) (w : World) (h : IntsA w a cap l fp) :
    Calls Try.prog 130 #[.slice a l.length cap, .int .i64 n] w fun e w' => e = .returned (.bool (decide (n ∈ l))) ∧ Drew w w' := by
  have hb := h.bound
  go_enter Try.func130, Try.ntmps130
  go_wp2
  go_loopw [5] (fun i wr => ∃ j : Nat, j ≤ l.length ∧ i = .int .i64 j ∧ n ∉ l.take j ∧ Drew w wr)
    (fun i _ => l.length - (intOf i).toNat)
  case atStart => exact ⟨0, Nat.zero_le _, rfl, by simp, Drew.refl _⟩
  case round =>
    obtain ⟨j, hj, rfl, hr, k, rfl⟩ := hrel
    have Hr := Lib.hid hr; clear hr
    by_cases hlt : j < l.length
    · obtain ⟨b, off, rfl, -, hc⟩ := h.at_ j hlt
      by_cases hx : l[j] = n
      · have hq : (l[j] == n) = true := by simp [hx]
        have Hx := Lib.hid hx; clear hx
        go_wp2
        go_ret
        exact ⟨ret_bool (decide_eq_true (by rw [← Hx.out]; exact List.getElem_mem _)).symm, ⟨_, rfl⟩⟩
      · have hq : (l[j] == n) = false := by simp [hx]
        have Hx := Lib.hid hx; clear hx
        go_wp2
        go_roundw
        case rel => exact ⟨j + 1, by omega, by go_num, by
          rw [take_succ_get l j hlt]; intro hm
          rcases List.mem_append.1 hm with hm | hm
          · exact Hr.out hm
          · simp at hm; exact Hx.out hm.symm, ⟨_, rfl⟩⟩
        case measure => simp [intOf]; omega
    · go_wp2
      go_ret
      exact ⟨ret_bool (decide_eq_false (by have := Hr.out; rwa [List.take_of_length_le (by omega)] at this)).symm, ⟨_, rfl⟩⟩
theorem containsInt_pre (a : Option Addr) (cap : Nat) (l : List Int) (j : Nat) (n : Int) (fp : List Nat) (w : World) (h : IntsA w a cap l fp) (hj : j ≤ l.length) :
    Calls Try.prog 130 #[.slice a j cap, .int .i64 n] w fun e w' => e = .returned (.bool (decide (n ∈ l.take j))) ∧ Drew w w' := by
  have := containsInt_any a cap (l.take j) n fp w (h.take j)
  rwa [show (l.take j).length = j by simp; omega] at this
theorem inRange_q (x lo hi : Int) (w : World) :
    Calls Try.prog 54 #[.int .i64 x, .int .i64 lo, .int .i64 hi] w fun e w' => e = .returned (.bool (inR x lo hi)) ∧ Drew w w' :=
  (inRange_any x lo hi w).mono fun _ _ ⟨h1, h2⟩ => ⟨h1, by rw [h2]; exact Drew.refl _⟩
set_option maxHeartbeats 1000000 in
theorem specIsPerm_any (a : Option Addr) (cap : Nat) (l : List Int) (fp : List Nat) (w : World) (h : IntsA w a cap l fp) :
    Calls Try.prog 109 #[.slice a l.length cap] w fun e w' => e = .returned (.bool (permB l)) ∧ Drew w w' := by
  have hb := h.bound
  rcases hq : inR l.length 1 20
  · go_enter Try.func109, Try.ntmps109
    go_wp2_with ((go_at_call 54; (with_reducible refine (inRange_any l.length 1 20 _).mono ?_); rintro e w1 ⟨rfl, rfl⟩))
    go_ret
    exact ⟨ret_bool (by unfold permB; rw [hq]; rfl), Drew.refl _⟩
  have hfin : permB l = decide (PM.IsP l) := by unfold permB; rw [hq]; rfl
  have Hfin := Lib.hid hfin; clear hfin
  obtain ⟨g1, g2⟩ := inR_iff.1 hq
  go_enter Try.func109, Try.ntmps109
  go_wp2_with ((go_at_call 54; (with_reducible refine (inRange_any l.length 1 20 _).mono ?_); rintro e w ⟨rfl, rfl⟩))
  go_loopw [4] (fun i wr => ∃ j : Nat, j ≤ l.length ∧ i = .int .i64 j ∧ (∀ x ∈ l.take j, 0 ≤ x ∧ x < l.length) ∧ (l.take j).Nodup ∧ Drew w wr)
    (fun i _ => l.length - (intOf i).toNat)
  case atStart => exact ⟨0, Nat.zero_le _, rfl, by simp, by simp, Drew.refl _⟩
  case round =>
    obtain ⟨j, hj, rfl, hr, hn, k, rfl⟩ := hrel
    have Hr := Lib.hid hr; clear hr
    have Hn := Lib.hid hn; clear hn
    by_cases hlt : j < l.length
    · obtain ⟨b, off, rfl, -, hc⟩ := h.at_ j hlt
      have hcap := h.len
      have hi1 : (0 : Int) ≤ (j : Int) := by omega
      have hi2 : (j : Int) < (l.length : Int) := by omega
      rcases c1 : inR l[j] 0 (l.length - 1)
      · go_wp2
        go_quiet ((go_at_call 54; exact quiet_drewN (inRange_q l[j] 0 (l.length - 1) _)))
        go_wp2
        go_ret
        exact ⟨ret_bool (by rw [Hfin.out, eq_comm, decide_eq_false_iff_not]; intro hp; have := hp.1 l[j] (List.getElem_mem _); rw [inR_not] at c1; omega), ((Drew.refl _).drewN _).drewN _⟩
      have hx := inR_iff.1 c1
      have Hx := Lib.hid hx; clear hx
      rcases c2 : decide (l[j] ∈ l.take j)
      all_goals go_wp2
      all_goals go_quiet (first
        | (go_at_call 54; exact quiet_drewN (inRange_q l[j] 0 (l.length - 1) _))
        | (go_at_call 130; exact quiet_drewN (containsInt_pre (some ⟨b, off, none⟩) cap l j l[j] fp _ (h.keep (Only.ofDrewN _ _ _)) hj)))
      · have C2 := Lib.hid (of_decide_eq_false c2); clear c2
        go_wp2
        go_roundw
        case rel => exact ⟨j + 1, by omega, by go_num, mem_take_step hlt Hr.out (by have := Hx.out; omega), nodup_take_step hlt Hn.out C2.out, ⟨_, rfl⟩⟩
        case measure => simp [intOf]; omega
      · have C2 := Lib.hid (of_decide_eq_true c2); clear c2
        go_wp2
        go_ret
        exact ⟨ret_bool (by rw [Hfin.out, eq_comm, decide_eq_false_iff_not]; intro hp; exact nodup_take_not hlt C2.out hp.2), ((Drew.refl _).drewN _).drewN _⟩
    · go_wp2
      go_ret
      exact ⟨ret_bool (by rw [Hfin.out, eq_comm, decide_eq_true_iff]; have h1 := Hr.out; have h2 := Hn.out; rw [List.take_of_length_le (by omega)] at h1 h2; exact ⟨h1, h2⟩), ⟨_, rfl⟩⟩
theorem specIsPerm_rd (v : Value) (l : List Int) (fp : List Nat) (w : World) (h : Rd w v l fp) :
    Calls Try.prog 109 #[v] w fun e w' => e = .returned (.bool (permB l)) ∧ Drew w w' := by
  obtain ⟨a, cap, rfl, hI⟩ := h.ints
  exact specIsPerm_any a cap l fp w hI
theorem lengthRows_rd (v : Value) (l : List (List Int)) (fp : List Nat) (w : World) (h : Rd w v l fp) :
    Calls Try.prog 59 #[v] w fun e w' => e = .returned (.int .i64 l.length) ∧ w' = w := by
  obtain ⟨a, cap, ob, fps, rfl, -, hs⟩ := h.open_
  have hb := hs.bound
  go_enter Try.func59, Try.ntmps59
  go_wp2
  go_ret
  exact ⟨rfl, rfl⟩
theorem lengthInt_rd (v : Value) (l : List Int) (fp : List Nat) (w : World) (h : Rd w v l fp) :
    Calls Try.prog 91 #[v] w fun e w' => e = .returned (.int .i64 l.length) ∧ w' = w := by
  obtain ⟨a, cap, rfl, hI⟩ := h.ints
  have hb := hI.bound
  go_enter Try.func91, Try.ntmps91
  go_wp2
  go_ret
  exact ⟨rfl, rfl⟩
theorem wrap64_small (n : Int) (h0 : 0 ≤ n) (h1 : n < 9223372036854775808) : wrap64 n = n := by
  unfold wrap64; omega
theorem pow_small {k : Nat} (h : k ≤ 20) : (2 : Int) ^ k ≤ 1048576 ∧ 1 ≤ (2 : Int) ^ k := by
  have h1 : 2 ^ k ≤ 2 ^ 20 := Nat.pow_le_pow_right (by decide) h
  have h2 : 1 ≤ 2 ^ k := Nat.one_le_two_pow
  have e : ((2 : Int) ^ k) = ((2 ^ k : Nat) : Int) := by simp
  rw [e]
  constructor
  · have : (2 : Nat) ^ 20 = 1048576 := by decide
    omega
  · omega
theorem or_step (m : Nat) (hm : m < 2 ^ 20) (x : Int) (h0 : 0 ≤ x) (h1 : x ≤ 19) : bits BinOp.or IntKind.i64 (m : Int) (wrap64 (2 ^ x.toNat)) = ((m ||| 2 ^ x.toNat : Nat) : Int) := by
  have hp := pow_small (k := x.toNat) (by omega)
  rw [wrap64_small _ (by omega) (by omega)]
  have e : ((2 : Int) ^ x.toNat) = ((2 ^ x.toNat : Nat) : Int) := by simp
  rw [e]
  refine (bits_nat .i64 20 (by decide) ?_ m (2 ^ x.toNat) hm (Nat.pow_lt_pow_right (by decide) (by omega))).2
  intro n hn0 hn1
  have : (2 : Int) ^ 20 = 1048576 := by decide
  rw [IntKind.wrap_i64]; omega
theorem mask_end (l : List Int) (h : ∀ x ∈ l, 0 ≤ x ∧ x < l.length) (hl : l.length ≤ 20) : ((PM.mask l : Int) == wrap64 (wrap64 (2 ^ l.length) - 1)) = decide (PM.IsP l) := by
  have hp := pow_small hl
  rw [wrap64_small (2 ^ l.length) (by omega) (by omega), wrap64_small _ (by omega) (by omega)]
  have h1 : 1 ≤ 2 ^ l.length := Nat.one_le_two_pow
  have e : ((2 : Int) ^ l.length) - 1 = ((2 ^ l.length - 1 : Nat) : Int) := by
    rw [Int.natCast_sub h1]; simp
  rw [e]
  by_cases hm : PM.IsP l
  · rw [decide_eq_true hm, (PM.mask_full l h).2 hm]; simp
  · rw [decide_eq_false hm]
    have : PM.mask l ≠ 2 ^ l.length - 1 := fun he => hm ((PM.mask_full l h).1 he)
    simp only [beq_eq_false_iff_ne, ne_eq]
    omega
set_option maxHeartbeats 1000000 in
theorem implIsPerm_any (a : Option Addr) (cap : Nat) (l : List Int) (fp : List Nat) (w : World) (h : IntsA w a cap l fp) :
    Calls Try.prog 134 #[.slice a l.length cap] w fun e w' => e = .returned (.bool (permB l)) ∧ Drew w w' := by
  have hb := h.bound
  rcases hq : inR l.length 1 20
  · go_enter Try.func134, Try.ntmps134
    go_wp2_with (first | (go_at_call 91; (with_reducible refine (lengthInt_rd _ l fp _ h.rd).mono ?_); rintro e w ⟨rfl, rfl⟩) | (go_at_call 58; (with_reducible refine (within_any l.length 1 20 _).mono ?_); rintro e w ⟨rfl, rfl⟩))
    go_ret
    exact ⟨ret_bool (by unfold permB; rw [hq]; rfl), Drew.refl _⟩
  have hfin : permB l = decide (PM.IsP l) := by unfold permB; rw [hq]; rfl
  have Hfin := Lib.hid hfin; clear hfin
  obtain ⟨g1, g2⟩ := inR_iff.1 hq
  go_enter Try.func134, Try.ntmps134
  go_wp2_with (first | (go_at_call 91; (with_reducible refine (lengthInt_rd _ l fp _ h.rd).mono ?_); rintro e w ⟨rfl, rfl⟩) | (go_at_call 58; (with_reducible refine (within_any l.length 1 20 _).mono ?_); rintro e w ⟨rfl, rfl⟩))
  go_loopw [3, 12] (fun sn i wr => ∃ j : Nat, j ≤ l.length ∧ i = .int .i64 j ∧ sn = .int .i64 (PM.mask (l.take j) : Nat) ∧ (∀ x ∈ l.take j, 0 ≤ x ∧ x < l.length) ∧ Drew w wr)
    (fun _ i _ => l.length - (intOf i).toNat)
  case atStart => exact ⟨0, Nat.zero_le _, rfl, rfl, by simp, Drew.refl _⟩
  case round =>
    obtain ⟨j, hj, rfl, rfl, hr, k, rfl⟩ := hrel
    have Hr := Lib.hid hr; clear hr
    by_cases hlt : j < l.length
    · obtain ⟨b, off, ha, -, hc⟩ := h.at_ j hlt
      subst ha
      rcases c1 : inR l[j] 0 (l.length - 1)
      · go_wp2_with (first | (go_at_call 91; (with_reducible refine (lengthInt_rd _ l fp _ (Rp.keep h.rd (Only.ofDrewN _ _ _))).mono ?_); rintro e w1 ⟨rfl, rfl⟩) | (go_at_call 58; (with_reducible refine (within_any l[j] 0 (l.length - 1) _).mono ?_); rintro e w1 ⟨rfl, rfl⟩))
        go_ret
        exact ⟨ret_bool (by rw [Hfin.out, eq_comm, decide_eq_false_iff_not]; intro hp; have := hp.1 l[j] (List.getElem_mem _); rw [inR_not] at c1; omega), ⟨_, rfl⟩⟩
      have hx := inR_iff.1 c1
      have Hx := Lib.hid hx; clear hx
      have hx0 : 0 ≤ l[j] := Hx.out.1
      have hx1 : l[j] ≤ 19 := by have := Hx.out; omega
      have hm := or_step (PM.mask (l.take j)) (Nat.lt_of_lt_of_le (PM.mask_lt _ l.length Hr.out) (Nat.pow_le_pow_right (by decide) (by omega))) l[j] hx0 hx1
      have Hm := Lib.hid hm; clear hm
      go_wp2_with (first | (go_at_call 91; (with_reducible refine (lengthInt_rd _ l fp _ (Rp.keep h.rd (Only.ofDrewN _ _ _))).mono ?_); rintro e w1 ⟨rfl, rfl⟩) | (go_at_call 58; (with_reducible refine (within_any l[j] 0 (l.length - 1) _).mono ?_); rintro e w1 ⟨rfl, rfl⟩))
      refine ⟨⟨j + 1, by omega, by go_num, ?_, mem_take_step hlt Hr.out (by have := Hx.out; omega), ⟨_, rfl⟩⟩, by simp [intOf]; omega⟩
      rw [take_succ_get l j hlt, PM.mask_append, Hm.out]
    · go_wp2
      go_ret
      exact ⟨ret_bool (by have h1 := Hr.out; rw [List.take_of_length_le (by omega)] at h1 ⊢; rw [Hfin.out]; exact mask_end l h1 (by omega)), ⟨_, rfl⟩⟩
theorem implIsPerm_rd (v : Value) (l : List Int) (fp : List Nat) (w : World) (h : Rd w v l fp) :
    Calls Try.prog 134 #[v] w fun e w' => e = .returned (.bool (permB l)) ∧ Drew w w' := by
  obtain ⟨a, cap, rfl, hI⟩ := h.ints
  exact implIsPerm_any a cap l fp w hI
end Go.Proofs.Ytpfmkjcngknecaa
