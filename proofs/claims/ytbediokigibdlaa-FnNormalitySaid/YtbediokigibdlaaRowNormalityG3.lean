/- IsPermutation: the reference's and the program's. The identity permutation: the reference's and the program's. Composition and inverse of permutations: the reference's and the program's. The program's stabilizer chain. A queue of numbers: a slice of the call's own that is cut at its head and appended to. -/
import Derived.Test.YtbediokigibdlaaRowNormalityG2
import Derived.Test.YtbediokigibdlaaRowNormalityG1
import Derived.Deep.RegionHeld3
import Derived.Deep.DeepCutAuto
import Derived.Deep.RegionLaw
import Derived.WalkSpells
namespace Go.Proofs.Ytbediokigibdlaa
open Go.RowKit
set_option maxRecDepth 10000

/-- the same as quiet_drewN at a function's beginning -/
theorem quiet_drewN0 {P : Program} {f : FuncId} {args : Array Value} {w : World} {n : Nat} {v : Value}
    (h : Calls P f args (w.drewN n) fun e w' => e = .returned v ∧ Drew (w.drewN n) w') :
    Calls P f args (w.drewN n) fun e w'' => e = .returned v ∧ ∃ m, w'' = w.drewN m :=
  h.mono fun _ _ ⟨he, m, hm⟩ => ⟨he, n + m, by rw [hm, World.drewN_drewN]⟩
theorem IntsA.take {w : World} {a : Option Addr} {cap : Nat} {l : List Int} {fp : List Nat} (h : IntsA w a cap l fp) (j : Nat) : IntsA w a cap (l.take j) fp := by
  refine ⟨Nat.le_trans (by simp; omega) h.len, h.cap, fun x hx => h.wf x (List.mem_of_mem_take hx), fun k hk => ?_, h.lt, h.one⟩
  have hk' : k < l.length := by simp at hk; omega
  obtain ⟨b, off, e1, e2, e3⟩ := h.at_ k hk'
  exact ⟨b, off, e1, e2, by rw [e3]; simp⟩
def permB (l : List Int) : Bool := inR l.length 1 20 && decide (PM.IsP l)
theorem permB_iff {l : List Int} : permB l = true ↔ (1 ≤ l.length ∧ l.length ≤ 20) ∧ PM.IsP l := by
  simp [permB, inR]; omega
theorem mem_take_step {l : List Int} {j : Nat} (h : j < l.length) {P : Int → Prop} (h1 : ∀ x ∈ l.take j, P x) (h2 : P l[j]) : ∀ x ∈ l.take (j + 1), P x := by
  rw [take_succ_get l j h]
  intro x hx
  rcases List.mem_append.1 hx with hx | hx
  · exact h1 x hx
  · simp at hx; subst hx; exact h2
theorem nodup_take_step {l : List Int} {j : Nat} (h : j < l.length) (h1 : (l.take j).Nodup) (h2 : l[j] ∉ l.take j) : (l.take (j + 1)).Nodup := by
  rw [take_succ_get l j h]
  exact List.nodup_append.2 ⟨h1, by simp, by intro a ha b hb e; simp at hb; subst hb; subst e; exact h2 ha⟩
theorem nodup_take_not {l : List Int} {j : Nat} (h : j < l.length) (h2 : l[j] ∈ l.take j) : ¬ l.Nodup := by
  intro hn
  have h3 : (l.take (j + 1)).Nodup := List.Nodup.sublist (List.take_sublist _ _) hn
  rw [take_succ_get l j h] at h3
  exact (List.nodup_append.1 h3).2.2 _ h2 _ (by simp) rfl

set_option maxHeartbeats 400000 in
theorem containsInt_any (a : Option Addr) (cap : Nat) (l : List Int) (n : Int) (fp : List Nat) (w : World) (h : IntsA w a cap l fp) :
    Calls Try.prog 86 #[.slice a l.length cap, .int .i64 n] w fun e w' => e = .returned (.bool (decide (n ∈ l))) ∧ Drew w w' := by
  have hb := h.bound
  go_enter Try.func86, Try.ntmps86
  go_wp2
  go_loopw [5] (fun i wr => ∃ j : Nat, j ≤ l.length ∧ i = .int .i64 j ∧ n ∉ l.take j ∧ Drew w wr)
    (fun i _ => l.length - (intOf i).toNat)
  case atStart => exact ⟨0, Nat.zero_le _, rfl, by simp, Drew.refl _⟩
  case round =>
    obtain ⟨j, hj, rfl, hr, k, rfl⟩ := hrel
    have Hr := Lib.hid hr; clear hr
    by_cases hlt : j < l.length
    · obtain ⟨b, off, rfl, -, hc⟩ := h.at_ j hlt
      by_cases hx : l[j] = n
      · have hq : (l[j] == n) = true := by simp [hx]
        have Hx := Lib.hid hx; clear hx
        go_wp2
        go_ret
        exact ⟨ret_bool (decide_eq_true (by rw [← Hx.out]; exact List.getElem_mem _)).symm, ⟨_, rfl⟩⟩
      · have hq : (l[j] == n) = false := by simp [hx]
        have Hx := Lib.hid hx; clear hx
        go_wp2
        go_roundw
        case rel => exact ⟨j + 1, by omega, by go_num, by
          rw [take_succ_get l j hlt]; intro hm
          rcases List.mem_append.1 hm with hm | hm
          · exact Hr.out hm
          · simp at hm; exact Hx.out hm.symm, ⟨_, rfl⟩⟩
        case measure => simp [intOf]; omega
    · go_wp2
      go_ret
      exact ⟨ret_bool (decide_eq_false (by have := Hr.out; rwa [List.take_of_length_le (by omega)] at this)).symm, ⟨_, rfl⟩⟩
theorem containsInt_pre (a : Option Addr) (cap : Nat) (l : List Int) (j : Nat) (n : Int) (fp : List Nat) (w : World) (h : IntsA w a cap l fp) (hj : j ≤ l.length) :
    Calls Try.prog 86 #[.slice a j cap, .int .i64 n] w fun e w' => e = .returned (.bool (decide (n ∈ l.take j))) ∧ Drew w w' := by
  have := containsInt_any a cap (l.take j) n fp w (h.take j)
  rwa [show (l.take j).length = j by simp; omega] at this
theorem inRange_q (x lo hi : Int) (w : World) :
    Calls Try.prog 41 #[.int .i64 x, .int .i64 lo, .int .i64 hi] w fun e w' => e = .returned (.bool (inR x lo hi)) ∧ Drew w w' :=
  (inRange_any x lo hi w).mono fun _ _ ⟨h1, h2⟩ => ⟨h1, by rw [h2]; exact Drew.refl _⟩
set_option maxHeartbeats 1000000 in
theorem specIsPerm_any (a : Option Addr) (cap : Nat) (l : List Int) (fp : List Nat) (w : World) (h : IntsA w a cap l fp) :
    Calls Try.prog 42 #[.slice a l.length cap] w fun e w' => e = .returned (.bool (permB l)) ∧ Drew w w' := by
  have hb := h.bound
  rcases hq : inR l.length 1 20
  · go_enter Try.func42, Try.ntmps42
    go_wp2_with ((go_at_call 41; (with_reducible refine (inRange_any l.length 1 20 _).mono ?_); rintro e w1 ⟨rfl, rfl⟩))
    go_ret
    exact ⟨ret_bool (by unfold permB; rw [hq]; rfl), Drew.refl _⟩
  have hfin : permB l = decide (PM.IsP l) := by unfold permB; rw [hq]; rfl
  have Hfin := Lib.hid hfin; clear hfin
  obtain ⟨g1, g2⟩ := inR_iff.1 hq
  go_enter Try.func42, Try.ntmps42
  go_wp2_with ((go_at_call 41; (with_reducible refine (inRange_any l.length 1 20 _).mono ?_); rintro e w ⟨rfl, rfl⟩))
  go_loopw [4] (fun i wr => ∃ j : Nat, j ≤ l.length ∧ i = .int .i64 j ∧ (∀ x ∈ l.take j, 0 ≤ x ∧ x < l.length) ∧ (l.take j).Nodup ∧ Drew w wr)
    (fun i _ => l.length - (intOf i).toNat)
  case atStart => exact ⟨0, Nat.zero_le _, rfl, by simp, by simp, Drew.refl _⟩
  case round =>
    obtain ⟨j, hj, rfl, hr, hn, k, rfl⟩ := hrel
    have Hr := Lib.hid hr; clear hr
    have Hn := Lib.hid hn; clear hn
    by_cases hlt : j < l.length
    · obtain ⟨b, off, rfl, -, hc⟩ := h.at_ j hlt
      have hcap := h.len
      have hi1 : (0 : Int) ≤ (j : Int) := by omega
      have hi2 : (j : Int) < (l.length : Int) := by omega
      rcases c1 : inR l[j] 0 (l.length - 1)
      · go_wp2
        go_quiet ((go_at_call 41; exact quiet_drewN (inRange_q l[j] 0 (l.length - 1) _)))
        go_wp2
        go_ret
        exact ⟨ret_bool (by rw [Hfin.out, eq_comm, decide_eq_false_iff_not]; intro hp; have := hp.1 l[j] (List.getElem_mem _); rw [inR_not] at c1; omega), ((Drew.refl _).drewN _).drewN _⟩
      have hx := inR_iff.1 c1
      have Hx := Lib.hid hx; clear hx
      rcases c2 : decide (l[j] ∈ l.take j)
      all_goals go_wp2
      all_goals go_quiet (first
        | (go_at_call 41; exact quiet_drewN (inRange_q l[j] 0 (l.length - 1) _))
        | (go_at_call 86; exact quiet_drewN (containsInt_pre (some ⟨b, off, none⟩) cap l j l[j] fp _ (h.keep (Only.ofDrewN _ _ _)) hj)))
      · have C2 := Lib.hid (of_decide_eq_false c2); clear c2
        go_wp2
        go_roundw
        case rel => exact ⟨j + 1, by omega, by go_num, mem_take_step hlt Hr.out (by have := Hx.out; omega), nodup_take_step hlt Hn.out C2.out, ⟨_, rfl⟩⟩
        case measure => simp [intOf]; omega
      · have C2 := Lib.hid (of_decide_eq_true c2); clear c2
        go_wp2
        go_ret
        exact ⟨ret_bool (by rw [Hfin.out, eq_comm, decide_eq_false_iff_not]; intro hp; exact nodup_take_not hlt C2.out hp.2), ((Drew.refl _).drewN _).drewN _⟩
    · go_wp2
      go_ret
      exact ⟨ret_bool (by rw [Hfin.out, eq_comm, decide_eq_true_iff]; have h1 := Hr.out; have h2 := Hn.out; rw [List.take_of_length_le (by omega)] at h1 h2; exact ⟨h1, h2⟩), ⟨_, rfl⟩⟩
theorem specIsPerm_rd (v : Value) (l : List Int) (fp : List Nat) (w : World) (h : Rd w v l fp) :
    Calls Try.prog 42 #[v] w fun e w' => e = .returned (.bool (permB l)) ∧ Drew w w' := by
  obtain ⟨a, cap, rfl, hI⟩ := h.ints
  exact specIsPerm_any a cap l fp w hI

theorem lengthInt_rd (v : Value) (l : List Int) (fp : List Nat) (w : World) (h : Rd w v l fp) :
    Calls Try.prog 74 #[v] w fun e w' => e = .returned (.int .i64 l.length) ∧ w' = w := by
  obtain ⟨a, cap, rfl, hI⟩ := h.ints
  have hb := hI.bound
  go_enter Try.func74, Try.ntmps74
  go_wp2
  go_ret
  exact ⟨rfl, rfl⟩
theorem wrap64_small (n : Int) (h0 : 0 ≤ n) (h1 : n < 9223372036854775808) : wrap64 n = n := by
  unfold wrap64; omega
theorem pow_small {k : Nat} (h : k ≤ 20) : (2 : Int) ^ k ≤ 1048576 ∧ 1 ≤ (2 : Int) ^ k := by
  have h1 : 2 ^ k ≤ 2 ^ 20 := Nat.pow_le_pow_right (by decide) h
  have h2 : 1 ≤ 2 ^ k := Nat.one_le_two_pow
  have e : ((2 : Int) ^ k) = ((2 ^ k : Nat) : Int) := by simp
  rw [e]
  constructor
  · have : (2 : Nat) ^ 20 = 1048576 := by decide
    omega
  · omega
theorem or_step (m : Nat) (hm : m < 2 ^ 20) (x : Int) (h0 : 0 ≤ x) (h1 : x ≤ 19) : bits BinOp.or IntKind.i64 (m : Int) (wrap64 (2 ^ x.toNat)) = ((m ||| 2 ^ x.toNat : Nat) : Int) := by
  have hp := pow_small (k := x.toNat) (by omega)
  rw [wrap64_small _ (by omega) (by omega)]
  have e : ((2 : Int) ^ x.toNat) = ((2 ^ x.toNat : Nat) : Int) := by simp
  rw [e]
  refine (bits_nat .i64 20 (by decide) ?_ m (2 ^ x.toNat) hm (Nat.pow_lt_pow_right (by decide) (by omega))).2
  intro n hn0 hn1
  have : (2 : Int) ^ 20 = 1048576 := by decide
  rw [IntKind.wrap_i64]; omega
theorem mask_end (l : List Int) (h : ∀ x ∈ l, 0 ≤ x ∧ x < l.length) (hl : l.length ≤ 20) : ((PM.mask l : Int) == wrap64 (wrap64 (2 ^ l.length) - 1)) = decide (PM.IsP l) := by
  have hp := pow_small hl
  rw [wrap64_small (2 ^ l.length) (by omega) (by omega), wrap64_small _ (by omega) (by omega)]
  have h1 : 1 ≤ 2 ^ l.length := Nat.one_le_two_pow
  have e : ((2 : Int) ^ l.length) - 1 = ((2 ^ l.length - 1 : Nat) : Int) := by
    rw [Int.natCast_sub h1]; simp
  rw [e]
  by_cases hm : PM.IsP l
  · rw [decide_eq_true hm, (PM.mask_full l h).2 hm]; simp
  · rw [decide_eq_false hm]
    have : PM.mask l ≠ 2 ^ l.length - 1 := fun he => hm ((PM.mask_full l h).1 he)
    simp only [beq_eq_false_iff_ne, ne_eq]
    omega
set_option maxHeartbeats 1000000 in
theorem implIsPerm_any (a : Option Addr) (cap : Nat) (l : List Int) (fp : List Nat) (w : World) (h : IntsA w a cap l fp) :
    Calls Try.prog 76 #[.slice a l.length cap] w fun e w' => e = .returned (.bool (permB l)) ∧ Drew w w' := by
  have hb := h.bound
  rcases hq : inR l.length 1 20
  · go_enter Try.func76, Try.ntmps76
    go_wp2_with (first | (go_at_call 74; (with_reducible refine (lengthInt_rd _ l fp _ h.rd).mono ?_); rintro e w ⟨rfl, rfl⟩) | (go_at_call 60; (with_reducible refine (within_any l.length 1 20 _).mono ?_); rintro e w ⟨rfl, rfl⟩))
    go_ret
    exact ⟨ret_bool (by unfold permB; rw [hq]; rfl), Drew.refl _⟩
  have hfin : permB l = decide (PM.IsP l) := by unfold permB; rw [hq]; rfl
  have Hfin := Lib.hid hfin; clear hfin
  obtain ⟨g1, g2⟩ := inR_iff.1 hq
  go_enter Try.func76, Try.ntmps76
  go_wp2_with (first | (go_at_call 74; (with_reducible refine (lengthInt_rd _ l fp _ h.rd).mono ?_); rintro e w ⟨rfl, rfl⟩) | (go_at_call 60; (with_reducible refine (within_any l.length 1 20 _).mono ?_); rintro e w ⟨rfl, rfl⟩))
  go_loopw [3, 12] (fun sn i wr => ∃ j : Nat, j ≤ l.length ∧ i = .int .i64 j ∧ sn = .int .i64 (PM.mask (l.take j) : Nat) ∧ (∀ x ∈ l.take j, 0 ≤ x ∧ x < l.length) ∧ Drew w wr)
    (fun _ i _ => l.length - (intOf i).toNat)
  case atStart => exact ⟨0, Nat.zero_le _, rfl, rfl, by simp, Drew.refl _⟩
  case round =>
    obtain ⟨j, hj, rfl, rfl, hr, k, rfl⟩ := hrel
    have Hr := Lib.hid hr; clear hr
    by_cases hlt : j < l.length
    · obtain ⟨b, off, ha, -, hc⟩ := h.at_ j hlt
      subst ha
      rcases c1 : inR l[j] 0 (l.length - 1)
      · go_wp2_with (first | (go_at_call 74; (with_reducible refine (lengthInt_rd _ l fp _ (Rp.keep h.rd (Only.ofDrewN _ _ _))).mono ?_); rintro e w1 ⟨rfl, rfl⟩) | (go_at_call 60; (with_reducible refine (within_any l[j] 0 (l.length - 1) _).mono ?_); rintro e w1 ⟨rfl, rfl⟩))
        go_ret
        exact ⟨ret_bool (by rw [Hfin.out, eq_comm, decide_eq_false_iff_not]; intro hp; have := hp.1 l[j] (List.getElem_mem _); rw [inR_not] at c1; omega), ⟨_, rfl⟩⟩
      have hx := inR_iff.1 c1
      have Hx := Lib.hid hx; clear hx
      have hx0 : 0 ≤ l[j] := Hx.out.1
      have hx1 : l[j] ≤ 19 := by have := Hx.out; omega
      have hm := or_step (PM.mask (l.take j)) (Nat.lt_of_lt_of_le (PM.mask_lt _ l.length Hr.out) (Nat.pow_le_pow_right (by decide) (by omega))) l[j] hx0 hx1
      have Hm := Lib.hid hm; clear hm
      go_wp2_with (first | (go_at_call 74; (with_reducible refine (lengthInt_rd _ l fp _ (Rp.keep h.rd (Only.ofDrewN _ _ _))).mono ?_); rintro e w1 ⟨rfl, rfl⟩) | (go_at_call 60; (with_reducible refine (within_any l[j] 0 (l.length - 1) _).mono ?_); rintro e w1 ⟨rfl, rfl⟩))
      refine ⟨⟨j + 1, by omega, by go_num, ?_, mem_take_step hlt Hr.out (by have := Hx.out; omega), ⟨_, rfl⟩⟩, by simp [intOf]; omega⟩
      rw [take_succ_get l j hlt, PM.mask_append, Hm.out]
    · go_wp2
      go_ret
      exact ⟨ret_bool (by have h1 := Hr.out; rw [List.take_of_length_le (by omega)] at h1 ⊢; rw [Hfin.out]; exact mask_end l h1 (by omega)), ⟨_, rfl⟩⟩
theorem implIsPerm_rd (v : Value) (l : List Int) (fp : List Nat) (w : World) (h : Rd w v l fp) :
    Calls Try.prog 76 #[v] w fun e w' => e = .returned (.bool (permB l)) ∧ Drew w w' := by
  obtain ⟨a, cap, rfl, hI⟩ := h.ints
  exact implIsPerm_any a cap l fp w hI
end Go.Proofs.Ytbediokigibdlaa

namespace Go.Proofs.Ytbediokigibdlaa
open Go.RowKit
set_option maxRecDepth 10000

theorem pts_succ (k : Nat) : PM.pts (k + 1) = PM.pts k ++ [(k : Int)] := by simp [PM.pts, List.range_succ]
set_option maxHeartbeats 1000000 in
theorem specIdentity_any (m : Nat) (w : World) (hm : m ≤ 1000) :
    Calls Try.prog 55 #[.int .i64 m] w fun e w' => ∃ v fp', e = .returned v ∧ Rd w' v (PM.pts m) fp' ∧ Fresh w.heap.size w' fp' ∧ Only [] w w' := by
  obtain ⟨i0, hi, hz0, hz1, hz2⟩ := info_parts Try.info2
  go_enter Try.func55, Try.ntmps55
  go_wp2
  go_loopw [3, 4] (fun o i wr => ∃ (j : Nat) (fs : List (List Nat)), j ≤ m ∧ i = .int .i64 j ∧ Acc w.heap.size 2 wr o (PM.pts j) fs ∧ Fresh w.heap.size wr fs.flatten ∧ Only [] w wr)
    (fun _ i _ => m - (intOf i).toNat)
  case atStart => exact ⟨0, [], Nat.zero_le _, rfl, Acc.made w w.heap.size _ rfl (Nat.le_refl _), Fresh.nil _ _, (Only.refl _ _).alloc _⟩
  case round =>
    obtain ⟨j, fs, hj, rfl, hA, hF, hK⟩ := hrel
    by_cases hlt : j < m
    · have hsz := hK.size
      have hlj : (PM.pts j).length + 1 ≤ 1073741824 := by rw [PM.pts_len]; omega
      have hI : I64 (j : Int) := by unfold I64; omega
      have HI := Lib.hid hI; clear hI
      go_wp2_with ((at_builtin; refine wpList_pushF rfl _ _ 36 rfl w.heap.size 2 i0 _ 8 Try.underlying36 hi hz0 hz1 hz2 rfl (by decide) (by decide) wr _ (PM.pts j) fs rfl hA hF ((Only.refl _ _).alloc _) hsz wr.heap.size 1 [.int .i64 (j : Int)] (j : Int) [] rfl (lit_src wr [.int .i64 (j : Int)] _ rfl) (by intro u hu; simp at hu; subst hu; rfl) (int_rd _ HI.out) (Fresh.nil _ _) hlj w (hK.alloc _) (Nat.le_refl _) ?_; intro v3 w3 hA3 hF3 hK3 _))
      go_roundw
      case rel => exact ⟨j + 1, _, by omega, by go_num, by rw [pts_succ]; exact hA3, hF3, hK3⟩
      case measure => simp [intOf]; omega
    · have hjl : j = m := by omega
      rw [hjl] at hA
      have HA := Lib.hid hA
      clear hjl hA
      go_wp2
      go_ret
      exact ⟨_, _, rfl, HA.out.rd (by decide), HA.out.fresh hF, hK⟩
set_option maxHeartbeats 1000000 in
theorem implIdentity_any (m : Nat) (w : World) (hm : m ≤ 1000) :
    Calls Try.prog 62 #[.int .i64 m] w fun e w' => ∃ v fp', e = .returned v ∧ Rd w' v (PM.pts m) fp' ∧ Fresh w.heap.size w' fp' ∧ Only [] w w' := by
  obtain ⟨i0, hi, hz0, hz1, hz2⟩ := info_parts Try.info2
  go_enter Try.func62, Try.ntmps62
  go_wp2_with (at_make; refine wpList_make_full _ rfl _ _ 36 rfl w.heap.size 2 i0 _ 1 Try.underlying36 hi hz0 hz1 _ _ _ _ m rfl rfl rfl rfl (by rw [hz2]; omega) (by unfold maxLen; omega) (Nat.le_refl _) ?_; intro w1 hown hg)
  rw [madeInts, Nat.mul_one] at hown
  have hs1 := hg.size
  go_loopw [9] (fun i wr => ∃ j : Nat, j ≤ m ∧ i = .int .i64 j ∧
      wr.ownsRow w.heap.size 2 1 (.slice (some ⟨w.heap.size, 0, none⟩) m m) m ((PM.pts j).map (Value.int .i64) ++ List.replicate (m - j) (.int .i64 0)) ∧ Only [] w wr)
    (fun i _ => m - (intOf i).toNat)
  case atStart => exact ⟨0, Nat.zero_le _, rfl, by simpa [PM.pts] using hown, (Only.refl _ _).grown hg (by simp)⟩
  case round =>
    obtain ⟨j, hj, rfl, hO, hK⟩ := hrel
    have hpl : ((PM.pts j).map (Value.int .i64)).length = j := by rw [List.length_map, PM.pts_len]
    by_cases hlt : j < m
    · obtain ⟨hO2, hg2⟩ := hO.stored j (.int .i64 j)
      have hstep : ((PM.pts j).map (Value.int .i64) ++ List.replicate (m - j) (Value.int .i64 0)).set j (.int .i64 j) = (PM.pts (j + 1)).map (Value.int .i64) ++ List.replicate (m - (j + 1)) (.int .i64 0) := by
        rw [show m - j = (m - (j + 1)) + 1 by omega, List.replicate_succ, List.set_append_right _ _ (by omega), hpl, Nat.sub_self, pts_succ]
        simp
      rw [hstep] at hO2
      have hc2 : wr.cell? ⟨w.heap.size, j, none⟩ = some (.int .i64 0) := by
        rw [hO.cellAt j (by omega), List.getElem?_append_right (by omega), List.getElem?_replicate, if_pos (by omega)]
      have hf2 := hO.frozenAt j
      have hK2 := hK.setCell (p := ⟨w.heap.size, j, none⟩) (by simp) (.int .i64 j)
      have HO := Lib.hid hO2
      clear hO hO2 hg hg2 hown hstep hpl
      go_wp2
      go_roundw
      case rel => exact ⟨j + 1, by omega, by go_num, HO.out, hK2⟩
      case measure => simp [intOf]; omega
    · have hjl : j = m := by omega
      rw [hjl] at hO
      simp only [Nat.sub_self, List.replicate_zero, List.append_nil] at hO
      have hw : ∀ x ∈ PM.pts m, I64 x := fun x hx => by have := PM.mem_pts.1 hx; unfold I64; omega
      have hO' : wr.ownsRow w.heap.size 2 1 (.slice (some ⟨w.heap.size, 0, none⟩) m m) (PM.pts m).length ((PM.pts m).map (Value.int .i64)) := by rw [PM.pts_len]; exact hO
      obtain ⟨a', cap', hv, -, hI, hF⟩ := own_ints hO' hw
      have HI := Lib.hid hI
      have Hv := Lib.hid hv
      clear hjl hO hO' hv hown hI hpl hw
      go_wp2
      go_ret
      refine ⟨_, _, rfl, ?_, hF, hK⟩
      have hr := HI.out.rd
      rw [← Hv.out] at hr; exact hr
end Go.Proofs.Ytbediokigibdlaa

namespace Go.Proofs.Ytbediokigibdlaa
open Go.RowKit
set_option maxRecDepth 10000

theorem PN_i64 {n : Nat} {p : List Int} (h : PM.PN n p) (hn : n ≤ 1000) : ∀ x ∈ p, I64 x := fun x hx => by
  have := h.2.1 x hx; rw [h.1] at this; unfold I64; omega
/-- the cell of a permutation's entry -/
theorem IntsA.at_pm {w : World} {a : Option Addr} {cap : Nat} {l : List Int} {fp : List Nat} (h : IntsA w a cap l fp) {x : Int} (h0 : 0 ≤ x) (h1 : x < l.length) :
    ∃ b off, a = some ⟨b, off, none⟩ ∧ fp = [b] ∧ w.cell? ⟨b, off + x.toNat, none⟩ = some (.int .i64 (PM.at_ l x)) := by
  obtain ⟨b, off, e1, e2, e3⟩ := h.at_ x.toNat (by omega)
  refine ⟨b, off, e1, e2, ?_⟩
  rw [e3]; simp [PM.at_, show x.toNat < l.length by omega]
theorem comp_take_succ (p q : List Int) (j : Nat) (h : j < p.length) : PM.comp (p.take (j + 1)) q = PM.comp (p.take j) q ++ [PM.at_ q p[j]] := by
  unfold PM.comp; rw [take_succ_get p j h, List.map_append]; rfl
theorem comp_i64 {n : Nat} {p q : List Int} (hp : PM.PN n p) (hq : PM.PN n q) (hn : n ≤ 1000) : ∀ x ∈ PM.comp p q, I64 x := PN_i64 (hp.comp hq) hn
/-- the inverse as far as it is laid -/
def invTo (p : List Int) (j : Nat) : List Int := (PM.pts p.length).map fun y => if y ∈ p.take j then (p.idxOf y : Int) else 0
theorem invTo_len (p : List Int) (j : Nat) : (invTo p j).length = p.length := by simp [invTo, PM.pts_len]
theorem invTo_get (p : List Int) (j k : Nat) (h : k < (invTo p j).length) : (invTo p j)[k] = if (k : Int) ∈ p.take j then (p.idxOf (k : Int) : Int) else 0 := by
  have h1 : k < (PM.pts p.length).length := by rw [invTo_len] at h; rw [PM.pts_len]; exact h
  have : (invTo p j)[k] = (fun y : Int => if y ∈ p.take j then (p.idxOf y : Int) else 0) ((PM.pts p.length)[k]) := List.getElem_map ..
  rw [this, PM.pts_get]
theorem invTo_zero (p : List Int) : invTo p 0 = List.replicate p.length 0 := by
  apply List.ext_getElem (by simp [invTo_len])
  intro k h1 h2; rw [invTo_get]; simp
theorem invTo_all {n : Nat} {p : List Int} (hp : PM.PN n p) {j : Nat} (hj : p.length ≤ j) : invTo p j = PM.inv p := by
  unfold invTo PM.inv
  rw [List.take_of_length_le hj]
  apply List.map_congr_left
  intro y hy
  rw [if_pos (hp.2.all hy)]
theorem invTo_succ {n : Nat} {p : List Int} (hp : PM.PN n p) {j : Nat} (hj : j < p.length) : invTo p (j + 1) = (invTo p j).set (p[j]).toNat (j : Int) := by
  have hx := hp.2.1 p[j] (List.getElem_mem hj)
  apply List.ext_getElem (by simp [invTo_len])
  intro k h1 h2
  rw [invTo_len] at h1
  rw [List.getElem_set]
  rw [invTo_get, invTo_get]
  by_cases hk : (p[j]).toNat = k
  · rw [if_pos hk]
    have e : (k : Int) = p[j] := by omega
    have hm : p[j] ∈ p.take (j + 1) := by rw [take_succ_get p j hj]; exact List.mem_append_right _ (List.mem_singleton.2 rfl)
    rw [e, if_pos hm]
    have hi : p.idxOf p[j] < p.length := List.idxOf_lt_length_of_mem (List.getElem_mem hj)
    have hg : p[p.idxOf p[j]] = p[j] := by simp
    have := PM.nodup_inj hp.2.2 hi hj hg
    rw [this]
  · rw [if_neg hk, take_succ_get p j hj]
    have : ((k : Int) ∈ p.take j ++ [p[j]]) ↔ (k : Int) ∈ p.take j := by
      rw [List.mem_append, List.mem_singleton]
      constructor
      · rintro (h | h)
        · exact h
        · omega
      · exact .inl
    simp only [this]
/-- the identity of the model's zeros -/
theorem map_zero (n : Nat) : (List.replicate n (0 : Int)).map (Value.int .i64) = List.replicate n (.int .i64 0) := by simp

set_option maxHeartbeats 1000000 in
theorem implCompose_rd (n : Nat) (vp vq : Value) (p q : List Int) (fp fq : List Nat) (w : World) (hp : Rd w vp p fp) (hq : Rd w vq q fq) (pp : PM.PN n p) (pq : PM.PN n q) (hn : n ≤ 1000) :
    Calls Try.prog 50 #[vp, vq] w fun e w' => ∃ v fp', e = .returned v ∧ Rd w' v (PM.comp p q) fp' ∧ Fresh w.heap.size w' fp' ∧ Only [] w w' := by
  obtain ⟨ap, cp, rfl, IP⟩ := hp.ints
  obtain ⟨aq, cq, rfl, IQ⟩ := hq.ints
  obtain ⟨i0, hi, hz0, hz1, hz2⟩ := info_parts Try.info2
  have hlp := pp.1
  have hlq := pq.1
  have hpn : p.length ≤ 1000 := by omega
  have HPP := Lib.hid pp; have HPQ := Lib.hid pq
  have HLP := Lib.hid hlp; have HLQ := Lib.hid hlq
  clear hlp hlq pp pq
  go_enter Try.func50, Try.ntmps50
  go_wp2_with (at_make; refine wpList_make_full _ rfl _ _ 36 rfl w.heap.size 2 i0 _ 1 Try.underlying36 hi hz0 hz1 _ _ _ _ p.length rfl rfl rfl rfl (by rw [hz2]; omega) (by unfold maxLen; omega) (Nat.le_refl _) ?_; intro w1 hown hg)
  rw [madeInts, Nat.mul_one] at hown
  have hs1 := hg.size
  go_loopw [13] (fun i wr => ∃ j : Nat, j ≤ p.length ∧ i = .int .i64 j ∧
      wr.ownsRow w.heap.size 2 1 (.slice (some ⟨w.heap.size, 0, none⟩) p.length p.length) p.length ((PM.comp (p.take j) q).map (Value.int .i64) ++ List.replicate (p.length - j) (.int .i64 0)) ∧ Only [] w wr)
    (fun i _ => p.length - (intOf i).toNat)
  case atStart => exact ⟨0, Nat.zero_le _, rfl, by simpa [PM.comp] using hown, (Only.refl _ _).grown hg (by simp)⟩
  case round =>
    obtain ⟨j, hj, rfl, hO, hK⟩ := hrel
    have hpl : ((PM.comp (p.take j) q).map (Value.int .i64)).length = j := by rw [List.length_map, PM.comp_len, List.length_take]; omega
    by_cases hlt : j < p.length
    · obtain ⟨bp, op, rfl, -, hcp0⟩ := IP.at_ j hlt
      have hcp := hK.cell (by simp) hcp0
      have hr := HPP.out.2.1 p[j] (List.getElem_mem hlt)
      have hx0 : 0 ≤ p[j] := hr.1
      have hx1 : p[j] < (q.length : Int) := by have := HLP.out; have := HLQ.out; omega
      obtain ⟨bq, oq, rfl, -, hcq0⟩ := IQ.at_pm hx0 hx1
      have hcq := hK.cell (by simp) hcq0
      obtain ⟨hO2, hg2⟩ := hO.stored j (.int .i64 (PM.at_ q p[j]))
      have hstep : ((PM.comp (p.take j) q).map (Value.int .i64) ++ List.replicate (p.length - j) (Value.int .i64 0)).set j (.int .i64 (PM.at_ q p[j])) = (PM.comp (p.take (j + 1)) q).map (Value.int .i64) ++ List.replicate (p.length - (j + 1)) (.int .i64 0) := by
        rw [show p.length - j = (p.length - (j + 1)) + 1 by omega, List.replicate_succ, List.set_append_right _ _ (by omega), hpl, Nat.sub_self, comp_take_succ p q j hlt]
        simp
      rw [hstep] at hO2
      have hc2 : wr.cell? ⟨w.heap.size, j, none⟩ = some (.int .i64 0) := by
        rw [hO.cellAt j (by omega), List.getElem?_append_right (by omega), List.getElem?_replicate, if_pos (by omega)]
      have hf2 := hO.frozenAt j
      have hK2 := hK.setCell (p := ⟨w.heap.size, j, none⟩) (by simp) (.int .i64 (PM.at_ q p[j]))
      have HO := Lib.hid hO2
      have hb1 := IP.bound
      have hb2 := IQ.bound
      clear hO hO2 hg hg2 hown hstep hpl hcp0 hcq0 hr
      go_wp2
      go_roundw
      case rel => exact ⟨j + 1, by omega, by go_num, HO.out, hK2⟩
      case measure => simp [intOf]; omega
    · have hjl : j = p.length := by omega
      rw [hjl] at hO
      simp only [Nat.sub_self, List.replicate_zero, List.append_nil, List.take_length] at hO
      have hw := comp_i64 HPP.out HPQ.out hn
      have hO' : wr.ownsRow w.heap.size 2 1 (.slice (some ⟨w.heap.size, 0, none⟩) p.length p.length) (PM.comp p q).length ((PM.comp p q).map (Value.int .i64)) := by rw [PM.comp_len]; exact hO
      obtain ⟨a', cap', hv, -, hI, hF⟩ := own_ints hO' hw
      have HI := Lib.hid hI
      have Hv := Lib.hid hv
      clear hjl hO hO' hv hown hI hpl hw
      go_wp2
      go_ret
      refine ⟨_, _, rfl, ?_, hF, hK⟩
      have hr := HI.out.rd
      rw [← Hv.out] at hr; exact hr
set_option maxHeartbeats 1000000 in
theorem specCompose_rd (n : Nat) (vp vq : Value) (p q : List Int) (fp fq : List Nat) (w : World) (hp : Rd w vp p fp) (hq : Rd w vq q fq) (pp : PM.PN n p) (pq : PM.PN n q) (hn : n ≤ 1000) :
    Calls Try.prog 39 #[vp, vq] w fun e w' => ∃ v fp', e = .returned v ∧ Rd w' v (PM.comp p q) fp' ∧ Fresh w.heap.size w' fp' ∧ Only [] w w' := by
  obtain ⟨ap, cp, rfl, IP⟩ := hp.ints
  obtain ⟨aq, cq, rfl, IQ⟩ := hq.ints
  obtain ⟨i0, hi, hz0, hz1, hz2⟩ := info_parts Try.info2
  have hlp := pp.1
  have hlq := pq.1
  have hpn : p.length ≤ 1000 := by omega
  have HPP := Lib.hid pp; have HPQ := Lib.hid pq
  have HLP := Lib.hid hlp; have HLQ := Lib.hid hlq
  clear hlp hlq pp pq
  have hb1 := IP.bound
  have hb2 := IQ.bound
  go_enter Try.func39, Try.ntmps39
  go_wp2
  go_loopw [5, 6] (fun o i wr => ∃ (j : Nat) (fs : List (List Nat)), j ≤ p.length ∧ i = .int .i64 j ∧ Acc w.heap.size 2 wr o (PM.comp (p.take j) q) fs ∧ Fresh w.heap.size wr fs.flatten ∧ Only [] w wr)
    (fun _ i _ => p.length - (intOf i).toNat)
  case atStart => exact ⟨0, [], Nat.zero_le _, rfl, by simpa [PM.comp] using Acc.made w w.heap.size _ rfl (Nat.le_refl _), Fresh.nil _ _, (Only.refl _ _).alloc _⟩
  case round =>
    obtain ⟨j, fs, hj, rfl, hA, hF, hK⟩ := hrel
    by_cases hlt : j < p.length
    · have hsz := hK.size
      obtain ⟨bp, op, rfl, -, hcp0⟩ := IP.at_ j hlt
      have hcp := hK.cell (by simp) hcp0
      have hr := HPP.out.2.1 p[j] (List.getElem_mem hlt)
      have hx0 : 0 ≤ p[j] := hr.1
      have hx1 : p[j] < (q.length : Int) := by have := HLP.out; have := HLQ.out; omega
      obtain ⟨bq, oq, rfl, -, hcq0⟩ := IQ.at_pm hx0 hx1
      have hcq := hK.cell (by simp) hcq0
      have hlj : (PM.comp (p.take j) q).length + 1 ≤ 1073741824 := by rw [PM.comp_len, List.length_take]; omega
      have hI : I64 (PM.at_ q p[j]) := PN_i64 HPQ.out hn _ (PM.at_mem hx0 hx1)
      have HI := Lib.hid hI
      clear hI hcp0 hcq0 hr
      go_wp2_with ((at_builtin; refine wpList_pushF rfl _ _ 36 rfl w.heap.size 2 i0 _ 8 Try.underlying36 hi hz0 hz1 hz2 rfl (by decide) (by decide) wr _ (PM.comp (p.take j) q) fs rfl hA hF ((Only.refl _ _).alloc _) hsz wr.heap.size 1 [.int .i64 (PM.at_ q p[j])] (PM.at_ q p[j]) [] rfl (lit_src wr [.int .i64 (PM.at_ q p[j])] _ rfl) (by intro u hu; simp at hu; subst hu; rfl) (int_rd _ HI.out) (Fresh.nil _ _) hlj w (hK.alloc _) (Nat.le_refl _) ?_; intro v3 w3 hA3 hF3 hK3 _))
      go_roundw
      case rel => exact ⟨j + 1, _, by omega, by go_num, by rw [comp_take_succ p q j hlt]; exact hA3, hF3, hK3⟩
      case measure => simp [intOf]; omega
    · have hjl : j = p.length := by omega
      rw [hjl, List.take_length] at hA
      have HA := Lib.hid hA
      clear hjl hA
      go_wp2
      go_ret
      exact ⟨_, _, rfl, HA.out.rd (by decide), HA.out.fresh hF, hK⟩
set_option maxHeartbeats 1000000 in
theorem implInv_rd (n : Nat) (vp : Value) (p : List Int) (fp : List Nat) (w : World) (hp : Rd w vp p fp) (pp : PM.PN n p) (hn : n ≤ 1000) :
    Calls Try.prog 51 #[vp] w fun e w' => ∃ v fp', e = .returned v ∧ Rd w' v (PM.inv p) fp' ∧ Fresh w.heap.size w' fp' ∧ Only [] w w' := by
  obtain ⟨ap, cp, rfl, IP⟩ := hp.ints
  obtain ⟨i0, hi, hz0, hz1, hz2⟩ := info_parts Try.info2
  have hlp := pp.1
  have hpn : p.length ≤ 1000 := by omega
  have HPP := Lib.hid pp
  clear hlp pp
  have hb1 := IP.bound
  go_enter Try.func51, Try.ntmps51
  go_wp2_with (at_make; refine wpList_make_full _ rfl _ _ 36 rfl w.heap.size 2 i0 _ 1 Try.underlying36 hi hz0 hz1 _ _ _ _ p.length rfl rfl rfl rfl (by rw [hz2]; omega) (by unfold maxLen; omega) (Nat.le_refl _) ?_; intro w1 hown hg)
  rw [madeInts, Nat.mul_one] at hown
  have hs1 := hg.size
  go_loopw [11] (fun i wr => ∃ j : Nat, j ≤ p.length ∧ i = .int .i64 j ∧
      wr.ownsRow w.heap.size 2 1 (.slice (some ⟨w.heap.size, 0, none⟩) p.length p.length) p.length ((invTo p j).map (Value.int .i64)) ∧ Only [] w wr)
    (fun i _ => p.length - (intOf i).toNat)
  case atStart => exact ⟨0, Nat.zero_le _, rfl, by rw [invTo_zero, map_zero]; exact hown, (Only.refl _ _).grown hg (by simp)⟩
  case round =>
    obtain ⟨j, hj, rfl, hO, hK⟩ := hrel
    by_cases hlt : j < p.length
    · obtain ⟨bp, op, rfl, -, hcp0⟩ := IP.at_ j hlt
      have hcp := hK.cell (by simp) hcp0
      have hr := HPP.out.2.1 p[j] (List.getElem_mem hlt)
      have hx0 : 0 ≤ p[j] := hr.1
      have hx1 : p[j] < (p.length : Int) := hr.2
      obtain ⟨hO2, hg2⟩ := hO.stored (p[j]).toNat (.int .i64 j)
      have hstep : ((invTo p j).map (Value.int .i64)).set (p[j]).toNat (.int .i64 (j : Int)) = (invTo p (j + 1)).map (Value.int .i64) := by
        rw [invTo_succ HPP.out hlt, List.map_set]
      rw [hstep] at hO2
      have hc2 : ∃ u, wr.cell? ⟨w.heap.size, (p[j]).toNat, none⟩ = some (.int .i64 u) := by
        rw [hO.cellAt _ (by omega)]
        have : (p[j]).toNat < (invTo p j).length := by rw [invTo_len]; omega
        exact ⟨(invTo p j)[(p[j]).toNat], by simp [this]⟩
      obtain ⟨u, hc2⟩ := hc2
      have hf2 := hO.frozenAt (p[j]).toNat
      have hK2 := hK.setCell (p := ⟨w.heap.size, (p[j]).toNat, none⟩) (by simp) (.int .i64 j)
      have HO := Lib.hid hO2
      clear hO hO2 hg hg2 hown hstep hcp0 hr
      go_wp2
      go_roundw
      case rel => exact ⟨j + 1, by omega, by go_num, HO.out, hK2⟩
      case measure => simp [intOf]; omega
    · have hjl : p.length ≤ j := by omega
      rw [invTo_all HPP.out hjl] at hO
      have hw := PN_i64 HPP.out.inv hn
      have hO' : wr.ownsRow w.heap.size 2 1 (.slice (some ⟨w.heap.size, 0, none⟩) p.length p.length) (PM.inv p).length ((PM.inv p).map (Value.int .i64)) := by rw [PM.inv_len]; exact hO
      obtain ⟨a', cap', hv, -, hI, hF⟩ := own_ints hO' hw
      have HI := Lib.hid hI
      have Hv := Lib.hid hv
      clear hO hO' hv hown hI hw
      go_wp2
      go_ret
      refine ⟨_, _, rfl, ?_, hF, hK⟩
      have hr := HI.out.rd
      rw [← Hv.out] at hr; exact hr
set_option maxHeartbeats 1000000 in
theorem specInv_rd (n : Nat) (vp : Value) (p : List Int) (fp : List Nat) (w : World) (hp : Rd w vp p fp) (pp : PM.PN n p) (hn : n ≤ 1000) :
    Calls Try.prog 40 #[vp] w fun e w' => ∃ v fp', e = .returned v ∧ Rd w' v (PM.inv p) fp' ∧ Fresh w.heap.size w' fp' ∧ Only [] w w' := by
  obtain ⟨ap, cp, rfl, IP⟩ := hp.ints
  obtain ⟨i0, hi, hz0, hz1, hz2⟩ := info_parts Try.info2
  have hlp := pp.1
  have hpn : p.length ≤ 1000 := by omega
  have HPP := Lib.hid pp
  clear hlp pp
  have hb1 := IP.bound
  go_enter Try.func40, Try.ntmps40
  go_wp2_with (at_make; refine wpList_make_full _ rfl _ _ 36 rfl w.heap.size 2 i0 _ 1 Try.underlying36 hi hz0 hz1 _ _ _ _ p.length rfl rfl rfl rfl (by rw [hz2]; omega) (by unfold maxLen; omega) (Nat.le_refl _) ?_; intro w1 hown hg)
  rw [madeInts, Nat.mul_one] at hown
  have hs1 := hg.size
  go_loopw [4] (fun i wr => ∃ j : Nat, j ≤ p.length ∧ i = .int .i64 j ∧
      wr.ownsRow w.heap.size 2 1 (.slice (some ⟨w.heap.size, 0, none⟩) p.length p.length) p.length ((invTo p j).map (Value.int .i64)) ∧ Only [] w wr)
    (fun i _ => p.length - (intOf i).toNat)
  case atStart => exact ⟨0, Nat.zero_le _, rfl, by rw [invTo_zero, map_zero]; exact hown, (Only.refl _ _).grown hg (by simp)⟩
  case round =>
    obtain ⟨j, hj, rfl, hO, hK⟩ := hrel
    by_cases hlt : j < p.length
    · obtain ⟨bp, op, rfl, -, hcp0⟩ := IP.at_ j hlt
      have hcp := hK.cell (by simp) hcp0
      have hr := HPP.out.2.1 p[j] (List.getElem_mem hlt)
      have hx0 : 0 ≤ p[j] := hr.1
      have hx1 : p[j] < (p.length : Int) := hr.2
      obtain ⟨hO2, hg2⟩ := hO.stored (p[j]).toNat (.int .i64 j)
      have hstep : ((invTo p j).map (Value.int .i64)).set (p[j]).toNat (.int .i64 (j : Int)) = (invTo p (j + 1)).map (Value.int .i64) := by
        rw [invTo_succ HPP.out hlt, List.map_set]
      rw [hstep] at hO2
      have hc2 : ∃ u, wr.cell? ⟨w.heap.size, (p[j]).toNat, none⟩ = some (.int .i64 u) := by
        rw [hO.cellAt _ (by omega)]
        have : (p[j]).toNat < (invTo p j).length := by rw [invTo_len]; omega
        exact ⟨(invTo p j)[(p[j]).toNat], by simp [this]⟩
      obtain ⟨u, hc2⟩ := hc2
      have hf2 := hO.frozenAt (p[j]).toNat
      have hK2 := hK.setCell (p := ⟨w.heap.size, (p[j]).toNat, none⟩) (by simp) (.int .i64 j)
      have HO := Lib.hid hO2
      clear hO hO2 hg hg2 hown hstep hcp0 hr
      go_wp2
      go_roundw
      case rel => exact ⟨j + 1, by omega, by go_num, HO.out, hK2⟩
      case measure => simp [intOf]; omega
    · have hjl : p.length ≤ j := by omega
      rw [invTo_all HPP.out hjl] at hO
      have hw := PN_i64 HPP.out.inv hn
      have hO' : wr.ownsRow w.heap.size 2 1 (.slice (some ⟨w.heap.size, 0, none⟩) p.length p.length) (PM.inv p).length ((PM.inv p).map (Value.int .i64)) := by rw [PM.inv_len]; exact hO
      obtain ⟨a', cap', hv, -, hI, hF⟩ := own_ints hO' hw
      have HI := Lib.hid hI
      have Hv := Lib.hid hv
      clear hO hO' hv hown hI hw
      go_wp2
      go_ret
      refine ⟨_, _, rfl, ?_, hF, hK⟩
      have hr := HI.out.rd
      rw [← Hv.out] at hr; exact hr
end Go.Proofs.Ytbediokigibdlaa

namespace Go.Proofs.Ytbediokigibdlaa
open Go.RowKit
set_option maxRecDepth 10000

theorem has_step {T : PM.Rows} {n j : Nat} (hj : j < n) (q : List Int) : PM.has T n (n - j) q = if PM.tr T j (PM.at_ q (j : Int)) = [] then false else PM.has T n (n - (j + 1)) (PM.comp q (PM.inv (PM.tr T j (PM.at_ q (j : Int))))) := by
  have h1 : n - j = (n - (j + 1)) + 1 := by omega
  have h2 : n - (n - (j + 1) + 1) = j := by omega
  rw [h1]; simp only [PM.has, h2]
theorem has_end {T : PM.Rows} {n j : Nat} (hj : n ≤ j) (q : List Int) : PM.has T n (n - j) q = true := by
  rw [show n - j = 0 by omega]; rfl
theorem IntsA.at_pn {w : World} {a : Option Addr} {cap : Nat} {l : List Int} {fp : List Nat} (h : IntsA w a cap l fp) {j : Nat} (hj : j < l.length) :
    ∃ b off, a = some ⟨b, off, none⟩ ∧ fp = [b] ∧ w.cell? ⟨b, off + j, none⟩ = some (.int .i64 (PM.at_ l (j : Int))) := by
  obtain ⟨b, off, e1, e2, e3⟩ := h.at_ j hj
  exact ⟨b, off, e1, e2, by rw [e3, PM.at_nat l j hj]⟩
set_option maxHeartbeats 1000000 in
theorem implHas_any {e : TypeId} {B : Nat} {L : Lay} {gv : Nat → Value} {n : Nat} {G : PM.Gens} {T : PM.Rows} {M F : List Nat} (w : World) (hC : Ch e B w L gv n G T M F) (hw : PM.WF n T) (hT : L.oT = 2)
    (k : Nat) (vp : Value) (p : List Int) (fp : List Nat) (hk : k ≤ n) (hp : Rd w vp p fp) (pp : PM.PN n p) :
    Calls Try.prog 35 #[.pointer (some ⟨L.g, 0, none⟩), .int .i64 k, vp] w fun e w' => e = .returned (.bool (PM.has T n (n - k) p)) ∧ Only [] w w' := by
  have hn20 := hC.le
  have HW := Lib.hid hw
  have HC := Lib.hid hC
  have hcT := hC.ct
  rw [hT] at hcT
  have HT := Lib.hid hT
  have Hp := Lib.hid hp
  have HPP := Lib.hid pp
  clear hT hC hw hp pp
  go_enter Try.func35, Try.ntmps35
  go_wp2
  go_loopw [2, 7] (fun s i wr => ∃ (j : Nat) (q : List Int) (f : List Nat), j ≤ n ∧ i = .int .i64 j ∧ Rd wr s q f ∧ PM.PN n q ∧ PM.has T n (n - k) p = PM.has T n (n - j) q ∧ Only [] w wr)
    (fun _ i _ => n - (intOf i).toNat)
  case atStart => exact ⟨k, p, fp, hk, rfl, Hp.out, HPP.out, rfl, Only.refl _ _⟩
  case round =>
    obtain ⟨j, q, f, hj, rfl, hq, hqn, hh, hK⟩ := hrel
    have HH := Lib.hid hh
    have HQN := Lib.hid hqn
    have HK := Lib.hid hK
    have c0 := hK.cell (by simp) HC.out.cn
    have c2 := hK.cell (by simp) hcT
    by_cases hlt : j < n
    · have hjn : (j : Int) < (n : Int) := by omega
      have hj0 : (0 : Int) ≤ (j : Int) := by omega
      have hC' := HC.out.keep hK
      obtain ⟨aq, cq, rfl, IQ⟩ := hq.ints
      have hb := IQ.bound
      have hlen : (j : Int) < (q.length : Int) := by have := hqn.1; omega
      obtain ⟨bq, oq, rfl, -, hcq⟩ := IQ.at_pn (by omega : j < q.length)
      have hr := hqn.rng (x := (j : Int)) (by omega) (by omega)
      have hy0 := hr.1
      have hy1 := hr.2
      have c3 := hC'.row j hlt
      have hst := has_step (T := T) hlt q
      have Hst := Lib.hid hst
      clear hst hh hqn hK hr
      by_cases ht : PM.tr T j (PM.at_ q (j : Int)) = []
      · have c4 := hC'.at_nil hlt hy0 hy1 ht
        have hnil := fun W => Lib.run_eql_slice_nil (P := Try.prog) W 36 2 none 0 0 0 0 Try.underlying36
        have Ht := Lib.hid ht
        clear ht hC'
        go_wp2
        go_quiet (fail)
        go_wp2
        go_ret
        exact ⟨ret_bool (by rw [HH.out, Hst.out, if_pos Ht.out]), HK.out.drewN _⟩
      · obtain ⟨b, off, cap, f4, c4, hR, -⟩ := hC'.at_some hlt hy0 hy1 ht
        have hnil := fun W => Lib.run_eql_slice_nil (P := Try.prog) W 36 2 (some ⟨b, off, none⟩) (PM.tr T j (PM.at_ q (j : Int))).length cap 0 0 Try.underlying36
        have htn := HW.out.pn j _ hlt ht
        have Htn := Lib.hid htn
        have Ht := Lib.hid ht
        clear ht hC' htn
        go_wp2
        go_quiet (fail)
        go_wp2_with (first
          | (go_at_call 51; (with_reducible refine (implInv_rd n _ _ _ _ (Rp.keep hR (by with_reducible repeat (first | exact Only.refl _ _ | assumption | refine Only.drewN ?_ _ | refine Only.drew ?_ | refine Only.alloc ?_ _ | refine Only.setCell ?_ (by intro hh; exfalso; simp at hh; try omega) _ | refine Only.trans ?_ (by assumption)))) Htn.out (by omega)).mono ?_); rintro e w1 ⟨v1, f1, rfl, r1, F1, t1⟩)
          | (go_at_call 50; (with_reducible refine (implCompose_rd n _ _ _ _ _ _ _ (Rp.keep hq (by with_reducible repeat (first | exact Only.refl _ _ | assumption | refine Only.drewN ?_ _ | refine Only.drew ?_ | refine Only.alloc ?_ _ | refine Only.setCell ?_ (by intro hh; exfalso; simp at hh; try omega) _ | refine Only.trans ?_ (by assumption)))) r1 HQN.out Htn.out.inv (by omega)).mono ?_); rintro e w2 ⟨v2, f2, rfl, r2, F2, t2⟩))
        go_roundw
        case rel => exact ⟨j + 1, _, f2, by omega, by go_num, r2, HQN.out.comp Htn.out.inv, by rw [HH.out, Hst.out, if_neg Ht.out], (HK.out.drewN _).trans (t1.trans t2)⟩
        case measure => simp [intOf]; omega
    · have hjn : ¬ (j : Int) < (n : Int) := by omega
      clear hh hqn
      go_wp2
      go_ret
      exact ⟨ret_bool (by rw [HH.out, has_end (by omega)]), HK.out⟩
/-- the points of a row -/
def orb (n : Nat) (T : PM.Rows) (k : Nat) : List Int := (PM.pts n).filter fun y => decide (PM.tr T k y ≠ [])
def orbTo (j : Nat) (T : PM.Rows) (k : Nat) : List Int := (PM.pts j).filter fun y => decide (PM.tr T k y ≠ [])
theorem orbTo_succ (j : Nat) (T : PM.Rows) (k : Nat) : orbTo (j + 1) T k = if PM.tr T k (j : Int) = [] then orbTo j T k else orbTo j T k ++ [(j : Int)] := by
  unfold orbTo
  rw [pts_succ, List.filter_append]
  by_cases h : PM.tr T k (j : Int) = []
  · rw [if_pos h]; simp [h]
  · rw [if_neg h]; simp [h]
theorem orbTo_len (j : Nat) (T : PM.Rows) (k : Nat) : (orbTo j T k).length ≤ j := by
  unfold orbTo
  have := List.length_filter_le (fun y => decide (PM.tr T k y ≠ [])) (PM.pts j)
  rwa [PM.pts_len] at this
theorem mem_orb {n : Nat} {T : PM.Rows} {k : Nat} {y : Int} : y ∈ orb n T k ↔ (0 ≤ y ∧ y < n) ∧ PM.tr T k y ≠ [] := by
  unfold orb
  rw [List.mem_filter, PM.mem_pts]; simp
theorem orb_nodup (n : Nat) (T : PM.Rows) (k : Nat) : (orb n T k).Nodup := List.Nodup.sublist List.filter_sublist (PM.pts_nodup n)
theorem orb_i64 {n : Nat} (hn : n ≤ 1000) (T : PM.Rows) (k : Nat) : ∀ x ∈ orb n T k, I64 x := fun x hx => by
  have := (mem_orb.1 hx).1; unfold I64; omega
set_option maxHeartbeats 1000000 in
theorem orbitOf_any {e : TypeId} {B : Nat} {L : Lay} {gv : Nat → Value} {n : Nat} {G : PM.Gens} {T : PM.Rows} {M F : List Nat} (w : World) (hC : Ch e B w L gv n G T M F) (k : Nat) (hk : k < n) :
    Calls Try.prog 90 #[.slice (some ⟨L.rb k, 0, none⟩) n n] w fun e w' => ∃ v fs, e = .returned v ∧ Acc w.heap.size 2 w' v (orb n T k) fs ∧ Fresh w.heap.size w' fs.flatten ∧ Only [] w w' := by
  obtain ⟨i0, hi, hz0, hz1, hz2⟩ := info_parts Try.info2
  have hn20 := hC.le
  have HC := Lib.hid hC
  clear hC
  go_enter Try.func90, Try.ntmps90
  go_wp2
  go_loopw [3, 8] (fun o i wr => ∃ (j : Nat) (fs : List (List Nat)), j ≤ n ∧ i = .int .i64 j ∧ Acc w.heap.size 2 wr o (orbTo j T k) fs ∧ Fresh w.heap.size wr fs.flatten ∧ Only [] w wr)
    (fun _ i _ => n - (intOf i).toNat)
  case atStart => exact ⟨0, [], Nat.zero_le _, rfl, by simpa [orbTo, PM.pts] using Acc.nil w w.heap.size _, Fresh.nil _ _, Only.refl _ _⟩
  case round =>
    obtain ⟨j, fs, hj, rfl, hA, hF, hK⟩ := hrel
    by_cases hlt : j < n
    · have hsz := hK.size
      have hC' := HC.out.keep hK
      have hjl := orbTo_len j T k
      have hlj : (orbTo j T k).length + 1 ≤ 1073741824 := by omega
      have hI : I64 (j : Int) := by unfold I64; omega
      have HI := Lib.hid hI
      have hsu := orbTo_succ j T k
      have Hsu := Lib.hid hsu
      clear hI hsu
      by_cases ht : PM.tr T k (j : Int) = []
      · have c4 := hC'.at_nil hk (y := (j : Int)) (by omega) (by omega) ht
        simp only [Int.toNat_natCast] at c4
        have hnil := fun W => run_neq_slice_nil_any (P := Try.prog) W 36 2 none 0 0 0 0 Try.underlying36
        have Ht := Lib.hid ht
        clear ht hC'
        go_wp2
        go_roundw
        case rel => exact ⟨j + 1, fs, by omega, by go_num, by rw [Hsu.out, if_pos Ht.out]; exact hA, hF, hK⟩
        case measure => simp [intOf]; omega
      · obtain ⟨b, off, cap, f4, c4, -, -⟩ := hC'.at_some hk (y := (j : Int)) (by omega) (by omega) ht
        simp only [Int.toNat_natCast] at c4
        have hnil := fun W => run_neq_slice_nil_any (P := Try.prog) W 36 2 (some ⟨b, off, none⟩) (PM.tr T k (j : Int)).length cap 0 0 Try.underlying36
        have Ht := Lib.hid ht
        clear ht hC'
        go_wp2_with ((at_builtin; refine wpList_pushF rfl _ _ 36 rfl w.heap.size 2 i0 _ 8 Try.underlying36 hi hz0 hz1 hz2 rfl (by decide) (by decide) wr _ (orbTo j T k) fs rfl hA hF ((Only.refl _ _).alloc _) hsz wr.heap.size 1 [.int .i64 (j : Int)] (j : Int) [] rfl (lit_src wr [.int .i64 (j : Int)] _ rfl) (by intro u hu; simp at hu; subst hu; rfl) (int_rd _ HI.out) (Fresh.nil _ _) hlj w (hK.alloc _) (Nat.le_refl _) ?_; intro v3 w3 hA3 hF3 hK3 _))
        go_roundw
        case rel => exact ⟨j + 1, _, by omega, by go_num, by rw [Hsu.out, if_neg Ht.out]; exact hA3, hF3, hK3⟩
        case measure => simp [intOf]; omega
    · have hjl : j = n := by omega
      rw [hjl] at hA
      have HA := Lib.hid hA
      clear hjl hA
      go_wp2
      go_ret
      exact ⟨_, fs, rfl, HA.out, hF, hK⟩
end Go.Proofs.Ytbediokigibdlaa

namespace Go.Proofs.Ytbediokigibdlaa
open Go.RowKit
set_option maxRecDepth 10000

/-- v is a slice of int64s that the call owns (its block, if any, from B on), at whatever offset; it reads as l -/
def Que (e : TypeId) (B : Nat) (w : World) (v : Value) (l : List Int) : Prop :=
  (∀ x ∈ l, I64 x) ∧ ((v = .slice none 0 0 ∧ l = []) ∨
   ∃ g o cap cur, v = .slice (some ⟨g, o, none⟩) l.length cap ∧ B ≤ g ∧ w.heap[g]? = some (.cells cur e (0, 0)) ∧ l.length ≤ cap ∧ cap ≤ maxLen ∧ o + cap ≤ cur.size ∧ (cur.toList.drop o).take l.length = l.map (Value.int .i64))

section
variable {e : TypeId} {B : Nat} {w w' : World} {v : Value} {l : List Int}
theorem Que.ofAcc {fs : List (List Nat)} (h : Acc B e w v l fs) (hi : ∀ x ∈ l, I64 x) : Que e B w v l := by
  obtain ⟨css, ho, hcl, hr⟩ := h.own
  have hfl := h.fl
  have hcss : css.flatten = l.map (Value.int .i64) := by
    have : css = l.map fun x => [Value.int .i64 x] := by
      apply List.ext_getElem (by simp [hcl])
      intro k h1 h2
      have := hr k h1 (by omega) (by omega)
      rw [this.1]; simp
    rw [this]
    clear this hr hcl hfl ho h hi
    induction l with
    | nil => rfl
    | cons x l ih => simp [ih]
  refine ⟨hi, ?_⟩
  rcases ho.2 with ⟨rfl, h0⟩ | ⟨g, cap, cur, rfl, hb, hg, h1, h2, h3, h4⟩
  · exact .inl ⟨rfl, List.eq_nil_of_length_eq_zero h0⟩
  · refine .inr ⟨g, 0, cap, cur, rfl, hb, hg, h1, h2, ?_, ?_⟩
    · have : cur.size = cap * 1 := h3
      omega
    · have h5 : cur.toList.take (l.length * 1) = css.flatten := h4
      rw [hcss, Nat.mul_one] at h5
      simpa using h5
theorem Que.lt (h : Que e B w v l) : ∀ g, v.ownBlock = some g → B ≤ g ∧ g < w.heap.size := by
  intro g hg
  rcases h.2 with ⟨rfl, -⟩ | ⟨g', o, cap, cur, rfl, hb, hh, -⟩
  · simp [Value.ownBlock] at hg
  · simp [Value.ownBlock] at hg; subst hg
    exact ⟨hb, (Array.getElem?_eq_some_iff.1 hh).1⟩
theorem Que.only (h : Que e B w v l) {fp : List Nat} (ho : Only fp w w') (hn : ∀ g, v.ownBlock = some g → g ∉ fp) : Que e B w' v l := by
  refine ⟨h.1, ?_⟩
  rcases h.2 with hz | ⟨g, o, cap, cur, rfl, hb, hh, hrest⟩
  · exact .inl hz
  · exact .inr ⟨g, o, cap, cur, rfl, hb, (ho.block g (Array.getElem?_eq_some_iff.1 hh).1 (hn g rfl)).trans hh, hrest⟩
theorem Que.keep (h : Que e B w v l) (ho : Only [] w w') : Que e B w' v l := h.only ho (by simp)
theorem Que.form (h : Que e B w v l) : ∃ a c, v = .slice a l.length c := by
  rcases h.2 with ⟨rfl, rfl⟩ | ⟨g, o, cap, cur, rfl, -⟩
  · exact ⟨none, 0, rfl⟩
  · exact ⟨_, _, rfl⟩
/-- a queue that is not empty: its first number, what is behind it -/
theorem Que.head {x : Int} (h : Que e B w v (x :: l)) : ∃ g o cap, v = .slice (some ⟨g, o, none⟩) (l.length + 1) cap ∧ l.length + 1 ≤ cap ∧ cap ≤ maxLen ∧ w.cell? ⟨g, o, none⟩ = some (.int .i64 x) := by
  rcases h.2 with ⟨-, h0⟩ | ⟨g, o, cap, cur, rfl, hb, hh, h1, h2, h3, h4⟩
  · cases h0
  · refine ⟨g, o, cap, by simp, by simpa using h1, h2, ?_⟩
    rw [cell_of_row w g o cur e (0, 0) hh]
    have := congrArg (fun L => L[0]?) h4
    simp at this
    simpa using this
theorem Que.pop {P : Program} {t : TypeId} (ht : P.underlying t = some (.slice e)) (hz : ∀ w, (sizeOf e).run P w = .ok 1 w) {x : Int} (h : Que e B w v (x :: l)) : ∃ v1, (∀ W, (Instr.slice t v (some (.int .i64 1)) none none).run P W = .ok v1 W) ∧ Que e B w v1 l ∧ v1.ownBlock = v.ownBlock := by
  rcases h.2 with ⟨-, h0⟩ | ⟨g, o, cap, cur, rfl, hb, hh, h1, h2, h3, h4⟩
  · cases h0
  · have hi : ∀ y ∈ l, I64 y := fun y hy => h.1 y (by simp [hy])
    simp only [List.length_cons] at h1 h4
    have he : P.elem t = e := by simp [Program.elem, ht]
    have ht' : P.underlying t = some (.slice (P.elem t)) := by rw [he]; exact ht
    have hrun : ∀ W, (Instr.slice t (.slice (some ⟨g, o, none⟩) (x :: l).length cap) (some (.int .i64 1)) none none).run P W = .ok (sliced (some ⟨g, o, none⟩) 1 (x :: l).length cap 1) W := by
      intro W
      rw [run_slice_l (P := P) (w := W) t _ _ _ ht' .i64 1 (by omega) (by simp only [List.length_cons]; omega), he, hz]
      rfl
    by_cases hc : cap = 1
    · have hl : l.length = 0 := by omega
      have hl0 : l = [] := List.eq_nil_of_length_eq_zero hl
      refine ⟨.slice (some ⟨g, o, none⟩) 0 0, fun W => ?_, ⟨hi, .inr ⟨g, o, 0, cur, by rw [hl], hb, hh, by omega, by unfold maxLen; omega, by omega, by rw [hl0]; simp⟩⟩, rfl⟩
      rw [hrun W]; subst hl0; subst hc; rfl
    · refine ⟨.slice (some ⟨g, o + 1, none⟩) l.length (cap - 1), fun W => ?_, ⟨hi, .inr ⟨g, o + 1, cap - 1, cur, rfl, hb, hh, by omega, by omega, by omega, ?_⟩⟩, rfl⟩
      · rw [hrun W]
        unfold sliced
        rw [if_neg hc]
        simp [Addr.add]
      · have h5 := congrArg (List.drop 1) h4
        rw [List.drop_take, List.drop_drop] at h5
        simpa using h5
end

section
variable {P : Program} (w : World)
/-- where there is room, at an offset -/
theorem run_append_roomO (t ty e : TypeId) (i : TypeInfo) (ht : P.underlying t = some (.slice e)) (hi : P.info? e = some i)
    (g o sLen sCap : Nat) (cur : Array Value) (hg : w.heap[g]? = some (.cells cur e (0, 0)))
    (a : Addr) (m c : Nat) (news : List Value) (hl : news.length = m * i.size) (hnews : ∀ j u, news[j]? = some u → w.cell? (a.add j) = some u) (h1 : ∀ u ∈ news, u.oneCell' = true)
    (hroom : sLen + m ≤ sCap) (hfit : o + sLen * i.size + news.length ≤ cur.size) :
    (Builtin.append_ #[t, t] ty #[.slice (some ⟨g, o, none⟩) sLen sCap, .slice (some a) m c]).run P w =
      .ok (.slice (some ⟨g, o, none⟩) (sLen + m) sCap) (w.setRow g (cur.toList.take (o + sLen * i.size) ++ news ++ cur.toList.drop (o + sLen * i.size + news.length)).toArray) := by
  have hf := run_firstCells_some (P := P) w i.size m a m c news hl hnews
  have hst := run_storeCells_at P g (o + sLen * i.size) e news 0 cur w hg (by simpa using hfit) h1
  simp only [Nat.add_zero] at hst
  have hadd : (⟨g, o, none⟩ : Addr).add (sLen * i.size) = ⟨g, o + sLen * i.size, none⟩ := by unfold Addr.add; split <;> simp_all
  simp [Builtin.append_, run_underlying ht, sizeOf, typeInfo, hi, Builtin.lenOf, hroom, hf, hadd, hst]
theorem run_app_que (t ty e : TypeId) (i : TypeInfo) (z : Value) (ht : P.underlying t = some (.slice e)) (hi : P.info? e = some i) (hz : i.zero = some z)
    (hsize : i.size = 1) (hby : i.bytes = 8) (hzs : z.cells.size = 1) {B : Nat} (v : Value) (l : List Int) (hq : Que e B w v l)
    (ad : Addr) (c : Nat) (x : Int) (hx : I64 x) (hsrc : w.cell? ad = some (.int .i64 x)) (hlen : l.length + 1 ≤ 1073741824) (hB : B ≤ w.heap.size) :
    ∃ v' w', (Builtin.append_ #[t, t] ty #[v, .slice (some ad) 1 c]).run P w = .ok v' w' ∧ Que e B w' v' (l ++ [x]) ∧ Only v.ownBlock.toList w w' ∧
      (v'.ownBlock = v.ownBlock ∨ v'.ownBlock = some w.heap.size) := by
  have hi' : ∀ y ∈ l ++ [x], I64 y := fun y hy => by
    rcases List.mem_append.1 hy with hy | hy
    · exact hq.1 y hy
    · simp at hy; subst hy; exact hx
  have hnews : ∀ j u, [Value.int .i64 x][j]? = some u → w.cell? (ad.add j) = some u := by
    intro j u hu
    cases j with
    | zero => simp at hu; subst hu; rw [show ad.add 0 = ad by unfold Addr.add; split <;> simp_all]; exact hsrc
    | succ j => simp at hu
  have h1 : ∀ u ∈ [Value.int .i64 x], u.oneCell' = true := by intro u hu; simp at hu; subst hu; rfl
  have grown : ∀ (old : Nat) (xs : List Value), xs = l.map (Value.int .i64) → ∀ (row : List Nat),
      Que e B (w.drew.alloc (.cells (xs.toArray ++ [Value.int .i64 x].toArray ++ Builtin.zeroCells z.cells (grownCap w (l.length + 1) old e - (l.length + 1))) e))
        (.slice (some ⟨w.heap.size, 0, none⟩) (l.length + 1) (grownCap w (l.length + 1) old e)) (l ++ [x]) ∧
      Only row w (w.drew.alloc (.cells (xs.toArray ++ [Value.int .i64 x].toArray ++ Builtin.zeroCells z.cells (grownCap w (l.length + 1) old e - (l.length + 1))) e)) := by
    intro old xs hxs row
    have hge := grownCap_ge w (l.length + 1) old e
    have hcm : grownCap w (l.length + 1) old e ≤ maxLen := grownCap_le_maxLen w (l.length + 1) old e (by unfold maxLen; omega)
    refine ⟨⟨hi', .inr ⟨w.heap.size, 0, _, _, by simp, hB, heap_alloc_new w.drew _, by simpa using hge, hcm, ?_, ?_⟩⟩, ((Only.refl row w).drew).alloc _⟩
    · subst hxs
      simp only [Array.size_append, List.size_toArray, size_zeroCells, hzs, List.length_map, List.length_cons, List.length_nil]
      omega
    · subst hxs
      simp only [List.drop_zero, Array.toList_append, List.append_assoc]
      rw [← List.append_assoc]
      have e1 : l.map (Value.int .i64) ++ [Value.int .i64 x] = (l ++ [x]).map (Value.int .i64) := by simp
      rw [e1, show (l ++ [x]).length = ((l ++ [x]).map (Value.int .i64)).length by simp]
      exact List.take_left
  rcases hq.2 with ⟨rfl, rfl⟩ | ⟨g, o, cap, cur, rfl, hbg, hg, hnc, hcm, hcs, htake⟩
  · have hr := run_append_nil (P := P) w t ty e i z ht hi hz ad 1 c [Value.int .i64 x] (by simp [hsize]) hnews (by omega) (by omega) (by rw [hby]; omega)
    have hgr := grown 0 [] rfl (Value.ownBlock (.slice none 0 0)).toList
    simp only [List.length_nil, Nat.zero_add, List.nil_append, Array.empty_append] at hgr ⊢
    exact ⟨_, _, hr, hgr.1, hgr.2, Or.inr rfl⟩
  · by_cases hroom : l.length + 1 ≤ cap
    · have hr := run_append_roomO (P := P) w t ty e i ht hi g o l.length cap cur hg ad 1 c [Value.int .i64 x] (by simp [hsize]) hnews h1 hroom (by rw [hsize]; simp; omega)
      refine ⟨_, _, hr, ⟨hi', .inr ⟨g, o, cap, _, by simp, hbg, setRow_heap w g cur _ e _ hg, by simpa using hroom, hcm, ?_, ?_⟩⟩, ⟨rfl, rfl, rfl, by simp, fun k _ hk => setRow_other w g k _ (fun e => hk (by simp [Value.ownBlock, e]))⟩, Or.inl rfl⟩
      · simp only [List.size_toArray, List.length_append, List.length_take, List.length_drop, Array.length_toList]
        omega
      · rw [hsize]
        simp only [Nat.mul_one, List.length_append, List.length_cons, List.length_nil]
        have e0 : o ≤ cur.toList.length := by simp; omega
        have e1 : (cur.toList.take (o + l.length)).drop o = l.map (Value.int .i64) := by rw [List.drop_take]; rw [← htake]; congr 1; omega
        have e2 : ((cur.toList.take (o + l.length) ++ [Value.int .i64 x] ++ cur.toList.drop (o + l.length + (0 + 1))).drop o) = l.map (Value.int .i64) ++ ([Value.int .i64 x] ++ cur.toList.drop (o + l.length + (0 + 1))) := by
          rw [List.append_assoc, List.drop_append_of_le_length (by simp; omega), e1]
        rw [e2, ← List.append_assoc]
        have e3 : l.map (Value.int .i64) ++ [Value.int .i64 x] = (l ++ [x]).map (Value.int .i64) := by simp
        rw [e3, show l.length + (0 + 1) = ((l ++ [x]).map (Value.int .i64)).length by simp]
        exact List.take_left
    · have holds : ∀ j u, (l.map (Value.int .i64))[j]? = some u → w.cell? ((⟨g, o, none⟩ : Addr).add j) = some u := by
        intro j u hu
        have hadd : (⟨g, o, none⟩ : Addr).add j = ⟨g, o + j, none⟩ := by unfold Addr.add; split <;> simp_all
        rw [hadd, cell_of_row w g (o + j) cur e (0, 0) hg]
        rw [← htake, List.getElem?_take] at hu
        split at hu
        · rw [List.getElem?_drop] at hu; simpa using hu
        · cases hu
      have hr := run_append_grow (P := P) w t ty e i z ht hi hz ⟨g, o, none⟩ l.length cap (l.map (Value.int .i64)) (by simp [hsize]) holds ad 1 c [Value.int .i64 x] (by simp [hsize]) hnews (by omega) (by omega) (growslice_fits (by omega) (by rw [hby]; omega))
      have hgr := grown cap (l.map (Value.int .i64)) rfl (Value.ownBlock (.slice (some ⟨g, o, none⟩) l.length cap)).toList
      exact ⟨_, _, hr, hgr.1, hgr.2, Or.inr rfl⟩
end
section
variable {P : Program} {ops : Array Oper} {rest : List Oper} {o : Oper} {a : Act} {w : World} {Q : Exit → Act → World → Prop}
theorem wpList_que (hgd : o.guard = none) (s x : Operand) (t : TypeId)
    (ho : o.op = .call { callee := .builtin .append, args := #[s, x], argTypes := #[t, t] })
    (e : TypeId) (i : TypeInfo) (z : Value) (ht : P.underlying t = some (.slice e)) (hi : P.info? e = some i) (hz : i.zero = some z)
    (hsize : i.size = 1) (hby : i.bytes = 8) (hzs : z.cells.size = 1) {B : Nat} (v : Value) (l : List Int) (hs : a.eval s = v) (hq : Que e B w v l)
    (ad : Addr) (c : Nat) (n : Int) (hx : a.eval x = .slice (some ad) 1 c) (hn : I64 n) (hsrc : w.cell? ad = some (.int .i64 n)) (hlen : l.length + 1 ≤ 1073741824) (hB : B ≤ w.heap.size)
    (h : ∀ v' w', Que e B w' v' (l ++ [n]) → Only v.ownBlock.toList w w' → (v'.ownBlock = v.ownBlock ∨ v'.ownBlock = some w.heap.size) → wpList P ops Q rest (a.put o.dst v') w') : wpList P ops Q (o :: rest) a w := by
  refine wpList_plain hgd fun K hK => ?_
  obtain ⟨v', w', hr, h2, h3, h4⟩ := run_app_que (P := P) w t o.type e i z ht hi hz hsize hby hzs v l hq ad c n hn hsrc hlen hB
  unfold Oper.wp execOp
  simp only [ho, resolve, invoke, builtin, Sem.run_bind, Sem.run_pure, Result.andThen_ok, List.map_toArray, List.map_cons, List.map_nil, hs, hx, hr]
  exact hK _ _ (h v' w' h2 h3 h4)
end
end Go.Proofs.Ytbediokigibdlaa
