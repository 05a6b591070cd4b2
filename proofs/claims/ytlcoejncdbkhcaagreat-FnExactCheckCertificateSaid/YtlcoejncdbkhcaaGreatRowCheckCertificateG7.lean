/- Table: plain data, how it lies in memory, the laws' own helpers on it. (Printed by gen_struct.py.) The laws' own helpers on slices of tables: eq, mark, held, to, sz. Copies of lists and of tables: the reference's and the program's. -/
import Derived.Test.YtlcoejncdbkhcaaGreatRowCheckCertificateG4
import Derived.StillTailTactics
import Derived.Test.YtlcoejncdbkhcaaGreatRowCheckCertificateG2
import Derived.Deep.RegionHeld3
import Derived.Deep.DeepCutAuto
namespace Go.Proofs.YtlcoejncdbkhcaaGreat
open Go.RowKit
set_option maxRecDepth 10000

structure Table where
  tracked : List Int
  patterns : List (List Int)
  distances : List Int

instance : Rp Table where
  size := 3
  rep w cs x fp := ∃ v0 v1 v2 f0 f1 f2, cs = [v0] ++ [v1] ++ [v2] ∧ fp = f0 ++ (f1 ++ f2) ∧ Rd w v0 x.tracked f0 ∧ Rd w v1 x.patterns f1 ∧ Rd w v2 x.distances f2
  len h := by
    obtain ⟨v0, v1, v2, f0, f1, f2, rfl, -, h0, h1, h2⟩ := h
    rfl
  frame h hf := by
    obtain ⟨v0, v1, v2, f0, f1, f2, hcs, rfl, h0, h1, h2⟩ := h
    exact ⟨v0, v1, v2, f0, f1, f2, hcs, rfl, Rp.frame h0 fun b hb => hf b (by simp [hb]), Rp.frame h1 fun b hb => hf b (by simp [hb]), Rp.frame h2 fun b hb => hf b (by simp [hb])⟩
  lt h := by
    obtain ⟨v0, v1, v2, f0, f1, f2, hcs, rfl, h0, h1, h2⟩ := h
    intro b hb
    simp only [List.mem_append] at hb
    rcases hb with hb | hb | hb
    · exact Rp.lt h0 b hb
    · exact Rp.lt h1 b hb
    · exact Rp.lt h2 b hb

instance : Mk Table where
  mark k x := ⟨Mk.mark (k) x.tracked, Mk.mark (k + (Mk.cnt x.tracked : Nat)) x.patterns, Mk.mark (k + (Mk.cnt x.tracked : Nat) + (Mk.cnt x.patterns : Nat)) x.distances⟩
  cnt x := Mk.cnt x.tracked + Mk.cnt x.patterns + Mk.cnt x.distances
instance : Sz Table where
  sz x := Sz.sz x.tracked + Sz.sz x.patterns + Sz.sz x.distances
instance : Sm Table where
  sm x := Sm.sm x.tracked ∧ Sm.sm x.patterns ∧ Sm.sm x.distances
instance : SzSm Table := ⟨fun x h => by
  have h' : Sz.sz x.tracked + Sz.sz x.patterns + Sz.sz x.distances ≤ 2097152 := h
  exact ⟨SzSm.of_ _ (by omega), SzSm.of_ _ (by omega), SzSm.of_ _ (by omega)⟩⟩
instance : CntSz Table := ⟨fun x => by
  have h' : Mk.cnt x.tracked + Mk.cnt x.patterns + Mk.cnt x.distances ≤ Sz.sz x.tracked + Sz.sz x.patterns + Sz.sz x.distances := by have := CntSz.le x.tracked; have := CntSz.le x.patterns; have := CntSz.le x.distances; omega
  exact h'⟩
instance : MkL Table := ⟨fun k x => by simp [Mk.mark, Mk.cnt, markL_idem, markL_cnt], fun k x => by simp [Mk.mark, Mk.cnt, markL_cnt]⟩
theorem Table.eq_iff {x y : Table} : x = y ↔ x.tracked = y.tracked ∧ x.patterns = y.patterns ∧ x.distances = y.distances := by
  cases x; cases y; simp

set_option maxHeartbeats 1000000 in
theorem eqTable_any (cs cs' : List Value) (x y : Table) (fp fp' : List Nat) (w : World) (h : Rp.rep w cs x fp) (h' : Rp.rep w cs' y fp') :
    Calls Tryz.prog 57 #[.agg cs.toArray, .agg cs'.toArray] w fun e w' => e = .returned (.bool (eqV x y)) ∧ Only [] w w' := by
  obtain ⟨v0, v1, v2, f0, f1, f2, rfl, rfl, h0, h1, h2⟩ := h
  obtain ⟨v0', v1', v2', f0', f1', f2', rfl, rfl, h0', h1', h2'⟩ := h'
  rcases q0 : eqV x.tracked y.tracked
  · go_enter Tryz.func57, Tryz.ntmps57
    go_wp2_with (first | (go_at_call 33; (with_reducible refine (eqInt64S_rd v0 v0' x.tracked y.tracked _ _ _ (Rp.keep h0 (by with_reducible repeat (first | exact Only.refl _ _ | assumption | refine Only.drewN ?_ _ | refine Only.drew ?_ | refine Only.alloc ?_ _ | refine Only.setCell ?_ (by intro hh; exfalso; simp at hh; try omega) _ | refine Only.trans ?_ (by assumption)))) (Rp.keep h0' (by with_reducible repeat (first | exact Only.refl _ _ | assumption | refine Only.drewN ?_ _ | refine Only.drew ?_ | refine Only.alloc ?_ _ | refine Only.setCell ?_ (by intro hh; exfalso; simp at hh; try omega) _ | refine Only.trans ?_ (by assumption))))).mono ?_); rintro e w0 ⟨rfl, n0, rfl⟩) | (go_at_call 41; (with_reducible refine (eqInt64SS_rd v1 v1' x.patterns y.patterns _ _ _ (Rp.keep h1 (by with_reducible repeat (first | exact Only.refl _ _ | assumption | refine Only.drewN ?_ _ | refine Only.drew ?_ | refine Only.alloc ?_ _ | refine Only.setCell ?_ (by intro hh; exfalso; simp at hh; try omega) _ | refine Only.trans ?_ (by assumption)))) (Rp.keep h1' (by with_reducible repeat (first | exact Only.refl _ _ | assumption | refine Only.drewN ?_ _ | refine Only.drew ?_ | refine Only.alloc ?_ _ | refine Only.setCell ?_ (by intro hh; exfalso; simp at hh; try omega) _ | refine Only.trans ?_ (by assumption))))).mono ?_); rintro e w1 ⟨rfl, n1, rfl⟩) | (go_at_call 33; (with_reducible refine (eqInt64S_rd v2 v2' x.distances y.distances _ _ _ (Rp.keep h2 (by with_reducible repeat (first | exact Only.refl _ _ | assumption | refine Only.drewN ?_ _ | refine Only.drew ?_ | refine Only.alloc ?_ _ | refine Only.setCell ?_ (by intro hh; exfalso; simp at hh; try omega) _ | refine Only.trans ?_ (by assumption)))) (Rp.keep h2' (by with_reducible repeat (first | exact Only.refl _ _ | assumption | refine Only.drewN ?_ _ | refine Only.drew ?_ | refine Only.alloc ?_ _ | refine Only.setCell ?_ (by intro hh; exfalso; simp at hh; try omega) _ | refine Only.trans ?_ (by assumption))))).mono ?_); rintro e w2 ⟨rfl, n2, rfl⟩))
    go_ret
    exact ⟨ret_bool (eqV_no (fun he => (eqV_iff'.1 q0) (Table.eq_iff.1 he).1)).symm, (by with_reducible repeat (first | exact Only.refl _ _ | assumption | refine Only.drewN ?_ _ | refine Only.drew ?_ | refine Only.alloc ?_ _ | refine Only.setCell ?_ (by intro hh; exfalso; simp at hh; try omega) _ | refine Only.trans ?_ (by assumption)))⟩
  rcases q1 : eqV x.patterns y.patterns
  · go_enter Tryz.func57, Tryz.ntmps57
    go_wp2_with (first | (go_at_call 33; (with_reducible refine (eqInt64S_rd v0 v0' x.tracked y.tracked _ _ _ (Rp.keep h0 (by with_reducible repeat (first | exact Only.refl _ _ | assumption | refine Only.drewN ?_ _ | refine Only.drew ?_ | refine Only.alloc ?_ _ | refine Only.setCell ?_ (by intro hh; exfalso; simp at hh; try omega) _ | refine Only.trans ?_ (by assumption)))) (Rp.keep h0' (by with_reducible repeat (first | exact Only.refl _ _ | assumption | refine Only.drewN ?_ _ | refine Only.drew ?_ | refine Only.alloc ?_ _ | refine Only.setCell ?_ (by intro hh; exfalso; simp at hh; try omega) _ | refine Only.trans ?_ (by assumption))))).mono ?_); rintro e w0 ⟨rfl, n0, rfl⟩) | (go_at_call 41; (with_reducible refine (eqInt64SS_rd v1 v1' x.patterns y.patterns _ _ _ (Rp.keep h1 (by with_reducible repeat (first | exact Only.refl _ _ | assumption | refine Only.drewN ?_ _ | refine Only.drew ?_ | refine Only.alloc ?_ _ | refine Only.setCell ?_ (by intro hh; exfalso; simp at hh; try omega) _ | refine Only.trans ?_ (by assumption)))) (Rp.keep h1' (by with_reducible repeat (first | exact Only.refl _ _ | assumption | refine Only.drewN ?_ _ | refine Only.drew ?_ | refine Only.alloc ?_ _ | refine Only.setCell ?_ (by intro hh; exfalso; simp at hh; try omega) _ | refine Only.trans ?_ (by assumption))))).mono ?_); rintro e w1 ⟨rfl, n1, rfl⟩) | (go_at_call 33; (with_reducible refine (eqInt64S_rd v2 v2' x.distances y.distances _ _ _ (Rp.keep h2 (by with_reducible repeat (first | exact Only.refl _ _ | assumption | refine Only.drewN ?_ _ | refine Only.drew ?_ | refine Only.alloc ?_ _ | refine Only.setCell ?_ (by intro hh; exfalso; simp at hh; try omega) _ | refine Only.trans ?_ (by assumption)))) (Rp.keep h2' (by with_reducible repeat (first | exact Only.refl _ _ | assumption | refine Only.drewN ?_ _ | refine Only.drew ?_ | refine Only.alloc ?_ _ | refine Only.setCell ?_ (by intro hh; exfalso; simp at hh; try omega) _ | refine Only.trans ?_ (by assumption))))).mono ?_); rintro e w2 ⟨rfl, n2, rfl⟩))
    go_ret
    exact ⟨ret_bool (eqV_no (fun he => (eqV_iff'.1 q1) (Table.eq_iff.1 he).2.1)).symm, (by with_reducible repeat (first | exact Only.refl _ _ | assumption | refine Only.drewN ?_ _ | refine Only.drew ?_ | refine Only.alloc ?_ _ | refine Only.setCell ?_ (by intro hh; exfalso; simp at hh; try omega) _ | refine Only.trans ?_ (by assumption)))⟩
  rcases q2 : eqV x.distances y.distances
  · go_enter Tryz.func57, Tryz.ntmps57
    go_wp2_with (first | (go_at_call 33; (with_reducible refine (eqInt64S_rd v0 v0' x.tracked y.tracked _ _ _ (Rp.keep h0 (by with_reducible repeat (first | exact Only.refl _ _ | assumption | refine Only.drewN ?_ _ | refine Only.drew ?_ | refine Only.alloc ?_ _ | refine Only.setCell ?_ (by intro hh; exfalso; simp at hh; try omega) _ | refine Only.trans ?_ (by assumption)))) (Rp.keep h0' (by with_reducible repeat (first | exact Only.refl _ _ | assumption | refine Only.drewN ?_ _ | refine Only.drew ?_ | refine Only.alloc ?_ _ | refine Only.setCell ?_ (by intro hh; exfalso; simp at hh; try omega) _ | refine Only.trans ?_ (by assumption))))).mono ?_); rintro e w0 ⟨rfl, n0, rfl⟩) | (go_at_call 41; (with_reducible refine (eqInt64SS_rd v1 v1' x.patterns y.patterns _ _ _ (Rp.keep h1 (by with_reducible repeat (first | exact Only.refl _ _ | assumption | refine Only.drewN ?_ _ | refine Only.drew ?_ | refine Only.alloc ?_ _ | refine Only.setCell ?_ (by intro hh; exfalso; simp at hh; try omega) _ | refine Only.trans ?_ (by assumption)))) (Rp.keep h1' (by with_reducible repeat (first | exact Only.refl _ _ | assumption | refine Only.drewN ?_ _ | refine Only.drew ?_ | refine Only.alloc ?_ _ | refine Only.setCell ?_ (by intro hh; exfalso; simp at hh; try omega) _ | refine Only.trans ?_ (by assumption))))).mono ?_); rintro e w1 ⟨rfl, n1, rfl⟩) | (go_at_call 33; (with_reducible refine (eqInt64S_rd v2 v2' x.distances y.distances _ _ _ (Rp.keep h2 (by with_reducible repeat (first | exact Only.refl _ _ | assumption | refine Only.drewN ?_ _ | refine Only.drew ?_ | refine Only.alloc ?_ _ | refine Only.setCell ?_ (by intro hh; exfalso; simp at hh; try omega) _ | refine Only.trans ?_ (by assumption)))) (Rp.keep h2' (by with_reducible repeat (first | exact Only.refl _ _ | assumption | refine Only.drewN ?_ _ | refine Only.drew ?_ | refine Only.alloc ?_ _ | refine Only.setCell ?_ (by intro hh; exfalso; simp at hh; try omega) _ | refine Only.trans ?_ (by assumption))))).mono ?_); rintro e w2 ⟨rfl, n2, rfl⟩))
    go_ret
    exact ⟨ret_bool (eqV_no (fun he => (eqV_iff'.1 q2) (Table.eq_iff.1 he).2.2)).symm, (by with_reducible repeat (first | exact Only.refl _ _ | assumption | refine Only.drewN ?_ _ | refine Only.drew ?_ | refine Only.alloc ?_ _ | refine Only.setCell ?_ (by intro hh; exfalso; simp at hh; try omega) _ | refine Only.trans ?_ (by assumption)))⟩
  go_enter Tryz.func57, Tryz.ntmps57
  go_wp2_with (first | (go_at_call 33; (with_reducible refine (eqInt64S_rd v0 v0' x.tracked y.tracked _ _ _ (Rp.keep h0 (by with_reducible repeat (first | exact Only.refl _ _ | assumption | refine Only.drewN ?_ _ | refine Only.drew ?_ | refine Only.alloc ?_ _ | refine Only.setCell ?_ (by intro hh; exfalso; simp at hh; try omega) _ | refine Only.trans ?_ (by assumption)))) (Rp.keep h0' (by with_reducible repeat (first | exact Only.refl _ _ | assumption | refine Only.drewN ?_ _ | refine Only.drew ?_ | refine Only.alloc ?_ _ | refine Only.setCell ?_ (by intro hh; exfalso; simp at hh; try omega) _ | refine Only.trans ?_ (by assumption))))).mono ?_); rintro e w0 ⟨rfl, n0, rfl⟩) | (go_at_call 41; (with_reducible refine (eqInt64SS_rd v1 v1' x.patterns y.patterns _ _ _ (Rp.keep h1 (by with_reducible repeat (first | exact Only.refl _ _ | assumption | refine Only.drewN ?_ _ | refine Only.drew ?_ | refine Only.alloc ?_ _ | refine Only.setCell ?_ (by intro hh; exfalso; simp at hh; try omega) _ | refine Only.trans ?_ (by assumption)))) (Rp.keep h1' (by with_reducible repeat (first | exact Only.refl _ _ | assumption | refine Only.drewN ?_ _ | refine Only.drew ?_ | refine Only.alloc ?_ _ | refine Only.setCell ?_ (by intro hh; exfalso; simp at hh; try omega) _ | refine Only.trans ?_ (by assumption))))).mono ?_); rintro e w1 ⟨rfl, n1, rfl⟩) | (go_at_call 33; (with_reducible refine (eqInt64S_rd v2 v2' x.distances y.distances _ _ _ (Rp.keep h2 (by with_reducible repeat (first | exact Only.refl _ _ | assumption | refine Only.drewN ?_ _ | refine Only.drew ?_ | refine Only.alloc ?_ _ | refine Only.setCell ?_ (by intro hh; exfalso; simp at hh; try omega) _ | refine Only.trans ?_ (by assumption)))) (Rp.keep h2' (by with_reducible repeat (first | exact Only.refl _ _ | assumption | refine Only.drewN ?_ _ | refine Only.drew ?_ | refine Only.alloc ?_ _ | refine Only.setCell ?_ (by intro hh; exfalso; simp at hh; try omega) _ | refine Only.trans ?_ (by assumption))))).mono ?_); rintro e w2 ⟨rfl, n2, rfl⟩))
  go_ret
  exact ⟨ret_bool (eqV_yes (Table.eq_iff.2 ⟨eqV_iff.1 q0, eqV_iff.1 q1, eqV_iff.1 q2⟩)).symm, (by with_reducible repeat (first | exact Only.refl _ _ | assumption | refine Only.drewN ?_ _ | refine Only.drew ?_ | refine Only.alloc ?_ _ | refine Only.setCell ?_ (by intro hh; exfalso; simp at hh; try omega) _ | refine Only.trans ?_ (by assumption)))⟩

set_option maxHeartbeats 1000000 in
theorem szTable_any (cs : List Value) (x : Table) (fp : List Nat) (k : Int) (w : World) (h : Rp.rep w cs x fp) (h0 : 0 ≤ k) (h1 : k ≤ 2147483648) :
    Calls Tryz.prog 52 #[.agg cs.toArray, .int .i64 k] w fun e w' => e = .returned (.int .i64 (szV k x)) ∧ Only [] w w' := by
  obtain ⟨v0, v1, v2, f0, f1, f2, rfl, rfl, h0, h1, h2⟩ := h
  have hcc : Sz.sz x = Sz.sz x.tracked + Sz.sz x.patterns + Sz.sz x.distances := rfl
  have Hcc := Lib.hid hcc; clear hcc
  rcases szV_cases (k) x.tracked with ⟨e0, m0⟩ | ⟨e0, r0, m0⟩
  · go_enter Tryz.func52, Tryz.ntmps52
    go_wp2_with (first | (go_at_call 85; (with_reducible refine (szInt64S_rd v0 x.tracked _ (k) _ (Rp.keep h0 (by with_reducible repeat (first | exact Only.refl _ _ | assumption | refine Only.drewN ?_ _ | refine Only.drew ?_ | refine Only.alloc ?_ _ | refine Only.setCell ?_ (by intro hh; exfalso; simp at hh; try omega) _ | refine Only.trans ?_ (by assumption)))) (by omega) (by omega)).mono ?_); rintro e w0 ⟨rfl, n0, rfl⟩) | (go_at_call 37; (with_reducible refine (szInt64SS_rd v1 x.patterns _ (k - (Sz.sz x.tracked : Nat)) _ (Rp.keep h1 (by with_reducible repeat (first | exact Only.refl _ _ | assumption | refine Only.drewN ?_ _ | refine Only.drew ?_ | refine Only.alloc ?_ _ | refine Only.setCell ?_ (by intro hh; exfalso; simp at hh; try omega) _ | refine Only.trans ?_ (by assumption)))) (by omega) (by omega)).mono ?_); rintro e w1 ⟨rfl, n1, rfl⟩) | (go_at_call 85; (with_reducible refine (szInt64S_rd v2 x.distances _ (k - (Sz.sz x.tracked : Nat) - (Sz.sz x.patterns : Nat)) _ (Rp.keep h2 (by with_reducible repeat (first | exact Only.refl _ _ | assumption | refine Only.drewN ?_ _ | refine Only.drew ?_ | refine Only.alloc ?_ _ | refine Only.setCell ?_ (by intro hh; exfalso; simp at hh; try omega) _ | refine Only.trans ?_ (by assumption)))) (by omega) (by omega)).mono ?_); rintro e w2 ⟨rfl, n2, rfl⟩))
    go_ret
    exact ⟨ret_int (szV_no (by have := Hcc.out; omega)).symm, (by with_reducible repeat (first | exact Only.refl _ _ | assumption | refine Only.drewN ?_ _ | refine Only.drew ?_ | refine Only.alloc ?_ _ | refine Only.setCell ?_ (by intro hh; exfalso; simp at hh; try omega) _ | refine Only.trans ?_ (by assumption)))⟩
  rcases szV_cases (k - (Sz.sz x.tracked : Nat)) x.patterns with ⟨e1, m1⟩ | ⟨e1, r1, m1⟩
  · go_enter Tryz.func52, Tryz.ntmps52
    go_wp2_with (first | (go_at_call 85; (with_reducible refine (szInt64S_rd v0 x.tracked _ (k) _ (Rp.keep h0 (by with_reducible repeat (first | exact Only.refl _ _ | assumption | refine Only.drewN ?_ _ | refine Only.drew ?_ | refine Only.alloc ?_ _ | refine Only.setCell ?_ (by intro hh; exfalso; simp at hh; try omega) _ | refine Only.trans ?_ (by assumption)))) (by omega) (by omega)).mono ?_); rintro e w0 ⟨rfl, n0, rfl⟩) | (go_at_call 37; (with_reducible refine (szInt64SS_rd v1 x.patterns _ (k - (Sz.sz x.tracked : Nat)) _ (Rp.keep h1 (by with_reducible repeat (first | exact Only.refl _ _ | assumption | refine Only.drewN ?_ _ | refine Only.drew ?_ | refine Only.alloc ?_ _ | refine Only.setCell ?_ (by intro hh; exfalso; simp at hh; try omega) _ | refine Only.trans ?_ (by assumption)))) (by omega) (by omega)).mono ?_); rintro e w1 ⟨rfl, n1, rfl⟩) | (go_at_call 85; (with_reducible refine (szInt64S_rd v2 x.distances _ (k - (Sz.sz x.tracked : Nat) - (Sz.sz x.patterns : Nat)) _ (Rp.keep h2 (by with_reducible repeat (first | exact Only.refl _ _ | assumption | refine Only.drewN ?_ _ | refine Only.drew ?_ | refine Only.alloc ?_ _ | refine Only.setCell ?_ (by intro hh; exfalso; simp at hh; try omega) _ | refine Only.trans ?_ (by assumption)))) (by omega) (by omega)).mono ?_); rintro e w2 ⟨rfl, n2, rfl⟩))
    go_ret
    exact ⟨ret_int (szV_no (by have := Hcc.out; omega)).symm, (by with_reducible repeat (first | exact Only.refl _ _ | assumption | refine Only.drewN ?_ _ | refine Only.drew ?_ | refine Only.alloc ?_ _ | refine Only.setCell ?_ (by intro hh; exfalso; simp at hh; try omega) _ | refine Only.trans ?_ (by assumption)))⟩
  rcases szV_cases (k - (Sz.sz x.tracked : Nat) - (Sz.sz x.patterns : Nat)) x.distances with ⟨e2, m2⟩ | ⟨e2, r2, m2⟩
  · go_enter Tryz.func52, Tryz.ntmps52
    go_wp2_with (first | (go_at_call 85; (with_reducible refine (szInt64S_rd v0 x.tracked _ (k) _ (Rp.keep h0 (by with_reducible repeat (first | exact Only.refl _ _ | assumption | refine Only.drewN ?_ _ | refine Only.drew ?_ | refine Only.alloc ?_ _ | refine Only.setCell ?_ (by intro hh; exfalso; simp at hh; try omega) _ | refine Only.trans ?_ (by assumption)))) (by omega) (by omega)).mono ?_); rintro e w0 ⟨rfl, n0, rfl⟩) | (go_at_call 37; (with_reducible refine (szInt64SS_rd v1 x.patterns _ (k - (Sz.sz x.tracked : Nat)) _ (Rp.keep h1 (by with_reducible repeat (first | exact Only.refl _ _ | assumption | refine Only.drewN ?_ _ | refine Only.drew ?_ | refine Only.alloc ?_ _ | refine Only.setCell ?_ (by intro hh; exfalso; simp at hh; try omega) _ | refine Only.trans ?_ (by assumption)))) (by omega) (by omega)).mono ?_); rintro e w1 ⟨rfl, n1, rfl⟩) | (go_at_call 85; (with_reducible refine (szInt64S_rd v2 x.distances _ (k - (Sz.sz x.tracked : Nat) - (Sz.sz x.patterns : Nat)) _ (Rp.keep h2 (by with_reducible repeat (first | exact Only.refl _ _ | assumption | refine Only.drewN ?_ _ | refine Only.drew ?_ | refine Only.alloc ?_ _ | refine Only.setCell ?_ (by intro hh; exfalso; simp at hh; try omega) _ | refine Only.trans ?_ (by assumption)))) (by omega) (by omega)).mono ?_); rintro e w2 ⟨rfl, n2, rfl⟩))
    go_ret
    exact ⟨ret_int (szV_no (by have := Hcc.out; omega)).symm, (by with_reducible repeat (first | exact Only.refl _ _ | assumption | refine Only.drewN ?_ _ | refine Only.drew ?_ | refine Only.alloc ?_ _ | refine Only.setCell ?_ (by intro hh; exfalso; simp at hh; try omega) _ | refine Only.trans ?_ (by assumption)))⟩
  go_enter Tryz.func52, Tryz.ntmps52
  go_wp2_with (first | (go_at_call 85; (with_reducible refine (szInt64S_rd v0 x.tracked _ (k) _ (Rp.keep h0 (by with_reducible repeat (first | exact Only.refl _ _ | assumption | refine Only.drewN ?_ _ | refine Only.drew ?_ | refine Only.alloc ?_ _ | refine Only.setCell ?_ (by intro hh; exfalso; simp at hh; try omega) _ | refine Only.trans ?_ (by assumption)))) (by omega) (by omega)).mono ?_); rintro e w0 ⟨rfl, n0, rfl⟩) | (go_at_call 37; (with_reducible refine (szInt64SS_rd v1 x.patterns _ (k - (Sz.sz x.tracked : Nat)) _ (Rp.keep h1 (by with_reducible repeat (first | exact Only.refl _ _ | assumption | refine Only.drewN ?_ _ | refine Only.drew ?_ | refine Only.alloc ?_ _ | refine Only.setCell ?_ (by intro hh; exfalso; simp at hh; try omega) _ | refine Only.trans ?_ (by assumption)))) (by omega) (by omega)).mono ?_); rintro e w1 ⟨rfl, n1, rfl⟩) | (go_at_call 85; (with_reducible refine (szInt64S_rd v2 x.distances _ (k - (Sz.sz x.tracked : Nat) - (Sz.sz x.patterns : Nat)) _ (Rp.keep h2 (by with_reducible repeat (first | exact Only.refl _ _ | assumption | refine Only.drewN ?_ _ | refine Only.drew ?_ | refine Only.alloc ?_ _ | refine Only.setCell ?_ (by intro hh; exfalso; simp at hh; try omega) _ | refine Only.trans ?_ (by assumption)))) (by omega) (by omega)).mono ?_); rintro e w2 ⟨rfl, n2, rfl⟩))
  go_ret
  exact ⟨ret_int (by rw [szV_yes (by have := Hcc.out; omega)]; have := Hcc.out; omega), (by with_reducible repeat (first | exact Only.refl _ _ | assumption | refine Only.drewN ?_ _ | refine Only.drew ?_ | refine Only.alloc ?_ _ | refine Only.setCell ?_ (by intro hh; exfalso; simp at hh; try omega) _ | refine Only.trans ?_ (by assumption)))⟩

set_option maxHeartbeats 1000000 in
theorem toTable_any (cs : List Value) (x : Table) (fp : List Nat) (w : World) (h : Rp.rep w cs x fp) (hsm : Sm.sm x) :
    Calls Tryz.prog 55 #[.agg cs.toArray] w fun e w' => ∃ cs' fp', e = .returned (.agg cs'.toArray) ∧ Rp.rep w' cs' x fp' ∧ Fresh w.heap.size w' fp' ∧ Only [] w w' := by
  obtain ⟨v0, v1, v2, f0, f1, f2, rfl, rfl, h0, h1, h2⟩ := h
  obtain ⟨g0, g1, g2⟩ := hsm
  go_enter Tryz.func55, Tryz.ntmps55
  go_wp2_with (first | (go_at_call 30; (with_reducible refine (toInt64S_sm v0 x.tracked _ _ (Rp.keep h0 (by with_reducible repeat (first | exact Only.refl _ _ | assumption | refine Only.drewN ?_ _ | refine Only.drew ?_ | refine Only.alloc ?_ _ | refine Only.setCell ?_ (by intro hh; exfalso; simp at hh; try omega) _ | refine Only.trans ?_ (by assumption)))) g0).mono ?_); rintro e w0 ⟨u0, fz0, rfl, r0, F0, t0⟩; have k0 := r0.open_; obtain ⟨A0, C0, _, _, rfl, -⟩ := k0; have s0 : w.heap.size + 1 + 1 < w0.heap.size := (by have := t0.size; simp at this; omega); have y00 := t0.cells_eq w.heap.size (by simp; try omega) (by simp); have z00 := t0.frozen_eq w.heap.size (by simp; try omega) (by simp); have y01 := t0.cells_eq (w.heap.size + 1) (by simp; try omega) (by simp); have z01 := t0.frozen_eq (w.heap.size + 1) (by simp; try omega) (by simp); have y02 := t0.cells_eq (w.heap.size + 1 + 1) (by simp; try omega) (by simp); have z02 := t0.frozen_eq (w.heap.size + 1 + 1) (by simp; try omega) (by simp)) | (go_at_call 39; (with_reducible refine (toInt64SS_sm v1 x.patterns _ _ (Rp.keep h1 (by with_reducible repeat (first | exact Only.refl _ _ | assumption | refine Only.drewN ?_ _ | refine Only.drew ?_ | refine Only.alloc ?_ _ | refine Only.setCell ?_ (by intro hh; exfalso; simp at hh; try omega) _ | refine Only.trans ?_ (by assumption)))) g1).mono ?_); rintro e w1 ⟨u1, fz1, rfl, r1, F1, t1⟩; have k1 := r1.open_; obtain ⟨A1, C1, _, _, rfl, -⟩ := k1; have s1 : w.heap.size + 1 + 1 < w1.heap.size := (by have := t1.size; simp at this; omega); have y10 := t1.cells_eq w.heap.size (by simp; try omega) (by simp); have z10 := t1.frozen_eq w.heap.size (by simp; try omega) (by simp); have y11 := t1.cells_eq (w.heap.size + 1) (by simp; try omega) (by simp); have z11 := t1.frozen_eq (w.heap.size + 1) (by simp; try omega) (by simp); have y12 := t1.cells_eq (w.heap.size + 1 + 1) (by simp; try omega) (by simp); have z12 := t1.frozen_eq (w.heap.size + 1 + 1) (by simp; try omega) (by simp)) | (go_at_call 30; (with_reducible refine (toInt64S_sm v2 x.distances _ _ (Rp.keep h2 (by with_reducible repeat (first | exact Only.refl _ _ | assumption | refine Only.drewN ?_ _ | refine Only.drew ?_ | refine Only.alloc ?_ _ | refine Only.setCell ?_ (by intro hh; exfalso; simp at hh; try omega) _ | refine Only.trans ?_ (by assumption)))) g2).mono ?_); rintro e w2 ⟨u2, fz2, rfl, r2, F2, t2⟩; have k2 := r2.open_; obtain ⟨A2, C2, _, _, rfl, -⟩ := k2; have s2 : w.heap.size + 1 + 1 < w2.heap.size := (by have := t2.size; simp at this; omega); have y20 := t2.cells_eq w.heap.size (by simp; try omega) (by simp); have z20 := t2.frozen_eq w.heap.size (by simp; try omega) (by simp); have y21 := t2.cells_eq (w.heap.size + 1) (by simp; try omega) (by simp); have z21 := t2.frozen_eq (w.heap.size + 1) (by simp; try omega) (by simp); have y22 := t2.cells_eq (w.heap.size + 1 + 1) (by simp; try omega) (by simp); have z22 := t2.frozen_eq (w.heap.size + 1 + 1) (by simp; try omega) (by simp)))
  have T0 := t0.size
  simp at T0
  have T1 := t1.size
  simp at T1
  have T2 := t2.size
  simp at T2
  refine bodyPost_ret (v := .agg #[.slice A0 x.tracked.length C0, .slice A1 x.patterns.length C1, .slice A2 x.distances.length C2]) (by simp [results, Tryz.results55, go_sem, y01, y11, y21]) rfl ⟨[.slice A0 x.tracked.length C0, .slice A1 x.patterns.length C1, .slice A2 x.distances.length C2], _, rfl, ⟨.slice A0 x.tracked.length C0, .slice A1 x.patterns.length C1, .slice A2 x.distances.length C2, fz0, fz1, fz2, rfl, rfl, Rp.only (fp' := [w.heap.size + 1, w.heap.size + 1 + 1]) r0 (by with_reducible repeat (first | exact Only.refl _ _ | assumption | refine Only.drewN ?_ _ | refine Only.drew ?_ | refine Only.alloc ?_ _ | refine Only.setCell ?_ (by intro _; simp) _ | refine Only.trans ?_ (Only.weaken (by assumption) _))) (fun b hb hm => by have := F0.ge b hb; simp at hm this; omega), Rp.only (fp' := [w.heap.size + 1, w.heap.size + 1 + 1]) r1 (by with_reducible repeat (first | exact Only.refl _ _ | assumption | refine Only.drewN ?_ _ | refine Only.drew ?_ | refine Only.alloc ?_ _ | refine Only.setCell ?_ (by intro _; simp) _ | refine Only.trans ?_ (Only.weaken (by assumption) _))) (fun b hb hm => by have := F1.ge b hb; simp at hm this; omega), Rp.only (fp' := [w.heap.size + 1, w.heap.size + 1 + 1]) r2 (by with_reducible repeat (first | exact Only.refl _ _ | assumption | refine Only.drewN ?_ _ | refine Only.drew ?_ | refine Only.alloc ?_ _ | refine Only.setCell ?_ (by intro _; simp) _ | refine Only.trans ?_ (Only.weaken (by assumption) _))) (fun b hb hm => by have := F2.ge b hb; simp at hm this; omega)⟩, Fresh.mono (Fresh.append (F0.only (fp' := [w.heap.size + 1, w.heap.size + 1 + 1]) (by with_reducible repeat (first | exact Only.refl _ _ | assumption | refine Only.drewN ?_ _ | refine Only.drew ?_ | refine Only.alloc ?_ _ | refine Only.setCell ?_ (by intro _; simp) _ | refine Only.trans ?_ (Only.weaken (by assumption) _))) (fun b hb hm => by have := F0.ge b hb; simp at hm this; omega)) (Fresh.append (F1.only (fp' := [w.heap.size + 1, w.heap.size + 1 + 1]) (by with_reducible repeat (first | exact Only.refl _ _ | assumption | refine Only.drewN ?_ _ | refine Only.drew ?_ | refine Only.alloc ?_ _ | refine Only.setCell ?_ (by intro _; simp) _ | refine Only.trans ?_ (Only.weaken (by assumption) _))) (fun b hb hm => by have := F1.ge b hb; simp at hm this; omega)) (F2.only (fp' := [w.heap.size + 1, w.heap.size + 1 + 1]) (by with_reducible repeat (first | exact Only.refl _ _ | assumption | refine Only.drewN ?_ _ | refine Only.drew ?_ | refine Only.alloc ?_ _ | refine Only.setCell ?_ (by intro _; simp) _ | refine Only.trans ?_ (Only.weaken (by assumption) _))) (fun b hb hm => by have := F2.ge b hb; simp at hm this; omega)) (by simp; try omega) (fun b hb => by have := F1.lt b hb; simp; try omega)) (by simp; try omega) (fun b hb => by have := F0.lt b hb; simp; try omega)) (by simp; try omega), (by with_reducible repeat (first | exact Only.refl _ _ | assumption | refine Only.drewN ?_ _ | refine Only.drew ?_ | refine Only.alloc ?_ _ | refine Only.setCell ?_ (by intro hh; exfalso; simp at hh; try omega) _ | refine Only.trans ?_ (by assumption)))⟩

end Go.Proofs.YtlcoejncdbkhcaaGreat

namespace Go.Proofs.YtlcoejncdbkhcaaGreat
open Go.RowKit
set_option maxRecDepth 10000

theorem SeqA.at3 {w : World} {a : Option Addr} {cap : Nat} {xs : List Table} {ob : List Nat} {fps : List (List Nat)} (h : SeqA w a cap xs ob fps) (k : Nat) (hk : k < xs.length) :
    ∃ b off v1 v2 v3, a = some ⟨b, off, none⟩ ∧ ob = [b] ∧ w.cell? ⟨b, off + k * 3, none⟩ = some v1 ∧ w.cell? ⟨b, off + k * 3 + 1, none⟩ = some v2 ∧ w.cell? ⟨b, off + k * 3 + 2, none⟩ = some v3 ∧ Rp.rep w [v1, v2, v3] xs[k] (fps[k]'(by rw [h.nf]; exact hk)) := by
  obtain ⟨b, off, cs, ha, hob, hc, hr⟩ := h.at_ k hk
  have hl := Rp.len hr
  match cs, hl with
  | [v1, v2, v3], _ => exact ⟨b, off, v1, v2, v3, ha, hob, hc 0 v1 rfl, hc 1 v2 rfl, hc 2 v3 rfl, hr⟩

set_option maxHeartbeats 400000 in
theorem eqTableS_any (a a' : Option Addr) (cap cap' : Nat) (l l' : List Table) (ob ob' : List Nat) (fps fps' : List (List Nat)) (w : World) (h : SeqA w a cap l ob fps) (h' : SeqA w a' cap' l' ob' fps') :
    Calls Tryz.prog 80 #[.slice a l.length cap, .slice a' l'.length cap'] w fun e w' => e = .returned (.bool (eqV l l')) ∧ Only [] w w' := by
  have hb := h.bound
  have hb' := h'.bound
  by_cases hl : l.length = l'.length
  · have hne : ((l.length : Int) != (l'.length : Int)) = false := by simp [hl]
    have Hl := Lib.hid hl; clear hl
    go_enter Tryz.func80, Tryz.ntmps80
    go_wp2
    go_loopw [5] (fun i wr => ∃ j : Nat, j ≤ l.length ∧ i = .int .i64 j ∧ l.take j = l'.take j ∧ Only [] w wr)
      (fun i _ => l.length - (intOf i).toNat)
    case atStart => exact ⟨0, Nat.zero_le _, rfl, rfl, Only.refl _ _⟩
    case round =>
      obtain ⟨j, hj, rfl, hr, hK⟩ := hrel
      have Hr := Lib.hid hr; clear hr
      by_cases hlt : j < l.length
      · have hlt' : j < l'.length := by have := Hl.out; omega
        obtain ⟨b, off, v1, v2, v3, rfl, -, c1, c2, c3, hv⟩ := h.at3 j hlt
        obtain ⟨b', off', v1', v2', v3', rfl, -, c1', c2', c3', hv'⟩ := h'.at3 j hlt'
        have d1 := hK.cell (by simp) c1
        have d2 := hK.cell (by simp) c2
        have d3 := hK.cell (by simp) c3
        have d1' := hK.cell (by simp) c1'
        have d2' := hK.cell (by simp) c2'
        have d3' := hK.cell (by simp) c3'
        clear c1 c2 c3 c1' c2' c3'
        rcases hq : eqV l[j] l'[j]
        all_goals go_wp2
        all_goals go_still_tail 8, (by kernel_rfl)
        all_goals change wpList _ _ _ _ _ wr.drew
        all_goals go_wp2_with ((go_at_call 57; (with_reducible refine (eqTable_any [v1, v2, v3] [v1', v2', v3'] l[j] l'[j] _ _ _ (Rp.keep hv (by with_reducible repeat (first | exact Only.refl _ _ | assumption | refine Only.drewN ?_ _ | refine Only.drew ?_ | refine Only.alloc ?_ _ | refine Only.setCell ?_ (by intro hh; exfalso; simp at hh; try omega) _ | refine Only.trans ?_ (by assumption)))) (Rp.keep hv' (by with_reducible repeat (first | exact Only.refl _ _ | assumption | refine Only.drewN ?_ _ | refine Only.drew ?_ | refine Only.alloc ?_ _ | refine Only.setCell ?_ (by intro hh; exfalso; simp at hh; try omega) _ | refine Only.trans ?_ (by assumption))))).mono ?_); rintro e w1 ⟨rfl, hk1⟩))
        · go_ret
          exact ⟨ret_bool (eqL_no hlt hlt' hq).symm, (by with_reducible repeat (first | exact Only.refl _ _ | assumption | refine Only.drewN ?_ _ | refine Only.drew ?_ | refine Only.alloc ?_ _ | refine Only.setCell ?_ (by intro hh; exfalso; simp at hh; try omega) _ | refine Only.trans ?_ (by assumption)))⟩
        · go_roundw
          case rel => exact ⟨j + 1, by omega, by go_num, eqL_step hlt hlt' hq Hr.out, (by with_reducible repeat (first | exact Only.refl _ _ | assumption | refine Only.drewN ?_ _ | refine Only.drew ?_ | refine Only.alloc ?_ _ | refine Only.setCell ?_ (by intro hh; exfalso; simp at hh; try omega) _ | refine Only.trans ?_ (by assumption)))⟩
          case measure => simp [intOf]; omega
      · go_wp2
        go_ret
        exact ⟨ret_bool (eqL_yes Hl.out hlt Hr.out).symm, hK⟩
  · have hne : ((l.length : Int) != (l'.length : Int)) = true := by simp; omega
    go_enter Tryz.func80, Tryz.ntmps80
    go_wp2
    go_ret
    exact ⟨ret_bool (eqL_len hne).symm, Only.refl _ _⟩

theorem eqTableS_rd (v v' : Value) (l l' : List Table) (fp fp' : List Nat) (w : World) (h : Rd w v l fp) (h' : Rd w v' l' fp') :
    Calls Tryz.prog 80 #[v, v'] w fun e w' => e = .returned (.bool (eqV l l')) ∧ Only [] w w' := by
  obtain ⟨a, cap, ob, fps, rfl, -, hs⟩ := h.open_
  obtain ⟨a', cap', ob', fps', rfl, -, hs'⟩ := h'.open_
  exact eqTableS_any a a' cap cap' l l' ob ob' fps fps' w hs hs'

set_option maxHeartbeats 400000 in
theorem szTableS_any (a : Option Addr) (cap : Nat) (l : List Table) (ob : List Nat) (fps : List (List Nat)) (k : Int) (w : World) (h : SeqA w a cap l ob fps) (h0 : 0 ≤ k) (h1 : k ≤ 2147483648) :
    Calls Tryz.prog 92 #[.slice a l.length cap, .int .i64 k] w fun e w' => e = .returned (.int .i64 (szV k l)) ∧ Only [] w w' := by
  have hb := h.bound
  have hs : Sz.sz l = l.length + szL l := rfl
  have Hs := Lib.hid hs; clear hs
  by_cases hneg : k - l.length < 0
  · go_enter Tryz.func92, Tryz.ntmps92
    go_wp2
    go_ret
    exact ⟨ret_int (szV_no (by have := Hs.out; omega)).symm, Only.refl _ _⟩
  · go_enter Tryz.func92, Tryz.ntmps92
    go_wp2
    go_loopw [1, 5] (fun q i wr => ∃ j : Nat, j ≤ l.length ∧ q = .int .i64 (k - l.length - (szL (l.take j) : Nat)) ∧ i = .int .i64 j ∧ (l.length + szL (l.take j) : Int) ≤ k ∧ Only [] w wr)
      (fun _ i _ => l.length - (intOf i).toNat)
    case atStart => exact ⟨0, Nat.zero_le _, by simp [szL], rfl, by simp [szL]; omega, Only.refl _ _⟩
    case round =>
      obtain ⟨j, hj, rfl, rfl, hr, hK⟩ := hrel
      by_cases hlt : j < l.length
      · obtain ⟨b, off, v1, v2, v3, rfl, -, c1, c2, c3, hv⟩ := h.at3 j hlt
        have d1 := hK.cell (by simp) c1
        have d2 := hK.cell (by simp) c2
        have d3 := hK.cell (by simp) c3
        have hcnt := szL_take_succ l j hlt
        have hle := szL_take_le l (j + 1)
        have Hcnt := Lib.hid hcnt
        clear hcnt c1 c2 c3
        rcases szV_cases (k - l.length - (szL (l.take j) : Nat)) l[j] with ⟨he, hm⟩ | ⟨he, hp, hm⟩
        all_goals go_wp2_with ((go_at_call 52; (with_reducible refine (szTable_any [v1, v2, v3] l[j] _ (k - l.length - (szL (l.take j) : Nat)) _ (Rp.keep hv (by with_reducible repeat (first | exact Only.refl _ _ | assumption | refine Only.drewN ?_ _ | refine Only.drew ?_ | refine Only.alloc ?_ _ | refine Only.setCell ?_ (by intro hh; exfalso; simp at hh; try omega) _ | refine Only.trans ?_ (by assumption)))) (by omega) (by omega)).mono ?_); rintro e w1 ⟨rfl, hk1⟩))
        · go_ret
          exact ⟨ret_int (szV_no (by have := Hs.out; have := Hcnt.out; omega)).symm, (by with_reducible repeat (first | exact Only.refl _ _ | assumption | refine Only.drewN ?_ _ | refine Only.drew ?_ | refine Only.alloc ?_ _ | refine Only.setCell ?_ (by intro hh; exfalso; simp at hh; try omega) _ | refine Only.trans ?_ (by assumption)))⟩
        · go_roundw
          case rel => exact ⟨j + 1, by omega, by rw [Hcnt.out]; go_num, by go_num, by rw [Hcnt.out]; omega, (by with_reducible repeat (first | exact Only.refl _ _ | assumption | refine Only.drewN ?_ _ | refine Only.drew ?_ | refine Only.alloc ?_ _ | refine Only.setCell ?_ (by intro hh; exfalso; simp at hh; try omega) _ | refine Only.trans ?_ (by assumption)))⟩
          case measure => simp [intOf]; omega
      · have Hj : Hid (j = l.length) := (by omega : j = l.length)
        go_wp2
        go_ret
        have hjl := Hj.out
        subst hjl
        refine ⟨ret_int ?_, hK⟩
        rw [List.take_length] at hr ⊢
        rw [szV_yes (by have := Hs.out; omega), Hs.out]
        omega
theorem szTableS_rd (v : Value) (l : List Table) (fp : List Nat) (k : Int) (w : World) (h : Rd w v l fp) (h0 : 0 ≤ k) (h1 : k ≤ 2147483648) :
    Calls Tryz.prog 92 #[v, .int .i64 k] w fun e w' => e = .returned (.int .i64 (szV k l)) ∧ Only [] w w' := by
  obtain ⟨a, cap, ob, fps, rfl, -, hs⟩ := h.open_
  exact szTableS_any a cap l ob fps k w hs h0 h1

/-- the first elements of a list whose elements take several cells, read one by one -/
structure ReadsC {α : Type} [Rp α] (w : World) (B : Nat) (css : List (List Value)) (xs : List α) (fps : List (List Nat)) : Prop where
  vl : css.length = xs.length
  fl : fps.length = xs.length
  at_ : ∀ k (h1 : k < css.length) (h2 : k < xs.length) (h3 : k < fps.length), Rp.rep w css[k] xs[k] fps[k]
  fresh : Fresh B w fps.flatten
section
variable {α : Type} [Rp α] {w w' : World} {B : Nat} {css : List (List Value)} {xs : List α} {fps : List (List Nat)}
theorem ReadsC.nil (w : World) (B : Nat) : ReadsC w B [] ([] : List α) [] := ⟨rfl, rfl, by simp, Fresh.nil _ _⟩
theorem ReadsC.only {fp : List Nat} (h : ReadsC w B css xs fps) (ho : Only fp w w') (hd : ∀ b ∈ fp, b < B ∨ w.heap.size ≤ b) : ReadsC w' B css xs fps :=
  ⟨h.vl, h.fl, fun k h1 h2 h3 => Rp.only (h.at_ k h1 h2 h3) ho (fun b hb hm => by
      have h4 := h.fresh.ge b (mem_flatten_get h3 hb); have h5 := h.fresh.lt b (mem_flatten_get h3 hb); have := hd b hm; omega),
    h.fresh.only ho (fun b hb hm => by have h4 := h.fresh.ge b hb; have h5 := h.fresh.lt b hb; have := hd b hm; omega)⟩
theorem ReadsC.snoc {cs : List Value} {x : α} {fp : List Nat} (h : ReadsC w B css xs fps) (hv : Rp.rep w cs x fp) (hf : Fresh w'.heap.size w fp) (hB : B ≤ w'.heap.size) (hlt : ∀ b ∈ fps.flatten, b < w'.heap.size) :
    ReadsC w B (css ++ [cs]) (xs ++ [x]) (fps ++ [fp]) := by
  refine ⟨by simp [h.vl], by simp [h.fl], fun k h1 h2 h3 => ?_, ?_⟩
  · by_cases hk : k < xs.length
    · rw [List.getElem_append_left (by rw [h.vl]; exact hk), List.getElem_append_left hk, List.getElem_append_left (by rw [h.fl]; exact hk)]
      exact h.at_ k _ _ _
    · have : k = xs.length := by simp at h2; omega
      subst this
      rw [List.getElem_append_right (by rw [h.vl]; omega), List.getElem_append_right (by omega), List.getElem_append_right (by rw [h.fl]; omega)]
      simpa [h.vl, h.fl] using hv
  · rw [List.flatten_append]
    simp only [List.flatten_cons, List.flatten_nil, List.append_nil]
    exact h.fresh.append hf hB hlt
theorem ReadsC.flen (h : ReadsC w B css xs fps) : css.flatten.length = xs.length * Rp.size α := by
  have hcl : ∀ c ∈ css, c.length = Rp.size α := by
    intro c hc
    obtain ⟨k, hk, rfl⟩ := List.getElem_of_mem hc
    exact Rp.len (h.at_ k hk (by have := h.vl; omega) (by have := h.vl; have := h.fl; omega))
  rw [← h.vl]
  clear h
  induction css with
  | nil => simp
  | cons c css ih => rw [List.flatten_cons, List.length_append, hcl c (by simp), ih (fun c' hc' => hcl c' (by simp [hc'])), List.length_cons, Nat.succ_mul]; omega
end
theorem set3 (L : List Value) (n j : Nat) (z a b c : Value) (h : j < n) (hl : L.length = j * 3) :
    (((L ++ List.replicate ((n - j) * 3) z).set (j * 3) a).set (j * 3 + 1) b).set (j * 3 + 2) c = (L ++ [a, b, c]) ++ List.replicate ((n - (j + 1)) * 3) z := by
  have h2 : (n - j) * 3 = (n - (j + 1)) * 3 + 1 + 1 + 1 := by omega
  rw [h2, List.replicate_succ, List.replicate_succ, List.replicate_succ]
  rw [List.set_append_right _ _ (by omega), List.set_append_right _ _ (by omega), List.set_append_right _ _ (by omega)]
  have e0 : j * 3 - L.length = 0 := by omega
  have e1 : j * 3 + 1 - L.length = 1 := by omega
  have e2 : j * 3 + 2 - L.length = 2 := by omega
  rw [e0, e1, e2]
  simp only [List.set, List.append_assoc, List.cons_append, List.nil_append]

theorem Tryz.infoTable : (Tryz.prog.info? 32).map (fun i => (i.zero, i.size, i.bytes)) = some (some (.agg #[.slice none 0 0, .slice none 0 0, .slice none 0 0]), 3, 72) := by kernel_rfl
theorem madeNils3 (n : Nat) : (madeCells (Value.cells (.agg #[.slice none 0 0, .slice none 0 0, .slice none 0 0])) n).toList = List.replicate n (.slice none 0 0) := by
  apply List.ext_getElem (by simp [madeCells])
  intro i h1 h2
  have hi : i % 3 = 0 ∨ i % 3 = 1 ∨ i % 3 = 2 := by omega
  rcases hi with hi | hi | hi <;> simp [madeCells, Value.cells, hi]

set_option maxHeartbeats 1000000 in
theorem toTableS_any (a : Option Addr) (cap : Nat) (l : List Table) (ob : List Nat) (fps : List (List Nat)) (w : World) (h : SeqA w a cap l ob fps) (hsm : Sm.sm l) :
    Calls Tryz.prog 93 #[.slice a l.length cap] w fun e w' => ∃ v fp', e = .returned v ∧ Rd w' v l fp' ∧ Fresh w.heap.size w' fp' ∧ Only [] w w' := by
  obtain ⟨hl, hl2⟩ := hsm
  obtain ⟨i0, hi, hz0, hz1, hz2⟩ := info_parts Tryz.infoTable
  go_enter Tryz.func93, Tryz.ntmps93
  go_wp2_with (at_make; refine wpList_make_full _ rfl _ _ 49 rfl w.heap.size 32 i0 _ 3 Tryz.underlying49 hi hz0 hz1 _ _ _ _ l.length rfl rfl rfl rfl (by rw [hz2]; omega) (by unfold maxLen; omega) (Nat.le_refl _) ?_; intro w1 hown hg)
  rw [madeNils3] at hown
  have hs1 := hg.size
  have hgl := (hown.lt w.heap.size rfl).2
  go_loopw [4] (fun i wr => ∃ (j : Nat) (css : List (List Value)) (fs : List (List Nat)), j ≤ l.length ∧ i = .int .i64 j ∧ ReadsC wr (w.heap.size + 1) css (l.take j) fs ∧
      wr.ownsRow w.heap.size 32 3 (.slice (some ⟨w.heap.size, 0, none⟩) l.length l.length) l.length (css.flatten ++ List.replicate ((l.length - j) * 3) (.slice none 0 0)) ∧ Only [] w wr ∧ w.heap.size + 1 ≤ wr.heap.size)
    (fun i _ => l.length - (intOf i).toNat)
  case atStart => exact ⟨0, [], [], Nat.zero_le _, rfl, ReadsC.nil _ _, by simpa using hown, (Only.refl _ _).grown hg (by simp), hgl⟩
  case round =>
    obtain ⟨j, css, fs, hj, rfl, hR, hO, hK, hsz⟩ := hrel
    by_cases hlt : j < l.length
    · obtain ⟨b, off, v1, v2, v3, rfl, -, c1, c2, c3, hv0⟩ := h.at3 j hlt
      have d1 := hK.cell (by simp) c1
      have d2 := hK.cell (by simp) c2
      have d3 := hK.cell (by simp) c3
      have hv := Rp.keep hv0 hK
      have hsm := hl2 l[j] (List.getElem_mem _)
      have hfl := hR.flen
      have hfl' : css.flatten.length = j * 3 := by rw [hfl]; simp [Nat.min_eq_left hj, Rp.size]
      have Hfl := Lib.hid hfl'
      clear hg hgl hown c1 c2 c3 hv0 hfl hfl'
      go_wp2_with ((go_at_call 55; (with_reducible refine (toTable_any [v1, v2, v3] l[j] _ _ hv hsm).mono ?_); rintro e w2 ⟨cs2, fp2, rfl, hv2, hF2, hK2⟩; have hq := hv2; obtain ⟨u1, u2, u3, _, _, _, rfl, -, y1, y2, y3⟩ := hq; obtain ⟨A1, C1, _, _, rfl, -⟩ := y1.open_; obtain ⟨A2, C2, _, _, rfl, -⟩ := y2.open_; obtain ⟨A3, C3, _, _, rfl, -⟩ := y3.open_; have hO2 := owns_keep hO hK2; have e1 : w2.cell? ⟨w.heap.size, j * 3, none⟩ = some (.slice none 0 0) := (by rw [hO2.cellAt _ (by omega), List.getElem?_append_right (by have := Hfl.out; omega), List.getElem?_replicate, if_pos (by have := Hfl.out; omega)]); have e2 : w2.cell? ⟨w.heap.size, j * 3 + 1, none⟩ = some (.slice none 0 0) := (by rw [hO2.cellAt _ (by omega), List.getElem?_append_right (by have := Hfl.out; omega), List.getElem?_replicate, if_pos (by have := Hfl.out; omega)]); have e3 : w2.cell? ⟨w.heap.size, j * 3 + 2, none⟩ = some (.slice none 0 0) := (by rw [hO2.cellAt _ (by omega), List.getElem?_append_right (by have := Hfl.out; omega), List.getElem?_replicate, if_pos (by have := Hfl.out; omega)]); have g1 := hO2.frozenAt (j * 3); have g2 := hO2.frozenAt (j * 3 + 1); have g3 := hO2.frozenAt (j * 3 + 2)))
      obtain ⟨p1, -⟩ := hO2.stored (j * 3) (.slice A1 l[j].tracked.length C1)
      obtain ⟨p2, -⟩ := p1.stored (j * 3 + 1) (.slice A2 l[j].patterns.length C2)
      obtain ⟨p3, -⟩ := p2.stored (j * 3 + 2) (.slice A3 l[j].distances.length C3)
      rw [set3 _ _ _ _ _ _ _ hlt Hfl.out] at p3
      have hK3 : Only [] w (((w2.setCell ⟨w.heap.size, j * 3, none⟩ (.slice A1 l[j].tracked.length C1)).setCell ⟨w.heap.size, j * 3 + 1, none⟩ (.slice A2 l[j].patterns.length C2)).setCell ⟨w.heap.size, j * 3 + 2, none⟩ (.slice A3 l[j].distances.length C3)) :=
        (((hK.trans hK2).setCell (by simp) _).setCell (by simp) _).setCell (by simp) _
      have hK4 : Only [w.heap.size] w2 (((w2.setCell ⟨w.heap.size, j * 3, none⟩ (.slice A1 l[j].tracked.length C1)).setCell ⟨w.heap.size, j * 3 + 1, none⟩ (.slice A2 l[j].patterns.length C2)).setCell ⟨w.heap.size, j * 3 + 2, none⟩ (.slice A3 l[j].distances.length C3)) :=
        (((Only.refl _ _).setCell (by simp) _).setCell (by simp) _).setCell (by simp) _
      have hR2 : ReadsC w2 (w.heap.size + 1) css (l.take j) fs := hR.only hK2 (by simp)
      have hR3 := hR2.snoc (w' := wr) hv2 hF2 hsz (fun b hb => hR.fresh.lt b hb)
      rw [← take_succ_get l j hlt] at hR3
      have hR4 := hR3.only hK4 (by simp)
      have hs4 := hK2.size
      go_roundw
      case rel => exact ⟨j + 1, _, _, by omega, by go_num, hR4, by rw [List.flatten_append]; simpa using p3, hK3, by simp [World.setCell]; omega⟩
      case measure => simp [intOf]; omega
    · have hjl : j = l.length := by omega
      rw [hjl] at hO hR
      simp only [List.take_length, Nat.sub_self, Nat.zero_mul, List.replicate_zero, List.append_nil] at hO hR
      have hF := own_fresh hO
      obtain ⟨a', cap', hv, -, hI⟩ := own_seq (α := Table) (xs := l) (fps := fs) hO (by decide) hR.vl hR.fl (fun k h1 h2 h3 => hR.at_ k h1 h2 h3)
      have HI := Lib.hid hI
      have Hv := Lib.hid hv
      have hF2 : Fresh w.heap.size wr ([w.heap.size] ++ fs.flatten) := hF.append hR.fresh (by omega) (by simp [Value.ownBlock])
      clear hjl hO hv hown hI
      go_wp2
      go_ret
      refine ⟨_, _, rfl, ?_, hF2, hK⟩
      have hr := HI.out.rd
      rw [← Hv.out] at hr; exact hr
theorem toTableS_sm (v : Value) (l : List Table) (fp : List Nat) (w : World) (h : Rd w v l fp) (hl : Sm.sm l) :
    Calls Tryz.prog 93 #[v] w fun e w' => ∃ v fp', e = .returned v ∧ Rd w' v l fp' ∧ Fresh w.heap.size w' fp' ∧ Only [] w w' := by
  obtain ⟨a, cap, ob, fps, rfl, -, hs⟩ := h.open_
  exact toTableS_any a cap l ob fps w hs hl

end Go.Proofs.YtlcoejncdbkhcaaGreat

namespace Go.Proofs.YtlcoejncdbkhcaaGreat
open Go.RowKit
set_option maxRecDepth 10000
set_option maxHeartbeats 1000000 in
theorem copyLists_acc (a : Option Addr) (cap : Nat) (l : List (List Int)) (ob : List Nat) (fps : List (List Nat)) (w : World) (h : SeqA w a cap l ob fps) (hl : l.length ≤ 2097152) (hl2 : ∀ x ∈ l, x.length ≤ 2097152) :
    Calls Tryz.prog 118 #[.slice a l.length cap] w fun e w' => ∃ v fs, e = .returned v ∧ Acc w.heap.size 25 w' v l fs ∧ Fresh w.heap.size w' fs.flatten ∧ Only [] w w' := by
  obtain ⟨i0, hi, hz0, hz1, hz2⟩ := info_parts Tryz.info22
  have hb := h.bound
  go_enter Tryz.func118, Tryz.ntmps118
  go_wp2
  go_loopw [3, 4] (fun o i wr => ∃ (j : Nat) (fs : List (List Nat)), j ≤ l.length ∧ i = .int .i64 j ∧ Acc w.heap.size 25 wr o (l.take j) fs ∧ Fresh w.heap.size wr fs.flatten ∧ Only [] w wr)
    (fun _ i _ => l.length - (intOf i).toNat)
  case atStart => exact ⟨0, [], Nat.zero_le _, rfl, Acc.made w w.heap.size _ rfl (Nat.le_refl _), Fresh.nil _ _, (Only.refl _ _).alloc _⟩
  case round =>
    obtain ⟨j, fs, hj, rfl, hA, hF, hK⟩ := hrel
    by_cases hlt : j < l.length
    · obtain ⟨b, off, v, rfl, -, hc0, hv0⟩ := h.atRow j hlt
      have hc := hK.cell (by simp) hc0
      have hv := Rp.keep hv0 hK
      have hlen := hl2 l[j] (List.getElem_mem _)
      have hsz := hK.size
      have hlj : (l.take j).length + 1 ≤ 1073741824 := by simp; omega
      go_wp2_with (first
        | (go_at_call 111; refine (copyInts_rd v l[j] _ _ hv (by omega)).mono ?_; rintro e w2 ⟨v2, fp2, rfl, hv2, hF2, hK2⟩; have hq := hv2.open_; obtain ⟨a2, c2, _, _, rfl, -⟩ := hq)
        | (at_builtin; refine wpList_pushF rfl _ _ 22 rfl w.heap.size 25 i0 _ 24 Tryz.underlying22 hi hz0 hz1 hz2 rfl (by decide) (by decide) wr _ (l.take j) fs rfl hA hF (hK2.alloc _) hsz w2.heap.size 1 [.slice a2 l[j].length c2] l[j] fp2 rfl (lit_src w2 [.slice a2 l[j].length c2] _ rfl) (by intro u hu; simp at hu; subst hu; rfl) (Rp.keep hv2 ((Only.refl _ _).alloc _)) (hF2.keep ((Only.refl _ _).alloc _)) hlj w ((hK.trans hK2).alloc _) (Nat.le_refl _) ?_; intro v3 w3 hA3 hF3 hK3 _))
      go_roundw
      case rel => exact ⟨j + 1, _, by omega, by go_num, by rw [take_succ_get l j hlt]; exact hA3, hF3, hK3⟩
      case measure => simp [intOf]; omega
    · have hjl : j = l.length := by omega
      rw [hjl, List.take_length] at hA
      have HA := Lib.hid hA
      clear hjl hA
      go_wp2
      go_ret
      exact ⟨_, _, rfl, HA.out, hF, hK⟩
theorem copyLists_any (a : Option Addr) (cap : Nat) (l : List (List Int)) (ob : List Nat) (fps : List (List Nat)) (w : World) (h : SeqA w a cap l ob fps) (hl : l.length ≤ 2097152) (hl2 : ∀ x ∈ l, x.length ≤ 2097152) :
    Calls Tryz.prog 118 #[.slice a l.length cap] w fun e w' => ∃ v fp', e = .returned v ∧ Rd w' v l fp' ∧ Fresh w.heap.size w' fp' ∧ Only [] w w' :=
  (copyLists_acc a cap l ob fps w h hl hl2).mono fun _ _ ⟨v, _, he, hA, hF, hK⟩ => ⟨v, _, he, hA.rd (by decide), hA.fresh hF, hK⟩
theorem copyLists_rd (v : Value) (l : List (List Int)) (fp : List Nat) (w : World) (h : Rd w v l fp) (hl : l.length ≤ 2097152) (hl2 : ∀ x ∈ l, x.length ≤ 2097152) :
    Calls Tryz.prog 118 #[v] w fun e w' => ∃ v fp', e = .returned v ∧ Rd w' v l fp' ∧ Fresh w.heap.size w' fp' ∧ Only [] w w' := by
  obtain ⟨a, cap, ob, fps, rfl, -, hs⟩ := h.open_
  exact copyLists_any a cap l ob fps w hs hl hl2
end Go.Proofs.YtlcoejncdbkhcaaGreat
