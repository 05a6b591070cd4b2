/- Table: plain data, how it lies in memory, the laws' own helpers on it. (Printed by gen_struct.py.) -/
import Derived.Test.YtpfmkjcngknecaaExact
namespace Go.Proofs.Ytpfmkjcngknecaa
open Go.RowKit
set_option maxRecDepth 10000

structure Table where
  tracked : List Int
  patterns : List (List Int)
  distances : List Int

instance : Rp Table where
  size := 3
  rep w cs x fp := ∃ v0 v1 v2 f0 f1 f2, cs = [v0] ++ [v1] ++ [v2] ∧ fp = f0 ++ (f1 ++ f2) ∧ Rd w v0 x.tracked f0 ∧ Rd w v1 x.patterns f1 ∧ Rd w v2 x.distances f2
  len h := by
    obtain ⟨v0, v1, v2, f0, f1, f2, rfl, -, h0, h1, h2⟩ := h
    rfl
  frame h hf := by
    obtain ⟨v0, v1, v2, f0, f1, f2, hcs, rfl, h0, h1, h2⟩ := h
    exact ⟨v0, v1, v2, f0, f1, f2, hcs, rfl, Rp.frame h0 fun b hb => hf b (by simp [hb]), Rp.frame h1 fun b hb => hf b (by simp [hb]), Rp.frame h2 fun b hb => hf b (by simp [hb])⟩
  lt h := by
    obtain ⟨v0, v1, v2, f0, f1, f2, hcs, rfl, h0, h1, h2⟩ := h
    intro b hb
    simp only [List.mem_append] at hb
    rcases hb with hb | hb | hb
    · exact Rp.lt h0 b hb
    · exact Rp.lt h1 b hb
    · exact Rp.lt h2 b hb

instance : Mk Table where
  mark k x := ⟨Mk.mark (k) x.tracked, Mk.mark (k + (Mk.cnt x.tracked : Nat)) x.patterns, Mk.mark (k + (Mk.cnt x.tracked : Nat) + (Mk.cnt x.patterns : Nat)) x.distances⟩
  cnt x := Mk.cnt x.tracked + Mk.cnt x.patterns + Mk.cnt x.distances
instance : Sz Table where
  sz x := Sz.sz x.tracked + Sz.sz x.patterns + Sz.sz x.distances
instance : Sm Table where
  sm x := Sm.sm x.tracked ∧ Sm.sm x.patterns ∧ Sm.sm x.distances
instance : SzSm Table := ⟨fun x h => by
  have h' : Sz.sz x.tracked + Sz.sz x.patterns + Sz.sz x.distances ≤ 2097152 := h
  exact ⟨SzSm.of_ _ (by omega), SzSm.of_ _ (by omega), SzSm.of_ _ (by omega)⟩⟩
instance : CntSz Table := ⟨fun x => by
  have h' : Mk.cnt x.tracked + Mk.cnt x.patterns + Mk.cnt x.distances ≤ Sz.sz x.tracked + Sz.sz x.patterns + Sz.sz x.distances := by have := CntSz.le x.tracked; have := CntSz.le x.patterns; have := CntSz.le x.distances; omega
  exact h'⟩
instance : MkL Table := ⟨fun k x => by simp [Mk.mark, Mk.cnt, markL_idem, markL_cnt], fun k x => by simp [Mk.mark, Mk.cnt, markL_cnt]⟩
theorem Table.eq_iff {x y : Table} : x = y ↔ x.tracked = y.tracked ∧ x.patterns = y.patterns ∧ x.distances = y.distances := by
  cases x; cases y; simp

set_option maxHeartbeats 1000000 in
theorem eqTable_any (cs cs' : List Value) (x y : Table) (fp fp' : List Nat) (w : World) (h : Rp.rep w cs x fp) (h' : Rp.rep w cs' y fp') :
    Calls Try.prog 61 #[.agg cs.toArray, .agg cs'.toArray] w fun e w' => e = .returned (.bool (eqV x y)) ∧ Only [] w w' := by
  obtain ⟨v0, v1, v2, f0, f1, f2, rfl, rfl, h0, h1, h2⟩ := h
  obtain ⟨v0', v1', v2', f0', f1', f2', rfl, rfl, h0', h1', h2'⟩ := h'
  rcases q0 : eqV x.tracked y.tracked
  · go_enter Try.func61, Try.ntmps61
    go_wp2_with (first | (go_at_call 35; (with_reducible refine (eqInt64S_rd v0 v0' x.tracked y.tracked _ _ _ (Rp.keep h0 (by with_reducible repeat (first | exact Only.refl _ _ | assumption | refine Only.drewN ?_ _ | refine Only.drew ?_ | refine Only.alloc ?_ _ | refine Only.setCell ?_ (by intro hh; exfalso; simp at hh; try omega) _ | refine Only.trans ?_ (by assumption)))) (Rp.keep h0' (by with_reducible repeat (first | exact Only.refl _ _ | assumption | refine Only.drewN ?_ _ | refine Only.drew ?_ | refine Only.alloc ?_ _ | refine Only.setCell ?_ (by intro hh; exfalso; simp at hh; try omega) _ | refine Only.trans ?_ (by assumption))))).mono ?_); rintro e w0 ⟨rfl, n0, rfl⟩) | (go_at_call 27; (with_reducible refine (eqInt64SS_rd v1 v1' x.patterns y.patterns _ _ _ (Rp.keep h1 (by with_reducible repeat (first | exact Only.refl _ _ | assumption | refine Only.drewN ?_ _ | refine Only.drew ?_ | refine Only.alloc ?_ _ | refine Only.setCell ?_ (by intro hh; exfalso; simp at hh; try omega) _ | refine Only.trans ?_ (by assumption)))) (Rp.keep h1' (by with_reducible repeat (first | exact Only.refl _ _ | assumption | refine Only.drewN ?_ _ | refine Only.drew ?_ | refine Only.alloc ?_ _ | refine Only.setCell ?_ (by intro hh; exfalso; simp at hh; try omega) _ | refine Only.trans ?_ (by assumption))))).mono ?_); rintro e w1 ⟨rfl, n1, rfl⟩) | (go_at_call 35; (with_reducible refine (eqInt64S_rd v2 v2' x.distances y.distances _ _ _ (Rp.keep h2 (by with_reducible repeat (first | exact Only.refl _ _ | assumption | refine Only.drewN ?_ _ | refine Only.drew ?_ | refine Only.alloc ?_ _ | refine Only.setCell ?_ (by intro hh; exfalso; simp at hh; try omega) _ | refine Only.trans ?_ (by assumption)))) (Rp.keep h2' (by with_reducible repeat (first | exact Only.refl _ _ | assumption | refine Only.drewN ?_ _ | refine Only.drew ?_ | refine Only.alloc ?_ _ | refine Only.setCell ?_ (by intro hh; exfalso; simp at hh; try omega) _ | refine Only.trans ?_ (by assumption))))).mono ?_); rintro e w2 ⟨rfl, n2, rfl⟩))
    go_ret
    exact ⟨ret_bool (eqV_no (fun he => (eqV_iff'.1 q0) (Table.eq_iff.1 he).1)).symm, (by with_reducible repeat (first | exact Only.refl _ _ | assumption | refine Only.drewN ?_ _ | refine Only.drew ?_ | refine Only.alloc ?_ _ | refine Only.setCell ?_ (by intro hh; exfalso; simp at hh; try omega) _ | refine Only.trans ?_ (by assumption)))⟩
  rcases q1 : eqV x.patterns y.patterns
  · go_enter Try.func61, Try.ntmps61
    go_wp2_with (first | (go_at_call 35; (with_reducible refine (eqInt64S_rd v0 v0' x.tracked y.tracked _ _ _ (Rp.keep h0 (by with_reducible repeat (first | exact Only.refl _ _ | assumption | refine Only.drewN ?_ _ | refine Only.drew ?_ | refine Only.alloc ?_ _ | refine Only.setCell ?_ (by intro hh; exfalso; simp at hh; try omega) _ | refine Only.trans ?_ (by assumption)))) (Rp.keep h0' (by with_reducible repeat (first | exact Only.refl _ _ | assumption | refine Only.drewN ?_ _ | refine Only.drew ?_ | refine Only.alloc ?_ _ | refine Only.setCell ?_ (by intro hh; exfalso; simp at hh; try omega) _ | refine Only.trans ?_ (by assumption))))).mono ?_); rintro e w0 ⟨rfl, n0, rfl⟩) | (go_at_call 27; (with_reducible refine (eqInt64SS_rd v1 v1' x.patterns y.patterns _ _ _ (Rp.keep h1 (by with_reducible repeat (first | exact Only.refl _ _ | assumption | refine Only.drewN ?_ _ | refine Only.drew ?_ | refine Only.alloc ?_ _ | refine Only.setCell ?_ (by intro hh; exfalso; simp at hh; try omega) _ | refine Only.trans ?_ (by assumption)))) (Rp.keep h1' (by with_reducible repeat (first | exact Only.refl _ _ | assumption | refine Only.drewN ?_ _ | refine Only.drew ?_ | refine Only.alloc ?_ _ | refine Only.setCell ?_ (by intro hh; exfalso; simp at hh; try omega) _ | refine Only.trans ?_ (by assumption))))).mono ?_); rintro e w1 ⟨rfl, n1, rfl⟩) | (go_at_call 35; (with_reducible refine (eqInt64S_rd v2 v2' x.distances y.distances _ _ _ (Rp.keep h2 (by with_reducible repeat (first | exact Only.refl _ _ | assumption | refine Only.drewN ?_ _ | refine Only.drew ?_ | refine Only.alloc ?_ _ | refine Only.setCell ?_ (by intro hh; exfalso; simp at hh; try omega) _ | refine Only.trans ?_ (by assumption)))) (Rp.keep h2' (by with_reducible repeat (first | exact Only.refl _ _ | assumption | refine Only.drewN ?_ _ | refine Only.drew ?_ | refine Only.alloc ?_ _ | refine Only.setCell ?_ (by intro hh; exfalso; simp at hh; try omega) _ | refine Only.trans ?_ (by assumption))))).mono ?_); rintro e w2 ⟨rfl, n2, rfl⟩))
    go_ret
    exact ⟨ret_bool (eqV_no (fun he => (eqV_iff'.1 q1) (Table.eq_iff.1 he).2.1)).symm, (by with_reducible repeat (first | exact Only.refl _ _ | assumption | refine Only.drewN ?_ _ | refine Only.drew ?_ | refine Only.alloc ?_ _ | refine Only.setCell ?_ (by intro hh; exfalso; simp at hh; try omega) _ | refine Only.trans ?_ (by assumption)))⟩
  rcases q2 : eqV x.distances y.distances
  · go_enter Try.func61, Try.ntmps61
    go_wp2_with (first | (go_at_call 35; (with_reducible refine (eqInt64S_rd v0 v0' x.tracked y.tracked _ _ _ (Rp.keep h0 (by with_reducible repeat (first | exact Only.refl _ _ | assumption | refine Only.drewN ?_ _ | refine Only.drew ?_ | refine Only.alloc ?_ _ | refine Only.setCell ?_ (by intro hh; exfalso; simp at hh; try omega) _ | refine Only.trans ?_ (by assumption)))) (Rp.keep h0' (by with_reducible repeat (first | exact Only.refl _ _ | assumption | refine Only.drewN ?_ _ | refine Only.drew ?_ | refine Only.alloc ?_ _ | refine Only.setCell ?_ (by intro hh; exfalso; simp at hh; try omega) _ | refine Only.trans ?_ (by assumption))))).mono ?_); rintro e w0 ⟨rfl, n0, rfl⟩) | (go_at_call 27; (with_reducible refine (eqInt64SS_rd v1 v1' x.patterns y.patterns _ _ _ (Rp.keep h1 (by with_reducible repeat (first | exact Only.refl _ _ | assumption | refine Only.drewN ?_ _ | refine Only.drew ?_ | refine Only.alloc ?_ _ | refine Only.setCell ?_ (by intro hh; exfalso; simp at hh; try omega) _ | refine Only.trans ?_ (by assumption)))) (Rp.keep h1' (by with_reducible repeat (first | exact Only.refl _ _ | assumption | refine Only.drewN ?_ _ | refine Only.drew ?_ | refine Only.alloc ?_ _ | refine Only.setCell ?_ (by intro hh; exfalso; simp at hh; try omega) _ | refine Only.trans ?_ (by assumption))))).mono ?_); rintro e w1 ⟨rfl, n1, rfl⟩) | (go_at_call 35; (with_reducible refine (eqInt64S_rd v2 v2' x.distances y.distances _ _ _ (Rp.keep h2 (by with_reducible repeat (first | exact Only.refl _ _ | assumption | refine Only.drewN ?_ _ | refine Only.drew ?_ | refine Only.alloc ?_ _ | refine Only.setCell ?_ (by intro hh; exfalso; simp at hh; try omega) _ | refine Only.trans ?_ (by assumption)))) (Rp.keep h2' (by with_reducible repeat (first | exact Only.refl _ _ | assumption | refine Only.drewN ?_ _ | refine Only.drew ?_ | refine Only.alloc ?_ _ | refine Only.setCell ?_ (by intro hh; exfalso; simp at hh; try omega) _ | refine Only.trans ?_ (by assumption))))).mono ?_); rintro e w2 ⟨rfl, n2, rfl⟩))
    go_ret
    exact ⟨ret_bool (eqV_no (fun he => (eqV_iff'.1 q2) (Table.eq_iff.1 he).2.2)).symm, (by with_reducible repeat (first | exact Only.refl _ _ | assumption | refine Only.drewN ?_ _ | refine Only.drew ?_ | refine Only.alloc ?_ _ | refine Only.setCell ?_ (by intro hh; exfalso; simp at hh; try omega) _ | refine Only.trans ?_ (by assumption)))⟩
  go_enter Try.func61, Try.ntmps61
  go_wp2_with (first | (go_at_call 35; (with_reducible refine (eqInt64S_rd v0 v0' x.tracked y.tracked _ _ _ (Rp.keep h0 (by with_reducible repeat (first | exact Only.refl _ _ | assumption | refine Only.drewN ?_ _ | refine Only.drew ?_ | refine Only.alloc ?_ _ | refine Only.setCell ?_ (by intro hh; exfalso; simp at hh; try omega) _ | refine Only.trans ?_ (by assumption)))) (Rp.keep h0' (by with_reducible repeat (first | exact Only.refl _ _ | assumption | refine Only.drewN ?_ _ | refine Only.drew ?_ | refine Only.alloc ?_ _ | refine Only.setCell ?_ (by intro hh; exfalso; simp at hh; try omega) _ | refine Only.trans ?_ (by assumption))))).mono ?_); rintro e w0 ⟨rfl, n0, rfl⟩) | (go_at_call 27; (with_reducible refine (eqInt64SS_rd v1 v1' x.patterns y.patterns _ _ _ (Rp.keep h1 (by with_reducible repeat (first | exact Only.refl _ _ | assumption | refine Only.drewN ?_ _ | refine Only.drew ?_ | refine Only.alloc ?_ _ | refine Only.setCell ?_ (by intro hh; exfalso; simp at hh; try omega) _ | refine Only.trans ?_ (by assumption)))) (Rp.keep h1' (by with_reducible repeat (first | exact Only.refl _ _ | assumption | refine Only.drewN ?_ _ | refine Only.drew ?_ | refine Only.alloc ?_ _ | refine Only.setCell ?_ (by intro hh; exfalso; simp at hh; try omega) _ | refine Only.trans ?_ (by assumption))))).mono ?_); rintro e w1 ⟨rfl, n1, rfl⟩) | (go_at_call 35; (with_reducible refine (eqInt64S_rd v2 v2' x.distances y.distances _ _ _ (Rp.keep h2 (by with_reducible repeat (first | exact Only.refl _ _ | assumption | refine Only.drewN ?_ _ | refine Only.drew ?_ | refine Only.alloc ?_ _ | refine Only.setCell ?_ (by intro hh; exfalso; simp at hh; try omega) _ | refine Only.trans ?_ (by assumption)))) (Rp.keep h2' (by with_reducible repeat (first | exact Only.refl _ _ | assumption | refine Only.drewN ?_ _ | refine Only.drew ?_ | refine Only.alloc ?_ _ | refine Only.setCell ?_ (by intro hh; exfalso; simp at hh; try omega) _ | refine Only.trans ?_ (by assumption))))).mono ?_); rintro e w2 ⟨rfl, n2, rfl⟩))
  go_ret
  exact ⟨ret_bool (eqV_yes (Table.eq_iff.2 ⟨eqV_iff.1 q0, eqV_iff.1 q1, eqV_iff.1 q2⟩)).symm, (by with_reducible repeat (first | exact Only.refl _ _ | assumption | refine Only.drewN ?_ _ | refine Only.drew ?_ | refine Only.alloc ?_ _ | refine Only.setCell ?_ (by intro hh; exfalso; simp at hh; try omega) _ | refine Only.trans ?_ (by assumption)))⟩

