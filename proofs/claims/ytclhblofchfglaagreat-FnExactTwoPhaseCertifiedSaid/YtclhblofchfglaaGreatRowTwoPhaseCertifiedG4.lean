/- Table: plain data, how it lies in memory, the laws' own helpers on it. (Printed by gen_struct.py.) The laws' own helpers on slices of tables: eq, mark, held, to, sz. Puzzle: plain data, how it lies in memory, the laws' own helpers on it. (Printed by gen_struct.py.) IsValidPuzzle: the reference's and the program's. -/
import Derived.Test.YtclhblofchfglaaGreatRowTwoPhaseCertifiedG3
import Derived.StillTailTactics
namespace Go.Proofs.YtclhblofchfglaaGreat
open Go.RowKit
set_option maxRecDepth 10000

structure Table where
  tracked : List Int
  patterns : List (List Int)
  distances : List Int

instance : Rp Table where
  size := 3
  rep w cs x fp := ∃ v0 v1 v2 f0 f1 f2, cs = [v0] ++ [v1] ++ [v2] ∧ fp = f0 ++ (f1 ++ f2) ∧ Rd w v0 x.tracked f0 ∧ Rd w v1 x.patterns f1 ∧ Rd w v2 x.distances f2
  len h := by
    obtain ⟨v0, v1, v2, f0, f1, f2, rfl, -, h0, h1, h2⟩ := h
    rfl
  frame h hf := by
    obtain ⟨v0, v1, v2, f0, f1, f2, hcs, rfl, h0, h1, h2⟩ := h
    exact ⟨v0, v1, v2, f0, f1, f2, hcs, rfl, Rp.frame h0 fun b hb => hf b (by simp [hb]), Rp.frame h1 fun b hb => hf b (by simp [hb]), Rp.frame h2 fun b hb => hf b (by simp [hb])⟩
  lt h := by
    obtain ⟨v0, v1, v2, f0, f1, f2, hcs, rfl, h0, h1, h2⟩ := h
    intro b hb
    simp only [List.mem_append] at hb
    rcases hb with hb | hb | hb
    · exact Rp.lt h0 b hb
    · exact Rp.lt h1 b hb
    · exact Rp.lt h2 b hb

instance : Mk Table where
  mark k x := ⟨Mk.mark (k) x.tracked, Mk.mark (k + (Mk.cnt x.tracked : Nat)) x.patterns, Mk.mark (k + (Mk.cnt x.tracked : Nat) + (Mk.cnt x.patterns : Nat)) x.distances⟩
  cnt x := Mk.cnt x.tracked + Mk.cnt x.patterns + Mk.cnt x.distances
instance : Sz Table where
  sz x := Sz.sz x.tracked + Sz.sz x.patterns + Sz.sz x.distances
instance : Sm Table where
  sm x := Sm.sm x.tracked ∧ Sm.sm x.patterns ∧ Sm.sm x.distances
instance : SzSm Table := ⟨fun x h => by
  have h' : Sz.sz x.tracked + Sz.sz x.patterns + Sz.sz x.distances ≤ 2097152 := h
  exact ⟨SzSm.of_ _ (by omega), SzSm.of_ _ (by omega), SzSm.of_ _ (by omega)⟩⟩
instance : CntSz Table := ⟨fun x => by
  have h' : Mk.cnt x.tracked + Mk.cnt x.patterns + Mk.cnt x.distances ≤ Sz.sz x.tracked + Sz.sz x.patterns + Sz.sz x.distances := by have := CntSz.le x.tracked; have := CntSz.le x.patterns; have := CntSz.le x.distances; omega
  exact h'⟩
instance : MkL Table := ⟨fun k x => by simp [Mk.mark, Mk.cnt, markL_idem, markL_cnt], fun k x => by simp [Mk.mark, Mk.cnt, markL_cnt]⟩
theorem Table.eq_iff {x y : Table} : x = y ↔ x.tracked = y.tracked ∧ x.patterns = y.patterns ∧ x.distances = y.distances := by
  cases x; cases y; simp

set_option maxHeartbeats 1000000 in
theorem eqTable_any (cs cs' : List Value) (x y : Table) (fp fp' : List Nat) (w : World) (h : Rp.rep w cs x fp) (h' : Rp.rep w cs' y fp') :
    Calls Tryz.prog 69 #[.agg cs.toArray, .agg cs'.toArray] w fun e w' => e = .returned (.bool (eqV x y)) ∧ Only [] w w' := by
  obtain ⟨v0, v1, v2, f0, f1, f2, rfl, rfl, h0, h1, h2⟩ := h
  obtain ⟨v0', v1', v2', f0', f1', f2', rfl, rfl, h0', h1', h2'⟩ := h'
  rcases q0 : eqV x.tracked y.tracked
  · go_enter Tryz.func69, Tryz.ntmps69
    go_wp2_with (first | (go_at_call 17; (with_reducible refine (eqInt64S_rd v0 v0' x.tracked y.tracked _ _ _ (Rp.keep h0 (by with_reducible repeat (first | exact Only.refl _ _ | assumption | refine Only.drewN ?_ _ | refine Only.drew ?_ | refine Only.alloc ?_ _ | refine Only.setCell ?_ (by intro hh; exfalso; simp at hh; try omega) _ | refine Only.trans ?_ (by assumption)))) (Rp.keep h0' (by with_reducible repeat (first | exact Only.refl _ _ | assumption | refine Only.drewN ?_ _ | refine Only.drew ?_ | refine Only.alloc ?_ _ | refine Only.setCell ?_ (by intro hh; exfalso; simp at hh; try omega) _ | refine Only.trans ?_ (by assumption))))).mono ?_); rintro e w0 ⟨rfl, n0, rfl⟩) | (go_at_call 16; (with_reducible refine (eqInt64SS_rd v1 v1' x.patterns y.patterns _ _ _ (Rp.keep h1 (by with_reducible repeat (first | exact Only.refl _ _ | assumption | refine Only.drewN ?_ _ | refine Only.drew ?_ | refine Only.alloc ?_ _ | refine Only.setCell ?_ (by intro hh; exfalso; simp at hh; try omega) _ | refine Only.trans ?_ (by assumption)))) (Rp.keep h1' (by with_reducible repeat (first | exact Only.refl _ _ | assumption | refine Only.drewN ?_ _ | refine Only.drew ?_ | refine Only.alloc ?_ _ | refine Only.setCell ?_ (by intro hh; exfalso; simp at hh; try omega) _ | refine Only.trans ?_ (by assumption))))).mono ?_); rintro e w1 ⟨rfl, n1, rfl⟩) | (go_at_call 17; (with_reducible refine (eqInt64S_rd v2 v2' x.distances y.distances _ _ _ (Rp.keep h2 (by with_reducible repeat (first | exact Only.refl _ _ | assumption | refine Only.drewN ?_ _ | refine Only.drew ?_ | refine Only.alloc ?_ _ | refine Only.setCell ?_ (by intro hh; exfalso; simp at hh; try omega) _ | refine Only.trans ?_ (by assumption)))) (Rp.keep h2' (by with_reducible repeat (first | exact Only.refl _ _ | assumption | refine Only.drewN ?_ _ | refine Only.drew ?_ | refine Only.alloc ?_ _ | refine Only.setCell ?_ (by intro hh; exfalso; simp at hh; try omega) _ | refine Only.trans ?_ (by assumption))))).mono ?_); rintro e w2 ⟨rfl, n2, rfl⟩))
    go_ret
    exact ⟨ret_bool (eqV_no (fun he => (eqV_iff'.1 q0) (Table.eq_iff.1 he).1)).symm, (by with_reducible repeat (first | exact Only.refl _ _ | assumption | refine Only.drewN ?_ _ | refine Only.drew ?_ | refine Only.alloc ?_ _ | refine Only.setCell ?_ (by intro hh; exfalso; simp at hh; try omega) _ | refine Only.trans ?_ (by assumption)))⟩
  rcases q1 : eqV x.patterns y.patterns
  · go_enter Tryz.func69, Tryz.ntmps69
    go_wp2_with (first | (go_at_call 17; (with_reducible refine (eqInt64S_rd v0 v0' x.tracked y.tracked _ _ _ (Rp.keep h0 (by with_reducible repeat (first | exact Only.refl _ _ | assumption | refine Only.drewN ?_ _ | refine Only.drew ?_ | refine Only.alloc ?_ _ | refine Only.setCell ?_ (by intro hh; exfalso; simp at hh; try omega) _ | refine Only.trans ?_ (by assumption)))) (Rp.keep h0' (by with_reducible repeat (first | exact Only.refl _ _ | assumption | refine Only.drewN ?_ _ | refine Only.drew ?_ | refine Only.alloc ?_ _ | refine Only.setCell ?_ (by intro hh; exfalso; simp at hh; try omega) _ | refine Only.trans ?_ (by assumption))))).mono ?_); rintro e w0 ⟨rfl, n0, rfl⟩) | (go_at_call 16; (with_reducible refine (eqInt64SS_rd v1 v1' x.patterns y.patterns _ _ _ (Rp.keep h1 (by with_reducible repeat (first | exact Only.refl _ _ | assumption | refine Only.drewN ?_ _ | refine Only.drew ?_ | refine Only.alloc ?_ _ | refine Only.setCell ?_ (by intro hh; exfalso; simp at hh; try omega) _ | refine Only.trans ?_ (by assumption)))) (Rp.keep h1' (by with_reducible repeat (first | exact Only.refl _ _ | assumption | refine Only.drewN ?_ _ | refine Only.drew ?_ | refine Only.alloc ?_ _ | refine Only.setCell ?_ (by intro hh; exfalso; simp at hh; try omega) _ | refine Only.trans ?_ (by assumption))))).mono ?_); rintro e w1 ⟨rfl, n1, rfl⟩) | (go_at_call 17; (with_reducible refine (eqInt64S_rd v2 v2' x.distances y.distances _ _ _ (Rp.keep h2 (by with_reducible repeat (first | exact Only.refl _ _ | assumption | refine Only.drewN ?_ _ | refine Only.drew ?_ | refine Only.alloc ?_ _ | refine Only.setCell ?_ (by intro hh; exfalso; simp at hh; try omega) _ | refine Only.trans ?_ (by assumption)))) (Rp.keep h2' (by with_reducible repeat (first | exact Only.refl _ _ | assumption | refine Only.drewN ?_ _ | refine Only.drew ?_ | refine Only.alloc ?_ _ | refine Only.setCell ?_ (by intro hh; exfalso; simp at hh; try omega) _ | refine Only.trans ?_ (by assumption))))).mono ?_); rintro e w2 ⟨rfl, n2, rfl⟩))
    go_ret
    exact ⟨ret_bool (eqV_no (fun he => (eqV_iff'.1 q1) (Table.eq_iff.1 he).2.1)).symm, (by with_reducible repeat (first | exact Only.refl _ _ | assumption | refine Only.drewN ?_ _ | refine Only.drew ?_ | refine Only.alloc ?_ _ | refine Only.setCell ?_ (by intro hh; exfalso; simp at hh; try omega) _ | refine Only.trans ?_ (by assumption)))⟩
  rcases q2 : eqV x.distances y.distances
  · go_enter Tryz.func69, Tryz.ntmps69
    go_wp2_with (first | (go_at_call 17; (with_reducible refine (eqInt64S_rd v0 v0' x.tracked y.tracked _ _ _ (Rp.keep h0 (by with_reducible repeat (first | exact Only.refl _ _ | assumption | refine Only.drewN ?_ _ | refine Only.drew ?_ | refine Only.alloc ?_ _ | refine Only.setCell ?_ (by intro hh; exfalso; simp at hh; try omega) _ | refine Only.trans ?_ (by assumption)))) (Rp.keep h0' (by with_reducible repeat (first | exact Only.refl _ _ | assumption | refine Only.drewN ?_ _ | refine Only.drew ?_ | refine Only.alloc ?_ _ | refine Only.setCell ?_ (by intro hh; exfalso; simp at hh; try omega) _ | refine Only.trans ?_ (by assumption))))).mono ?_); rintro e w0 ⟨rfl, n0, rfl⟩) | (go_at_call 16; (with_reducible refine (eqInt64SS_rd v1 v1' x.patterns y.patterns _ _ _ (Rp.keep h1 (by with_reducible repeat (first | exact Only.refl _ _ | assumption | refine Only.drewN ?_ _ | refine Only.drew ?_ | refine Only.alloc ?_ _ | refine Only.setCell ?_ (by intro hh; exfalso; simp at hh; try omega) _ | refine Only.trans ?_ (by assumption)))) (Rp.keep h1' (by with_reducible repeat (first | exact Only.refl _ _ | assumption | refine Only.drewN ?_ _ | refine Only.drew ?_ | refine Only.alloc ?_ _ | refine Only.setCell ?_ (by intro hh; exfalso; simp at hh; try omega) _ | refine Only.trans ?_ (by assumption))))).mono ?_); rintro e w1 ⟨rfl, n1, rfl⟩) | (go_at_call 17; (with_reducible refine (eqInt64S_rd v2 v2' x.distances y.distances _ _ _ (Rp.keep h2 (by with_reducible repeat (first | exact Only.refl _ _ | assumption | refine Only.drewN ?_ _ | refine Only.drew ?_ | refine Only.alloc ?_ _ | refine Only.setCell ?_ (by intro hh; exfalso; simp at hh; try omega) _ | refine Only.trans ?_ (by assumption)))) (Rp.keep h2' (by with_reducible repeat (first | exact Only.refl _ _ | assumption | refine Only.drewN ?_ _ | refine Only.drew ?_ | refine Only.alloc ?_ _ | refine Only.setCell ?_ (by intro hh; exfalso; simp at hh; try omega) _ | refine Only.trans ?_ (by assumption))))).mono ?_); rintro e w2 ⟨rfl, n2, rfl⟩))
    go_ret
    exact ⟨ret_bool (eqV_no (fun he => (eqV_iff'.1 q2) (Table.eq_iff.1 he).2.2)).symm, (by with_reducible repeat (first | exact Only.refl _ _ | assumption | refine Only.drewN ?_ _ | refine Only.drew ?_ | refine Only.alloc ?_ _ | refine Only.setCell ?_ (by intro hh; exfalso; simp at hh; try omega) _ | refine Only.trans ?_ (by assumption)))⟩
  go_enter Tryz.func69, Tryz.ntmps69
  go_wp2_with (first | (go_at_call 17; (with_reducible refine (eqInt64S_rd v0 v0' x.tracked y.tracked _ _ _ (Rp.keep h0 (by with_reducible repeat (first | exact Only.refl _ _ | assumption | refine Only.drewN ?_ _ | refine Only.drew ?_ | refine Only.alloc ?_ _ | refine Only.setCell ?_ (by intro hh; exfalso; simp at hh; try omega) _ | refine Only.trans ?_ (by assumption)))) (Rp.keep h0' (by with_reducible repeat (first | exact Only.refl _ _ | assumption | refine Only.drewN ?_ _ | refine Only.drew ?_ | refine Only.alloc ?_ _ | refine Only.setCell ?_ (by intro hh; exfalso; simp at hh; try omega) _ | refine Only.trans ?_ (by assumption))))).mono ?_); rintro e w0 ⟨rfl, n0, rfl⟩) | (go_at_call 16; (with_reducible refine (eqInt64SS_rd v1 v1' x.patterns y.patterns _ _ _ (Rp.keep h1 (by with_reducible repeat (first | exact Only.refl _ _ | assumption | refine Only.drewN ?_ _ | refine Only.drew ?_ | refine Only.alloc ?_ _ | refine Only.setCell ?_ (by intro hh; exfalso; simp at hh; try omega) _ | refine Only.trans ?_ (by assumption)))) (Rp.keep h1' (by with_reducible repeat (first | exact Only.refl _ _ | assumption | refine Only.drewN ?_ _ | refine Only.drew ?_ | refine Only.alloc ?_ _ | refine Only.setCell ?_ (by intro hh; exfalso; simp at hh; try omega) _ | refine Only.trans ?_ (by assumption))))).mono ?_); rintro e w1 ⟨rfl, n1, rfl⟩) | (go_at_call 17; (with_reducible refine (eqInt64S_rd v2 v2' x.distances y.distances _ _ _ (Rp.keep h2 (by with_reducible repeat (first | exact Only.refl _ _ | assumption | refine Only.drewN ?_ _ | refine Only.drew ?_ | refine Only.alloc ?_ _ | refine Only.setCell ?_ (by intro hh; exfalso; simp at hh; try omega) _ | refine Only.trans ?_ (by assumption)))) (Rp.keep h2' (by with_reducible repeat (first | exact Only.refl _ _ | assumption | refine Only.drewN ?_ _ | refine Only.drew ?_ | refine Only.alloc ?_ _ | refine Only.setCell ?_ (by intro hh; exfalso; simp at hh; try omega) _ | refine Only.trans ?_ (by assumption))))).mono ?_); rintro e w2 ⟨rfl, n2, rfl⟩))
  go_ret
  exact ⟨ret_bool (eqV_yes (Table.eq_iff.2 ⟨eqV_iff.1 q0, eqV_iff.1 q1, eqV_iff.1 q2⟩)).symm, (by with_reducible repeat (first | exact Only.refl _ _ | assumption | refine Only.drewN ?_ _ | refine Only.drew ?_ | refine Only.alloc ?_ _ | refine Only.setCell ?_ (by intro hh; exfalso; simp at hh; try omega) _ | refine Only.trans ?_ (by assumption)))⟩




end Go.Proofs.YtclhblofchfglaaGreat


namespace Go.Proofs.YtclhblofchfglaaGreat
open Go.RowKit
set_option maxRecDepth 10000

theorem SeqA.at3 {w : World} {a : Option Addr} {cap : Nat} {xs : List Table} {ob : List Nat} {fps : List (List Nat)} (h : SeqA w a cap xs ob fps) (k : Nat) (hk : k < xs.length) :
    ∃ b off v1 v2 v3, a = some ⟨b, off, none⟩ ∧ ob = [b] ∧ w.cell? ⟨b, off + k * 3, none⟩ = some v1 ∧ w.cell? ⟨b, off + k * 3 + 1, none⟩ = some v2 ∧ w.cell? ⟨b, off + k * 3 + 2, none⟩ = some v3 ∧ Rp.rep w [v1, v2, v3] xs[k] (fps[k]'(by rw [h.nf]; exact hk)) := by
  obtain ⟨b, off, cs, ha, hob, hc, hr⟩ := h.at_ k hk
  have hl := Rp.len hr
  match cs, hl with
  | [v1, v2, v3], _ => exact ⟨b, off, v1, v2, v3, ha, hob, hc 0 v1 rfl, hc 1 v2 rfl, hc 2 v3 rfl, hr⟩

set_option maxHeartbeats 400000 in
theorem eqTableS_any (a a' : Option Addr) (cap cap' : Nat) (l l' : List Table) (ob ob' : List Nat) (fps fps' : List (List Nat)) (w : World) (h : SeqA w a cap l ob fps) (h' : SeqA w a' cap' l' ob' fps') :
    Calls Tryz.prog 36 #[.slice a l.length cap, .slice a' l'.length cap'] w fun e w' => e = .returned (.bool (eqV l l')) ∧ Only [] w w' := by
  have hb := h.bound
  have hb' := h'.bound
  by_cases hl : l.length = l'.length
  · have hne : ((l.length : Int) != (l'.length : Int)) = false := by simp [hl]
    have Hl := Lib.hid hl; clear hl
    go_enter Tryz.func36, Tryz.ntmps36
    go_wp2
    go_loopw [5] (fun i wr => ∃ j : Nat, j ≤ l.length ∧ i = .int .i64 j ∧ l.take j = l'.take j ∧ Only [] w wr)
      (fun i _ => l.length - (intOf i).toNat)
    case atStart => exact ⟨0, Nat.zero_le _, rfl, rfl, Only.refl _ _⟩
    case round =>
      obtain ⟨j, hj, rfl, hr, hK⟩ := hrel
      have Hr := Lib.hid hr; clear hr
      by_cases hlt : j < l.length
      · have hlt' : j < l'.length := by have := Hl.out; omega
        obtain ⟨b, off, v1, v2, v3, rfl, -, c1, c2, c3, hv⟩ := h.at3 j hlt
        obtain ⟨b', off', v1', v2', v3', rfl, -, c1', c2', c3', hv'⟩ := h'.at3 j hlt'
        have d1 := hK.cell (by simp) c1
        have d2 := hK.cell (by simp) c2
        have d3 := hK.cell (by simp) c3
        have d1' := hK.cell (by simp) c1'
        have d2' := hK.cell (by simp) c2'
        have d3' := hK.cell (by simp) c3'
        clear c1 c2 c3 c1' c2' c3'
        rcases hq : eqV l[j] l'[j]
        all_goals go_wp2
        all_goals go_still_tail 8, (by kernel_rfl)
        all_goals change wpList _ _ _ _ _ wr.drew
        all_goals go_wp2_with ((go_at_call 69; (with_reducible refine (eqTable_any [v1, v2, v3] [v1', v2', v3'] l[j] l'[j] _ _ _ (Rp.keep hv (by with_reducible repeat (first | exact Only.refl _ _ | assumption | refine Only.drewN ?_ _ | refine Only.drew ?_ | refine Only.alloc ?_ _ | refine Only.setCell ?_ (by intro hh; exfalso; simp at hh; try omega) _ | refine Only.trans ?_ (by assumption)))) (Rp.keep hv' (by with_reducible repeat (first | exact Only.refl _ _ | assumption | refine Only.drewN ?_ _ | refine Only.drew ?_ | refine Only.alloc ?_ _ | refine Only.setCell ?_ (by intro hh; exfalso; simp at hh; try omega) _ | refine Only.trans ?_ (by assumption))))).mono ?_); rintro e w1 ⟨rfl, hk1⟩))
        · go_ret
          exact ⟨ret_bool (eqL_no hlt hlt' hq).symm, (by with_reducible repeat (first | exact Only.refl _ _ | assumption | refine Only.drewN ?_ _ | refine Only.drew ?_ | refine Only.alloc ?_ _ | refine Only.setCell ?_ (by intro hh; exfalso; simp at hh; try omega) _ | refine Only.trans ?_ (by assumption)))⟩
        · go_roundw
          case rel => exact ⟨j + 1, by omega, by go_num, eqL_step hlt hlt' hq Hr.out, (by with_reducible repeat (first | exact Only.refl _ _ | assumption | refine Only.drewN ?_ _ | refine Only.drew ?_ | refine Only.alloc ?_ _ | refine Only.setCell ?_ (by intro hh; exfalso; simp at hh; try omega) _ | refine Only.trans ?_ (by assumption)))⟩
          case measure => simp [intOf]; omega
      · go_wp2
        go_ret
        exact ⟨ret_bool (eqL_yes Hl.out hlt Hr.out).symm, hK⟩
  · have hne : ((l.length : Int) != (l'.length : Int)) = true := by simp; omega
    go_enter Tryz.func36, Tryz.ntmps36
    go_wp2
    go_ret
    exact ⟨ret_bool (eqL_len hne).symm, Only.refl _ _⟩

theorem eqTableS_rd (v v' : Value) (l l' : List Table) (fp fp' : List Nat) (w : World) (h : Rd w v l fp) (h' : Rd w v' l' fp') :
    Calls Tryz.prog 36 #[v, v'] w fun e w' => e = .returned (.bool (eqV l l')) ∧ Only [] w w' := by
  obtain ⟨a, cap, ob, fps, rfl, -, hs⟩ := h.open_
  obtain ⟨a', cap', ob', fps', rfl, -, hs'⟩ := h'.open_
  exact eqTableS_any a a' cap cap' l l' ob ob' fps fps' w hs hs'

set_option maxHeartbeats 1000000 in
theorem heldTableS_any (a : Option Addr) (cap : Nat) (l : List Table) (ob : List Nat) (fps : List (List Nat)) (k : Int) (w : World) (h : SeqA w a cap l ob fps) (h0 : 0 ≤ k) (h1 : k + (cntL l : Nat) ≤ 4611686018427387904) :
    Calls Tryz.prog 39 #[.slice a l.length cap, .int .i64 k] w fun e w' => e = .returned (.int .i64 (heldV k l)) ∧ Drew w w' := by
  have hb := h.bound
  go_enter Tryz.func39, Tryz.ntmps39
  go_wp2
  go_loopw [1, 5] (fun q i wr => ∃ j : Nat, j ≤ l.length ∧ q = .int .i64 (k + (cntL (l.take j) : Nat)) ∧ i = .int .i64 j ∧ l.take j = markL k (l.take j) ∧ Drew w wr)
    (fun _ i _ => l.length - (intOf i).toNat)
  case atStart => exact ⟨0, Nat.zero_le _, by simp [cntL], rfl, rfl, Drew.refl _⟩
  case round =>
    obtain ⟨j, hj, rfl, rfl, hr, n, rfl⟩ := hrel
    have Hr := Lib.hid hr; clear hr
    by_cases hlt : j < l.length
    · obtain ⟨b, off, v1, v2, v3, rfl, -, c1, c2, c3, hv⟩ := h.at3 j hlt
      obtain ⟨_, _, _, f1, f2, f3, hcs, -, r1, r2, r3⟩ := hv
      injection hcs with e1 hcs; injection hcs with e2 hcs; injection hcs with e3 hcs; subst e1; subst e2; subst e3
      have hcnt := cntL_take_succ l j hlt
      have hle := cntL_take_le l (j + 1)
      have hcc : Mk.cnt l[j] = Mk.cnt l[j].tracked + Mk.cnt l[j].patterns + Mk.cnt l[j].distances := rfl
      generalize hK : k + ((cntL (l.take j) : Nat) : Int) = K at *
      have HK := Lib.hid hK
      have hK0 : 0 ≤ K := by omega
      have hb1 : K + (Mk.cnt l[j].tracked : Nat) ≤ 4611686018427387904 := by omega
      have hb2 : K + (Mk.cnt l[j].tracked : Nat) + (Mk.cnt l[j].patterns : Nat) ≤ 4611686018427387904 := by omega
      have hb3 : K + (Mk.cnt l[j].tracked : Nat) + (Mk.cnt l[j].patterns : Nat) + (Mk.cnt l[j].distances : Nat) ≤ 4611686018427387904 := by omega
      have Hcnt := Lib.hid hcnt
      have Hcc := Lib.hid hcc
      have hiff : l[j] = Mk.mark K l[j] ↔ l[j].tracked = Mk.mark K l[j].tracked ∧ l[j].patterns = Mk.mark (K + (Mk.cnt l[j].tracked : Nat)) l[j].patterns ∧ l[j].distances = Mk.mark (K + (Mk.cnt l[j].tracked : Nat) + (Mk.cnt l[j].patterns : Nat)) l[j].distances := by
        rw [Table.eq_iff]; simp [Mk.mark]
      have Hiff := Lib.hid hiff
      clear hcnt hcc hiff hK hcs
      rcases heldV_pos K l[j].tracked with ⟨e1, m1⟩ | ⟨e1, m1⟩
      · have M1 := Lib.hid m1; clear m1
        go_wp2_with ((go_at_call 27; (with_reducible refine (heldInt64S_rd v1 l[j].tracked _ K _ (Rp.keep r1 (by with_reducible repeat (first | exact Only.refl _ _ | assumption | refine Only.drewN ?_ _ | refine Only.drew ?_ | refine Only.alloc ?_ _ | refine Only.setCell ?_ (by intro hh; exfalso; simp at hh; try omega) _ | refine Only.trans ?_ (by assumption)))) hK0 hb1).mono ?_); rintro e w1 ⟨rfl, n1, rfl⟩))
        go_ret
        exact ⟨ret_int (heldV_no (held_not hlt (by rw [HK.out]; exact fun he => M1.out (Hiff.out.1 he).1))).symm, ⟨_, rfl⟩⟩
      have M1 := Lib.hid m1; clear m1
      rcases heldV_pos (K + (Mk.cnt l[j].tracked : Nat)) l[j].patterns with ⟨e2, m2⟩ | ⟨e2, m2⟩
      · have M2 := Lib.hid m2; clear m2
        go_wp2_with (first | (go_at_call 27; (with_reducible refine (heldInt64S_rd v1 l[j].tracked _ K _ (Rp.keep r1 (by with_reducible repeat (first | exact Only.refl _ _ | assumption | refine Only.drewN ?_ _ | refine Only.drew ?_ | refine Only.alloc ?_ _ | refine Only.setCell ?_ (by intro hh; exfalso; simp at hh; try omega) _ | refine Only.trans ?_ (by assumption)))) hK0 hb1).mono ?_); rintro e w1 ⟨rfl, n1, rfl⟩) | (go_at_call 38; (with_reducible refine (heldInt64SS_rd v2 l[j].patterns _ (K + (Mk.cnt l[j].tracked : Nat)) _ (Rp.keep r2 (by with_reducible repeat (first | exact Only.refl _ _ | assumption | refine Only.drewN ?_ _ | refine Only.drew ?_ | refine Only.alloc ?_ _ | refine Only.setCell ?_ (by intro hh; exfalso; simp at hh; try omega) _ | refine Only.trans ?_ (by assumption)))) (by omega) hb2).mono ?_); rintro e w2 ⟨rfl, n2, rfl⟩))
        go_ret
        exact ⟨ret_int (heldV_no (held_not hlt (by rw [HK.out]; exact fun he => M2.out (Hiff.out.1 he).2.1))).symm, ⟨_, rfl⟩⟩
      have M2 := Lib.hid m2; clear m2
      rcases heldV_pos (K + (Mk.cnt l[j].tracked : Nat) + (Mk.cnt l[j].patterns : Nat)) l[j].distances with ⟨e3, m3⟩ | ⟨e3, m3⟩
      all_goals have M3 := Lib.hid m3
      all_goals clear m3
      all_goals go_wp2_with (first | (go_at_call 27; (with_reducible refine (heldInt64S_rd v1 l[j].tracked _ K _ (Rp.keep r1 (by with_reducible repeat (first | exact Only.refl _ _ | assumption | refine Only.drewN ?_ _ | refine Only.drew ?_ | refine Only.alloc ?_ _ | refine Only.setCell ?_ (by intro hh; exfalso; simp at hh; try omega) _ | refine Only.trans ?_ (by assumption)))) hK0 hb1).mono ?_); rintro e w1 ⟨rfl, n1, rfl⟩) | (go_at_call 38; (with_reducible refine (heldInt64SS_rd v2 l[j].patterns _ (K + (Mk.cnt l[j].tracked : Nat)) _ (Rp.keep r2 (by with_reducible repeat (first | exact Only.refl _ _ | assumption | refine Only.drewN ?_ _ | refine Only.drew ?_ | refine Only.alloc ?_ _ | refine Only.setCell ?_ (by intro hh; exfalso; simp at hh; try omega) _ | refine Only.trans ?_ (by assumption)))) (by omega) hb2).mono ?_); rintro e w2 ⟨rfl, n2, rfl⟩) | (go_at_call 27; (with_reducible refine (heldInt64S_rd v3 l[j].distances _ (K + (Mk.cnt l[j].tracked : Nat) + (Mk.cnt l[j].patterns : Nat)) _ (Rp.keep r3 (by with_reducible repeat (first | exact Only.refl _ _ | assumption | refine Only.drewN ?_ _ | refine Only.drew ?_ | refine Only.alloc ?_ _ | refine Only.setCell ?_ (by intro hh; exfalso; simp at hh; try omega) _ | refine Only.trans ?_ (by assumption)))) (by omega) hb3).mono ?_); rintro e w3 ⟨rfl, n3, rfl⟩))
      · go_ret
        exact ⟨ret_int (heldV_no (held_not hlt (by rw [HK.out]; exact fun he => M3.out (Hiff.out.1 he).2.2))).symm, ⟨_, rfl⟩⟩
      · go_roundw
        case rel => exact ⟨j + 1, by omega, by have := Hcnt.out; have := Hcc.out; have := HK.out; go_num, by go_num, held_step hlt Hr.out (by rw [HK.out]; exact Hiff.out.2 ⟨M1.out, M2.out, M3.out⟩), ⟨_, rfl⟩⟩
        case measure => simp [intOf]; omega
    · have Hj : Hid (j = l.length) := (by omega : j = l.length)
      go_wp2
      go_ret
      have hjl := Hj.out
      subst hjl
      refine ⟨ret_int ?_, (Drew.refl _).drewN n⟩
      have hr := Hr.out
      rw [List.take_length] at hr ⊢
      exact (heldV_yes hr).symm
theorem heldTableS_rd (v : Value) (l : List Table) (fp : List Nat) (k : Int) (w : World) (h : Rd w v l fp) (h0 : 0 ≤ k) (h1 : k + (Mk.cnt l : Nat) ≤ 4611686018427387904) :
    Calls Tryz.prog 39 #[v, .int .i64 k] w fun e w' => e = .returned (.int .i64 (heldV k l)) ∧ Only [] w w' := by
  obtain ⟨a, cap, ob, fps, rfl, -, hs⟩ := h.open_
  exact (heldTableS_any a cap l ob fps k w hs h0 h1).mono fun e w' ⟨he, hd⟩ => ⟨he, hd.only _⟩


set_option maxHeartbeats 1000000 in
theorem markTableS_any (a : Option Addr) (cap : Nat) (l : List Table) (ob : List Nat) (fps : List (List Nat)) (k : Int) (w : World) (h : SeqA w a cap l ob fps) (hnd : (ob ++ fps.flatten).Nodup) (ho : Own w (ob ++ fps.flatten)) (h0 : 0 ≤ k) (h1 : k + (cntL l : Nat) ≤ 4611686018427387904) :
    Calls Tryz.prog 37 #[.slice a l.length cap, .int .i64 k] w fun e w' =>
      e = .returned (.int .i64 (k + (cntL l : Nat))) ∧ SeqA w' a cap (markL k l) ob fps ∧ Own w' (ob ++ fps.flatten) ∧ Only (ob ++ fps.flatten) w w' := by
  have hb := h.bound
  have hnf := h.nf
  go_enter Tryz.func37, Tryz.ntmps37
  have Hnf := Lib.hid hnf
  clear hnf
  go_wp2
  go_loopw [1, 5] (fun q i wr => ∃ j : Nat, j ≤ l.length ∧ q = .int .i64 (k + (cntL (l.take j) : Nat)) ∧ i = .int .i64 j ∧ SeqA wr a cap (markL k (l.take j) ++ l.drop j) ob fps ∧ Own wr (ob ++ fps.flatten) ∧ Only (ob ++ fps.flatten) w wr)
    (fun _ i _ => l.length - (intOf i).toNat)
  case atStart => exact ⟨0, Nat.zero_le _, by simp [cntL], rfl, by simpa [markL] using h, ho, Only.refl _ _⟩
  case round =>
    obtain ⟨j, hj, rfl, rfl, hI, hO, hK⟩ := hrel
    by_cases hlt : j < l.length
    · have hjm : (markL k (l.take j) ++ l.drop j).length = l.length := by simp [markL_length]; omega
      have hjf : j < fps.length := by have := Hnf.out; omega
      obtain ⟨b, off, v1, v2, v3, rfl, hob, c1, c2, c3, hv0⟩ := hI.at3 j (by omega)
      have hx : (markL k (l.take j) ++ l.drop j)[j]'(by omega) = l[j] := by
        rw [List.getElem_append_right (by simp [markL_length]; omega)]
        simp [markL_length, Nat.min_eq_left hj]
      have hv : Rp.rep wr [v1, v2, v3] l[j] fps[j] := by rw [hx] at hv0; exact hv0
      have hbn : b ∉ fps[j] := fun hm => (nd_app hnd).2.2.1 b (by simp [hob]) (mem_flatten_get hjf hm)
      have hndj : (fps[j]).Nodup := (List.nodup_iff_pairwise_ne.1 (nd_app hnd).2.1 |> List.pairwise_flatten.1).1 _ (List.getElem_mem _)
      have hOj : Own wr fps[j] := hO.sub (fun b hb => List.mem_append_right _ (mem_flatten_get hjf hb))
      have hbl : b < wr.heap.size := hI.lt b (by simp [hob])
      obtain ⟨_, _, _, f1, f2, f3, hcs, hfp, r1, r2, r3⟩ := hv
      injection hcs with e1 hcs; injection hcs with e2 hcs; injection hcs with e3 hcs; subst e1; subst e2; subst e3
      rw [hfp] at hndj hOj hbn
      obtain ⟨n1, n23, d1, d1'⟩ := nd_app hndj
      obtain ⟨n2, n3, d2, d2'⟩ := nd_app n23
      simp only [List.mem_append, not_or] at d1 d1' hbn
      have o1 := hOj.left; have o2 := hOj.right.left; have o3 := hOj.right.right
      have hcnt := cntL_take_succ l j hlt
      have hle := cntL_take_le l (j + 1)
      have hcc : Mk.cnt l[j] = Mk.cnt l[j].tracked + Mk.cnt l[j].patterns + Mk.cnt l[j].distances := rfl
      generalize hKq : k + ((cntL (l.take j) : Nat) : Int) = K at *
      have HK := Lib.hid hKq
      have hK0 : 0 ≤ K := by omega
      have hb1 : K + (Mk.cnt l[j].tracked : Nat) ≤ 4611686018427387904 := by omega
      have hb2 : K + (Mk.cnt l[j].tracked : Nat) + (Mk.cnt l[j].patterns : Nat) ≤ 4611686018427387904 := by omega
      have hb3 : K + (Mk.cnt l[j].tracked : Nat) + (Mk.cnt l[j].patterns : Nat) + (Mk.cnt l[j].distances : Nat) ≤ 4611686018427387904 := by omega
      have Hcnt := Lib.hid hcnt
      have Hcc := Lib.hid hcc
      have Hs := Lib.hid (markL_set k l j hlt)
      have Hob := Lib.hid hob
      have Hfp := Lib.hid hfp
      clear hcnt hv0 hx hjm hob hcc hKq hcs hfp
      go_wp2_with (first
        | (go_at_call 20; (with_reducible refine (markInt64S_rd v1 l[j].tracked f1 K wr r1 o1 hK0 hb1).mono ?_); rintro e w1 ⟨rfl, s1, p1, t1⟩; have q1 := t1.cells_eq b hbl hbn.1)
        | (go_at_call 19; (with_reducible refine (markInt64SS_rd v2 l[j].patterns f2 (K + (Mk.cnt l[j].tracked : Nat)) w1 (Rp.only r2 t1 (fun x hx => (d1' x (.inl hx)))) n2 (o2.only t1 (fun x hx => (d1' x (.inl hx)))) (by omega) hb2).mono ?_); rintro e w2 ⟨rfl, s2, p2, t2⟩; have q2 := t2.cells_eq b (Nat.lt_of_lt_of_le hbl t1.size) hbn.2.1)
        | (go_at_call 20; (with_reducible refine (markInt64S_rd v3 l[j].distances f3 (K + (Mk.cnt l[j].tracked : Nat) + (Mk.cnt l[j].patterns : Nat)) w2 (Rp.only (Rp.only r3 t1 (fun x hx => (d1' x (.inr hx)))) t2 d2') ((o3.only t1 (fun x hx => (d1' x (.inr hx)))).only t2 d2') (by omega) hb3).mono ?_); rintro e w3 ⟨rfl, s3, p3, t3⟩; have q3 := t3.cells_eq b (Nat.lt_of_lt_of_le hbl (Nat.le_trans t1.size t2.size)) hbn.2.2))
      have T : Only fps[j] wr w3 := by
        rw [Hfp.out]
        exact ((t1.mono (fun x hx _ => by simp [hx])).trans (t2.mono (fun x hx _ => by simp [hx]))).trans (t3.mono (fun x hx _ => by simp [hx]))
      have hrep : Rp.rep w3 [v1, v2, v3] (Mk.mark K l[j]) fps[j] :=
        ⟨v1, v2, v3, f1, f2, f3, rfl, Hfp.out, Rp.only (Rp.only s1 t2 (fun x hx => (d1 x hx).1)) t3 (fun x hx => (d1 x hx).2), Rp.only s2 t3 d2, s3⟩
      have hown : Own w3 fps[j] := by
        rw [Hfp.out]
        exact ((p1.only t2 (fun x hx => (d1 x hx).1)).only t3 (fun x hx => (d1 x hx).2)).append ((p2.only t3 d2).append p3)
      have hI1 := hI.touch (w' := w3) hnd (j := j) (b := b) (off := off) (cs := [v1, v2, v3]) (x' := Mk.mark K l[j]) (by simp [markL_length]; omega) hjf rfl rfl
        (by intro i u hu; match i, hu with
            | 0, hu => simp at hu; subst hu; simpa [Rp.size] using c1
            | 1, hu => simp at hu; subst hu; simpa [Rp.size] using c2
            | 2, hu => simp at hu; subst hu; simpa [Rp.size] using c3) T hrep
      have hs := Hs.out
      rw [HK.out] at hs
      rw [hs] at hI1
      have hK1 : Only (ob ++ fps.flatten) wr w3 := T.mono (fun b hb _ => List.mem_append_right _ (mem_flatten_get hjf hb))
      have hO1 : Own w3 (ob ++ fps.flatten) := by
        intro b hb
        by_cases hm : b ∈ fps[j]
        · exact hown b hm
        · rw [T.block b (hO.lt b hb) hm]; exact hO b hb
      have HI := Lib.hid hI1
      clear hI hI1 hs
      go_roundw
      case rel => exact ⟨j + 1, by omega, by have := Hcnt.out; have := Hcc.out; have := HK.out; go_num, by go_num, HI.out, hO1, hK.trans hK1⟩
      case measure => simp [intOf]; omega
    · have hjl : j = l.length := by omega
      have hI' := hI
      rw [hjl] at hI'
      simp only [List.take_length, List.drop_length, List.append_nil] at hI'
      have Hj := Lib.hid hjl
      clear hI hjl
      go_wp2
      go_ret
      exact ⟨ret_int (by rw [Hj.out, List.take_length]), hI', hO, hK⟩
theorem markTableS_rd (v : Value) (l : List Table) (fp : List Nat) (k : Int) (w : World) (h : Rd w v l fp) (hnd : fp.Nodup) (ho : Own w fp) (h0 : 0 ≤ k) (h1 : k + (Mk.cnt l : Nat) ≤ 4611686018427387904) :
    Calls Tryz.prog 37 #[v, .int .i64 k] w fun e w' => e = .returned (.int .i64 (k + (Mk.cnt l : Nat))) ∧ Rd w' v (Mk.mark k l) fp ∧ Own w' fp ∧ Only fp w w' := by
  obtain ⟨a, cap, ob, fps, rfl, rfl, hs⟩ := h.open_
  refine (markTableS_any a cap l ob fps k w hs hnd ho h0 h1).mono ?_
  rintro e w' ⟨he, hI', ho', hk⟩
  refine ⟨he, ?_, ho', hk⟩
  have := hI'.rd
  rw [markL_length] at this
  exact this

/-- the first elements of a list whose elements take several cells, read one by one -/
structure ReadsC {α : Type} [Rp α] (w : World) (B : Nat) (css : List (List Value)) (xs : List α) (fps : List (List Nat)) : Prop where
  vl : css.length = xs.length
  fl : fps.length = xs.length
  at_ : ∀ k (h1 : k < css.length) (h2 : k < xs.length) (h3 : k < fps.length), Rp.rep w css[k] xs[k] fps[k]
  fresh : Fresh B w fps.flatten
section
variable {α : Type} [Rp α] {w w' : World} {B : Nat} {css : List (List Value)} {xs : List α} {fps : List (List Nat)}
theorem ReadsC.nil (w : World) (B : Nat) : ReadsC w B [] ([] : List α) [] := ⟨rfl, rfl, by simp, Fresh.nil _ _⟩
theorem ReadsC.only {fp : List Nat} (h : ReadsC w B css xs fps) (ho : Only fp w w') (hd : ∀ b ∈ fp, b < B ∨ w.heap.size ≤ b) : ReadsC w' B css xs fps :=
  ⟨h.vl, h.fl, fun k h1 h2 h3 => Rp.only (h.at_ k h1 h2 h3) ho (fun b hb hm => by
      have h4 := h.fresh.ge b (mem_flatten_get h3 hb); have h5 := h.fresh.lt b (mem_flatten_get h3 hb); have := hd b hm; omega),
    h.fresh.only ho (fun b hb hm => by have h4 := h.fresh.ge b hb; have h5 := h.fresh.lt b hb; have := hd b hm; omega)⟩
theorem ReadsC.snoc {cs : List Value} {x : α} {fp : List Nat} (h : ReadsC w B css xs fps) (hv : Rp.rep w cs x fp) (hf : Fresh w'.heap.size w fp) (hB : B ≤ w'.heap.size) (hlt : ∀ b ∈ fps.flatten, b < w'.heap.size) :
    ReadsC w B (css ++ [cs]) (xs ++ [x]) (fps ++ [fp]) := by
  refine ⟨by simp [h.vl], by simp [h.fl], fun k h1 h2 h3 => ?_, ?_⟩
  · by_cases hk : k < xs.length
    · rw [List.getElem_append_left (by rw [h.vl]; exact hk), List.getElem_append_left hk, List.getElem_append_left (by rw [h.fl]; exact hk)]
      exact h.at_ k _ _ _
    · have : k = xs.length := by simp at h2; omega
      subst this
      rw [List.getElem_append_right (by rw [h.vl]; omega), List.getElem_append_right (by omega), List.getElem_append_right (by rw [h.fl]; omega)]
      simpa [h.vl, h.fl] using hv
  · rw [List.flatten_append]
    simp only [List.flatten_cons, List.flatten_nil, List.append_nil]
    exact h.fresh.append hf hB hlt
end
theorem set3 (L : List Value) (n j : Nat) (z a b c : Value) (h : j < n) (hl : L.length = j * 3) :
    (((L ++ List.replicate ((n - j) * 3) z).set (j * 3) a).set (j * 3 + 1) b).set (j * 3 + 2) c = (L ++ [a, b, c]) ++ List.replicate ((n - (j + 1)) * 3) z := by
  have h2 : (n - j) * 3 = (n - (j + 1)) * 3 + 1 + 1 + 1 := by omega
  rw [h2, List.replicate_succ, List.replicate_succ, List.replicate_succ]
  rw [List.set_append_right _ _ (by omega), List.set_append_right _ _ (by omega), List.set_append_right _ _ (by omega)]
  have e0 : j * 3 - L.length = 0 := by omega
  have e1 : j * 3 + 1 - L.length = 1 := by omega
  have e2 : j * 3 + 2 - L.length = 2 := by omega
  rw [e0, e1, e2]
  simp only [List.set, List.append_assoc, List.cons_append, List.nil_append]

end Go.Proofs.YtclhblofchfglaaGreat


namespace Go.Proofs.YtclhblofchfglaaGreat
open Go.RowKit
set_option maxRecDepth 10000

structure Puzzle where
  points : Int
  names : ByteArray
  moves : List (List Int)

instance : Rp Puzzle where
  size := 3
  rep w cs x fp := ∃ v2, cs = [Value.int .i64 x.points] ++ [Value.string x.names] ++ [v2] ∧ I64 x.points ∧ x.names.size ≤ maxLen ∧ Rd w v2 x.moves fp
  len h := by
    obtain ⟨v2, rfl, p0, p1, h2⟩ := h
    rfl
  frame h hf := by
    obtain ⟨v2, hcs, p0, p1, h2⟩ := h
    exact ⟨v2, hcs, p0, p1, Rp.frame h2 fun b hb => hf b (by simp [hb])⟩
  lt h := by
    obtain ⟨v2, hcs, p0, p1, h2⟩ := h
    intro b hb
    exact Rp.lt h2 b hb

instance : Mk Puzzle where
  mark k x := ⟨x.points, x.names, Mk.mark (k) x.moves⟩
  cnt x := Mk.cnt x.moves
instance : Sz Puzzle where
  sz x := x.names.size + Sz.sz x.moves
instance : Sm Puzzle where
  sm x := Sm.sm x.moves
instance : SzSm Puzzle := ⟨fun x h => by
  have h' : x.names.size + Sz.sz x.moves ≤ 2097152 := h
  exact SzSm.of_ x.moves (by omega)⟩
instance : CntSz Puzzle := ⟨fun x => by
  have h' : Mk.cnt x.moves ≤ x.names.size + Sz.sz x.moves := by have := CntSz.le x.moves; omega
  exact h'⟩
instance : MkL Puzzle := ⟨fun k x => by simp [Mk.mark, markL_idem], fun k x => by simp [Mk.mark, Mk.cnt, markL_cnt]⟩
theorem Puzzle.eq_iff {x y : Puzzle} : x = y ↔ x.points = y.points ∧ x.names = y.names ∧ x.moves = y.moves := by
  cases x; cases y; simp

set_option maxHeartbeats 1000000 in
theorem eqPuzzle_any (cs cs' : List Value) (x y : Puzzle) (fp fp' : List Nat) (w : World) (h : Rp.rep w cs x fp) (h' : Rp.rep w cs' y fp') :
    Calls Tryz.prog 15 #[.agg cs.toArray, .agg cs'.toArray] w fun e w' => e = .returned (.bool (eqV x y)) ∧ Only [] w w' := by
  obtain ⟨v2, rfl, p0, p1, h2⟩ := h
  obtain ⟨v2', rfl, p0', p1', h2'⟩ := h'
  by_cases q0 : x.points ≠ y.points
  · have b0 : (x.points != y.points) = true := by simpa using q0
    go_enter Tryz.func15, Tryz.ntmps15
    go_wp2_with (first | (go_at_call 16; (with_reducible refine (eqInt64SS_rd v2 v2' x.moves y.moves _ _ _ (Rp.keep h2 (by with_reducible repeat (first | exact Only.refl _ _ | assumption | refine Only.drewN ?_ _ | refine Only.drew ?_ | refine Only.alloc ?_ _ | refine Only.setCell ?_ (by intro hh; exfalso; simp at hh; try omega) _ | refine Only.trans ?_ (by assumption)))) (Rp.keep h2' (by with_reducible repeat (first | exact Only.refl _ _ | assumption | refine Only.drewN ?_ _ | refine Only.drew ?_ | refine Only.alloc ?_ _ | refine Only.setCell ?_ (by intro hh; exfalso; simp at hh; try omega) _ | refine Only.trans ?_ (by assumption))))).mono ?_); rintro e w2 ⟨rfl, n2, rfl⟩))
    go_ret
    exact ⟨ret_bool (eqV_no (fun he => q0 (Puzzle.eq_iff.1 he).1)).symm, (by with_reducible repeat (first | exact Only.refl _ _ | assumption | refine Only.drewN ?_ _ | refine Only.drew ?_ | refine Only.alloc ?_ _ | refine Only.setCell ?_ (by intro hh; exfalso; simp at hh; try omega) _ | refine Only.trans ?_ (by assumption)))⟩
  have q0 : x.points = y.points := Classical.not_not.1 q0
  have b0 : (x.points != y.points) = false := by simpa using q0
  have Q0 := Lib.hid q0
  clear q0
  by_cases q1 : x.names ≠ y.names
  · have b1 := str_ne q1
    go_enter Tryz.func15, Tryz.ntmps15
    go_wp2_with (first | (go_at_call 16; (with_reducible refine (eqInt64SS_rd v2 v2' x.moves y.moves _ _ _ (Rp.keep h2 (by with_reducible repeat (first | exact Only.refl _ _ | assumption | refine Only.drewN ?_ _ | refine Only.drew ?_ | refine Only.alloc ?_ _ | refine Only.setCell ?_ (by intro hh; exfalso; simp at hh; try omega) _ | refine Only.trans ?_ (by assumption)))) (Rp.keep h2' (by with_reducible repeat (first | exact Only.refl _ _ | assumption | refine Only.drewN ?_ _ | refine Only.drew ?_ | refine Only.alloc ?_ _ | refine Only.setCell ?_ (by intro hh; exfalso; simp at hh; try omega) _ | refine Only.trans ?_ (by assumption))))).mono ?_); rintro e w2 ⟨rfl, n2, rfl⟩))
    go_ret
    exact ⟨ret_bool (eqV_no (fun he => q1 (Puzzle.eq_iff.1 he).2.1)).symm, (by with_reducible repeat (first | exact Only.refl _ _ | assumption | refine Only.drewN ?_ _ | refine Only.drew ?_ | refine Only.alloc ?_ _ | refine Only.setCell ?_ (by intro hh; exfalso; simp at hh; try omega) _ | refine Only.trans ?_ (by assumption)))⟩
  have q1 : x.names = y.names := Classical.not_not.1 q1
  have b1 := str_eq q1
  have Q1 := Lib.hid q1
  clear q1
  rcases q2 : eqV x.moves y.moves
  · go_enter Tryz.func15, Tryz.ntmps15
    go_wp2_with (first | (go_at_call 16; (with_reducible refine (eqInt64SS_rd v2 v2' x.moves y.moves _ _ _ (Rp.keep h2 (by with_reducible repeat (first | exact Only.refl _ _ | assumption | refine Only.drewN ?_ _ | refine Only.drew ?_ | refine Only.alloc ?_ _ | refine Only.setCell ?_ (by intro hh; exfalso; simp at hh; try omega) _ | refine Only.trans ?_ (by assumption)))) (Rp.keep h2' (by with_reducible repeat (first | exact Only.refl _ _ | assumption | refine Only.drewN ?_ _ | refine Only.drew ?_ | refine Only.alloc ?_ _ | refine Only.setCell ?_ (by intro hh; exfalso; simp at hh; try omega) _ | refine Only.trans ?_ (by assumption))))).mono ?_); rintro e w2 ⟨rfl, n2, rfl⟩))
    go_ret
    exact ⟨ret_bool (eqV_no (fun he => (eqV_iff'.1 q2) (Puzzle.eq_iff.1 he).2.2)).symm, (by with_reducible repeat (first | exact Only.refl _ _ | assumption | refine Only.drewN ?_ _ | refine Only.drew ?_ | refine Only.alloc ?_ _ | refine Only.setCell ?_ (by intro hh; exfalso; simp at hh; try omega) _ | refine Only.trans ?_ (by assumption)))⟩
  go_enter Tryz.func15, Tryz.ntmps15
  go_wp2_with (first | (go_at_call 16; (with_reducible refine (eqInt64SS_rd v2 v2' x.moves y.moves _ _ _ (Rp.keep h2 (by with_reducible repeat (first | exact Only.refl _ _ | assumption | refine Only.drewN ?_ _ | refine Only.drew ?_ | refine Only.alloc ?_ _ | refine Only.setCell ?_ (by intro hh; exfalso; simp at hh; try omega) _ | refine Only.trans ?_ (by assumption)))) (Rp.keep h2' (by with_reducible repeat (first | exact Only.refl _ _ | assumption | refine Only.drewN ?_ _ | refine Only.drew ?_ | refine Only.alloc ?_ _ | refine Only.setCell ?_ (by intro hh; exfalso; simp at hh; try omega) _ | refine Only.trans ?_ (by assumption))))).mono ?_); rintro e w2 ⟨rfl, n2, rfl⟩))
  go_ret
  exact ⟨ret_bool (eqV_yes (Puzzle.eq_iff.2 ⟨Q0.out, Q1.out, eqV_iff.1 q2⟩)).symm, (by with_reducible repeat (first | exact Only.refl _ _ | assumption | refine Only.drewN ?_ _ | refine Only.drew ?_ | refine Only.alloc ?_ _ | refine Only.setCell ?_ (by intro hh; exfalso; simp at hh; try omega) _ | refine Only.trans ?_ (by assumption)))⟩


set_option maxHeartbeats 1000000 in
theorem szPuzzle_any (cs : List Value) (x : Puzzle) (fp : List Nat) (k : Int) (w : World) (h : Rp.rep w cs x fp) (h0 : 0 ≤ k) (h1 : k ≤ 2147483648) :
    Calls Tryz.prog 7 #[.agg cs.toArray, .int .i64 k] w fun e w' => e = .returned (.int .i64 (szV k x)) ∧ Only [] w w' := by
  obtain ⟨v2, rfl, p0, p1, h2⟩ := h
  have hcc : Sz.sz x = x.names.size + Sz.sz x.moves := rfl
  have Hcc := Lib.hid hcc; clear hcc
  have hm1 := p1
  unfold maxLen at hm1
  by_cases e1 : k - (x.names.size : Nat) < 0
  · go_enter Tryz.func7, Tryz.ntmps7
    go_wp2_with (first | (go_at_call 8; (with_reducible refine (szInt64SS_rd v2 x.moves _ (k - (x.names.size : Nat)) _ (Rp.keep h2 (by with_reducible repeat (first | exact Only.refl _ _ | assumption | refine Only.drewN ?_ _ | refine Only.drew ?_ | refine Only.alloc ?_ _ | refine Only.setCell ?_ (by intro hh; exfalso; simp at hh; try omega) _ | refine Only.trans ?_ (by assumption)))) (by omega) (by omega)).mono ?_); rintro e w2 ⟨rfl, n2, rfl⟩))
    go_ret
    exact ⟨ret_int (szV_no (by have := Hcc.out; omega)).symm, (by with_reducible repeat (first | exact Only.refl _ _ | assumption | refine Only.drewN ?_ _ | refine Only.drew ?_ | refine Only.alloc ?_ _ | refine Only.setCell ?_ (by intro hh; exfalso; simp at hh; try omega) _ | refine Only.trans ?_ (by assumption)))⟩
  rcases szV_cases (k - (x.names.size : Nat)) x.moves with ⟨e2, m2⟩ | ⟨e2, r2, m2⟩
  · go_enter Tryz.func7, Tryz.ntmps7
    go_wp2_with (first | (go_at_call 8; (with_reducible refine (szInt64SS_rd v2 x.moves _ (k - (x.names.size : Nat)) _ (Rp.keep h2 (by with_reducible repeat (first | exact Only.refl _ _ | assumption | refine Only.drewN ?_ _ | refine Only.drew ?_ | refine Only.alloc ?_ _ | refine Only.setCell ?_ (by intro hh; exfalso; simp at hh; try omega) _ | refine Only.trans ?_ (by assumption)))) (by omega) (by omega)).mono ?_); rintro e w2 ⟨rfl, n2, rfl⟩))
    go_ret
    exact ⟨ret_int (szV_no (by have := Hcc.out; omega)).symm, (by with_reducible repeat (first | exact Only.refl _ _ | assumption | refine Only.drewN ?_ _ | refine Only.drew ?_ | refine Only.alloc ?_ _ | refine Only.setCell ?_ (by intro hh; exfalso; simp at hh; try omega) _ | refine Only.trans ?_ (by assumption)))⟩
  go_enter Tryz.func7, Tryz.ntmps7
  go_wp2_with (first | (go_at_call 8; (with_reducible refine (szInt64SS_rd v2 x.moves _ (k - (x.names.size : Nat)) _ (Rp.keep h2 (by with_reducible repeat (first | exact Only.refl _ _ | assumption | refine Only.drewN ?_ _ | refine Only.drew ?_ | refine Only.alloc ?_ _ | refine Only.setCell ?_ (by intro hh; exfalso; simp at hh; try omega) _ | refine Only.trans ?_ (by assumption)))) (by omega) (by omega)).mono ?_); rintro e w2 ⟨rfl, n2, rfl⟩))
  go_ret
  exact ⟨ret_int (by rw [szV_yes (by have := Hcc.out; omega)]; have := Hcc.out; omega), (by with_reducible repeat (first | exact Only.refl _ _ | assumption | refine Only.drewN ?_ _ | refine Only.drew ?_ | refine Only.alloc ?_ _ | refine Only.setCell ?_ (by intro hh; exfalso; simp at hh; try omega) _ | refine Only.trans ?_ (by assumption)))⟩

set_option maxHeartbeats 1000000 in
theorem markPuzzle_any (cs : List Value) (x : Puzzle) (fp : List Nat) (k : Int) (w : World) (h : Rp.rep w cs x fp) (hnd : fp.Nodup) (ho : Own w fp) (h0 : 0 ≤ k) (hc : k + (Mk.cnt x : Nat) ≤ 4611686018427387904) :
    Calls Tryz.prog 18 #[.agg cs.toArray, .int .i64 k] w fun e w' => e = .returned (.int .i64 (k + (Mk.cnt x : Nat))) ∧ Rp.rep w' cs (Mk.mark k x) fp ∧ Own w' fp ∧ Only fp w w' := by
  obtain ⟨v2, rfl, p0, p1, h2⟩ := h
  have hcc : Mk.cnt x = Mk.cnt x.moves := rfl
  have Hcc := Lib.hid hcc; clear hcc
  have hb2 : k + (Mk.cnt x.moves : Nat) ≤ 4611686018427387904 := by have := Hcc.out; omega
  have n2 := hnd
  have l2 := Rp.lt h2
  go_enter Tryz.func18, Tryz.ntmps18
  go_wp2_with (first | (go_at_call 19; (with_reducible refine (markInt64SS_rd v2 x.moves fp (k) _ (Rp.keep h2 (by with_reducible repeat (first | exact Only.refl _ _ | assumption | refine Only.drewN ?_ _ | refine Only.drew ?_ | refine Only.alloc ?_ _ | refine Only.setCell ?_ (by intro hh; exfalso; simp at hh; try omega) _ | refine Only.trans ?_ (by assumption)))) n2 (ho.keep (by with_reducible repeat (first | exact Only.refl _ _ | assumption | refine Only.drewN ?_ _ | refine Only.drew ?_ | refine Only.alloc ?_ _ | refine Only.setCell ?_ (by intro hh; exfalso; simp at hh; try omega) _ | refine Only.trans ?_ (by assumption)))) (by omega) hb2).mono ?_); rintro e w2 ⟨rfl, r2, o2, t2⟩; have s2 : w.heap.size < w2.heap.size := (Nat.lt_of_lt_of_le (by simp) t2.size); have q2 := t2.cells_eq w.heap.size (by simp) (fun hm => absurd (l2 _ hm) (by omega))))
  go_ret
  have hk0 : Only [] w (w.alloc (.cells ([Value.int .i64 x.points] ++ [Value.string x.names] ++ [v2]).toArray 33)) := (by with_reducible repeat (first | exact Only.refl _ _ | assumption | refine Only.drewN ?_ _ | refine Only.drew ?_ | refine Only.alloc ?_ _ | refine Only.setCell ?_ (by intro hh; exfalso; simp at hh; try omega) _ | refine Only.trans ?_ (by assumption)))
  exact ⟨ret_int (by have := Hcc.out; omega), ⟨v2, rfl, p0, p1, r2⟩, o2, (hk0.weaken _).trans t2⟩

set_option maxHeartbeats 1000000 in
theorem toPuzzle_any (cs : List Value) (x : Puzzle) (fp : List Nat) (w : World) (h : Rp.rep w cs x fp) (hsm : Sm.sm x) :
    Calls Tryz.prog 10 #[.agg cs.toArray] w fun e w' => ∃ cs' fp', e = .returned (.agg cs'.toArray) ∧ Rp.rep w' cs' x fp' ∧ Fresh w.heap.size w' fp' ∧ Only [] w w' := by
  obtain ⟨v2, rfl, p0, p1, h2⟩ := h
  have g2 : Sm.sm x.moves := hsm
  go_enter Tryz.func10, Tryz.ntmps10
  go_wp2_with (first | (go_at_call 11; (with_reducible refine (toInt64SS_sm v2 x.moves _ _ (Rp.keep h2 (by with_reducible repeat (first | exact Only.refl _ _ | assumption | refine Only.drewN ?_ _ | refine Only.drew ?_ | refine Only.alloc ?_ _ | refine Only.setCell ?_ (by intro hh; exfalso; simp at hh; try omega) _ | refine Only.trans ?_ (by assumption)))) g2).mono ?_); rintro e w2 ⟨u2, fz2, rfl, r2, F2, t2⟩; have k2 := r2.open_; obtain ⟨A2, C2, _, _, rfl, -⟩ := k2; have s2 : w.heap.size + 1 + 1 < w2.heap.size := (by have := t2.size; simp at this; omega); have y20 := t2.cells_eq w.heap.size (by simp; try omega) (by simp); have z20 := t2.frozen_eq w.heap.size (by simp; try omega) (by simp); have y21 := t2.cells_eq (w.heap.size + 1) (by simp; try omega) (by simp); have z21 := t2.frozen_eq (w.heap.size + 1) (by simp; try omega) (by simp); have y22 := t2.cells_eq (w.heap.size + 1 + 1) (by simp; try omega) (by simp); have z22 := t2.frozen_eq (w.heap.size + 1 + 1) (by simp; try omega) (by simp)))
  have T2 := t2.size
  simp at T2
  refine bodyPost_ret (v := .agg #[.int .i64 x.points, .string x.names, .slice A2 x.moves.length C2]) (by simp [results, Tryz.results10, go_sem, y21]) rfl ⟨[.int .i64 x.points, .string x.names, .slice A2 x.moves.length C2], _, rfl, ⟨.slice A2 x.moves.length C2, rfl, p0, p1, Rp.only (fp' := [w.heap.size + 1, w.heap.size + 1 + 1]) r2 (by with_reducible repeat (first | exact Only.refl _ _ | assumption | refine Only.drewN ?_ _ | refine Only.drew ?_ | refine Only.alloc ?_ _ | refine Only.setCell ?_ (by intro _; simp) _ | refine Only.trans ?_ (Only.weaken (by assumption) _))) (fun b hb hm => by have := F2.ge b hb; simp at hm this; omega)⟩, Fresh.mono (F2.only (fp' := [w.heap.size + 1, w.heap.size + 1 + 1]) (by with_reducible repeat (first | exact Only.refl _ _ | assumption | refine Only.drewN ?_ _ | refine Only.drew ?_ | refine Only.alloc ?_ _ | refine Only.setCell ?_ (by intro _; simp) _ | refine Only.trans ?_ (Only.weaken (by assumption) _))) (fun b hb hm => by have := F2.ge b hb; simp at hm this; omega)) (by simp; try omega), (by with_reducible repeat (first | exact Only.refl _ _ | assumption | refine Only.drewN ?_ _ | refine Only.drew ?_ | refine Only.alloc ?_ _ | refine Only.setCell ?_ (by intro hh; exfalso; simp at hh; try omega) _ | refine Only.trans ?_ (by assumption)))⟩

end Go.Proofs.YtclhblofchfglaaGreat

namespace Go.Proofs.YtclhblofchfglaaGreat
open Go.RowKit
set_option maxRecDepth 10000

/-- the bytes of a string, as numbers -/
def bl (s : ByteArray) : List Int := s.data.toList.map fun b => (b.toNat : Int)
theorem bl_len (s : ByteArray) : (bl s).length = s.size := by
  unfold bl; rw [List.length_map, Array.length_toList]; rfl
theorem bl_get (s : ByteArray) (i : Nat) (h : i < s.size) (h' : i < (bl s).length) : (bl s)[i] = (s[i].toNat : Int) := by
  simp [bl]; rfl
def moveNameB (L : List Int) (i : Nat) : Bool := match L[i]? with
  | some b => inR b 65 90 && decide (b ∉ L.take i)
  | none => false
theorem moveNameB_of {L : List Int} {i : Nat} (h : i < L.length) : moveNameB L i = (inR L[i] 65 90 && decide (L[i] ∉ L.take i)) := by
  simp [moveNameB, h]
def namesB (s : ByteArray) : Bool := inR s.size 1 8 && ((bl s).all (fun b => inR b 65 90) && decide (bl s).Nodup)
def validPz (p : Puzzle) : Bool := gensB p.points p.moves && (namesB p.names && decide (p.names.size = p.moves.length))
theorem names_of {L : List Int} : (L.all (fun b => inR b 65 90) && decide L.Nodup) = true ↔ (∀ x ∈ L, inR x 65 90 = true) ∧ L.Nodup := by simp

set_option maxHeartbeats 1000000 in
theorem isMoveName_any (s : ByteArray) (i : Nat) (w : World) (hs : s.size ≤ maxLen) (hi : i < s.size) :
    Calls Tryz.prog 132 #[.string s, .int .i64 i] w fun e w' => e = .returned (.bool (moveNameB (bl s) i)) ∧ Drew w w' := by
  unfold maxLen at hs
  have hi1 : (0 : Int) ≤ (i : Int) := by omega
  have hi2 : (i : Int) < (s.size : Int) := by omega
  have hL : i < (bl s).length := by rw [bl_len]; exact hi
  have hfin : moveNameB (bl s) i = (inR (s[i].toNat : Int) 65 90 && decide ((s[i].toNat : Int) ∉ (bl s).take i)) := by rw [moveNameB_of hL, bl_get s i hi hL]
  have Hfin := Lib.hid hfin; clear hfin
  by_cases c1 : (s[i].toNat : Int) < 65
  · go_enter Tryz.func132, Tryz.ntmps132
    go_wp2
    go_ret
    exact ⟨ret_bool (by rw [Hfin.out, show inR (s[i].toNat : Int) 65 90 = false by rw [inR_not]; omega]; rfl), ⟨0, rfl⟩⟩
  by_cases c2 : 90 < (s[i].toNat : Int)
  · go_enter Tryz.func132, Tryz.ntmps132
    go_wp2
    go_ret
    exact ⟨ret_bool (by rw [Hfin.out, show inR (s[i].toNat : Int) 65 90 = false by rw [inR_not]; omega]; rfl), ⟨0, rfl⟩⟩
  have hR : moveNameB (bl s) i = decide ((s[i].toNat : Int) ∉ (bl s).take i) := by rw [Hfin.out, show inR (s[i].toNat : Int) 65 90 = true by rw [inR_iff]; omega]; rfl
  have HR := Lib.hid hR; clear hR Hfin
  go_enter Tryz.func132, Tryz.ntmps132
  go_wp2
  go_loopw [5] (fun t wr => ∃ j : Nat, j ≤ i ∧ t = .int .i64 j ∧ (s[i].toNat : Int) ∉ (bl s).take j ∧ Drew w wr)
    (fun t _ => i - (intOf t).toNat)
  case atStart => exact ⟨0, Nat.zero_le _, rfl, by simp, Drew.refl _⟩
  case round =>
    obtain ⟨j, hj, rfl, hr, k, rfl⟩ := hrel
    have Hr := Lib.hid hr; clear hr
    by_cases hlt : j < i
    · have hjs : j < s.size := by omega
      have hj1 : (0 : Int) ≤ (j : Int) := by omega
      have hj2 : (j : Int) < (s.size : Int) := by omega
      have hbj : (bl s)[j]'(by rw [bl_len]; exact hjs) = (s[j].toNat : Int) := bl_get s j hjs _
      have Hbj := Lib.hid hbj; clear hbj
      by_cases hx : (s[j].toNat : Int) = (s[i].toNat : Int)
      · have hq : ((s[j].toNat : Int) == (s[i].toNat : Int)) = true := by simp [hx]
        have Hx := Lib.hid hx; clear hx
        go_wp2
        go_quiet (fail)
        go_wp2
        go_ret
        exact ⟨ret_bool (by rw [HR.out, eq_comm, decide_eq_false_iff_not, Classical.not_not, ← Hx.out, ← Hbj.out]; exact List.mem_take_iff_getElem.2 ⟨j, by rw [bl_len]; omega, rfl⟩), ((Drew.refl _).drewN _).drewN _⟩
      · have hq : ((s[j].toNat : Int) == (s[i].toNat : Int)) = false := by simpa using hx
        have Hx := Lib.hid hx; clear hx
        go_wp2
        go_quiet (fail)
        go_wp2
        go_roundw
        case rel => exact ⟨j + 1, by omega, by go_num, by
          rw [take_succ_get (bl s) j (by rw [bl_len]; exact hjs)]; intro hm
          rcases List.mem_append.1 hm with hm | hm
          · exact Hr.out hm
          · simp at hm; rw [Hbj.out] at hm; exact Hx.out hm.symm, ⟨_, rfl⟩⟩
        case measure => simp [intOf]; omega
    · go_wp2
      go_ret
      exact ⟨ret_bool (by rw [HR.out, eq_comm, decide_eq_true_iff]; have := Hr.out; have e : j = i := (by omega); rwa [e] at this), ⟨_, rfl⟩⟩
theorem namesB_yes {L : List Int} (h : ∀ k, k < L.length → moveNameB L k = true) : (L.all (fun b => inR b 65 90) && decide L.Nodup) = true := by
  rw [names_of]
  have hk : ∀ k (hk : k < L.length), inR L[k] 65 90 = true ∧ L[k] ∉ L.take k := by
    intro k hk
    have := h k hk
    rw [moveNameB_of hk] at this
    simpa using this
  refine ⟨fun x hx => ?_, ?_⟩
  · obtain ⟨k, hk', rfl⟩ := List.getElem_of_mem hx
    exact (hk k hk').1
  · rw [List.nodup_iff_pairwise_ne, List.pairwise_iff_getElem]
    intro i j hi hj hij he
    exact (hk j hj).2 (List.mem_take_iff_getElem.2 ⟨i, by omega, he⟩)
theorem namesB_no {L : List Int} {k : Nat} (hk : k < L.length) (h : moveNameB L k = false) : (L.all (fun b => inR b 65 90) && decide L.Nodup) = false := by
  rw [← Bool.not_eq_true, names_of]
  rintro ⟨h1, h2⟩
  rw [moveNameB_of hk, h1 _ (List.getElem_mem _)] at h
  simp at h
  exact nodup_take_not hk h h2
set_option maxHeartbeats 2000000 in
theorem specIsValidPuzzle_any (cs : List Value) (x : Puzzle) (fp : List Nat) (w : World) (h : Rp.rep w cs x fp) :
    Calls Tryz.prog 81 #[.agg cs.toArray] w fun e w' => e = .returned (.bool (validPz x)) ∧ Only [] w w' := by
  obtain ⟨v2, rfl, p0, p1, h2⟩ := h
  obtain ⟨A2, C2, ob, fps, rfl, -, hs⟩ := h2.open_
  have hb := hs.bound
  have hm := p1; unfold maxLen at hm
  by_cases c1 : x.moves.length = 0
  · have hf : validPz x = false := by
      unfold validPz namesB
      rw [Bool.and_eq_false_iff, Bool.and_eq_false_iff, Bool.and_eq_false_iff]
      right
      by_cases hz : x.names.size = x.moves.length
      · left; left; rw [inR_not]; omega
      · right; exact decide_eq_false hz
    have Hf := Lib.hid hf; clear hf
    have d1 : ((x.moves.length : Int) == 0) = true := by simp [c1]
    have C1 := Lib.hid c1; clear c1
    go_enter Tryz.func81, Tryz.ntmps81
    go_wp2
    go_ret
    exact ⟨ret_bool Hf.out.symm, (by with_reducible repeat (first | exact Only.refl _ _ | assumption | refine Only.drewN ?_ _ | refine Only.drew ?_ | refine Only.alloc ?_ _ | refine Only.setCell ?_ (by intro hh; exfalso; simp at hh; try omega) _ | refine Only.trans ?_ (by assumption)))⟩
  have d1 : ((x.moves.length : Int) == 0) = false := by rw [beq_eq_false_iff_ne]; omega
  by_cases c2 : x.names.size = x.moves.length
  · have d2 : ((x.names.size : Int) != (x.moves.length : Int)) = false := by simp [c2]
    rcases c3 : gensB x.points x.moves
    · have hf : validPz x = false := by unfold validPz; rw [c3]; rfl
      have Hf := Lib.hid hf; clear hf
      have C2' := Lib.hid c2; clear c2
      have C1 := Lib.hid c1; clear c1
      go_enter Tryz.func81, Tryz.ntmps81
      go_wp2_with ((go_at_call 131; (with_reducible refine (specIsGens_rd x.points _ x.moves _ _ (Rp.keep h2 (by with_reducible repeat (first | exact Only.refl _ _ | assumption | refine Only.drewN ?_ _ | refine Only.drew ?_ | refine Only.alloc ?_ _ | refine Only.setCell ?_ (by intro hh; exfalso; simp at hh; try omega) _ | refine Only.trans ?_ (by assumption))))).mono ?_); rintro e w1 ⟨rfl, n1, rfl⟩))
      go_ret
      exact ⟨ret_bool Hf.out.symm, (by with_reducible repeat (first | exact Only.refl _ _ | assumption | refine Only.drewN ?_ _ | refine Only.drew ?_ | refine Only.alloc ?_ _ | refine Only.setCell ?_ (by intro hh; exfalso; simp at hh; try omega) _ | refine Only.trans ?_ (by assumption)))⟩
    have hl8 : x.moves.length ≤ 8 := by
      unfold gensB at c3; simp only [Bool.and_eq_true, decide_eq_true_eq] at c3; exact c3.1.2
    have hf : validPz x = ((bl x.names).all (fun b => inR b 65 90) && decide (bl x.names).Nodup) := by
      unfold validPz namesB; rw [c3, decide_eq_true c2, show inR x.names.size 1 8 = true by rw [inR_iff]; omega]; simp
    have Hf := Lib.hid hf; clear hf
    have C2' := Lib.hid c2; clear c2
    have C1 := Lib.hid c1; clear c1
    go_enter Tryz.func81, Tryz.ntmps81
    go_wp2_with ((go_at_call 131; (with_reducible refine (specIsGens_rd x.points _ x.moves _ _ (Rp.keep h2 (by with_reducible repeat (first | exact Only.refl _ _ | assumption | refine Only.drewN ?_ _ | refine Only.drew ?_ | refine Only.alloc ?_ _ | refine Only.setCell ?_ (by intro hh; exfalso; simp at hh; try omega) _ | refine Only.trans ?_ (by assumption))))).mono ?_); rintro e w1 ⟨rfl, n1, rfl⟩))
    go_loopw [3] (fun i wr => ∃ j : Nat, j ≤ x.names.size ∧ i = .int .i64 j ∧ (∀ k, k < j → moveNameB (bl x.names) k = true) ∧ Drew ((w.alloc (.cells #[.int .i64 x.points, .string x.names, .slice A2 x.moves.length C2] 33))) wr)
      (fun i _ => x.names.size - (intOf i).toNat)
    case atStart => exact ⟨0, Nat.zero_le _, rfl, by simp, ⟨_, rfl⟩⟩
    case round =>
      obtain ⟨j, hj, rfl, hr, k, rfl⟩ := hrel
      have Hr := Lib.hid hr; clear hr
      by_cases hlt : j < x.names.size
      · rcases c4 : moveNameB (bl x.names) j
        all_goals go_wp2_with ((go_at_call 132; (with_reducible refine (isMoveName_any x.names j _ p1 hlt).mono ?_); rintro e w1 ⟨rfl, n1, rfl⟩))
        · go_ret
          exact ⟨ret_bool (by rw [Hf.out, namesB_no (by rw [bl_len]; exact hlt) c4]), (by with_reducible repeat (first | exact Only.refl _ _ | assumption | refine Only.drewN ?_ _ | refine Only.drew ?_ | refine Only.alloc ?_ _ | refine Only.setCell ?_ (by intro hh; exfalso; simp at hh; try omega) _ | refine Only.trans ?_ (by assumption)))⟩
        · go_roundw
          case rel => exact ⟨j + 1, by omega, by go_num, fun k hk => by
            by_cases hkj : k = j
            · subst hkj; exact c4
            · exact Hr.out k (by omega), ⟨_, rfl⟩⟩
          case measure => simp [intOf]; omega
      · go_wp2
        go_ret
        exact ⟨ret_bool (by rw [Hf.out, namesB_yes (fun k hk => Hr.out k (by rw [bl_len] at hk; omega))]), (by with_reducible repeat (first | exact Only.refl _ _ | assumption | refine Only.drewN ?_ _ | refine Only.drew ?_ | refine Only.alloc ?_ _ | refine Only.setCell ?_ (by intro hh; exfalso; simp at hh; try omega) _ | refine Only.trans ?_ (by assumption)))⟩
  · have d2 : ((x.names.size : Int) != (x.moves.length : Int)) = true := by simp only [bne_iff_ne, ne_eq]; omega
    have hf : validPz x = false := by unfold validPz; rw [decide_eq_false c2]; simp
    have Hf := Lib.hid hf; clear hf
    have C2' := Lib.hid c2; clear c2
    have C1 := Lib.hid c1; clear c1
    go_enter Tryz.func81, Tryz.ntmps81
    go_wp2
    go_ret
    exact ⟨ret_bool Hf.out.symm, (by with_reducible repeat (first | exact Only.refl _ _ | assumption | refine Only.drewN ?_ _ | refine Only.drew ?_ | refine Only.alloc ?_ _ | refine Only.setCell ?_ (by intro hh; exfalso; simp at hh; try omega) _ | refine Only.trans ?_ (by assumption)))⟩
set_option maxHeartbeats 2000000 in
theorem isNames_any (s : ByteArray) (w : World) (hs : s.size ≤ maxLen) :
    Calls Tryz.prog 136 #[.string s] w fun e w' => e = .returned (.bool (namesB s)) ∧ Drew w w' := by
  unfold maxLen at hs
  have hno : ∀ k, k < s.size → moveNameB (bl s) k = false → namesB s = false := by
    intro k hk h
    unfold namesB
    rw [namesB_no (by rw [bl_len]; exact hk) h]; simp
  have hyes : (∀ k, k < s.size → moveNameB (bl s) k = true) → namesB s = inR s.size 1 8 := by
    intro h
    unfold namesB
    rw [namesB_yes (fun k hk => h k (by rw [bl_len] at hk; exact hk))]; simp
  have Hno := Lib.hid hno; clear hno
  have Hyes := Lib.hid hyes; clear hyes
  go_enter Tryz.func136, Tryz.ntmps136
  go_wp2
  go_loopw [7] (fun i wr => ∃ j : Nat, j ≤ s.size ∧ i = .int .i64 j ∧ (∀ k, k < j → moveNameB (bl s) k = true) ∧ Drew w wr)
    (fun i _ => s.size - (intOf i).toNat)
  case atStart => exact ⟨0, Nat.zero_le _, rfl, by simp, Drew.refl _⟩
  case round =>
    obtain ⟨j, hj, rfl, hr, k, rfl⟩ := hrel
    have Hr := Lib.hid hr; clear hr
    by_cases hlt : j < s.size
    · have hi1 : (0 : Int) ≤ (j : Int) := by omega
      have hi2 : (j : Int) < (s.size : Int) := by omega
      have hL : j < (bl s).length := by rw [bl_len]; exact hlt
      have hbj : (bl s)[j] = (s[j].toNat : Int) := bl_get s j hlt _
      have hmn : moveNameB (bl s) j = (inR (s[j].toNat : Int) 65 90 && decide ((s[j].toNat : Int) ∉ (bl s).take j)) := by rw [moveNameB_of hL, hbj]
      have Hmn := Lib.hid hmn; clear hmn hbj hL
      have hw : wrap64 (s[j].toNat : Int) = (s[j].toNat : Int) := wrap64_small _ (by omega) (by have := UInt8.toNat_lt s[j]; omega)
      rcases c1 : inR (s[j].toNat : Int) 65 90
      · go_wp2_with ((go_at_call 96; (with_reducible refine (within_any (s[j].toNat : Int) 65 90 _).mono ?_); rintro e w1 ⟨rfl, rfl⟩))
        go_ret
        exact ⟨ret_bool (Hno.out j hlt (by rw [Hmn.out, c1]; rfl)).symm, ⟨_, rfl⟩⟩
      go_wp2_with ((go_at_call 96; (with_reducible refine (within_any (s[j].toNat : Int) 65 90 _).mono ?_); rintro e w1 ⟨rfl, rfl⟩))
      go_loopw [17] (fun i wr => ∃ q : Nat, q ≤ j ∧ i = .int .i64 q ∧ (s[j].toNat : Int) ∉ (bl s).take q ∧ Drew w wr)
        (fun i _ => j - (intOf i).toNat)
      case atStart => exact ⟨0, Nat.zero_le _, rfl, by simp, ⟨_, rfl⟩⟩
      case round =>
        obtain ⟨q, hq, rfl, hu, k2, rfl⟩ := hrel
        have Hu := Lib.hid hu; clear hu
        by_cases hlq : q < j
        · have hqs : q < s.size := by omega
          have hq1 : (0 : Int) ≤ (q : Int) := by omega
          have hq2 : (q : Int) < (s.size : Int) := by omega
          have hbq : (bl s)[q]'(by rw [bl_len]; exact hqs) = (s[q].toNat : Int) := bl_get s q hqs _
          have Hbq := Lib.hid hbq; clear hbq
          by_cases hx : (s[q].toNat : Int) = (s[j].toNat : Int)
          · have hqq : ((s[q].toNat : Int) == (s[j].toNat : Int)) = true := by simp [hx]
            have Hx := Lib.hid hx; clear hx
            go_wp2
            go_quiet (fail)
            go_wp2
            go_ret
            exact ⟨ret_bool (Hno.out j hlt (by rw [Hmn.out, c1, decide_eq_false (by rw [Classical.not_not, ← Hx.out, ← Hbq.out]; exact List.mem_take_iff_getElem.2 ⟨q, by rw [bl_len]; omega, rfl⟩)]; rfl)).symm, ((Drew.refl _).drewN _).drewN _⟩
          · have hqq : ((s[q].toNat : Int) == (s[j].toNat : Int)) = false := by simpa using hx
            have Hx := Lib.hid hx; clear hx
            go_wp2
            go_quiet (fail)
            go_wp2
            go_roundw
            case rel => exact ⟨q + 1, by omega, by go_num, by
              rw [take_succ_get (bl s) q (by rw [bl_len]; exact hqs)]; intro hm
              rcases List.mem_append.1 hm with hm | hm
              · exact Hu.out hm
              · simp at hm; rw [Hbq.out] at hm; exact Hx.out hm.symm, ⟨_, rfl⟩⟩
            case measure => simp [intOf]; omega
        · have hqj : q = j := by omega
          have Hqj := Lib.hid hqj; clear hqj
          go_wp2
          go_roundw
          case rel => exact ⟨j + 1, by omega, by go_num, fun z hz => by
            by_cases hzj : z = j
            · subst hzj; rw [Hmn.out, c1, decide_eq_true (by have := Hu.out; rwa [Hqj.out] at this)]; rfl
            · exact Hr.out z (by omega), ⟨_, rfl⟩⟩
          case measure => simp [intOf]; omega
    · rcases c5 : inR s.size 1 8
      all_goals go_wp2_with ((go_at_call 96; (with_reducible refine (within_any s.size 1 8 _).mono ?_); rintro e w1 ⟨rfl, rfl⟩))
      all_goals go_ret
      all_goals exact ⟨ret_bool (by rw [Hyes.out (fun z hz => Hr.out z (by omega)), c5]), ⟨_, rfl⟩⟩
set_option maxHeartbeats 2000000 in
theorem implIsValidPuzzle_any (cs : List Value) (x : Puzzle) (fp : List Nat) (w : World) (h : Rp.rep w cs x fp) :
    Calls Tryz.prog 85 #[.agg cs.toArray] w fun e w' => e = .returned (.bool (validPz x)) ∧ Only [] w w' := by
  obtain ⟨v2, rfl, p0, p1, h2⟩ := h
  obtain ⟨A2, C2, ob, fps, rfl, -, hs⟩ := h2.open_
  have hb := hs.bound
  have hm := p1; unfold maxLen at hm
  have G : ∀ w', Only [] w w' → Calls Tryz.prog 135 #[.int .i64 x.points, .slice A2 x.moves.length C2] w' fun e w'' => e = .returned (.bool (gensB x.points x.moves)) ∧ Only [] w' w'' :=
    fun w' hw => implIsGens_rd x.points _ x.moves _ w' (Rp.keep h2 hw)
  have HG := Lib.hid G; clear G
  rcases c3 : gensB x.points x.moves
  · have hf : validPz x = false := by unfold validPz; rw [c3]; rfl
    have Hf := Lib.hid hf; clear hf
    go_enter Tryz.func85, Tryz.ntmps85
    go_wp2_with ((go_at_call 135; (with_reducible refine (HG.out _ (by with_reducible repeat (first | exact Only.refl _ _ | assumption | refine Only.drewN ?_ _ | refine Only.drew ?_ | refine Only.alloc ?_ _ | refine Only.setCell ?_ (by intro hh; exfalso; simp at hh; try omega) _ | refine Only.trans ?_ (by assumption)))).mono ?_); rintro e w1 ⟨rfl, t1⟩; have y1 := t1.cells_eq w.heap.size (by simp) (by simp)))
    go_ret
    exact ⟨ret_bool Hf.out.symm, (by with_reducible repeat (first | exact Only.refl _ _ | assumption | refine Only.drewN ?_ _ | refine Only.drew ?_ | refine Only.alloc ?_ _ | refine Only.setCell ?_ (by intro hh; exfalso; simp at hh; try omega) _ | refine Only.trans ?_ (by assumption)))⟩
  rcases c4 : namesB x.names
  · have hf : validPz x = false := by unfold validPz; rw [c3, c4]; rfl
    have Hf := Lib.hid hf; clear hf
    go_enter Tryz.func85, Tryz.ntmps85
    go_wp2_with (first | (go_at_call 135; (with_reducible refine (HG.out _ (by with_reducible repeat (first | exact Only.refl _ _ | assumption | refine Only.drewN ?_ _ | refine Only.drew ?_ | refine Only.alloc ?_ _ | refine Only.setCell ?_ (by intro hh; exfalso; simp at hh; try omega) _ | refine Only.trans ?_ (by assumption)))).mono ?_); rintro e w1 ⟨rfl, t1⟩; have y1 := t1.cells_eq w.heap.size (by simp) (by simp)) | (go_at_call 136; (with_reducible refine (isNames_any x.names _ p1).mono ?_); rintro e w2 ⟨rfl, n2, rfl⟩))
    go_ret
    exact ⟨ret_bool Hf.out.symm, (by with_reducible repeat (first | exact Only.refl _ _ | assumption | refine Only.drewN ?_ _ | refine Only.drew ?_ | refine Only.alloc ?_ _ | refine Only.setCell ?_ (by intro hh; exfalso; simp at hh; try omega) _ | refine Only.trans ?_ (by assumption)))⟩
  have hf : validPz x = decide (x.names.size = x.moves.length) := by unfold validPz; rw [c3, c4]; rfl
  have Hf := Lib.hid hf; clear hf
  by_cases c5 : x.names.size = x.moves.length
  · have d5 : ((x.names.size : Int) == (x.moves.length : Int)) = true := by simp [c5]
    have C5 := Lib.hid c5; clear c5
    go_enter Tryz.func85, Tryz.ntmps85
    go_wp2_with (first | (go_at_call 135; (with_reducible refine (HG.out _ (by with_reducible repeat (first | exact Only.refl _ _ | assumption | refine Only.drewN ?_ _ | refine Only.drew ?_ | refine Only.alloc ?_ _ | refine Only.setCell ?_ (by intro hh; exfalso; simp at hh; try omega) _ | refine Only.trans ?_ (by assumption)))).mono ?_); rintro e w1 ⟨rfl, t1⟩; have y1 := t1.cells_eq w.heap.size (by simp) (by simp)) | (go_at_call 136; (with_reducible refine (isNames_any x.names _ p1).mono ?_); rintro e w2 ⟨rfl, n2, rfl⟩))
    go_ret
    exact ⟨ret_bool (by rw [Hf.out, decide_eq_true C5.out]), (by with_reducible repeat (first | exact Only.refl _ _ | assumption | refine Only.drewN ?_ _ | refine Only.drew ?_ | refine Only.alloc ?_ _ | refine Only.setCell ?_ (by intro hh; exfalso; simp at hh; try omega) _ | refine Only.trans ?_ (by assumption)))⟩
  · have d5 : ((x.names.size : Int) == (x.moves.length : Int)) = false := by rw [beq_eq_false_iff_ne]; omega
    have C5 := Lib.hid c5; clear c5
    go_enter Tryz.func85, Tryz.ntmps85
    go_wp2_with (first | (go_at_call 135; (with_reducible refine (HG.out _ (by with_reducible repeat (first | exact Only.refl _ _ | assumption | refine Only.drewN ?_ _ | refine Only.drew ?_ | refine Only.alloc ?_ _ | refine Only.setCell ?_ (by intro hh; exfalso; simp at hh; try omega) _ | refine Only.trans ?_ (by assumption)))).mono ?_); rintro e w1 ⟨rfl, t1⟩; have y1 := t1.cells_eq w.heap.size (by simp) (by simp)) | (go_at_call 136; (with_reducible refine (isNames_any x.names _ p1).mono ?_); rintro e w2 ⟨rfl, n2, rfl⟩))
    go_ret
    exact ⟨ret_bool (by rw [Hf.out, decide_eq_false C5.out]), (by with_reducible repeat (first | exact Only.refl _ _ | assumption | refine Only.drewN ?_ _ | refine Only.drew ?_ | refine Only.alloc ?_ _ | refine Only.setCell ?_ (by intro hh; exfalso; simp at hh; try omega) _ | refine Only.trans ?_ (by assumption)))⟩
end Go.Proofs.YtclhblofchfglaaGreat
