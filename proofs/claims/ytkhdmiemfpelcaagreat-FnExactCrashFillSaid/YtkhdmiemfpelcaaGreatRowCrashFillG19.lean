/- The law on CrashFill: its walk. (Printed by gen_exact.py.) -/
import Derived.Test.YtkhdmiemfpelcaaGreatRowCrashFillG18
import Derived.Test.YtkhdmiemfpelcaaGreatRowCrashFillG2
import Derived.Deep.RegionHeld3
import Derived.Deep.DeepCutAuto
namespace Go.Proofs.YtkhdmiemfpelcaaGreat
open Go.RowKit
set_option maxRecDepth 10000

set_option maxHeartbeats 4000000 in
theorem FnExactCrashFill_any (w : World) (caP : List Value) (aP : Puzzle) (faP : List Nat) (raP : Rp.rep w caP aP faP) (caJ : List Value) (aJ : FillJob) (faJ : List Nat) (raJ : Rp.rep w caJ aJ faJ) (aKept : Int) (iaKept : I64 aKept) :
    Calls Tryz.prog 3 #[.agg caP.toArray, .agg caJ.toArray, .int .i64 aKept] w fun e w' => e = .returned (.bool true) ∧ Only [] w w' := by
  have qaP := raP
  obtain ⟨uaP2, rfl, -, -, zaP2⟩ := qaP
  obtain ⟨AaP2, CaP2, _, _, rfl, -⟩ := zaP2.open_
  have LaP := Rp.lt raP
  have qaJ := raJ
  obtain ⟨uaJ0, rfl, -, -, -, zaJ0⟩ := qaJ
  have qaJ0x := zaJ0
  obtain ⟨uaJ0x0, uaJ0x1, uaJ0x2, _, _, _, rfl, -, zaJ0x0, zaJ0x1, zaJ0x2⟩ := qaJ0x
  obtain ⟨AaJ0x0, CaJ0x0, _, _, rfl, -⟩ := zaJ0x0.open_
  obtain ⟨AaJ0x1, CaJ0x1, _, _, rfl, -⟩ := zaJ0x1.open_
  obtain ⟨AaJ0x2, CaJ0x2, _, _, rfl, -⟩ := zaJ0x2.open_
  have LaJ := Rp.lt raJ
  have ibaKept := iaKept; unfold I64 at ibaKept; obtain ⟨ilaKept, ihaKept⟩ := ibaKept
  rcases szV_cases (1048576) aP with ⟨esaP, msaP⟩ | ⟨esaP, psaP, msaP⟩
  · go_enter Tryz.func3, Tryz.ntmps3
    go_wp2_with (with_reducible refine (szPuzzle_any [.int .i64 aP.points, .string aP.names, .slice AaP2 aP.moves.length CaP2] aP _ (1048576) _ (Rp.keep raP (((Only.refl [] _).alloc (.cells #[.int .i64 aP.points, .string aP.names, .slice AaP2 aP.moves.length CaP2] 24)).alloc (.cells #[.slice AaJ0x0 aJ.table.tracked.length CaJ0x0, .slice AaJ0x1 aJ.table.patterns.length CaJ0x1, .slice AaJ0x2 aJ.table.distances.length CaJ0x2, .int .i64 aJ.next, .string aJ.log, .int .i64 aJ.synced] 29))) (by omega) (by omega)).mono ?_; rintro e w1 ⟨rfl, t0⟩)
    go_ret
    exact ⟨rfl, (by with_reducible repeat (first | exact Only.refl _ _ | assumption | refine Only.drewN ?_ _ | refine Only.drew ?_ | refine Only.alloc ?_ _ | refine Only.setCell ?_ (by intro hh; exfalso; simp at hh; try omega) _ | refine Only.trans ?_ (by assumption)))⟩
  have smaP : Sm.sm aP := SzSm.of_ _ (by omega)
  have csaP : Mk.cnt aP ≤ 1048576 := Nat.le_trans (CntSz.le aP) (by omega)
  rcases szV_cases (1048576 - (Sz.sz aP : Nat)) aJ with ⟨esaJ, msaJ⟩ | ⟨esaJ, psaJ, msaJ⟩
  · go_enter Tryz.func3, Tryz.ntmps3
    go_wp2_with fail
    with_reducible refine (szPuzzle_any [.int .i64 aP.points, .string aP.names, .slice AaP2 aP.moves.length CaP2] aP _ (1048576) _ (Rp.keep raP (((Only.refl [] _).alloc (.cells #[.int .i64 aP.points, .string aP.names, .slice AaP2 aP.moves.length CaP2] 24)).alloc (.cells #[.slice AaJ0x0 aJ.table.tracked.length CaJ0x0, .slice AaJ0x1 aJ.table.patterns.length CaJ0x1, .slice AaJ0x2 aJ.table.distances.length CaJ0x2, .int .i64 aJ.next, .string aJ.log, .int .i64 aJ.synced] 29))) (by omega) (by omega)).mono ?_
    rintro e w1 ⟨rfl, t0⟩
    rw [esaP]
    have T0 : Only [] w w1 := (((Only.refl [] _).alloc (.cells #[.int .i64 aP.points, .string aP.names, .slice AaP2 aP.moves.length CaP2] 24)).alloc (.cells #[.slice AaJ0x0 aJ.table.tracked.length CaJ0x0, .slice AaJ0x1 aJ.table.patterns.length CaJ0x1, .slice AaJ0x2 aJ.table.distances.length CaJ0x2, .int .i64 aJ.next, .string aJ.log, .int .i64 aJ.synced] 29)).trans t0
    have S0 : w.heap.size + 2 ≤ w1.heap.size := by have := t0.size; simp at this; omega
    have BaP : Blk w1 w.heap.size [.int .i64 aP.points, .string aP.names, .slice AaP2 aP.moves.length CaP2] := (Blk.keep (Blk.keep (Blk.new_at (by simp)) ((Only.refl _ _).alloc _)) t0)
    have LBaP : w.heap.size < w1.heap.size := BaP.lt
    have HBaP := Lib.hid BaP; clear BaP
    have BaJ : Blk w1 (w.heap.size + 1) [.slice AaJ0x0 aJ.table.tracked.length CaJ0x0, .slice AaJ0x1 aJ.table.patterns.length CaJ0x1, .slice AaJ0x2 aJ.table.distances.length CaJ0x2, .int .i64 aJ.next, .string aJ.log, .int .i64 aJ.synced] := (Blk.keep (Blk.new_at (by simp)) t0)
    have LBaJ : (w.heap.size + 1) < w1.heap.size := BaJ.lt
    have HBaJ := Lib.hid BaJ; clear BaJ
    have caJ_1_0 := (HBaJ.out).cell 0 rfl
    have caJ_1_1 := (HBaJ.out).cell 1 rfl
    have caJ_1_2 := (HBaJ.out).cell 2 rfl
    have caJ_1_3 := (HBaJ.out).cell 3 rfl
    have caJ_1_4 := (HBaJ.out).cell 4 rfl
    have caJ_1_5 := (HBaJ.out).cell 5 rfl
    go_wp2_with (with_reducible refine (szFillJob_any [.slice AaJ0x0 aJ.table.tracked.length CaJ0x0, .slice AaJ0x1 aJ.table.patterns.length CaJ0x1, .slice AaJ0x2 aJ.table.distances.length CaJ0x2, .int .i64 aJ.next, .string aJ.log, .int .i64 aJ.synced] aJ _ (1048576 - (Sz.sz aP : Nat)) _ (Rp.keep raJ T0) (by omega) (by omega)).mono ?_; rintro e w2 ⟨rfl, t1⟩)
    go_ret
    exact ⟨rfl, (by with_reducible repeat (first | exact Only.refl _ _ | assumption | refine Only.drewN ?_ _ | refine Only.drew ?_ | refine Only.alloc ?_ _ | refine Only.setCell ?_ (by intro hh; exfalso; simp at hh; try omega) _ | refine Only.trans ?_ (by assumption)))⟩
  have smaJ : Sm.sm aJ := SzSm.of_ _ (by omega)
  have csaJ : Mk.cnt aJ ≤ 1048576 := Nat.le_trans (CntSz.le aJ) (by omega)
  have hcnt := crashF_cnt aP aJ aKept
  go_enter Tryz.func3, Tryz.ntmps3
  go_wp2_with fail
  with_reducible refine (szPuzzle_any [.int .i64 aP.points, .string aP.names, .slice AaP2 aP.moves.length CaP2] aP _ (1048576) _ (Rp.keep raP (((Only.refl [] _).alloc (.cells #[.int .i64 aP.points, .string aP.names, .slice AaP2 aP.moves.length CaP2] 24)).alloc (.cells #[.slice AaJ0x0 aJ.table.tracked.length CaJ0x0, .slice AaJ0x1 aJ.table.patterns.length CaJ0x1, .slice AaJ0x2 aJ.table.distances.length CaJ0x2, .int .i64 aJ.next, .string aJ.log, .int .i64 aJ.synced] 29))) (by omega) (by omega)).mono ?_
  rintro e w1 ⟨rfl, t0⟩
  rw [esaP]
  have T0 : Only [] w w1 := (((Only.refl [] _).alloc (.cells #[.int .i64 aP.points, .string aP.names, .slice AaP2 aP.moves.length CaP2] 24)).alloc (.cells #[.slice AaJ0x0 aJ.table.tracked.length CaJ0x0, .slice AaJ0x1 aJ.table.patterns.length CaJ0x1, .slice AaJ0x2 aJ.table.distances.length CaJ0x2, .int .i64 aJ.next, .string aJ.log, .int .i64 aJ.synced] 29)).trans t0
  have S0 : w.heap.size + 2 ≤ w1.heap.size := by have := t0.size; simp at this; omega
  have BaP : Blk w1 w.heap.size [.int .i64 aP.points, .string aP.names, .slice AaP2 aP.moves.length CaP2] := (Blk.keep (Blk.keep (Blk.new_at (by simp)) ((Only.refl _ _).alloc _)) t0)
  have LBaP : w.heap.size < w1.heap.size := BaP.lt
  have HBaP := Lib.hid BaP; clear BaP
  have BaJ : Blk w1 (w.heap.size + 1) [.slice AaJ0x0 aJ.table.tracked.length CaJ0x0, .slice AaJ0x1 aJ.table.patterns.length CaJ0x1, .slice AaJ0x2 aJ.table.distances.length CaJ0x2, .int .i64 aJ.next, .string aJ.log, .int .i64 aJ.synced] := (Blk.keep (Blk.new_at (by simp)) t0)
  have LBaJ : (w.heap.size + 1) < w1.heap.size := BaJ.lt
  have HBaJ := Lib.hid BaJ; clear BaJ
  have caJ_1_0 := (HBaJ.out).cell 0 rfl
  have caJ_1_1 := (HBaJ.out).cell 1 rfl
  have caJ_1_2 := (HBaJ.out).cell 2 rfl
  have caJ_1_3 := (HBaJ.out).cell 3 rfl
  have caJ_1_4 := (HBaJ.out).cell 4 rfl
  have caJ_1_5 := (HBaJ.out).cell 5 rfl
  go_wp2_with fail
  with_reducible refine (szFillJob_any [.slice AaJ0x0 aJ.table.tracked.length CaJ0x0, .slice AaJ0x1 aJ.table.patterns.length CaJ0x1, .slice AaJ0x2 aJ.table.distances.length CaJ0x2, .int .i64 aJ.next, .string aJ.log, .int .i64 aJ.synced] aJ _ (1048576 - (Sz.sz aP : Nat)) _ (Rp.keep raJ T0) (by omega) (by omega)).mono ?_
  rintro e w2 ⟨rfl, t1⟩
  rw [esaJ]
  have T1 : Only [] w1 w2 := t1
  have S1 : w1.heap.size + 0 ≤ w2.heap.size := by have := T1.size; omega
  clear caJ_1_0 caJ_1_1 caJ_1_2 caJ_1_3 caJ_1_4 caJ_1_5
  have HBP_2 := Lib.hid ((Blk.keep HBaP.out T1))
  have HBJ_2 := Lib.hid (Blk.keep HBaJ.out T1)
  have P0_w2 := (Blk.keep HBP_2.out (Only.refl _ _ : Only [] w2 w2)).cell 0 rfl
  have P1_w2 := (Blk.keep HBP_2.out (Only.refl _ _ : Only [] w2 w2)).cell 1 rfl
  have P2_w2 := (Blk.keep HBP_2.out (Only.refl _ _ : Only [] w2 w2)).cell 2 rfl
  have a_Pw2 := (Only.refl [] w2).alloc (.cells #[.slice none 0 0, .slice none 0 0, .slice none 0 0, .int .i64 0, .string ⟨#[]⟩, .int .i64 0] 34)
  have Px0_w2 := a_Pw2.cell (by simp) P0_w2
  have Px1_w2 := a_Pw2.cell (by simp) P1_w2
  have Px2_w2 := a_Pw2.cell (by simp) P2_w2
  have J0_w2 := (Blk.keep HBJ_2.out (Only.refl _ _ : Only [] w2 w2)).cell 0 rfl
  have J1_w2 := (Blk.keep HBJ_2.out (Only.refl _ _ : Only [] w2 w2)).cell 1 rfl
  have J2_w2 := (Blk.keep HBJ_2.out (Only.refl _ _ : Only [] w2 w2)).cell 2 rfl
  have J3_w2 := (Blk.keep HBJ_2.out (Only.refl _ _ : Only [] w2 w2)).cell 3 rfl
  have J4_w2 := (Blk.keep HBJ_2.out (Only.refl _ _ : Only [] w2 w2)).cell 4 rfl
  have J5_w2 := (Blk.keep HBJ_2.out (Only.refl _ _ : Only [] w2 w2)).cell 5 rfl
  have a_Jw2 := (Only.refl [] w2).alloc (.cells #[.slice none 0 0, .slice none 0 0, .slice none 0 0, .int .i64 0, .string ⟨#[]⟩, .int .i64 0] 34)
  have Jx0_w2 := a_Jw2.cell (by simp) J0_w2
  have Jx1_w2 := a_Jw2.cell (by simp) J1_w2
  have Jx2_w2 := a_Jw2.cell (by simp) J2_w2
  have Jx3_w2 := a_Jw2.cell (by simp) J3_w2
  have Jx4_w2 := a_Jw2.cell (by simp) J4_w2
  have Jx5_w2 := a_Jw2.cell (by simp) J5_w2
  have HP := Lib.hid (fun (W : World) (hh : Only [] w2 W) => toPuzzle_any [.int .i64 aP.points, .string aP.names, .slice AaP2 aP.moves.length CaP2] aP _ W (Rp.keep (Rp.keep (Rp.keep raP T0) T1) hh) smaP)
  have HJ := Lib.hid (fun (W : World) (hh : Only [] w2 W) => toFillJob_any [.slice AaJ0x0 aJ.table.tracked.length CaJ0x0, .slice AaJ0x1 aJ.table.patterns.length CaJ0x1, .slice AaJ0x2 aJ.table.distances.length CaJ0x2, .int .i64 aJ.next, .string aJ.log, .int .i64 aJ.synced] aJ _ W (Rp.keep (Rp.keep (Rp.keep raJ T0) T1) hh) smaJ)
  have hc6 : ([.slice none 0 0, .slice none 0 0, .slice none 0 0, .int .i64 0, .string ⟨#[]⟩, .int .i64 0] : List Value).length = 6 := rfl
  go_upto_region 8 with fail
  go_cut [8, 9] (fun s8 s9 wx => FK1 w2 wx s8 s9 (crashF aP aJ aKept))
  case first =>
    go_region_law (first
      | (go_simp; go_at_call 7; (with_reducible refine (HP.out _ (by with_reducible repeat (first | exact Only.refl _ _ | assumption | refine Only.drewN ?_ _ | refine Only.drew ?_ | refine Only.alloc ?_ _ | refine Only.trans ?_ (by assumption)))).mono ?_); rintro e wA ⟨uA, fA, rfl, rA, FA, tA⟩; have J0_wA := (Blk.keep HBJ_2.out ((by with_reducible repeat (first | exact Only.refl _ _ | assumption | refine Only.drewN ?_ _ | refine Only.drew ?_ | refine Only.alloc ?_ _ | refine Only.trans ?_ (by assumption))) : Only [] w2 wA)).cell 0 rfl; have J1_wA := (Blk.keep HBJ_2.out ((by with_reducible repeat (first | exact Only.refl _ _ | assumption | refine Only.drewN ?_ _ | refine Only.drew ?_ | refine Only.alloc ?_ _ | refine Only.trans ?_ (by assumption))) : Only [] w2 wA)).cell 1 rfl; have J2_wA := (Blk.keep HBJ_2.out ((by with_reducible repeat (first | exact Only.refl _ _ | assumption | refine Only.drewN ?_ _ | refine Only.drew ?_ | refine Only.alloc ?_ _ | refine Only.trans ?_ (by assumption))) : Only [] w2 wA)).cell 2 rfl; have J3_wA := (Blk.keep HBJ_2.out ((by with_reducible repeat (first | exact Only.refl _ _ | assumption | refine Only.drewN ?_ _ | refine Only.drew ?_ | refine Only.alloc ?_ _ | refine Only.trans ?_ (by assumption))) : Only [] w2 wA)).cell 3 rfl; have J4_wA := (Blk.keep HBJ_2.out ((by with_reducible repeat (first | exact Only.refl _ _ | assumption | refine Only.drewN ?_ _ | refine Only.drew ?_ | refine Only.alloc ?_ _ | refine Only.trans ?_ (by assumption))) : Only [] w2 wA)).cell 4 rfl; have J5_wA := (Blk.keep HBJ_2.out ((by with_reducible repeat (first | exact Only.refl _ _ | assumption | refine Only.drewN ?_ _ | refine Only.drew ?_ | refine Only.alloc ?_ _ | refine Only.trans ?_ (by assumption))) : Only [] w2 wA)).cell 5 rfl; have a_JwA := (Only.refl [] wA).alloc (.cells #[.slice none 0 0, .slice none 0 0, .slice none 0 0, .int .i64 0, .string ⟨#[]⟩, .int .i64 0] 34); have Jx0_wA := a_JwA.cell (by simp) J0_wA; have Jx1_wA := a_JwA.cell (by simp) J1_wA; have Jx2_wA := a_JwA.cell (by simp) J2_wA; have Jx3_wA := a_JwA.cell (by simp) J3_wA; have Jx4_wA := a_JwA.cell (by simp) J4_wA; have Jx5_wA := a_JwA.cell (by simp) J5_wA)
      | (go_simp; go_at_call 8; (with_reducible refine (HJ.out _ (by with_reducible repeat (first | exact Only.refl _ _ | assumption | refine Only.drewN ?_ _ | refine Only.drew ?_ | refine Only.alloc ?_ _ | refine Only.trans ?_ (by assumption)))).mono ?_); rintro e wB ⟨uB, fB, rfl, rB, FB, tB⟩)
      | (go_simp; go_at_call 6; (with_reducible refine (specCrashFill_any uA uB aP aJ aKept _ _ _ (Rp.keep rA (by with_reducible repeat (first | exact Only.refl _ _ | assumption | refine Only.drewN ?_ _ | refine Only.drew ?_ | refine Only.alloc ?_ _ | refine Only.trans ?_ (by assumption)))) (Rp.keep rB (by with_reducible repeat (first | exact Only.refl _ _ | assumption | refine Only.drewN ?_ _ | refine Only.drew ?_ | refine Only.alloc ?_ _ | refine Only.trans ?_ (by assumption)))) iaKept (sm_fill smaJ)).mono ?_); rintro e wE ⟨uE, fE, rfl, rE, FE, tE⟩; have q0 := rE; obtain ⟨d0, rfl, i1, i2, i3, q1⟩ := q0; obtain ⟨x0, x1, x2, y0, y1, y2, rfl, hfe, m0, m1, m2⟩ := q1; obtain ⟨D0, E0, _, _, rfl, -⟩ := m0.open_; obtain ⟨D1, E1, _, _, rfl, -⟩ := m1.open_; obtain ⟨D2, E2, _, _, rfl, -⟩ := m2.open_; have FEw : Fresh w2.heap.size wE fE := FE.mono (by have hh := Only.size ((by with_reducible repeat (first | exact Only.refl _ _ | assumption | refine Only.drewN ?_ _ | refine Only.drew ?_ | refine Only.alloc ?_ _ | refine Only.trans ?_ (by assumption))) : Only [] w2 wB); (try simp); omega); (first
        | (have zq : Only [] (w2.alloc (.cells #[.slice none 0 0, .slice none 0 0, .slice none 0 0, .int .i64 0, .string ⟨#[]⟩, .int .i64 0] 34)) wE := ?zq; (case zq => with_reducible repeat (first | exact Only.refl _ _ | assumption | refine Only.drewN ?_ _ | refine Only.drew ?_ | refine Only.alloc ?_ _ | refine Only.trans ?_ (by assumption))); have Z := Blk.keep (Blk.new w2 [.slice none 0 0, .slice none 0 0, .slice none 0 0, .int .i64 0, .string ⟨#[]⟩, .int .i64 0] 34) zq; have zg : w2.heap.size ≤ w2.heap.size := Only.size ((by with_reducible repeat (first | exact Only.refl _ _ | assumption | refine Only.drewN ?_ _ | refine Only.drew ?_ | refine Only.alloc ?_ _ | refine Only.trans ?_ (by assumption))) : Only [] w2 w2); have zf : w2.heap.size ∉ fE := ?zf; (case zf => (intro hm; have h1 := FE.ge _ hm; have h2 := tA.size; have h3 := tB.size; (try simp at h1); (try simp at h2); (try simp at h3); omega)))
        | (have zq : Only [] (wA.alloc (.cells #[.slice none 0 0, .slice none 0 0, .slice none 0 0, .int .i64 0, .string ⟨#[]⟩, .int .i64 0] 34)) wE := ?zq; (case zq => with_reducible repeat (first | exact Only.refl _ _ | assumption | refine Only.drewN ?_ _ | refine Only.drew ?_ | refine Only.alloc ?_ _ | refine Only.trans ?_ (by assumption))); have Z := Blk.keep (Blk.new wA [.slice none 0 0, .slice none 0 0, .slice none 0 0, .int .i64 0, .string ⟨#[]⟩, .int .i64 0] 34) zq; have zg : w2.heap.size ≤ wA.heap.size := Only.size ((by with_reducible repeat (first | exact Only.refl _ _ | assumption | refine Only.drewN ?_ _ | refine Only.drew ?_ | refine Only.alloc ?_ _ | refine Only.trans ?_ (by assumption))) : Only [] w2 wA); have zf : wA.heap.size ∉ fE := ?zf; (case zf => (intro hm; have h1 := FE.ge _ hm; have h2 := tA.size; have h3 := tB.size; (try simp at h1); (try simp at h2); (try simp at h3); omega)))
        | (have zq : Only [] (wB.alloc (.cells #[.slice none 0 0, .slice none 0 0, .slice none 0 0, .int .i64 0, .string ⟨#[]⟩, .int .i64 0] 34)) wE := ?zq; (case zq => with_reducible repeat (first | exact Only.refl _ _ | assumption | refine Only.drewN ?_ _ | refine Only.drew ?_ | refine Only.alloc ?_ _ | refine Only.trans ?_ (by assumption))); have Z := Blk.keep (Blk.new wB [.slice none 0 0, .slice none 0 0, .slice none 0 0, .int .i64 0, .string ⟨#[]⟩, .int .i64 0] 34) zq; have zg : w2.heap.size ≤ wB.heap.size := Only.size ((by with_reducible repeat (first | exact Only.refl _ _ | assumption | refine Only.drewN ?_ _ | refine Only.drew ?_ | refine Only.alloc ?_ _ | refine Only.trans ?_ (by assumption))) : Only [] w2 wB); have zf : wB.heap.size ∉ fE := ?zf; (case zf => (intro hm; have h1 := FE.ge _ hm; have h2 := tA.size; have h3 := tB.size; (try simp at h1); (try simp at h2); (try simp at h3); omega)))
        | (have Z := Blk.new wE [.slice none 0 0, .slice none 0 0, .slice none 0 0, .int .i64 0, .string ⟨#[]⟩, .int .i64 0] 34; have zg : w2.heap.size ≤ wE.heap.size := Only.size ((by with_reducible repeat (first | exact Only.refl _ _ | assumption | refine Only.drewN ?_ _ | refine Only.drew ?_ | refine Only.alloc ?_ _ | refine Only.trans ?_ (by assumption))) : Only [] w2 wE); have zf : wE.heap.size ∉ fE := (fun hm => by have := FE.lt _ hm; omega))); have g0 := Z.cell 0 rfl; have g1 := Z.cell 1 rfl; have g2 := Z.cell 2 rfl; have g3 := Z.cell 3 rfl; have g4 := Z.cell 4 rfl; have g5 := Z.cell 5 rfl; have p0 := Z.frozen 0; have p1 := Z.frozen 1; have p2 := Z.frozen 2; have p3 := Z.frozen 3; have p4 := Z.frozen 4; have p5 := Z.frozen 5)
      | fail "no arm")
    all_goals go_wp2_with fail
    all_goals go_meet
    all_goals have KK : Only [] w2 wE := (by with_reducible repeat (first | exact Only.refl _ _ | assumption | refine Only.drewN ?_ _ | refine Only.drew ?_ | refine Only.alloc ?_ _ | refine Only.trans ?_ (by assumption)))
    all_goals first
      | with_reducible exact FK1.of2 KK rE FEw rfl
      | with_reducible exact FK1.of Z hc6 (KK.alloc _) (Rp.keep rE ((Only.refl [] wE).alloc _)) (FEw.keep ((Only.refl [] wE).alloc _)) zf zg
      | with_reducible exact FK1.of Z hc6 KK rE FEw zf zg
  case rest =>
    obtain ⟨w5, hnew⟩ : ∃ W, W = wc := ⟨_, rfl⟩
    subst hnew
    obtain ⟨gx3, A30x0, C30x0, A30x1, C30x1, A30x2, C30x2, f3, hgx3, rfl, rfl, Bc3, r3, F3, t4⟩ := hcut
    have T2 : Only [] w2 w2 := Only.refl _ _
    have T3 : Only [] w2 w2 := Only.refl _ _
    have T4 : Only [] w2 w5 := t4
    have S4 : w2.heap.size + 0 ≤ w5.heap.size := by have := T4.size; omega
    have L3 := Rp.lt r3
    have G3 : ∀ b ∈ f3, w2.heap.size ≤ b := fun b hb => F3.ge b hb
    have Lgx3 := Bc3.lt
    clear HP HJ hc6
    have caP_5_0 := (((Blk.keep (Blk.keep (Blk.keep (Blk.keep HBaP.out T1) T2) T3) T4)).cell 0 rfl)
    have caP_5_1 := (((Blk.keep (Blk.keep (Blk.keep (Blk.keep HBaP.out T1) T2) T3) T4)).cell 1 rfl)
    have caP_5_2 := (((Blk.keep (Blk.keep (Blk.keep (Blk.keep HBaP.out T1) T2) T3) T4)).cell 2 rfl)
    go_wp2_with fail
    with_reducible refine (toPuzzle_any [.int .i64 aP.points, .string aP.names, .slice AaP2 aP.moves.length CaP2] aP _ _ (Rp.keep (Rp.keep (Rp.keep (Rp.keep (Rp.keep raP T0) T1) T2) T3) T4) smaP).mono ?_
    rintro e w6 ⟨u4, f4, rfl, r4, F4, t5⟩
    have T5 : Only [] w5 w6 := t5
    have S5 : w5.heap.size + 0 ≤ w6.heap.size := by have := t5.size; omega
    have B3 : Blk w6 gx3 [.slice A30x0 (crashF aP aJ aKept).1.table.tracked.length C30x0, .slice A30x1 (crashF aP aJ aKept).1.table.patterns.length C30x1, .slice A30x2 (crashF aP aJ aKept).1.table.distances.length C30x2, .int .i64 (crashF aP aJ aKept).1.next, .string (crashF aP aJ aKept).1.log, .int .i64 (crashF aP aJ aKept).1.synced] := (Blk.keep Bc3 t5)
    have LB3 : gx3 < w6.heap.size := B3.lt
    have HB3 := Lib.hid B3; clear B3
    clear caP_5_0 caP_5_1 caP_5_2
    have q4 := r4
    obtain ⟨u42, rfl, -, -, z42⟩ := q4
    obtain ⟨A42, C42, _, _, rfl, -⟩ := z42.open_
    have L4 := Rp.lt r4
    have G4 : ∀ b ∈ f4, w5.heap.size ≤ b := fun b hb => by have := F4.ge b hb; (try simp at this); omega
    have caJ_6_0 := ((Only.refl [] _).alloc (.cells #[.int .i64 aP.points, .string aP.names, .slice A42 aP.moves.length C42] 37)).cell (by simp) (((Blk.keep (Blk.keep (Blk.keep (Blk.keep (Blk.keep HBaJ.out T1) T2) T3) T4) T5)).cell 0 rfl)
    have caJ_6_1 := ((Only.refl [] _).alloc (.cells #[.int .i64 aP.points, .string aP.names, .slice A42 aP.moves.length C42] 37)).cell (by simp) (((Blk.keep (Blk.keep (Blk.keep (Blk.keep (Blk.keep HBaJ.out T1) T2) T3) T4) T5)).cell 1 rfl)
    have caJ_6_2 := ((Only.refl [] _).alloc (.cells #[.int .i64 aP.points, .string aP.names, .slice A42 aP.moves.length C42] 37)).cell (by simp) (((Blk.keep (Blk.keep (Blk.keep (Blk.keep (Blk.keep HBaJ.out T1) T2) T3) T4) T5)).cell 2 rfl)
    have caJ_6_3 := ((Only.refl [] _).alloc (.cells #[.int .i64 aP.points, .string aP.names, .slice A42 aP.moves.length C42] 37)).cell (by simp) (((Blk.keep (Blk.keep (Blk.keep (Blk.keep (Blk.keep HBaJ.out T1) T2) T3) T4) T5)).cell 3 rfl)
    have caJ_6_4 := ((Only.refl [] _).alloc (.cells #[.int .i64 aP.points, .string aP.names, .slice A42 aP.moves.length C42] 37)).cell (by simp) (((Blk.keep (Blk.keep (Blk.keep (Blk.keep (Blk.keep HBaJ.out T1) T2) T3) T4) T5)).cell 4 rfl)
    have caJ_6_5 := ((Only.refl [] _).alloc (.cells #[.int .i64 aP.points, .string aP.names, .slice A42 aP.moves.length C42] 37)).cell (by simp) (((Blk.keep (Blk.keep (Blk.keep (Blk.keep (Blk.keep HBaJ.out T1) T2) T3) T4) T5)).cell 5 rfl)
    go_wp2_with fail
    with_reducible refine (toFillJob_any [.slice AaJ0x0 aJ.table.tracked.length CaJ0x0, .slice AaJ0x1 aJ.table.patterns.length CaJ0x1, .slice AaJ0x2 aJ.table.distances.length CaJ0x2, .int .i64 aJ.next, .string aJ.log, .int .i64 aJ.synced] aJ _ _ (Rp.keep (Rp.keep (Rp.keep (Rp.keep (Rp.keep (Rp.keep (Rp.keep raJ T0) T1) T2) T3) T4) T5) ((Only.refl [] _).alloc (.cells #[.int .i64 aP.points, .string aP.names, .slice A42 aP.moves.length C42] 37))) smaJ).mono ?_
    rintro e w7 ⟨u5, f5, rfl, r5, F5, t6⟩
    have T6 : Only [] w6 w7 := ((Only.refl [] _).alloc (.cells #[.int .i64 aP.points, .string aP.names, .slice A42 aP.moves.length C42] 37)).trans t6
    have S6 : w6.heap.size + 1 ≤ w7.heap.size := by have := t6.size; simp at this; omega
    have B4 : Blk w7 w6.heap.size [.int .i64 aP.points, .string aP.names, .slice A42 aP.moves.length C42] := (Blk.keep (Blk.new_at (by simp)) t6)
    have LB4 : w6.heap.size < w7.heap.size := B4.lt
    have HB4 := Lib.hid B4; clear B4
    clear caJ_6_0 caJ_6_1 caJ_6_2 caJ_6_3 caJ_6_4 caJ_6_5
    have q5 := r5
    obtain ⟨u50, rfl, -, -, -, z50⟩ := q5
    have q50x := z50
    obtain ⟨u50x0, u50x1, u50x2, _, _, _, rfl, -, z50x0, z50x1, z50x2⟩ := q50x
    obtain ⟨A50x0, C50x0, _, _, rfl, -⟩ := z50x0.open_
    obtain ⟨A50x1, C50x1, _, _, rfl, -⟩ := z50x1.open_
    obtain ⟨A50x2, C50x2, _, _, rfl, -⟩ := z50x2.open_
    have L5 := Rp.lt r5
    have G5 : ∀ b ∈ f5, w6.heap.size + 1 ≤ b := fun b hb => by have := F5.ge b hb; simp at this; omega
    have c4_7_0 := ((Only.refl [] _).alloc (.cells #[.slice A50x0 aJ.table.tracked.length C50x0, .slice A50x1 aJ.table.patterns.length C50x1, .slice A50x2 aJ.table.distances.length C50x2, .int .i64 aJ.next, .string aJ.log, .int .i64 aJ.synced] 34)).cell (by simp) ((HB4.out).cell 0 rfl)
    have c4_7_1 := ((Only.refl [] _).alloc (.cells #[.slice A50x0 aJ.table.tracked.length C50x0, .slice A50x1 aJ.table.patterns.length C50x1, .slice A50x2 aJ.table.distances.length C50x2, .int .i64 aJ.next, .string aJ.log, .int .i64 aJ.synced] 34)).cell (by simp) ((HB4.out).cell 1 rfl)
    have c4_7_2 := ((Only.refl [] _).alloc (.cells #[.slice A50x0 aJ.table.tracked.length C50x0, .slice A50x1 aJ.table.patterns.length C50x1, .slice A50x2 aJ.table.distances.length C50x2, .int .i64 aJ.next, .string aJ.log, .int .i64 aJ.synced] 34)).cell (by simp) ((HB4.out).cell 2 rfl)
    go_wp2_with fail
    with_reducible refine (implCrashFill_any [.int .i64 aP.points, .string aP.names, .slice A42 aP.moves.length C42] [.slice A50x0 aJ.table.tracked.length C50x0, .slice A50x1 aJ.table.patterns.length C50x1, .slice A50x2 aJ.table.distances.length C50x2, .int .i64 aJ.next, .string aJ.log, .int .i64 aJ.synced] aP aJ aKept _ _ _ (Rp.keep (Rp.keep r4 T6) ((Only.refl [] _).alloc (.cells #[.slice A50x0 aJ.table.tracked.length C50x0, .slice A50x1 aJ.table.patterns.length C50x1, .slice A50x2 aJ.table.distances.length C50x2, .int .i64 aJ.next, .string aJ.log, .int .i64 aJ.synced] 34))) (Rp.keep r5 ((Only.refl [] _).alloc (.cells #[.slice A50x0 aJ.table.tracked.length C50x0, .slice A50x1 aJ.table.patterns.length C50x1, .slice A50x2 aJ.table.distances.length C50x2, .int .i64 aJ.next, .string aJ.log, .int .i64 aJ.synced] 34))) iaKept (sm_fill smaJ)).mono ?_
    rintro e w8 ⟨u6, f6, rfl, r6, F6, t7⟩
    have T7 : Only [] w7 w8 := ((Only.refl [] _).alloc (.cells #[.slice A50x0 aJ.table.tracked.length C50x0, .slice A50x1 aJ.table.patterns.length C50x1, .slice A50x2 aJ.table.distances.length C50x2, .int .i64 aJ.next, .string aJ.log, .int .i64 aJ.synced] 34)).trans t7
    have S7 : w7.heap.size + 1 ≤ w8.heap.size := by have := t7.size; simp at this; omega
    have B5 : Blk w8 w7.heap.size [.slice A50x0 aJ.table.tracked.length C50x0, .slice A50x1 aJ.table.patterns.length C50x1, .slice A50x2 aJ.table.distances.length C50x2, .int .i64 aJ.next, .string aJ.log, .int .i64 aJ.synced] := (Blk.keep (Blk.new_at (by simp)) t7)
    have LB5 : w7.heap.size < w8.heap.size := B5.lt
    have HB5 := Lib.hid B5; clear B5
    clear c4_7_0 c4_7_1 c4_7_2
    have q6 := r6
    obtain ⟨u60, rfl, -, -, -, z60⟩ := q6
    have q60x := z60
    obtain ⟨u60x0, u60x1, u60x2, _, _, _, rfl, -, z60x0, z60x1, z60x2⟩ := q60x
    obtain ⟨A60x0, C60x0, _, _, rfl, -⟩ := z60x0.open_
    obtain ⟨A60x1, C60x1, _, _, rfl, -⟩ := z60x1.open_
    obtain ⟨A60x2, C60x2, _, _, rfl, -⟩ := z60x2.open_
    have L6 := Rp.lt r6
    have G6 : ∀ b ∈ f6, w7.heap.size + 1 ≤ b := fun b hb => by have := F6.ge b hb; simp at this; omega
    have c3_8_0 := ((Only.refl [] _).alloc (.cells #[.slice A60x0 (crashF aP aJ aKept).1.table.tracked.length C60x0, .slice A60x1 (crashF aP aJ aKept).1.table.patterns.length C60x1, .slice A60x2 (crashF aP aJ aKept).1.table.distances.length C60x2, .int .i64 (crashF aP aJ aKept).1.next, .string (crashF aP aJ aKept).1.log, .int .i64 (crashF aP aJ aKept).1.synced] 34)).cell (by simp) (((Blk.keep (Blk.keep HB3.out T6) T7)).cell 0 rfl)
    have c3_8_1 := ((Only.refl [] _).alloc (.cells #[.slice A60x0 (crashF aP aJ aKept).1.table.tracked.length C60x0, .slice A60x1 (crashF aP aJ aKept).1.table.patterns.length C60x1, .slice A60x2 (crashF aP aJ aKept).1.table.distances.length C60x2, .int .i64 (crashF aP aJ aKept).1.next, .string (crashF aP aJ aKept).1.log, .int .i64 (crashF aP aJ aKept).1.synced] 34)).cell (by simp) (((Blk.keep (Blk.keep HB3.out T6) T7)).cell 1 rfl)
    have c3_8_2 := ((Only.refl [] _).alloc (.cells #[.slice A60x0 (crashF aP aJ aKept).1.table.tracked.length C60x0, .slice A60x1 (crashF aP aJ aKept).1.table.patterns.length C60x1, .slice A60x2 (crashF aP aJ aKept).1.table.distances.length C60x2, .int .i64 (crashF aP aJ aKept).1.next, .string (crashF aP aJ aKept).1.log, .int .i64 (crashF aP aJ aKept).1.synced] 34)).cell (by simp) (((Blk.keep (Blk.keep HB3.out T6) T7)).cell 2 rfl)
    have c3_8_3 := ((Only.refl [] _).alloc (.cells #[.slice A60x0 (crashF aP aJ aKept).1.table.tracked.length C60x0, .slice A60x1 (crashF aP aJ aKept).1.table.patterns.length C60x1, .slice A60x2 (crashF aP aJ aKept).1.table.distances.length C60x2, .int .i64 (crashF aP aJ aKept).1.next, .string (crashF aP aJ aKept).1.log, .int .i64 (crashF aP aJ aKept).1.synced] 34)).cell (by simp) (((Blk.keep (Blk.keep HB3.out T6) T7)).cell 3 rfl)
    have c3_8_4 := ((Only.refl [] _).alloc (.cells #[.slice A60x0 (crashF aP aJ aKept).1.table.tracked.length C60x0, .slice A60x1 (crashF aP aJ aKept).1.table.patterns.length C60x1, .slice A60x2 (crashF aP aJ aKept).1.table.distances.length C60x2, .int .i64 (crashF aP aJ aKept).1.next, .string (crashF aP aJ aKept).1.log, .int .i64 (crashF aP aJ aKept).1.synced] 34)).cell (by simp) (((Blk.keep (Blk.keep HB3.out T6) T7)).cell 4 rfl)
    have c3_8_5 := ((Only.refl [] _).alloc (.cells #[.slice A60x0 (crashF aP aJ aKept).1.table.tracked.length C60x0, .slice A60x1 (crashF aP aJ aKept).1.table.patterns.length C60x1, .slice A60x2 (crashF aP aJ aKept).1.table.distances.length C60x2, .int .i64 (crashF aP aJ aKept).1.next, .string (crashF aP aJ aKept).1.log, .int .i64 (crashF aP aJ aKept).1.synced] 34)).cell (by simp) (((Blk.keep (Blk.keep HB3.out T6) T7)).cell 5 rfl)
    have e8 : eqV (crashF aP aJ aKept).1 (crashF aP aJ aKept).1 = true := eqV_yes rfl
    go_wp2_with fail
    with_reducible refine (eqFillJob_any [.slice A60x0 (crashF aP aJ aKept).1.table.tracked.length C60x0, .slice A60x1 (crashF aP aJ aKept).1.table.patterns.length C60x1, .slice A60x2 (crashF aP aJ aKept).1.table.distances.length C60x2, .int .i64 (crashF aP aJ aKept).1.next, .string (crashF aP aJ aKept).1.log, .int .i64 (crashF aP aJ aKept).1.synced] [.slice A30x0 (crashF aP aJ aKept).1.table.tracked.length C30x0, .slice A30x1 (crashF aP aJ aKept).1.table.patterns.length C30x1, .slice A30x2 (crashF aP aJ aKept).1.table.distances.length C30x2, .int .i64 (crashF aP aJ aKept).1.next, .string (crashF aP aJ aKept).1.log, .int .i64 (crashF aP aJ aKept).1.synced] (crashF aP aJ aKept).1 (crashF aP aJ aKept).1 _ _ _ (Rp.keep r6 ((Only.refl [] _).alloc (.cells #[.slice A60x0 (crashF aP aJ aKept).1.table.tracked.length C60x0, .slice A60x1 (crashF aP aJ aKept).1.table.patterns.length C60x1, .slice A60x2 (crashF aP aJ aKept).1.table.distances.length C60x2, .int .i64 (crashF aP aJ aKept).1.next, .string (crashF aP aJ aKept).1.log, .int .i64 (crashF aP aJ aKept).1.synced] 34))) (Rp.keep (Rp.keep (Rp.keep (Rp.keep r3 T5) T6) T7) ((Only.refl [] _).alloc (.cells #[.slice A60x0 (crashF aP aJ aKept).1.table.tracked.length C60x0, .slice A60x1 (crashF aP aJ aKept).1.table.patterns.length C60x1, .slice A60x2 (crashF aP aJ aKept).1.table.distances.length C60x2, .int .i64 (crashF aP aJ aKept).1.next, .string (crashF aP aJ aKept).1.log, .int .i64 (crashF aP aJ aKept).1.synced] 34)))).mono ?_
    rintro e w9 ⟨rfl, t8⟩
    have T8 : Only [] w8 w9 := ((Only.refl [] _).alloc (.cells #[.slice A60x0 (crashF aP aJ aKept).1.table.tracked.length C60x0, .slice A60x1 (crashF aP aJ aKept).1.table.patterns.length C60x1, .slice A60x2 (crashF aP aJ aKept).1.table.distances.length C60x2, .int .i64 (crashF aP aJ aKept).1.next, .string (crashF aP aJ aKept).1.log, .int .i64 (crashF aP aJ aKept).1.synced] 34)).trans t8
    have S8 : w8.heap.size + 1 ≤ w9.heap.size := by have := t8.size; simp at this; omega
    have B6 : Blk w9 w8.heap.size [.slice A60x0 (crashF aP aJ aKept).1.table.tracked.length C60x0, .slice A60x1 (crashF aP aJ aKept).1.table.patterns.length C60x1, .slice A60x2 (crashF aP aJ aKept).1.table.distances.length C60x2, .int .i64 (crashF aP aJ aKept).1.next, .string (crashF aP aJ aKept).1.log, .int .i64 (crashF aP aJ aKept).1.synced] := (Blk.keep (Blk.new_at (by simp)) t8)
    have LB6 : w8.heap.size < w9.heap.size := B6.lt
    have HB6 := Lib.hid B6; clear B6
    clear c3_8_0 c3_8_1 c3_8_2 c3_8_3 c3_8_4 c3_8_5
    go_upto_region 14 with fail
    have e10 : eqV aP aP = true := eqV_yes rfl
    go_region_held3 (fun w' => Only [] w9 w' ∧ w'.cell? ⟨w6.heap.size, 0, none⟩ = some (.int .i64 aP.points) ∧ w'.cell? ⟨w6.heap.size, 1, none⟩ = some (.string aP.names) ∧ w'.cell? ⟨w6.heap.size, 2, none⟩ = some (.slice A42 aP.moves.length C42) ∧ w'.cell? ⟨w.heap.size, 0, none⟩ = some (.int .i64 aP.points) ∧ w'.cell? ⟨w.heap.size, 1, none⟩ = some (.string aP.names) ∧ w'.cell? ⟨w.heap.size, 2, none⟩ = some (.slice AaP2 aP.moves.length CaP2)) ((refine and_of ?_ (fun h__ => ⟨(Blk.keep (Blk.keep (Blk.keep HB4.out T7) T8) h__).cell 0 rfl, (Blk.keep (Blk.keep (Blk.keep HB4.out T7) T8) h__).cell 1 rfl, (Blk.keep (Blk.keep (Blk.keep HB4.out T7) T8) h__).cell 2 rfl, (Blk.keep (Blk.keep (Blk.keep (Blk.keep (Blk.keep (Blk.keep (Blk.keep (Blk.keep (Blk.keep HBaP.out T1) T2) T3) T4) T5) T6) T7) T8) h__).cell 0 rfl, (Blk.keep (Blk.keep (Blk.keep (Blk.keep (Blk.keep (Blk.keep (Blk.keep (Blk.keep (Blk.keep HBaP.out T1) T2) T3) T4) T5) T6) T7) T8) h__).cell 1 rfl, (Blk.keep (Blk.keep (Blk.keep (Blk.keep (Blk.keep (Blk.keep (Blk.keep (Blk.keep (Blk.keep HBaP.out T1) T2) T3) T4) T5) T6) T7) T8) h__).cell 2 rfl⟩); first | exact (Only.refl _ _).drew | exact Only.trans (And.left (by assumption)) (by assumption))) (first
      | (go_at_call 7; (with_reducible refine (toPuzzle_any [.int .i64 aP.points, .string aP.names, .slice AaP2 aP.moves.length CaP2] aP _ _ (Rp.keep (Rp.keep (Rp.keep (Rp.keep (Rp.keep (Rp.keep (Rp.keep (Rp.keep (Rp.keep (Rp.keep raP T0) T1) T2) T3) T4) T5) T6) T7) T8) (And.left (by assumption))) smaP).mono ?_); rintro e w10 ⟨u7, f7, rfl, r7, F7, t9⟩)
      | (go_at_call 11; (with_reducible refine (eqPuzzle_any [.int .i64 aP.points, .string aP.names, .slice A42 aP.moves.length C42] u7 aP aP _ _ _ (Rp.keep (Rp.keep (Rp.keep (Rp.keep r4 T6) T7) T8) (And.left (by assumption))) (Rp.keep r7 (by first | exact Only.refl _ _ | assumption | exact Only.trans (by assumption) (by assumption)))).mono ?_); rintro e w11 ⟨rfl, t10⟩)
      | fail "no arm")
    have T9 : Only [] w9 w10 := ((Only.refl _ _).drew).trans t9
    have S9 : w9.heap.size + 0 ≤ w10.heap.size := by have := T9.size; omega
    have L7 := Rp.lt r7
    have G7 : ∀ b ∈ f7, w9.heap.size ≤ b := fun b hb => by have := F7.ge b hb; first | omega | (simp at this; omega)
    have T10 : Only [] w10 w11 := t10
    have S10 : w10.heap.size + 0 ≤ w11.heap.size := by have := T10.size; omega
    go_upto_region 16 with fail
    have e12 : eqV aJ aJ = true := eqV_yes rfl
    go_region_held3 (fun w' => Only [] w11 w' ∧ w'.cell? ⟨w7.heap.size, 0, none⟩ = some (.slice A50x0 aJ.table.tracked.length C50x0) ∧ w'.cell? ⟨w7.heap.size, 1, none⟩ = some (.slice A50x1 aJ.table.patterns.length C50x1) ∧ w'.cell? ⟨w7.heap.size, 2, none⟩ = some (.slice A50x2 aJ.table.distances.length C50x2) ∧ w'.cell? ⟨w7.heap.size, 3, none⟩ = some (.int .i64 aJ.next) ∧ w'.cell? ⟨w7.heap.size, 4, none⟩ = some (.string aJ.log) ∧ w'.cell? ⟨w7.heap.size, 5, none⟩ = some (.int .i64 aJ.synced) ∧ w'.cell? ⟨(w.heap.size + 1), 0, none⟩ = some (.slice AaJ0x0 aJ.table.tracked.length CaJ0x0) ∧ w'.cell? ⟨(w.heap.size + 1), 1, none⟩ = some (.slice AaJ0x1 aJ.table.patterns.length CaJ0x1) ∧ w'.cell? ⟨(w.heap.size + 1), 2, none⟩ = some (.slice AaJ0x2 aJ.table.distances.length CaJ0x2) ∧ w'.cell? ⟨(w.heap.size + 1), 3, none⟩ = some (.int .i64 aJ.next) ∧ w'.cell? ⟨(w.heap.size + 1), 4, none⟩ = some (.string aJ.log) ∧ w'.cell? ⟨(w.heap.size + 1), 5, none⟩ = some (.int .i64 aJ.synced)) ((refine and_of ?_ (fun h__ => ⟨(Blk.keep (Blk.keep (Blk.keep (Blk.keep HB5.out T8) T9) T10) h__).cell 0 rfl, (Blk.keep (Blk.keep (Blk.keep (Blk.keep HB5.out T8) T9) T10) h__).cell 1 rfl, (Blk.keep (Blk.keep (Blk.keep (Blk.keep HB5.out T8) T9) T10) h__).cell 2 rfl, (Blk.keep (Blk.keep (Blk.keep (Blk.keep HB5.out T8) T9) T10) h__).cell 3 rfl, (Blk.keep (Blk.keep (Blk.keep (Blk.keep HB5.out T8) T9) T10) h__).cell 4 rfl, (Blk.keep (Blk.keep (Blk.keep (Blk.keep HB5.out T8) T9) T10) h__).cell 5 rfl, (Blk.keep (Blk.keep (Blk.keep (Blk.keep (Blk.keep (Blk.keep (Blk.keep (Blk.keep (Blk.keep (Blk.keep (Blk.keep HBaJ.out T1) T2) T3) T4) T5) T6) T7) T8) T9) T10) h__).cell 0 rfl, (Blk.keep (Blk.keep (Blk.keep (Blk.keep (Blk.keep (Blk.keep (Blk.keep (Blk.keep (Blk.keep (Blk.keep (Blk.keep HBaJ.out T1) T2) T3) T4) T5) T6) T7) T8) T9) T10) h__).cell 1 rfl, (Blk.keep (Blk.keep (Blk.keep (Blk.keep (Blk.keep (Blk.keep (Blk.keep (Blk.keep (Blk.keep (Blk.keep (Blk.keep HBaJ.out T1) T2) T3) T4) T5) T6) T7) T8) T9) T10) h__).cell 2 rfl, (Blk.keep (Blk.keep (Blk.keep (Blk.keep (Blk.keep (Blk.keep (Blk.keep (Blk.keep (Blk.keep (Blk.keep (Blk.keep HBaJ.out T1) T2) T3) T4) T5) T6) T7) T8) T9) T10) h__).cell 3 rfl, (Blk.keep (Blk.keep (Blk.keep (Blk.keep (Blk.keep (Blk.keep (Blk.keep (Blk.keep (Blk.keep (Blk.keep (Blk.keep HBaJ.out T1) T2) T3) T4) T5) T6) T7) T8) T9) T10) h__).cell 4 rfl, (Blk.keep (Blk.keep (Blk.keep (Blk.keep (Blk.keep (Blk.keep (Blk.keep (Blk.keep (Blk.keep (Blk.keep (Blk.keep HBaJ.out T1) T2) T3) T4) T5) T6) T7) T8) T9) T10) h__).cell 5 rfl⟩); first | exact (Only.refl _ _).drew | exact Only.trans (And.left (by assumption)) (by assumption))) (first
      | (go_at_call 8; (with_reducible refine (toFillJob_any [.slice AaJ0x0 aJ.table.tracked.length CaJ0x0, .slice AaJ0x1 aJ.table.patterns.length CaJ0x1, .slice AaJ0x2 aJ.table.distances.length CaJ0x2, .int .i64 aJ.next, .string aJ.log, .int .i64 aJ.synced] aJ _ _ (Rp.keep (Rp.keep (Rp.keep (Rp.keep (Rp.keep (Rp.keep (Rp.keep (Rp.keep (Rp.keep (Rp.keep (Rp.keep (Rp.keep raJ T0) T1) T2) T3) T4) T5) T6) T7) T8) T9) T10) (And.left (by assumption))) smaJ).mono ?_); rintro e w12 ⟨u8, f8, rfl, r8, F8, t11⟩)
      | (go_at_call 10; (with_reducible refine (eqFillJob_any [.slice A50x0 aJ.table.tracked.length C50x0, .slice A50x1 aJ.table.patterns.length C50x1, .slice A50x2 aJ.table.distances.length C50x2, .int .i64 aJ.next, .string aJ.log, .int .i64 aJ.synced] u8 aJ aJ _ _ _ (Rp.keep (Rp.keep (Rp.keep (Rp.keep (Rp.keep r5 T7) T8) T9) T10) (And.left (by assumption))) (Rp.keep r8 (by first | exact Only.refl _ _ | assumption | exact Only.trans (by assumption) (by assumption)))).mono ?_); rintro e w13 ⟨rfl, t12⟩)
      | fail "no arm")
    have T11 : Only [] w11 w12 := ((Only.refl _ _).drew).trans t11
    have S11 : w11.heap.size + 0 ≤ w12.heap.size := by have := T11.size; omega
    have L8 := Rp.lt r8
    have G8 : ∀ b ∈ f8, w11.heap.size ≤ b := fun b hb => by have := F8.ge b hb; first | omega | (simp at this; omega)
    have T12 : Only [] w12 w13 := t12
    have S12 : w12.heap.size + 0 ≤ w13.heap.size := by have := T12.size; omega
    have c4_13_0 := ((Blk.keep (Blk.keep (Blk.keep (Blk.keep (Blk.keep (Blk.keep HB4.out T7) T8) T9) T10) T11) T12)).cell 0 rfl
    have c4_13_1 := ((Blk.keep (Blk.keep (Blk.keep (Blk.keep (Blk.keep (Blk.keep HB4.out T7) T8) T9) T10) T11) T12)).cell 1 rfl
    have c4_13_2 := ((Blk.keep (Blk.keep (Blk.keep (Blk.keep (Blk.keep (Blk.keep HB4.out T7) T8) T9) T10) T11) T12)).cell 2 rfl
    have m13 : (1 : Int) + (Mk.cnt aP : Nat) ≤ 4611686018427387904 := by omega
    go_wp2_with fail
    with_reducible refine (markPuzzle_any [.int .i64 aP.points, .string aP.names, .slice A42 aP.moves.length C42] aP f4 (1) _ (Rp.keep (Rp.keep (Rp.keep (Rp.keep (Rp.keep (Rp.keep (Rp.keep r4 T6) T7) T8) T9) T10) T11) T12) F4.nd (Own.keep (Own.keep (Own.keep (Own.keep (Own.keep (Own.keep (Own.keep F4.own T6) T7) T8) T9) T10) T11) T12) (by omega) m13).mono ?_
    rintro e w14 ⟨rfl, rr13, oo13, t13⟩
    have T13 : Only f4 w13 w14 := t13
    have S13 : w13.heap.size + 0 ≤ w14.heap.size := by have := T13.size; omega
    clear c4_13_0 c4_13_1 c4_13_2
    clear r4
    have r4 := rr13
    have O4 := oo13
    have c5_14_0 := ((Blk.only (Blk.keep (Blk.keep (Blk.keep (Blk.keep (Blk.keep HB5.out T8) T9) T10) T11) T12) T13 (fun hm => by have := L4 _ hm; omega))).cell 0 rfl
    have c5_14_1 := ((Blk.only (Blk.keep (Blk.keep (Blk.keep (Blk.keep (Blk.keep HB5.out T8) T9) T10) T11) T12) T13 (fun hm => by have := L4 _ hm; omega))).cell 1 rfl
    have c5_14_2 := ((Blk.only (Blk.keep (Blk.keep (Blk.keep (Blk.keep (Blk.keep HB5.out T8) T9) T10) T11) T12) T13 (fun hm => by have := L4 _ hm; omega))).cell 2 rfl
    have c5_14_3 := ((Blk.only (Blk.keep (Blk.keep (Blk.keep (Blk.keep (Blk.keep HB5.out T8) T9) T10) T11) T12) T13 (fun hm => by have := L4 _ hm; omega))).cell 3 rfl
    have c5_14_4 := ((Blk.only (Blk.keep (Blk.keep (Blk.keep (Blk.keep (Blk.keep HB5.out T8) T9) T10) T11) T12) T13 (fun hm => by have := L4 _ hm; omega))).cell 4 rfl
    have c5_14_5 := ((Blk.only (Blk.keep (Blk.keep (Blk.keep (Blk.keep (Blk.keep HB5.out T8) T9) T10) T11) T12) T13 (fun hm => by have := L4 _ hm; omega))).cell 5 rfl
    have m14 : (1 + (Mk.cnt aP : Nat) : Int) + (Mk.cnt aJ : Nat) ≤ 4611686018427387904 := by omega
    go_wp2_with fail
    with_reducible refine (markFillJob_any [.slice A50x0 aJ.table.tracked.length C50x0, .slice A50x1 aJ.table.patterns.length C50x1, .slice A50x2 aJ.table.distances.length C50x2, .int .i64 aJ.next, .string aJ.log, .int .i64 aJ.synced] aJ f5 (1 + (Mk.cnt aP : Nat)) _ (Rp.only (Rp.keep (Rp.keep (Rp.keep (Rp.keep (Rp.keep (Rp.keep r5 T7) T8) T9) T10) T11) T12) T13 (fun b hb hm => by have := G5 b hb; have := L4 b hm; omega)) F5.nd (Own.only (Own.keep (Own.keep (Own.keep (Own.keep (Own.keep (Own.keep F5.own T7) T8) T9) T10) T11) T12) T13 (fun b hb hm => by have := G5 b hb; have := L4 b hm; omega)) (by omega) m14).mono ?_
    rintro e w15 ⟨rfl, rr14, oo14, t14⟩
    have T14 : Only f5 w14 w15 := t14
    have S14 : w14.heap.size + 0 ≤ w15.heap.size := by have := T14.size; omega
    clear c5_14_0 c5_14_1 c5_14_2 c5_14_3 c5_14_4 c5_14_5
    clear r5
    have r5 := rr14
    have O5 := oo14
    have c6_15_0 := ((Blk.only (Blk.only (Blk.keep (Blk.keep (Blk.keep (Blk.keep HB6.out T9) T10) T11) T12) T13 (fun hm => by have := L4 _ hm; omega)) T14 (fun hm => by have := L5 _ hm; omega))).cell 0 rfl
    have c6_15_1 := ((Blk.only (Blk.only (Blk.keep (Blk.keep (Blk.keep (Blk.keep HB6.out T9) T10) T11) T12) T13 (fun hm => by have := L4 _ hm; omega)) T14 (fun hm => by have := L5 _ hm; omega))).cell 1 rfl
    have c6_15_2 := ((Blk.only (Blk.only (Blk.keep (Blk.keep (Blk.keep (Blk.keep HB6.out T9) T10) T11) T12) T13 (fun hm => by have := L4 _ hm; omega)) T14 (fun hm => by have := L5 _ hm; omega))).cell 2 rfl
    have c6_15_3 := ((Blk.only (Blk.only (Blk.keep (Blk.keep (Blk.keep (Blk.keep HB6.out T9) T10) T11) T12) T13 (fun hm => by have := L4 _ hm; omega)) T14 (fun hm => by have := L5 _ hm; omega))).cell 3 rfl
    have c6_15_4 := ((Blk.only (Blk.only (Blk.keep (Blk.keep (Blk.keep (Blk.keep HB6.out T9) T10) T11) T12) T13 (fun hm => by have := L4 _ hm; omega)) T14 (fun hm => by have := L5 _ hm; omega))).cell 4 rfl
    have c6_15_5 := ((Blk.only (Blk.only (Blk.keep (Blk.keep (Blk.keep (Blk.keep HB6.out T9) T10) T11) T12) T13 (fun hm => by have := L4 _ hm; omega)) T14 (fun hm => by have := L5 _ hm; omega))).cell 5 rfl
    have c3_15_0 := ((Blk.only (Blk.only (Blk.keep (Blk.keep (Blk.keep (Blk.keep (Blk.keep (Blk.keep (Blk.keep HB3.out T6) T7) T8) T9) T10) T11) T12) T13 (fun hm => by have := G4 _ hm; have := LB3; omega)) T14 (fun hm => by have := G5 _ hm; have := LB3; omega))).cell 0 rfl
    have c3_15_1 := ((Blk.only (Blk.only (Blk.keep (Blk.keep (Blk.keep (Blk.keep (Blk.keep (Blk.keep (Blk.keep HB3.out T6) T7) T8) T9) T10) T11) T12) T13 (fun hm => by have := G4 _ hm; have := LB3; omega)) T14 (fun hm => by have := G5 _ hm; have := LB3; omega))).cell 1 rfl
    have c3_15_2 := ((Blk.only (Blk.only (Blk.keep (Blk.keep (Blk.keep (Blk.keep (Blk.keep (Blk.keep (Blk.keep HB3.out T6) T7) T8) T9) T10) T11) T12) T13 (fun hm => by have := G4 _ hm; have := LB3; omega)) T14 (fun hm => by have := G5 _ hm; have := LB3; omega))).cell 2 rfl
    have c3_15_3 := ((Blk.only (Blk.only (Blk.keep (Blk.keep (Blk.keep (Blk.keep (Blk.keep (Blk.keep (Blk.keep HB3.out T6) T7) T8) T9) T10) T11) T12) T13 (fun hm => by have := G4 _ hm; have := LB3; omega)) T14 (fun hm => by have := G5 _ hm; have := LB3; omega))).cell 3 rfl
    have c3_15_4 := ((Blk.only (Blk.only (Blk.keep (Blk.keep (Blk.keep (Blk.keep (Blk.keep (Blk.keep (Blk.keep HB3.out T6) T7) T8) T9) T10) T11) T12) T13 (fun hm => by have := G4 _ hm; have := LB3; omega)) T14 (fun hm => by have := G5 _ hm; have := LB3; omega))).cell 4 rfl
    have c3_15_5 := ((Blk.only (Blk.only (Blk.keep (Blk.keep (Blk.keep (Blk.keep (Blk.keep (Blk.keep (Blk.keep HB3.out T6) T7) T8) T9) T10) T11) T12) T13 (fun hm => by have := G4 _ hm; have := LB3; omega)) T14 (fun hm => by have := G5 _ hm; have := LB3; omega))).cell 5 rfl
    have e15 : eqV (crashF aP aJ aKept).1 (crashF aP aJ aKept).1 = true := eqV_yes rfl
    go_wp2_with fail
    with_reducible refine (eqFillJob_any [.slice A60x0 (crashF aP aJ aKept).1.table.tracked.length C60x0, .slice A60x1 (crashF aP aJ aKept).1.table.patterns.length C60x1, .slice A60x2 (crashF aP aJ aKept).1.table.distances.length C60x2, .int .i64 (crashF aP aJ aKept).1.next, .string (crashF aP aJ aKept).1.log, .int .i64 (crashF aP aJ aKept).1.synced] [.slice A30x0 (crashF aP aJ aKept).1.table.tracked.length C30x0, .slice A30x1 (crashF aP aJ aKept).1.table.patterns.length C30x1, .slice A30x2 (crashF aP aJ aKept).1.table.distances.length C30x2, .int .i64 (crashF aP aJ aKept).1.next, .string (crashF aP aJ aKept).1.log, .int .i64 (crashF aP aJ aKept).1.synced] (crashF aP aJ aKept).1 (crashF aP aJ aKept).1 _ _ _ (Rp.only (Rp.only (Rp.keep (Rp.keep (Rp.keep (Rp.keep (Rp.keep r6 T8) T9) T10) T11) T12) T13 (fun b hb hm => by have := G6 b hb; have := L4 b hm; omega)) T14 (fun b hb hm => by have := G6 b hb; have := L5 b hm; omega)) (Rp.only (Rp.only (Rp.keep (Rp.keep (Rp.keep (Rp.keep (Rp.keep (Rp.keep (Rp.keep (Rp.keep r3 T5) T6) T7) T8) T9) T10) T11) T12) T13 (fun b hb hm => by have := L3 b hb; have := G4 b hm; omega)) T14 (fun b hb hm => by have := L3 b hb; have := G5 b hm; omega))).mono ?_
    rintro e w16 ⟨rfl, t15⟩
    have T15 : Only [] w15 w16 := t15
    have S15 : w15.heap.size + 0 ≤ w16.heap.size := by have := T15.size; omega
    clear c6_15_0 c6_15_1 c6_15_2 c6_15_3 c6_15_4 c6_15_5 c3_15_0 c3_15_1 c3_15_2 c3_15_3 c3_15_4 c3_15_5
    have c6_16_0 := ((Blk.keep (Blk.only (Blk.only (Blk.keep (Blk.keep (Blk.keep (Blk.keep HB6.out T9) T10) T11) T12) T13 (fun hm => by have := L4 _ hm; omega)) T14 (fun hm => by have := L5 _ hm; omega)) T15)).cell 0 rfl
    have c6_16_1 := ((Blk.keep (Blk.only (Blk.only (Blk.keep (Blk.keep (Blk.keep (Blk.keep HB6.out T9) T10) T11) T12) T13 (fun hm => by have := L4 _ hm; omega)) T14 (fun hm => by have := L5 _ hm; omega)) T15)).cell 1 rfl
    have c6_16_2 := ((Blk.keep (Blk.only (Blk.only (Blk.keep (Blk.keep (Blk.keep (Blk.keep HB6.out T9) T10) T11) T12) T13 (fun hm => by have := L4 _ hm; omega)) T14 (fun hm => by have := L5 _ hm; omega)) T15)).cell 2 rfl
    have c6_16_3 := ((Blk.keep (Blk.only (Blk.only (Blk.keep (Blk.keep (Blk.keep (Blk.keep HB6.out T9) T10) T11) T12) T13 (fun hm => by have := L4 _ hm; omega)) T14 (fun hm => by have := L5 _ hm; omega)) T15)).cell 3 rfl
    have c6_16_4 := ((Blk.keep (Blk.only (Blk.only (Blk.keep (Blk.keep (Blk.keep (Blk.keep HB6.out T9) T10) T11) T12) T13 (fun hm => by have := L4 _ hm; omega)) T14 (fun hm => by have := L5 _ hm; omega)) T15)).cell 4 rfl
    have c6_16_5 := ((Blk.keep (Blk.only (Blk.only (Blk.keep (Blk.keep (Blk.keep (Blk.keep HB6.out T9) T10) T11) T12) T13 (fun hm => by have := L4 _ hm; omega)) T14 (fun hm => by have := L5 _ hm; omega)) T15)).cell 5 rfl
    have m16 : (1 : Int) + (Mk.cnt (crashF aP aJ aKept).1 : Nat) ≤ 4611686018427387904 := by omega
    go_wp2_with fail
    with_reducible refine (markFillJob_any [.slice A60x0 (crashF aP aJ aKept).1.table.tracked.length C60x0, .slice A60x1 (crashF aP aJ aKept).1.table.patterns.length C60x1, .slice A60x2 (crashF aP aJ aKept).1.table.distances.length C60x2, .int .i64 (crashF aP aJ aKept).1.next, .string (crashF aP aJ aKept).1.log, .int .i64 (crashF aP aJ aKept).1.synced] (crashF aP aJ aKept).1 f6 (1) _ (Rp.keep (Rp.only (Rp.only (Rp.keep (Rp.keep (Rp.keep (Rp.keep (Rp.keep r6 T8) T9) T10) T11) T12) T13 (fun b hb hm => by have := G6 b hb; have := L4 b hm; omega)) T14 (fun b hb hm => by have := G6 b hb; have := L5 b hm; omega)) T15) F6.nd (Own.keep (Own.only (Own.only (Own.keep (Own.keep (Own.keep (Own.keep (Own.keep F6.own T8) T9) T10) T11) T12) T13 (fun b hb hm => by have := G6 b hb; have := L4 b hm; omega)) T14 (fun b hb hm => by have := G6 b hb; have := L5 b hm; omega)) T15) (by omega) m16).mono ?_
    rintro e w17 ⟨rfl, rr16, oo16, t16⟩
    have T16 : Only f6 w16 w17 := t16
    have S16 : w16.heap.size + 0 ≤ w17.heap.size := by have := T16.size; omega
    clear c6_16_0 c6_16_1 c6_16_2 c6_16_3 c6_16_4 c6_16_5
    clear r6
    have r6 := rr16
    have O6 := oo16
    have c6_17_0 := ((Blk.only (Blk.keep (Blk.only (Blk.only (Blk.keep (Blk.keep (Blk.keep (Blk.keep HB6.out T9) T10) T11) T12) T13 (fun hm => by have := L4 _ hm; omega)) T14 (fun hm => by have := L5 _ hm; omega)) T15) T16 (fun hm => by have := L6 _ hm; omega))).cell 0 rfl
    have c6_17_1 := ((Blk.only (Blk.keep (Blk.only (Blk.only (Blk.keep (Blk.keep (Blk.keep (Blk.keep HB6.out T9) T10) T11) T12) T13 (fun hm => by have := L4 _ hm; omega)) T14 (fun hm => by have := L5 _ hm; omega)) T15) T16 (fun hm => by have := L6 _ hm; omega))).cell 1 rfl
    have c6_17_2 := ((Blk.only (Blk.keep (Blk.only (Blk.only (Blk.keep (Blk.keep (Blk.keep (Blk.keep HB6.out T9) T10) T11) T12) T13 (fun hm => by have := L4 _ hm; omega)) T14 (fun hm => by have := L5 _ hm; omega)) T15) T16 (fun hm => by have := L6 _ hm; omega))).cell 2 rfl
    have c6_17_3 := ((Blk.only (Blk.keep (Blk.only (Blk.only (Blk.keep (Blk.keep (Blk.keep (Blk.keep HB6.out T9) T10) T11) T12) T13 (fun hm => by have := L4 _ hm; omega)) T14 (fun hm => by have := L5 _ hm; omega)) T15) T16 (fun hm => by have := L6 _ hm; omega))).cell 3 rfl
    have c6_17_4 := ((Blk.only (Blk.keep (Blk.only (Blk.only (Blk.keep (Blk.keep (Blk.keep (Blk.keep HB6.out T9) T10) T11) T12) T13 (fun hm => by have := L4 _ hm; omega)) T14 (fun hm => by have := L5 _ hm; omega)) T15) T16 (fun hm => by have := L6 _ hm; omega))).cell 4 rfl
    have c6_17_5 := ((Blk.only (Blk.keep (Blk.only (Blk.only (Blk.keep (Blk.keep (Blk.keep (Blk.keep HB6.out T9) T10) T11) T12) T13 (fun hm => by have := L4 _ hm; omega)) T14 (fun hm => by have := L5 _ hm; omega)) T15) T16 (fun hm => by have := L6 _ hm; omega))).cell 5 rfl
    have h17 : heldV (1) (Mk.mark (1) (crashF aP aJ aKept).1) = 1 + (Mk.cnt (crashF aP aJ aKept).1 : Nat) := heldV_mark (1) (crashF aP aJ aKept).1
    have m17 : (1 : Int) + (Mk.cnt (Mk.mark (1) (crashF aP aJ aKept).1) : Nat) ≤ 4611686018427387904 := by rw [MkL.cnt]; omega
    go_wp2_with fail
    with_reducible refine (heldFillJob_any [.slice A60x0 (crashF aP aJ aKept).1.table.tracked.length C60x0, .slice A60x1 (crashF aP aJ aKept).1.table.patterns.length C60x1, .slice A60x2 (crashF aP aJ aKept).1.table.distances.length C60x2, .int .i64 (crashF aP aJ aKept).1.next, .string (crashF aP aJ aKept).1.log, .int .i64 (crashF aP aJ aKept).1.synced] (Mk.mark (1) (crashF aP aJ aKept).1) _ (1) _ r6 (by omega) m17).mono ?_
    rintro e w18 ⟨rfl, t17⟩
    have T17 : Only [] w17 w18 := t17
    have S17 : w17.heap.size + 0 ≤ w18.heap.size := by have := T17.size; omega
    clear c6_17_0 c6_17_1 c6_17_2 c6_17_3 c6_17_4 c6_17_5
    have HBP_18 := Lib.hid ((Blk.keep (Blk.only (Blk.keep (Blk.only (Blk.only (Blk.keep (Blk.keep (Blk.keep (Blk.keep (Blk.keep (Blk.keep (Blk.keep (Blk.keep (Blk.keep (Blk.keep (Blk.keep (Blk.keep HBaP.out T1) T2) T3) T4) T5) T6) T7) T8) T9) T10) T11) T12) T13 (fun hm => by have := G4 _ hm; have := LBaP; omega)) T14 (fun hm => by have := G5 _ hm; have := LBaP; omega)) T15) T16 (fun hm => by have := G6 _ hm; have := LBaP; omega)) T17))
    have HBJ_18 := Lib.hid (Blk.keep (Blk.only (Blk.keep (Blk.only (Blk.only (Blk.keep (Blk.keep (Blk.keep (Blk.keep (Blk.keep (Blk.keep (Blk.keep (Blk.keep (Blk.keep (Blk.keep (Blk.keep (Blk.keep HBaJ.out T1) T2) T3) T4) T5) T6) T7) T8) T9) T10) T11) T12) T13 (fun hm => by have := G4 _ hm; have := LBaJ; omega)) T14 (fun hm => by have := G5 _ hm; have := LBaJ; omega)) T15) T16 (fun hm => by have := G6 _ hm; have := LBaJ; omega)) T17)
    have P0_w18 := (Blk.keep HBP_18.out (Only.refl _ _ : Only [] w18 w18)).cell 0 rfl
    have P1_w18 := (Blk.keep HBP_18.out (Only.refl _ _ : Only [] w18 w18)).cell 1 rfl
    have P2_w18 := (Blk.keep HBP_18.out (Only.refl _ _ : Only [] w18 w18)).cell 2 rfl
    have a_Pw18 := (Only.refl [] w18).alloc (.cells #[.slice none 0 0, .slice none 0 0, .slice none 0 0, .int .i64 0, .string ⟨#[]⟩, .int .i64 0] 34)
    have Px0_w18 := a_Pw18.cell (by simp) P0_w18
    have Px1_w18 := a_Pw18.cell (by simp) P1_w18
    have Px2_w18 := a_Pw18.cell (by simp) P2_w18
    have J0_w18 := (Blk.keep HBJ_18.out (Only.refl _ _ : Only [] w18 w18)).cell 0 rfl
    have J1_w18 := (Blk.keep HBJ_18.out (Only.refl _ _ : Only [] w18 w18)).cell 1 rfl
    have J2_w18 := (Blk.keep HBJ_18.out (Only.refl _ _ : Only [] w18 w18)).cell 2 rfl
    have J3_w18 := (Blk.keep HBJ_18.out (Only.refl _ _ : Only [] w18 w18)).cell 3 rfl
    have J4_w18 := (Blk.keep HBJ_18.out (Only.refl _ _ : Only [] w18 w18)).cell 4 rfl
    have J5_w18 := (Blk.keep HBJ_18.out (Only.refl _ _ : Only [] w18 w18)).cell 5 rfl
    have a_Jw18 := (Only.refl [] w18).alloc (.cells #[.slice none 0 0, .slice none 0 0, .slice none 0 0, .int .i64 0, .string ⟨#[]⟩, .int .i64 0] 34)
    have Jx0_w18 := a_Jw18.cell (by simp) J0_w18
    have Jx1_w18 := a_Jw18.cell (by simp) J1_w18
    have Jx2_w18 := a_Jw18.cell (by simp) J2_w18
    have Jx3_w18 := a_Jw18.cell (by simp) J3_w18
    have Jx4_w18 := a_Jw18.cell (by simp) J4_w18
    have Jx5_w18 := a_Jw18.cell (by simp) J5_w18
    have HP := Lib.hid (fun (W : World) (hh : Only [] w18 W) => toPuzzle_any [.int .i64 aP.points, .string aP.names, .slice AaP2 aP.moves.length CaP2] aP _ W (Rp.keep (Rp.keep (Rp.only (Rp.keep (Rp.only (Rp.only (Rp.keep (Rp.keep (Rp.keep (Rp.keep (Rp.keep (Rp.keep (Rp.keep (Rp.keep (Rp.keep (Rp.keep (Rp.keep (Rp.keep (Rp.keep raP T0) T1) T2) T3) T4) T5) T6) T7) T8) T9) T10) T11) T12) T13 (fun b hb hm => by have := LaP b hb; have := G4 b hm; omega)) T14 (fun b hb hm => by have := LaP b hb; have := G5 b hm; omega)) T15) T16 (fun b hb hm => by have := LaP b hb; have := G6 b hm; omega)) T17) hh) smaP)
    have HJ := Lib.hid (fun (W : World) (hh : Only [] w18 W) => toFillJob_any [.slice AaJ0x0 aJ.table.tracked.length CaJ0x0, .slice AaJ0x1 aJ.table.patterns.length CaJ0x1, .slice AaJ0x2 aJ.table.distances.length CaJ0x2, .int .i64 aJ.next, .string aJ.log, .int .i64 aJ.synced] aJ _ W (Rp.keep (Rp.keep (Rp.only (Rp.keep (Rp.only (Rp.only (Rp.keep (Rp.keep (Rp.keep (Rp.keep (Rp.keep (Rp.keep (Rp.keep (Rp.keep (Rp.keep (Rp.keep (Rp.keep (Rp.keep (Rp.keep raJ T0) T1) T2) T3) T4) T5) T6) T7) T8) T9) T10) T11) T12) T13 (fun b hb hm => by have := LaJ b hb; have := G4 b hm; omega)) T14 (fun b hb hm => by have := LaJ b hb; have := G5 b hm; omega)) T15) T16 (fun b hb hm => by have := LaJ b hb; have := G6 b hm; omega)) T17) hh) smaJ)
    have hc6 : ([.slice none 0 0, .slice none 0 0, .slice none 0 0, .int .i64 0, .string ⟨#[]⟩, .int .i64 0] : List Value).length = 6 := rfl
    go_upto_region 31 with fail
    go_cut [17, 18] (fun s8 s9 wx => FK1 w18 wx s8 s9 (crashF aP aJ aKept))
    case first =>
      go_region_law (first
        | (go_simp; go_at_call 7; (with_reducible refine (HP.out _ (by with_reducible repeat (first | exact Only.refl _ _ | assumption | refine Only.drewN ?_ _ | refine Only.drew ?_ | refine Only.alloc ?_ _ | refine Only.trans ?_ (by assumption)))).mono ?_); rintro e wA ⟨uA, fA, rfl, rA, FA, tA⟩; have J0_wA := (Blk.keep HBJ_18.out ((by with_reducible repeat (first | exact Only.refl _ _ | assumption | refine Only.drewN ?_ _ | refine Only.drew ?_ | refine Only.alloc ?_ _ | refine Only.trans ?_ (by assumption))) : Only [] w18 wA)).cell 0 rfl; have J1_wA := (Blk.keep HBJ_18.out ((by with_reducible repeat (first | exact Only.refl _ _ | assumption | refine Only.drewN ?_ _ | refine Only.drew ?_ | refine Only.alloc ?_ _ | refine Only.trans ?_ (by assumption))) : Only [] w18 wA)).cell 1 rfl; have J2_wA := (Blk.keep HBJ_18.out ((by with_reducible repeat (first | exact Only.refl _ _ | assumption | refine Only.drewN ?_ _ | refine Only.drew ?_ | refine Only.alloc ?_ _ | refine Only.trans ?_ (by assumption))) : Only [] w18 wA)).cell 2 rfl; have J3_wA := (Blk.keep HBJ_18.out ((by with_reducible repeat (first | exact Only.refl _ _ | assumption | refine Only.drewN ?_ _ | refine Only.drew ?_ | refine Only.alloc ?_ _ | refine Only.trans ?_ (by assumption))) : Only [] w18 wA)).cell 3 rfl; have J4_wA := (Blk.keep HBJ_18.out ((by with_reducible repeat (first | exact Only.refl _ _ | assumption | refine Only.drewN ?_ _ | refine Only.drew ?_ | refine Only.alloc ?_ _ | refine Only.trans ?_ (by assumption))) : Only [] w18 wA)).cell 4 rfl; have J5_wA := (Blk.keep HBJ_18.out ((by with_reducible repeat (first | exact Only.refl _ _ | assumption | refine Only.drewN ?_ _ | refine Only.drew ?_ | refine Only.alloc ?_ _ | refine Only.trans ?_ (by assumption))) : Only [] w18 wA)).cell 5 rfl; have a_JwA := (Only.refl [] wA).alloc (.cells #[.slice none 0 0, .slice none 0 0, .slice none 0 0, .int .i64 0, .string ⟨#[]⟩, .int .i64 0] 34); have Jx0_wA := a_JwA.cell (by simp) J0_wA; have Jx1_wA := a_JwA.cell (by simp) J1_wA; have Jx2_wA := a_JwA.cell (by simp) J2_wA; have Jx3_wA := a_JwA.cell (by simp) J3_wA; have Jx4_wA := a_JwA.cell (by simp) J4_wA; have Jx5_wA := a_JwA.cell (by simp) J5_wA)
        | (go_simp; go_at_call 8; (with_reducible refine (HJ.out _ (by with_reducible repeat (first | exact Only.refl _ _ | assumption | refine Only.drewN ?_ _ | refine Only.drew ?_ | refine Only.alloc ?_ _ | refine Only.trans ?_ (by assumption)))).mono ?_); rintro e wB ⟨uB, fB, rfl, rB, FB, tB⟩)
        | (go_simp; go_at_call 9; (with_reducible refine (implCrashFill_any uA uB aP aJ aKept _ _ _ (Rp.keep rA (by with_reducible repeat (first | exact Only.refl _ _ | assumption | refine Only.drewN ?_ _ | refine Only.drew ?_ | refine Only.alloc ?_ _ | refine Only.trans ?_ (by assumption)))) (Rp.keep rB (by with_reducible repeat (first | exact Only.refl _ _ | assumption | refine Only.drewN ?_ _ | refine Only.drew ?_ | refine Only.alloc ?_ _ | refine Only.trans ?_ (by assumption)))) iaKept (sm_fill smaJ)).mono ?_); rintro e wE ⟨uE, fE, rfl, rE, FE, tE⟩; have q0 := rE; obtain ⟨d0, rfl, i1, i2, i3, q1⟩ := q0; obtain ⟨x0, x1, x2, y0, y1, y2, rfl, hfe, m0, m1, m2⟩ := q1; obtain ⟨D0, E0, _, _, rfl, -⟩ := m0.open_; obtain ⟨D1, E1, _, _, rfl, -⟩ := m1.open_; obtain ⟨D2, E2, _, _, rfl, -⟩ := m2.open_; have FEw : Fresh w18.heap.size wE fE := FE.mono (by have hh := Only.size ((by with_reducible repeat (first | exact Only.refl _ _ | assumption | refine Only.drewN ?_ _ | refine Only.drew ?_ | refine Only.alloc ?_ _ | refine Only.trans ?_ (by assumption))) : Only [] w18 wB); (try simp); omega); (first
          | (have zq : Only [] (w18.alloc (.cells #[.slice none 0 0, .slice none 0 0, .slice none 0 0, .int .i64 0, .string ⟨#[]⟩, .int .i64 0] 34)) wE := ?zq; (case zq => with_reducible repeat (first | exact Only.refl _ _ | assumption | refine Only.drewN ?_ _ | refine Only.drew ?_ | refine Only.alloc ?_ _ | refine Only.trans ?_ (by assumption))); have Z := Blk.keep (Blk.new w18 [.slice none 0 0, .slice none 0 0, .slice none 0 0, .int .i64 0, .string ⟨#[]⟩, .int .i64 0] 34) zq; have zg : w18.heap.size ≤ w18.heap.size := Only.size ((by with_reducible repeat (first | exact Only.refl _ _ | assumption | refine Only.drewN ?_ _ | refine Only.drew ?_ | refine Only.alloc ?_ _ | refine Only.trans ?_ (by assumption))) : Only [] w18 w18); have zf : w18.heap.size ∉ fE := ?zf; (case zf => (intro hm; have h1 := FE.ge _ hm; have h2 := tA.size; have h3 := tB.size; (try simp at h1); (try simp at h2); (try simp at h3); omega)))
          | (have zq : Only [] (wA.alloc (.cells #[.slice none 0 0, .slice none 0 0, .slice none 0 0, .int .i64 0, .string ⟨#[]⟩, .int .i64 0] 34)) wE := ?zq; (case zq => with_reducible repeat (first | exact Only.refl _ _ | assumption | refine Only.drewN ?_ _ | refine Only.drew ?_ | refine Only.alloc ?_ _ | refine Only.trans ?_ (by assumption))); have Z := Blk.keep (Blk.new wA [.slice none 0 0, .slice none 0 0, .slice none 0 0, .int .i64 0, .string ⟨#[]⟩, .int .i64 0] 34) zq; have zg : w18.heap.size ≤ wA.heap.size := Only.size ((by with_reducible repeat (first | exact Only.refl _ _ | assumption | refine Only.drewN ?_ _ | refine Only.drew ?_ | refine Only.alloc ?_ _ | refine Only.trans ?_ (by assumption))) : Only [] w18 wA); have zf : wA.heap.size ∉ fE := ?zf; (case zf => (intro hm; have h1 := FE.ge _ hm; have h2 := tA.size; have h3 := tB.size; (try simp at h1); (try simp at h2); (try simp at h3); omega)))
          | (have zq : Only [] (wB.alloc (.cells #[.slice none 0 0, .slice none 0 0, .slice none 0 0, .int .i64 0, .string ⟨#[]⟩, .int .i64 0] 34)) wE := ?zq; (case zq => with_reducible repeat (first | exact Only.refl _ _ | assumption | refine Only.drewN ?_ _ | refine Only.drew ?_ | refine Only.alloc ?_ _ | refine Only.trans ?_ (by assumption))); have Z := Blk.keep (Blk.new wB [.slice none 0 0, .slice none 0 0, .slice none 0 0, .int .i64 0, .string ⟨#[]⟩, .int .i64 0] 34) zq; have zg : w18.heap.size ≤ wB.heap.size := Only.size ((by with_reducible repeat (first | exact Only.refl _ _ | assumption | refine Only.drewN ?_ _ | refine Only.drew ?_ | refine Only.alloc ?_ _ | refine Only.trans ?_ (by assumption))) : Only [] w18 wB); have zf : wB.heap.size ∉ fE := ?zf; (case zf => (intro hm; have h1 := FE.ge _ hm; have h2 := tA.size; have h3 := tB.size; (try simp at h1); (try simp at h2); (try simp at h3); omega)))
          | (have Z := Blk.new wE [.slice none 0 0, .slice none 0 0, .slice none 0 0, .int .i64 0, .string ⟨#[]⟩, .int .i64 0] 34; have zg : w18.heap.size ≤ wE.heap.size := Only.size ((by with_reducible repeat (first | exact Only.refl _ _ | assumption | refine Only.drewN ?_ _ | refine Only.drew ?_ | refine Only.alloc ?_ _ | refine Only.trans ?_ (by assumption))) : Only [] w18 wE); have zf : wE.heap.size ∉ fE := (fun hm => by have := FE.lt _ hm; omega))); have g0 := Z.cell 0 rfl; have g1 := Z.cell 1 rfl; have g2 := Z.cell 2 rfl; have g3 := Z.cell 3 rfl; have g4 := Z.cell 4 rfl; have g5 := Z.cell 5 rfl; have p0 := Z.frozen 0; have p1 := Z.frozen 1; have p2 := Z.frozen 2; have p3 := Z.frozen 3; have p4 := Z.frozen 4; have p5 := Z.frozen 5)
        | fail "no arm")
      all_goals go_wp2_with fail
      all_goals go_meet
      all_goals have KK : Only [] w18 wE := (by with_reducible repeat (first | exact Only.refl _ _ | assumption | refine Only.drewN ?_ _ | refine Only.drew ?_ | refine Only.alloc ?_ _ | refine Only.trans ?_ (by assumption)))
      all_goals first
        | with_reducible exact FK1.of2 KK rE FEw rfl
        | with_reducible exact FK1.of Z hc6 (KK.alloc _) (Rp.keep rE ((Only.refl [] wE).alloc _)) (FEw.keep ((Only.refl [] wE).alloc _)) zf zg
        | with_reducible exact FK1.of Z hc6 KK rE FEw zf zg
    case rest =>
      obtain ⟨w21, hnew⟩ : ∃ W, W = wc := ⟨_, rfl⟩
      subst hnew
      obtain ⟨gx11, A110x0, C110x0, A110x1, C110x1, A110x2, C110x2, f11, hgx11, rfl, rfl, Bc11, r11, F11, t20⟩ := hcut
      have T18 : Only [] w18 w18 := Only.refl _ _
      have T19 : Only [] w18 w18 := Only.refl _ _
      have T20 : Only [] w18 w21 := t20
      have S20 : w18.heap.size + 0 ≤ w21.heap.size := by have := T20.size; omega
      have L11 := Rp.lt r11
      have G11 : ∀ b ∈ f11, w18.heap.size ≤ b := fun b hb => F11.ge b hb
      have Lgx11 := Bc11.lt
      clear HP HJ hc6
      have cx11_0 := Bc11.cell 0 rfl
      have cx11_1 := Bc11.cell 1 rfl
      have cx11_2 := Bc11.cell 2 rfl
      have cx11_3 := Bc11.cell 3 rfl
      have cx11_4 := Bc11.cell 4 rfl
      have cx11_5 := Bc11.cell 5 rfl
      have c3_21_0 := (((Blk.keep (Blk.keep (Blk.keep (Blk.keep (Blk.only (Blk.keep (Blk.only (Blk.only (Blk.keep (Blk.keep (Blk.keep (Blk.keep (Blk.keep (Blk.keep (Blk.keep HB3.out T6) T7) T8) T9) T10) T11) T12) T13 (fun hm => by have := G4 _ hm; have := LB3; omega)) T14 (fun hm => by have := G5 _ hm; have := LB3; omega)) T15) T16 (fun hm => by have := G6 _ hm; have := LB3; omega)) T17) T18) T19) T20)).cell 0 rfl)
      have c3_21_1 := (((Blk.keep (Blk.keep (Blk.keep (Blk.keep (Blk.only (Blk.keep (Blk.only (Blk.only (Blk.keep (Blk.keep (Blk.keep (Blk.keep (Blk.keep (Blk.keep (Blk.keep HB3.out T6) T7) T8) T9) T10) T11) T12) T13 (fun hm => by have := G4 _ hm; have := LB3; omega)) T14 (fun hm => by have := G5 _ hm; have := LB3; omega)) T15) T16 (fun hm => by have := G6 _ hm; have := LB3; omega)) T17) T18) T19) T20)).cell 1 rfl)
      have c3_21_2 := (((Blk.keep (Blk.keep (Blk.keep (Blk.keep (Blk.only (Blk.keep (Blk.only (Blk.only (Blk.keep (Blk.keep (Blk.keep (Blk.keep (Blk.keep (Blk.keep (Blk.keep HB3.out T6) T7) T8) T9) T10) T11) T12) T13 (fun hm => by have := G4 _ hm; have := LB3; omega)) T14 (fun hm => by have := G5 _ hm; have := LB3; omega)) T15) T16 (fun hm => by have := G6 _ hm; have := LB3; omega)) T17) T18) T19) T20)).cell 2 rfl)
      have c3_21_3 := (((Blk.keep (Blk.keep (Blk.keep (Blk.keep (Blk.only (Blk.keep (Blk.only (Blk.only (Blk.keep (Blk.keep (Blk.keep (Blk.keep (Blk.keep (Blk.keep (Blk.keep HB3.out T6) T7) T8) T9) T10) T11) T12) T13 (fun hm => by have := G4 _ hm; have := LB3; omega)) T14 (fun hm => by have := G5 _ hm; have := LB3; omega)) T15) T16 (fun hm => by have := G6 _ hm; have := LB3; omega)) T17) T18) T19) T20)).cell 3 rfl)
      have c3_21_4 := (((Blk.keep (Blk.keep (Blk.keep (Blk.keep (Blk.only (Blk.keep (Blk.only (Blk.only (Blk.keep (Blk.keep (Blk.keep (Blk.keep (Blk.keep (Blk.keep (Blk.keep HB3.out T6) T7) T8) T9) T10) T11) T12) T13 (fun hm => by have := G4 _ hm; have := LB3; omega)) T14 (fun hm => by have := G5 _ hm; have := LB3; omega)) T15) T16 (fun hm => by have := G6 _ hm; have := LB3; omega)) T17) T18) T19) T20)).cell 4 rfl)
      have c3_21_5 := (((Blk.keep (Blk.keep (Blk.keep (Blk.keep (Blk.only (Blk.keep (Blk.only (Blk.only (Blk.keep (Blk.keep (Blk.keep (Blk.keep (Blk.keep (Blk.keep (Blk.keep HB3.out T6) T7) T8) T9) T10) T11) T12) T13 (fun hm => by have := G4 _ hm; have := LB3; omega)) T14 (fun hm => by have := G5 _ hm; have := LB3; omega)) T15) T16 (fun hm => by have := G6 _ hm; have := LB3; omega)) T17) T18) T19) T20)).cell 5 rfl)
      have e21 : eqV (crashF aP aJ aKept).1 (crashF aP aJ aKept).1 = true := eqV_yes rfl
      go_wp2_with fail
      with_reducible refine (eqFillJob_any [.slice A110x0 (crashF aP aJ aKept).1.table.tracked.length C110x0, .slice A110x1 (crashF aP aJ aKept).1.table.patterns.length C110x1, .slice A110x2 (crashF aP aJ aKept).1.table.distances.length C110x2, .int .i64 (crashF aP aJ aKept).1.next, .string (crashF aP aJ aKept).1.log, .int .i64 (crashF aP aJ aKept).1.synced] [.slice A30x0 (crashF aP aJ aKept).1.table.tracked.length C30x0, .slice A30x1 (crashF aP aJ aKept).1.table.patterns.length C30x1, .slice A30x2 (crashF aP aJ aKept).1.table.distances.length C30x2, .int .i64 (crashF aP aJ aKept).1.next, .string (crashF aP aJ aKept).1.log, .int .i64 (crashF aP aJ aKept).1.synced] (crashF aP aJ aKept).1 (crashF aP aJ aKept).1 _ _ _ r11 (Rp.keep (Rp.keep (Rp.keep (Rp.keep (Rp.only (Rp.keep (Rp.only (Rp.only (Rp.keep (Rp.keep (Rp.keep (Rp.keep (Rp.keep (Rp.keep (Rp.keep (Rp.keep r3 T5) T6) T7) T8) T9) T10) T11) T12) T13 (fun b hb hm => by have := L3 b hb; have := G4 b hm; omega)) T14 (fun b hb hm => by have := L3 b hb; have := G5 b hm; omega)) T15) T16 (fun b hb hm => by have := L3 b hb; have := G6 b hm; omega)) T17) T18) T19) T20)).mono ?_
      rintro e w22 ⟨rfl, t21⟩
      have T21 : Only [] w21 w22 := t21
      have S21 : w21.heap.size + 0 ≤ w22.heap.size := by have := t21.size; omega
      have B11 : Blk w22 gx11 [.slice A110x0 (crashF aP aJ aKept).1.table.tracked.length C110x0, .slice A110x1 (crashF aP aJ aKept).1.table.patterns.length C110x1, .slice A110x2 (crashF aP aJ aKept).1.table.distances.length C110x2, .int .i64 (crashF aP aJ aKept).1.next, .string (crashF aP aJ aKept).1.log, .int .i64 (crashF aP aJ aKept).1.synced] := (Blk.keep Bc11 t21)
      have LB11 : gx11 < w22.heap.size := B11.lt
      have HB11 := Lib.hid B11; clear B11
      clear c3_21_0 c3_21_1 c3_21_2 c3_21_3 c3_21_4 c3_21_5
      have c6_22_0 := ((Blk.keep (Blk.keep (Blk.keep (Blk.keep (Blk.keep (Blk.only (Blk.keep (Blk.only (Blk.only (Blk.keep (Blk.keep (Blk.keep (Blk.keep HB6.out T9) T10) T11) T12) T13 (fun hm => by have := L4 _ hm; omega)) T14 (fun hm => by have := L5 _ hm; omega)) T15) T16 (fun hm => by have := L6 _ hm; omega)) T17) T18) T19) T20) T21)).cell 0 rfl
      have c6_22_1 := ((Blk.keep (Blk.keep (Blk.keep (Blk.keep (Blk.keep (Blk.only (Blk.keep (Blk.only (Blk.only (Blk.keep (Blk.keep (Blk.keep (Blk.keep HB6.out T9) T10) T11) T12) T13 (fun hm => by have := L4 _ hm; omega)) T14 (fun hm => by have := L5 _ hm; omega)) T15) T16 (fun hm => by have := L6 _ hm; omega)) T17) T18) T19) T20) T21)).cell 1 rfl
      have c6_22_2 := ((Blk.keep (Blk.keep (Blk.keep (Blk.keep (Blk.keep (Blk.only (Blk.keep (Blk.only (Blk.only (Blk.keep (Blk.keep (Blk.keep (Blk.keep HB6.out T9) T10) T11) T12) T13 (fun hm => by have := L4 _ hm; omega)) T14 (fun hm => by have := L5 _ hm; omega)) T15) T16 (fun hm => by have := L6 _ hm; omega)) T17) T18) T19) T20) T21)).cell 2 rfl
      have c6_22_3 := ((Blk.keep (Blk.keep (Blk.keep (Blk.keep (Blk.keep (Blk.only (Blk.keep (Blk.only (Blk.only (Blk.keep (Blk.keep (Blk.keep (Blk.keep HB6.out T9) T10) T11) T12) T13 (fun hm => by have := L4 _ hm; omega)) T14 (fun hm => by have := L5 _ hm; omega)) T15) T16 (fun hm => by have := L6 _ hm; omega)) T17) T18) T19) T20) T21)).cell 3 rfl
      have c6_22_4 := ((Blk.keep (Blk.keep (Blk.keep (Blk.keep (Blk.keep (Blk.only (Blk.keep (Blk.only (Blk.only (Blk.keep (Blk.keep (Blk.keep (Blk.keep HB6.out T9) T10) T11) T12) T13 (fun hm => by have := L4 _ hm; omega)) T14 (fun hm => by have := L5 _ hm; omega)) T15) T16 (fun hm => by have := L6 _ hm; omega)) T17) T18) T19) T20) T21)).cell 4 rfl
      have c6_22_5 := ((Blk.keep (Blk.keep (Blk.keep (Blk.keep (Blk.keep (Blk.only (Blk.keep (Blk.only (Blk.only (Blk.keep (Blk.keep (Blk.keep (Blk.keep HB6.out T9) T10) T11) T12) T13 (fun hm => by have := L4 _ hm; omega)) T14 (fun hm => by have := L5 _ hm; omega)) T15) T16 (fun hm => by have := L6 _ hm; omega)) T17) T18) T19) T20) T21)).cell 5 rfl
      have h22 : heldV (1) (Mk.mark (1) (crashF aP aJ aKept).1) = 1 + (Mk.cnt (crashF aP aJ aKept).1 : Nat) := heldV_mark (1) (crashF aP aJ aKept).1
      have m22 : (1 : Int) + (Mk.cnt (Mk.mark (1) (crashF aP aJ aKept).1) : Nat) ≤ 4611686018427387904 := by rw [MkL.cnt]; omega
      go_wp2_with fail
      with_reducible refine (heldFillJob_any [.slice A60x0 (crashF aP aJ aKept).1.table.tracked.length C60x0, .slice A60x1 (crashF aP aJ aKept).1.table.patterns.length C60x1, .slice A60x2 (crashF aP aJ aKept).1.table.distances.length C60x2, .int .i64 (crashF aP aJ aKept).1.next, .string (crashF aP aJ aKept).1.log, .int .i64 (crashF aP aJ aKept).1.synced] (Mk.mark (1) (crashF aP aJ aKept).1) _ (1) _ (Rp.keep (Rp.keep (Rp.keep (Rp.keep (Rp.keep r6 T17) T18) T19) T20) T21) (by omega) m22).mono ?_
      rintro e w23 ⟨rfl, t22⟩
      have T22 : Only [] w22 w23 := t22
      have S22 : w22.heap.size + 0 ≤ w23.heap.size := by have := T22.size; omega
      clear c6_22_0 c6_22_1 c6_22_2 c6_22_3 c6_22_4 c6_22_5
      go_wp2
      go_ret
      refine ⟨rfl, ?_⟩
      exact (Only.keepThen (Only.keepThen (Only.keepThen (Only.keepThen (Only.keepThen (Only.keepThen (Only.then_ (Only.keepThen (Only.then_ (Only.then_ (Only.keepThen (Only.keepThen (Only.keepThen (Only.keepThen (Only.keepThen (Only.keepThen (Only.keepThen (Only.keepThen (Only.keepThen (Only.keepThen (Only.keepThen (Only.keepThen T0 T1) T2) T3) T4) T5) T6) T7) T8) T9) T10) T11) T12) T13 (fun b hb hl => by have := G4 b hb; omega)) T14 (fun b hb hl => by have := G5 b hb; omega)) T15) T16 (fun b hb hl => by have := G6 b hb; omega)) T17) T18) T19) T20) T21) T22)
end Go.Proofs.YtkhdmiemfpelcaaGreat
