/- The law on IsCorrectTable: its walk. (Printed by gen_exact.py.) -/
import Derived.Test.YtmilmbgnkpkmnaaImplFaults
import Derived.Test.YtmilmbgnkpkmnaaExact
import Derived.Deep.RegionHeld3
import Derived.Deep.DeepCutAuto
namespace Go.Proofs.Ytmilmbgnkpkmnaa
open Go.RowKit
set_option maxRecDepth 10000

set_option maxHeartbeats 4000000 in
theorem FnExactIsCorrectTable_any (w : World) (caP : List Value) (aP : Puzzle) (faP : List Nat) (raP : Rp.rep w caP aP faP) (caT : List Value) (aT : Table) (faT : List Nat) (raT : Rp.rep w caT aT faT) :
    Calls Try.prog 7 #[.agg caP.toArray, .agg caT.toArray] w fun e w' => e = .returned (.bool true) ∧ Only [] w w' := by
  have qaP := raP
  obtain ⟨uaP2, rfl, -, -, zaP2⟩ := qaP
  obtain ⟨AaP2, CaP2, _, _, rfl, -⟩ := zaP2.open_
  have LaP := Rp.lt raP
  have qaT := raT
  obtain ⟨uaT0, uaT1, uaT2, _, _, _, rfl, -, zaT0, zaT1, zaT2⟩ := qaT
  obtain ⟨AaT0, CaT0, _, _, rfl, -⟩ := zaT0.open_
  obtain ⟨AaT1, CaT1, _, _, rfl, -⟩ := zaT1.open_
  obtain ⟨AaT2, CaT2, _, _, rfl, -⟩ := zaT2.open_
  have LaT := Rp.lt raT
  rcases szV_cases (1048576) aP with ⟨esaP, msaP⟩ | ⟨esaP, psaP, msaP⟩
  · go_enter Try.func7, Try.ntmps7
    go_wp2_with (with_reducible refine (szPuzzle_any [.int .i64 aP.points, .string aP.names, .slice AaP2 aP.moves.length CaP2] aP _ (1048576) _ (Rp.keep raP (((Only.refl [] _).alloc (.cells #[.int .i64 aP.points, .string aP.names, .slice AaP2 aP.moves.length CaP2] 24)).alloc (.cells #[.slice AaT0 aT.tracked.length CaT0, .slice AaT1 aT.patterns.length CaT1, .slice AaT2 aT.distances.length CaT2] 39))) (by omega) (by omega)).mono ?_; rintro e w1 ⟨rfl, t0⟩)
    go_ret
    exact ⟨rfl, (by with_reducible repeat (first | exact Only.refl _ _ | assumption | refine Only.drewN ?_ _ | refine Only.drew ?_ | refine Only.alloc ?_ _ | refine Only.setCell ?_ (by intro hh; exfalso; simp at hh; try omega) _ | refine Only.trans ?_ (by assumption)))⟩
  have smaP : Sm.sm aP := SzSm.of_ _ (by omega)
  have csaP : Mk.cnt aP ≤ 1048576 := Nat.le_trans (CntSz.le aP) (by omega)
  rcases szV_cases (1048576 - (Sz.sz aP : Nat)) aT with ⟨esaT, msaT⟩ | ⟨esaT, psaT, msaT⟩
  · go_enter Try.func7, Try.ntmps7
    go_wp2_with fail
    with_reducible refine (szPuzzle_any [.int .i64 aP.points, .string aP.names, .slice AaP2 aP.moves.length CaP2] aP _ (1048576) _ (Rp.keep raP (((Only.refl [] _).alloc (.cells #[.int .i64 aP.points, .string aP.names, .slice AaP2 aP.moves.length CaP2] 24)).alloc (.cells #[.slice AaT0 aT.tracked.length CaT0, .slice AaT1 aT.patterns.length CaT1, .slice AaT2 aT.distances.length CaT2] 39))) (by omega) (by omega)).mono ?_
    rintro e w1 ⟨rfl, t0⟩
    rw [esaP]
    have T0 : Only [] w w1 := (((Only.refl [] _).alloc (.cells #[.int .i64 aP.points, .string aP.names, .slice AaP2 aP.moves.length CaP2] 24)).alloc (.cells #[.slice AaT0 aT.tracked.length CaT0, .slice AaT1 aT.patterns.length CaT1, .slice AaT2 aT.distances.length CaT2] 39)).trans t0
    have S0 : w.heap.size + 2 ≤ w1.heap.size := by have := t0.size; simp at this; omega
    have BaP : Blk w1 w.heap.size [.int .i64 aP.points, .string aP.names, .slice AaP2 aP.moves.length CaP2] := (Blk.keep (Blk.keep (Blk.new_at (by simp)) ((Only.refl _ _).alloc _)) t0)
    have LBaP : w.heap.size < w1.heap.size := BaP.lt
    have HBaP := Lib.hid BaP; clear BaP
    have BaT : Blk w1 (w.heap.size + 1) [.slice AaT0 aT.tracked.length CaT0, .slice AaT1 aT.patterns.length CaT1, .slice AaT2 aT.distances.length CaT2] := (Blk.keep (Blk.new_at (by simp)) t0)
    have LBaT : (w.heap.size + 1) < w1.heap.size := BaT.lt
    have HBaT := Lib.hid BaT; clear BaT
    have caT_1_0 := (HBaT.out).cell 0 rfl
    have caT_1_1 := (HBaT.out).cell 1 rfl
    have caT_1_2 := (HBaT.out).cell 2 rfl
    go_wp2_with (with_reducible refine (szTable_any [.slice AaT0 aT.tracked.length CaT0, .slice AaT1 aT.patterns.length CaT1, .slice AaT2 aT.distances.length CaT2] aT _ (1048576 - (Sz.sz aP : Nat)) _ (Rp.keep raT T0) (by omega) (by omega)).mono ?_; rintro e w2 ⟨rfl, t1⟩)
    go_ret
    exact ⟨rfl, (by with_reducible repeat (first | exact Only.refl _ _ | assumption | refine Only.drewN ?_ _ | refine Only.drew ?_ | refine Only.alloc ?_ _ | refine Only.setCell ?_ (by intro hh; exfalso; simp at hh; try omega) _ | refine Only.trans ?_ (by assumption)))⟩
  have smaT : Sm.sm aT := SzSm.of_ _ (by omega)
  have csaT : Mk.cnt aT ≤ 1048576 := Nat.le_trans (CntSz.le aT) (by omega)
  go_enter Try.func7, Try.ntmps7
  go_wp2_with fail
  with_reducible refine (szPuzzle_any [.int .i64 aP.points, .string aP.names, .slice AaP2 aP.moves.length CaP2] aP _ (1048576) _ (Rp.keep raP (((Only.refl [] _).alloc (.cells #[.int .i64 aP.points, .string aP.names, .slice AaP2 aP.moves.length CaP2] 24)).alloc (.cells #[.slice AaT0 aT.tracked.length CaT0, .slice AaT1 aT.patterns.length CaT1, .slice AaT2 aT.distances.length CaT2] 39))) (by omega) (by omega)).mono ?_
  rintro e w1 ⟨rfl, t0⟩
  rw [esaP]
  have T0 : Only [] w w1 := (((Only.refl [] _).alloc (.cells #[.int .i64 aP.points, .string aP.names, .slice AaP2 aP.moves.length CaP2] 24)).alloc (.cells #[.slice AaT0 aT.tracked.length CaT0, .slice AaT1 aT.patterns.length CaT1, .slice AaT2 aT.distances.length CaT2] 39)).trans t0
  have S0 : w.heap.size + 2 ≤ w1.heap.size := by have := t0.size; simp at this; omega
  have BaP : Blk w1 w.heap.size [.int .i64 aP.points, .string aP.names, .slice AaP2 aP.moves.length CaP2] := (Blk.keep (Blk.keep (Blk.new_at (by simp)) ((Only.refl _ _).alloc _)) t0)
  have LBaP : w.heap.size < w1.heap.size := BaP.lt
  have HBaP := Lib.hid BaP; clear BaP
  have BaT : Blk w1 (w.heap.size + 1) [.slice AaT0 aT.tracked.length CaT0, .slice AaT1 aT.patterns.length CaT1, .slice AaT2 aT.distances.length CaT2] := (Blk.keep (Blk.new_at (by simp)) t0)
  have LBaT : (w.heap.size + 1) < w1.heap.size := BaT.lt
  have HBaT := Lib.hid BaT; clear BaT
  have caT_1_0 := (HBaT.out).cell 0 rfl
  have caT_1_1 := (HBaT.out).cell 1 rfl
  have caT_1_2 := (HBaT.out).cell 2 rfl
  go_wp2_with fail
  with_reducible refine (szTable_any [.slice AaT0 aT.tracked.length CaT0, .slice AaT1 aT.patterns.length CaT1, .slice AaT2 aT.distances.length CaT2] aT _ (1048576 - (Sz.sz aP : Nat)) _ (Rp.keep raT T0) (by omega) (by omega)).mono ?_
  rintro e w2 ⟨rfl, t1⟩
  rw [esaT]
  have T1 : Only [] w1 w2 := t1
  have S1 : w1.heap.size + 0 ≤ w2.heap.size := by have := T1.size; omega
  clear caT_1_0 caT_1_1 caT_1_2
  go_upto_region 8 with fail
  go_region_held3 (fun w' => Only [] w2 w' ∧ w'.cell? ⟨w.heap.size, 0, none⟩ = some (.int .i64 aP.points) ∧ w'.cell? ⟨w.heap.size, 1, none⟩ = some (.string aP.names) ∧ w'.cell? ⟨w.heap.size, 2, none⟩ = some (.slice AaP2 aP.moves.length CaP2) ∧ w'.cell? ⟨(w.heap.size + 1), 0, none⟩ = some (.slice AaT0 aT.tracked.length CaT0) ∧ w'.cell? ⟨(w.heap.size + 1), 1, none⟩ = some (.slice AaT1 aT.patterns.length CaT1) ∧ w'.cell? ⟨(w.heap.size + 1), 2, none⟩ = some (.slice AaT2 aT.distances.length CaT2)) ((refine and_of ?_ (fun h__ => ⟨(Blk.keep (Blk.keep HBaP.out T1) h__).cell 0 rfl, (Blk.keep (Blk.keep HBaP.out T1) h__).cell 1 rfl, (Blk.keep (Blk.keep HBaP.out T1) h__).cell 2 rfl, (Blk.keep (Blk.keep HBaT.out T1) h__).cell 0 rfl, (Blk.keep (Blk.keep HBaT.out T1) h__).cell 1 rfl, (Blk.keep (Blk.keep HBaT.out T1) h__).cell 2 rfl⟩); first | exact (Only.refl _ _).drew | exact Only.trans (And.left (by assumption)) (by assumption))) (first
    | (go_at_call 12; (with_reducible refine (toPuzzle_any [.int .i64 aP.points, .string aP.names, .slice AaP2 aP.moves.length CaP2] aP _ _ (Rp.keep (Rp.keep (Rp.keep raP T0) T1) (And.left (by assumption))) smaP).mono ?_); rintro e w3 ⟨u1, f1, rfl, r1, F1, t2⟩)
    | (go_at_call 21; (with_reducible refine (toTable_any [.slice AaT0 aT.tracked.length CaT0, .slice AaT1 aT.patterns.length CaT1, .slice AaT2 aT.distances.length CaT2] aT _ _ (Rp.keep (Rp.keep (Rp.keep raT T0) T1) (And.left (by assumption))) smaT).mono ?_); rintro e w4 ⟨u2, f2, rfl, r2, F2, t3⟩)
    | (go_at_call 37; (with_reducible refine (specIsCorrectTable_any u1 u2 aP aT _ _ _ (Rp.keep r1 (by first | exact Only.refl _ _ | assumption | exact Only.trans (by assumption) (by assumption))) (Rp.keep r2 (by first | exact Only.refl _ _ | assumption | exact Only.trans (by assumption) (by assumption)))).mono ?_); rintro e w5 ⟨rfl, t4⟩)
    | fail "no arm")
  have T2 : Only [] w2 w3 := ((Only.refl _ _).drew).trans t2
  have S2 : w2.heap.size + 0 ≤ w3.heap.size := by have := T2.size; omega
  have L1 := Rp.lt r1
  have G1 : ∀ b ∈ f1, w2.heap.size ≤ b := fun b hb => by have := F1.ge b hb; first | omega | (simp at this; omega)
  have T3 : Only [] w3 w4 := t3
  have S3 : w3.heap.size + 0 ≤ w4.heap.size := by have := T3.size; omega
  have L2 := Rp.lt r2
  have G2 : ∀ b ∈ f2, w3.heap.size ≤ b := fun b hb => by have := F2.ge b hb; first | omega | (simp at this; omega)
  have T4 : Only [] w4 w5 := t4
  have S4 : w4.heap.size + 0 ≤ w5.heap.size := by have := T4.size; omega
  have caP_5_0 := ((Blk.keep (Blk.keep (Blk.keep (Blk.keep HBaP.out T1) T2) T3) T4)).cell 0 rfl
  have caP_5_1 := ((Blk.keep (Blk.keep (Blk.keep (Blk.keep HBaP.out T1) T2) T3) T4)).cell 1 rfl
  have caP_5_2 := ((Blk.keep (Blk.keep (Blk.keep (Blk.keep HBaP.out T1) T2) T3) T4)).cell 2 rfl
  go_wp2_with fail
  with_reducible refine (toPuzzle_any [.int .i64 aP.points, .string aP.names, .slice AaP2 aP.moves.length CaP2] aP _ _ (Rp.keep (Rp.keep (Rp.keep (Rp.keep (Rp.keep raP T0) T1) T2) T3) T4) smaP).mono ?_
  rintro e w6 ⟨u3, f3, rfl, r3, F3, t5⟩
  have T5 : Only [] w5 w6 := t5
  have S5 : w5.heap.size + 0 ≤ w6.heap.size := by have := T5.size; omega
  clear caP_5_0 caP_5_1 caP_5_2
  have q3 := r3
  obtain ⟨u32, rfl, -, -, z32⟩ := q3
  obtain ⟨A32, C32, _, _, rfl, -⟩ := z32.open_
  have L3 := Rp.lt r3
  have G3 : ∀ b ∈ f3, w5.heap.size ≤ b := fun b hb => by have := F3.ge b hb; omega
  have caT_6_0 := ((Only.refl [] _).alloc (.cells #[.int .i64 aP.points, .string aP.names, .slice A32 aP.moves.length C32] 26)).cell (by simp) (((Blk.keep (Blk.keep (Blk.keep (Blk.keep (Blk.keep HBaT.out T1) T2) T3) T4) T5)).cell 0 rfl)
  have caT_6_1 := ((Only.refl [] _).alloc (.cells #[.int .i64 aP.points, .string aP.names, .slice A32 aP.moves.length C32] 26)).cell (by simp) (((Blk.keep (Blk.keep (Blk.keep (Blk.keep (Blk.keep HBaT.out T1) T2) T3) T4) T5)).cell 1 rfl)
  have caT_6_2 := ((Only.refl [] _).alloc (.cells #[.int .i64 aP.points, .string aP.names, .slice A32 aP.moves.length C32] 26)).cell (by simp) (((Blk.keep (Blk.keep (Blk.keep (Blk.keep (Blk.keep HBaT.out T1) T2) T3) T4) T5)).cell 2 rfl)
  go_wp2_with fail
  with_reducible refine (toTable_any [.slice AaT0 aT.tracked.length CaT0, .slice AaT1 aT.patterns.length CaT1, .slice AaT2 aT.distances.length CaT2] aT _ _ (Rp.keep (Rp.keep (Rp.keep (Rp.keep (Rp.keep (Rp.keep (Rp.keep raT T0) T1) T2) T3) T4) T5) ((Only.refl [] _).alloc (.cells #[.int .i64 aP.points, .string aP.names, .slice A32 aP.moves.length C32] 26))) smaT).mono ?_
  rintro e w7 ⟨u4, f4, rfl, r4, F4, t6⟩
  have T6 : Only [] w6 w7 := ((Only.refl [] _).alloc (.cells #[.int .i64 aP.points, .string aP.names, .slice A32 aP.moves.length C32] 26)).trans t6
  have S6 : w6.heap.size + 1 ≤ w7.heap.size := by have := t6.size; simp at this; omega
  have B3 : Blk w7 w6.heap.size [.int .i64 aP.points, .string aP.names, .slice A32 aP.moves.length C32] := (Blk.keep (Blk.new_at (by simp)) t6)
  have LB3 : w6.heap.size < w7.heap.size := B3.lt
  have HB3 := Lib.hid B3; clear B3
  clear caT_6_0 caT_6_1 caT_6_2
  have q4 := r4
  obtain ⟨u40, u41, u42, _, _, _, rfl, -, z40, z41, z42⟩ := q4
  obtain ⟨A40, C40, _, _, rfl, -⟩ := z40.open_
  obtain ⟨A41, C41, _, _, rfl, -⟩ := z41.open_
  obtain ⟨A42, C42, _, _, rfl, -⟩ := z42.open_
  have L4 := Rp.lt r4
  have G4 : ∀ b ∈ f4, w6.heap.size + 1 ≤ b := fun b hb => by have := F4.ge b hb; simp at this; omega
  have c3_7_0 := ((Only.refl [] _).alloc (.cells #[.slice A40 aT.tracked.length C40, .slice A41 aT.patterns.length C41, .slice A42 aT.distances.length C42] 42)).cell (by simp) ((HB3.out).cell 0 rfl)
  have c3_7_1 := ((Only.refl [] _).alloc (.cells #[.slice A40 aT.tracked.length C40, .slice A41 aT.patterns.length C41, .slice A42 aT.distances.length C42] 42)).cell (by simp) ((HB3.out).cell 1 rfl)
  have c3_7_2 := ((Only.refl [] _).alloc (.cells #[.slice A40 aT.tracked.length C40, .slice A41 aT.patterns.length C41, .slice A42 aT.distances.length C42] 42)).cell (by simp) ((HB3.out).cell 2 rfl)
  go_wp2_with fail
  with_reducible refine (implIsCorrectTable_any [.int .i64 aP.points, .string aP.names, .slice A32 aP.moves.length C32] [.slice A40 aT.tracked.length C40, .slice A41 aT.patterns.length C41, .slice A42 aT.distances.length C42] aP aT _ _ _ (Rp.keep (Rp.keep r3 T6) ((Only.refl [] _).alloc (.cells #[.slice A40 aT.tracked.length C40, .slice A41 aT.patterns.length C41, .slice A42 aT.distances.length C42] 42))) (Rp.keep r4 ((Only.refl [] _).alloc (.cells #[.slice A40 aT.tracked.length C40, .slice A41 aT.patterns.length C41, .slice A42 aT.distances.length C42] 42)))).mono ?_
  rintro e w8 ⟨rfl, t7⟩
  have T7 : Only [] w7 w8 := ((Only.refl [] _).alloc (.cells #[.slice A40 aT.tracked.length C40, .slice A41 aT.patterns.length C41, .slice A42 aT.distances.length C42] 42)).trans t7
  have S7 : w7.heap.size + 1 ≤ w8.heap.size := by have := t7.size; simp at this; omega
  have B4 : Blk w8 w7.heap.size [.slice A40 aT.tracked.length C40, .slice A41 aT.patterns.length C41, .slice A42 aT.distances.length C42] := (Blk.keep (Blk.new_at (by simp)) t7)
  have LB4 : w7.heap.size < w8.heap.size := B4.lt
  have HB4 := Lib.hid B4; clear B4
  clear c3_7_0 c3_7_1 c3_7_2
  go_upto_region 14 with fail
  have e9 : eqV aP aP = true := eqV_yes rfl
  go_region_held3 (fun w' => Only [] w8 w' ∧ w'.cell? ⟨w6.heap.size, 0, none⟩ = some (.int .i64 aP.points) ∧ w'.cell? ⟨w6.heap.size, 1, none⟩ = some (.string aP.names) ∧ w'.cell? ⟨w6.heap.size, 2, none⟩ = some (.slice A32 aP.moves.length C32) ∧ w'.cell? ⟨w.heap.size, 0, none⟩ = some (.int .i64 aP.points) ∧ w'.cell? ⟨w.heap.size, 1, none⟩ = some (.string aP.names) ∧ w'.cell? ⟨w.heap.size, 2, none⟩ = some (.slice AaP2 aP.moves.length CaP2)) ((refine and_of ?_ (fun h__ => ⟨(Blk.keep (Blk.keep HB3.out T7) h__).cell 0 rfl, (Blk.keep (Blk.keep HB3.out T7) h__).cell 1 rfl, (Blk.keep (Blk.keep HB3.out T7) h__).cell 2 rfl, (Blk.keep (Blk.keep (Blk.keep (Blk.keep (Blk.keep (Blk.keep (Blk.keep (Blk.keep HBaP.out T1) T2) T3) T4) T5) T6) T7) h__).cell 0 rfl, (Blk.keep (Blk.keep (Blk.keep (Blk.keep (Blk.keep (Blk.keep (Blk.keep (Blk.keep HBaP.out T1) T2) T3) T4) T5) T6) T7) h__).cell 1 rfl, (Blk.keep (Blk.keep (Blk.keep (Blk.keep (Blk.keep (Blk.keep (Blk.keep (Blk.keep HBaP.out T1) T2) T3) T4) T5) T6) T7) h__).cell 2 rfl⟩); first | exact (Only.refl _ _).drew | exact Only.trans (And.left (by assumption)) (by assumption))) (first
    | (go_at_call 12; (with_reducible refine (toPuzzle_any [.int .i64 aP.points, .string aP.names, .slice AaP2 aP.moves.length CaP2] aP _ _ (Rp.keep (Rp.keep (Rp.keep (Rp.keep (Rp.keep (Rp.keep (Rp.keep (Rp.keep (Rp.keep raP T0) T1) T2) T3) T4) T5) T6) T7) (And.left (by assumption))) smaP).mono ?_); rintro e w9 ⟨u5, f5, rfl, r5, F5, t8⟩)
    | (go_at_call 15; (with_reducible refine (eqPuzzle_any [.int .i64 aP.points, .string aP.names, .slice A32 aP.moves.length C32] u5 aP aP _ _ _ (Rp.keep (Rp.keep (Rp.keep r3 T6) T7) (And.left (by assumption))) (Rp.keep r5 (by first | exact Only.refl _ _ | assumption | exact Only.trans (by assumption) (by assumption)))).mono ?_); rintro e w10 ⟨rfl, t9⟩)
    | fail "no arm")
  have T8 : Only [] w8 w9 := ((Only.refl _ _).drew).trans t8
  have S8 : w8.heap.size + 0 ≤ w9.heap.size := by have := T8.size; omega
  have L5 := Rp.lt r5
  have G5 : ∀ b ∈ f5, w8.heap.size ≤ b := fun b hb => by have := F5.ge b hb; first | omega | (simp at this; omega)
  have T9 : Only [] w9 w10 := t9
  have S9 : w9.heap.size + 0 ≤ w10.heap.size := by have := T9.size; omega
  go_upto_region 16 with fail
  have e11 : eqV aT aT = true := eqV_yes rfl
  go_region_held3 (fun w' => Only [] w10 w' ∧ w'.cell? ⟨w7.heap.size, 0, none⟩ = some (.slice A40 aT.tracked.length C40) ∧ w'.cell? ⟨w7.heap.size, 1, none⟩ = some (.slice A41 aT.patterns.length C41) ∧ w'.cell? ⟨w7.heap.size, 2, none⟩ = some (.slice A42 aT.distances.length C42) ∧ w'.cell? ⟨(w.heap.size + 1), 0, none⟩ = some (.slice AaT0 aT.tracked.length CaT0) ∧ w'.cell? ⟨(w.heap.size + 1), 1, none⟩ = some (.slice AaT1 aT.patterns.length CaT1) ∧ w'.cell? ⟨(w.heap.size + 1), 2, none⟩ = some (.slice AaT2 aT.distances.length CaT2)) ((refine and_of ?_ (fun h__ => ⟨(Blk.keep (Blk.keep (Blk.keep HB4.out T8) T9) h__).cell 0 rfl, (Blk.keep (Blk.keep (Blk.keep HB4.out T8) T9) h__).cell 1 rfl, (Blk.keep (Blk.keep (Blk.keep HB4.out T8) T9) h__).cell 2 rfl, (Blk.keep (Blk.keep (Blk.keep (Blk.keep (Blk.keep (Blk.keep (Blk.keep (Blk.keep (Blk.keep (Blk.keep HBaT.out T1) T2) T3) T4) T5) T6) T7) T8) T9) h__).cell 0 rfl, (Blk.keep (Blk.keep (Blk.keep (Blk.keep (Blk.keep (Blk.keep (Blk.keep (Blk.keep (Blk.keep (Blk.keep HBaT.out T1) T2) T3) T4) T5) T6) T7) T8) T9) h__).cell 1 rfl, (Blk.keep (Blk.keep (Blk.keep (Blk.keep (Blk.keep (Blk.keep (Blk.keep (Blk.keep (Blk.keep (Blk.keep HBaT.out T1) T2) T3) T4) T5) T6) T7) T8) T9) h__).cell 2 rfl⟩); first | exact (Only.refl _ _).drew | exact Only.trans (And.left (by assumption)) (by assumption))) (first
    | (go_at_call 21; (with_reducible refine (toTable_any [.slice AaT0 aT.tracked.length CaT0, .slice AaT1 aT.patterns.length CaT1, .slice AaT2 aT.distances.length CaT2] aT _ _ (Rp.keep (Rp.keep (Rp.keep (Rp.keep (Rp.keep (Rp.keep (Rp.keep (Rp.keep (Rp.keep (Rp.keep (Rp.keep raT T0) T1) T2) T3) T4) T5) T6) T7) T8) T9) (And.left (by assumption))) smaT).mono ?_); rintro e w11 ⟨u6, f6, rfl, r6, F6, t10⟩)
    | (go_at_call 24; (with_reducible refine (eqTable_any [.slice A40 aT.tracked.length C40, .slice A41 aT.patterns.length C41, .slice A42 aT.distances.length C42] u6 aT aT _ _ _ (Rp.keep (Rp.keep (Rp.keep (Rp.keep r4 T7) T8) T9) (And.left (by assumption))) (Rp.keep r6 (by first | exact Only.refl _ _ | assumption | exact Only.trans (by assumption) (by assumption)))).mono ?_); rintro e w12 ⟨rfl, t11⟩)
    | fail "no arm")
  have T10 : Only [] w10 w11 := ((Only.refl _ _).drew).trans t10
  have S10 : w10.heap.size + 0 ≤ w11.heap.size := by have := T10.size; omega
  have L6 := Rp.lt r6
  have G6 : ∀ b ∈ f6, w10.heap.size ≤ b := fun b hb => by have := F6.ge b hb; first | omega | (simp at this; omega)
  have T11 : Only [] w11 w12 := t11
  have S11 : w11.heap.size + 0 ≤ w12.heap.size := by have := T11.size; omega
  go_wp2
  go_ret
  refine ⟨rfl, ?_⟩
  exact (Only.keepThen (Only.keepThen (Only.keepThen (Only.keepThen (Only.keepThen (Only.keepThen (Only.keepThen (Only.keepThen (Only.keepThen (Only.keepThen (Only.keepThen T0 T1) T2) T3) T4) T5) T6) T7) T8) T9) T10) T11)
end Go.Proofs.Ytmilmbgnkpkmnaa
