/- The law on DescentLetter: its walk. (Printed by gen_exact.py.) -/
import Derived.Test.YtmilmbgnkpkmnaaSpecDesc
import Derived.Test.YtmilmbgnkpkmnaaImplDesc
import Derived.Test.YtmilmbgnkpkmnaaExact
import Derived.Deep.RegionHeld3
import Derived.Deep.DeepCutAuto
namespace Go.Proofs.Ytmilmbgnkpkmnaa
open Go.RowKit
set_option maxRecDepth 10000

set_option maxHeartbeats 4000000 in
theorem FnExactDescentLetter_any (w : World) (caP : List Value) (aP : Puzzle) (faP : List Nat) (raP : Rp.rep w caP aP faP) (caT : List Value) (aT : Table) (faT : List Nat) (raT : Rp.rep w caT aT faT) (vaPattern : Value) (aPattern : List Int) (faPattern : List Nat) (raPattern : Rd w vaPattern aPattern faPattern) :
    Calls Try.prog 4 #[.agg caP.toArray, .agg caT.toArray, vaPattern] w fun e w' => e = .returned (.bool true) ∧ Only [] w w' := by
  have qaP := raP
  obtain ⟨uaP2, rfl, -, -, zaP2⟩ := qaP
  obtain ⟨AaP2, CaP2, _, _, rfl, -⟩ := zaP2.open_
  have LaP := Rp.lt raP
  have qaT := raT
  obtain ⟨uaT0, uaT1, uaT2, _, _, _, rfl, -, zaT0, zaT1, zaT2⟩ := qaT
  obtain ⟨AaT0, CaT0, _, _, rfl, -⟩ := zaT0.open_
  obtain ⟨AaT1, CaT1, _, _, rfl, -⟩ := zaT1.open_
  obtain ⟨AaT2, CaT2, _, _, rfl, -⟩ := zaT2.open_
  have LaT := Rp.lt raT
  obtain ⟨AaPattern, CaPattern, _, _, rfl, -⟩ := raPattern.open_
  have LaPattern := Rp.lt raPattern
  have hbaPattern : aPattern.length ≤ 9223372036854775807 := by obtain ⟨_, _, _, _, hq, -, hs⟩ := raPattern.open_; have := hs.bound; exact this
  by_cases lenaPattern : 1048576 < aPattern.length
  · go_enter Try.func4, Try.ntmps4
    go_wp2
    go_ret
    exact ⟨rfl, (by with_reducible repeat (first | exact Only.refl _ _ | assumption | refine Only.drewN ?_ _ | refine Only.drew ?_ | refine Only.alloc ?_ _ | refine Only.setCell ?_ (by intro hh; exfalso; simp at hh; try omega) _ | refine Only.trans ?_ (by assumption)))⟩
  have smaPattern : Sm.sm aPattern := ⟨by omega, fun _ _ => trivial⟩
  have csaPattern : Mk.cnt aPattern ≤ 1048576 := by simp only [Mk.cnt, cntL_ints]; omega
  rcases szV_cases (1048576) aP with ⟨esaP, msaP⟩ | ⟨esaP, psaP, msaP⟩
  · go_enter Try.func4, Try.ntmps4
    go_wp2_with (with_reducible refine (szPuzzle_any [.int .i64 aP.points, .string aP.names, .slice AaP2 aP.moves.length CaP2] aP _ (1048576) _ (Rp.keep raP (((Only.refl [] _).alloc (.cells #[.int .i64 aP.points, .string aP.names, .slice AaP2 aP.moves.length CaP2] 24)).alloc (.cells #[.slice AaT0 aT.tracked.length CaT0, .slice AaT1 aT.patterns.length CaT1, .slice AaT2 aT.distances.length CaT2] 39))) (by omega) (by omega)).mono ?_; rintro e w1 ⟨rfl, t0⟩)
    go_ret
    exact ⟨rfl, (by with_reducible repeat (first | exact Only.refl _ _ | assumption | refine Only.drewN ?_ _ | refine Only.drew ?_ | refine Only.alloc ?_ _ | refine Only.setCell ?_ (by intro hh; exfalso; simp at hh; try omega) _ | refine Only.trans ?_ (by assumption)))⟩
  have smaP : Sm.sm aP := SzSm.of_ _ (by omega)
  have csaP : Mk.cnt aP ≤ 1048576 := Nat.le_trans (CntSz.le aP) (by omega)
  rcases szV_cases (1048576 - (Sz.sz aP : Nat)) aT with ⟨esaT, msaT⟩ | ⟨esaT, psaT, msaT⟩
  · go_enter Try.func4, Try.ntmps4
    go_wp2_with fail
    with_reducible refine (szPuzzle_any [.int .i64 aP.points, .string aP.names, .slice AaP2 aP.moves.length CaP2] aP _ (1048576) _ (Rp.keep raP (((Only.refl [] _).alloc (.cells #[.int .i64 aP.points, .string aP.names, .slice AaP2 aP.moves.length CaP2] 24)).alloc (.cells #[.slice AaT0 aT.tracked.length CaT0, .slice AaT1 aT.patterns.length CaT1, .slice AaT2 aT.distances.length CaT2] 39))) (by omega) (by omega)).mono ?_
    rintro e w1 ⟨rfl, t0⟩
    rw [esaP]
    have T0 : Only [] w w1 := (((Only.refl [] _).alloc (.cells #[.int .i64 aP.points, .string aP.names, .slice AaP2 aP.moves.length CaP2] 24)).alloc (.cells #[.slice AaT0 aT.tracked.length CaT0, .slice AaT1 aT.patterns.length CaT1, .slice AaT2 aT.distances.length CaT2] 39)).trans t0
    have S0 : w.heap.size + 2 ≤ w1.heap.size := by have := t0.size; simp at this; omega
    have BaP : Blk w1 w.heap.size [.int .i64 aP.points, .string aP.names, .slice AaP2 aP.moves.length CaP2] := (Blk.keep (Blk.keep (Blk.new_at (by simp)) ((Only.refl _ _).alloc _)) t0)
    have LBaP : w.heap.size < w1.heap.size := BaP.lt
    have HBaP := Lib.hid BaP; clear BaP
    have BaT : Blk w1 (w.heap.size + 1) [.slice AaT0 aT.tracked.length CaT0, .slice AaT1 aT.patterns.length CaT1, .slice AaT2 aT.distances.length CaT2] := (Blk.keep (Blk.new_at (by simp)) t0)
    have LBaT : (w.heap.size + 1) < w1.heap.size := BaT.lt
    have HBaT := Lib.hid BaT; clear BaT
    have caT_1_0 := (HBaT.out).cell 0 rfl
    have caT_1_1 := (HBaT.out).cell 1 rfl
    have caT_1_2 := (HBaT.out).cell 2 rfl
    go_wp2_with (with_reducible refine (szTable_any [.slice AaT0 aT.tracked.length CaT0, .slice AaT1 aT.patterns.length CaT1, .slice AaT2 aT.distances.length CaT2] aT _ (1048576 - (Sz.sz aP : Nat)) _ (Rp.keep raT T0) (by omega) (by omega)).mono ?_; rintro e w2 ⟨rfl, t1⟩)
    go_ret
    exact ⟨rfl, (by with_reducible repeat (first | exact Only.refl _ _ | assumption | refine Only.drewN ?_ _ | refine Only.drew ?_ | refine Only.alloc ?_ _ | refine Only.setCell ?_ (by intro hh; exfalso; simp at hh; try omega) _ | refine Only.trans ?_ (by assumption)))⟩
  have smaT : Sm.sm aT := SzSm.of_ _ (by omega)
  have csaT : Mk.cnt aT ≤ 1048576 := Nat.le_trans (CntSz.le aT) (by omega)
  go_enter Try.func4, Try.ntmps4
  go_wp2_with fail
  with_reducible refine (szPuzzle_any [.int .i64 aP.points, .string aP.names, .slice AaP2 aP.moves.length CaP2] aP _ (1048576) _ (Rp.keep raP (((Only.refl [] _).alloc (.cells #[.int .i64 aP.points, .string aP.names, .slice AaP2 aP.moves.length CaP2] 24)).alloc (.cells #[.slice AaT0 aT.tracked.length CaT0, .slice AaT1 aT.patterns.length CaT1, .slice AaT2 aT.distances.length CaT2] 39))) (by omega) (by omega)).mono ?_
  rintro e w1 ⟨rfl, t0⟩
  rw [esaP]
  have T0 : Only [] w w1 := (((Only.refl [] _).alloc (.cells #[.int .i64 aP.points, .string aP.names, .slice AaP2 aP.moves.length CaP2] 24)).alloc (.cells #[.slice AaT0 aT.tracked.length CaT0, .slice AaT1 aT.patterns.length CaT1, .slice AaT2 aT.distances.length CaT2] 39)).trans t0
  have S0 : w.heap.size + 2 ≤ w1.heap.size := by have := t0.size; simp at this; omega
  have BaP : Blk w1 w.heap.size [.int .i64 aP.points, .string aP.names, .slice AaP2 aP.moves.length CaP2] := (Blk.keep (Blk.keep (Blk.new_at (by simp)) ((Only.refl _ _).alloc _)) t0)
  have LBaP : w.heap.size < w1.heap.size := BaP.lt
  have HBaP := Lib.hid BaP; clear BaP
  have BaT : Blk w1 (w.heap.size + 1) [.slice AaT0 aT.tracked.length CaT0, .slice AaT1 aT.patterns.length CaT1, .slice AaT2 aT.distances.length CaT2] := (Blk.keep (Blk.new_at (by simp)) t0)
  have LBaT : (w.heap.size + 1) < w1.heap.size := BaT.lt
  have HBaT := Lib.hid BaT; clear BaT
  have caT_1_0 := (HBaT.out).cell 0 rfl
  have caT_1_1 := (HBaT.out).cell 1 rfl
  have caT_1_2 := (HBaT.out).cell 2 rfl
  go_wp2_with fail
  with_reducible refine (szTable_any [.slice AaT0 aT.tracked.length CaT0, .slice AaT1 aT.patterns.length CaT1, .slice AaT2 aT.distances.length CaT2] aT _ (1048576 - (Sz.sz aP : Nat)) _ (Rp.keep raT T0) (by omega) (by omega)).mono ?_
  rintro e w2 ⟨rfl, t1⟩
  rw [esaT]
  have T1 : Only [] w1 w2 := t1
  have S1 : w1.heap.size + 0 ≤ w2.heap.size := by have := T1.size; omega
  clear caT_1_0 caT_1_1 caT_1_2
  go_upto_region 10 with fail
  go_region_held3 (fun w' => Only [] w2 w' ∧ w'.cell? ⟨w.heap.size, 0, none⟩ = some (.int .i64 aP.points) ∧ w'.cell? ⟨w.heap.size, 1, none⟩ = some (.string aP.names) ∧ w'.cell? ⟨w.heap.size, 2, none⟩ = some (.slice AaP2 aP.moves.length CaP2) ∧ w'.cell? ⟨(w.heap.size + 1), 0, none⟩ = some (.slice AaT0 aT.tracked.length CaT0) ∧ w'.cell? ⟨(w.heap.size + 1), 1, none⟩ = some (.slice AaT1 aT.patterns.length CaT1) ∧ w'.cell? ⟨(w.heap.size + 1), 2, none⟩ = some (.slice AaT2 aT.distances.length CaT2)) ((refine and_of ?_ (fun h__ => ⟨(Blk.keep (Blk.keep HBaP.out T1) h__).cell 0 rfl, (Blk.keep (Blk.keep HBaP.out T1) h__).cell 1 rfl, (Blk.keep (Blk.keep HBaP.out T1) h__).cell 2 rfl, (Blk.keep (Blk.keep HBaT.out T1) h__).cell 0 rfl, (Blk.keep (Blk.keep HBaT.out T1) h__).cell 1 rfl, (Blk.keep (Blk.keep HBaT.out T1) h__).cell 2 rfl⟩); first | exact (Only.refl _ _).drew | exact Only.trans (And.left (by assumption)) (by assumption))) (first
    | (go_at_call 12; (with_reducible refine (toPuzzle_any [.int .i64 aP.points, .string aP.names, .slice AaP2 aP.moves.length CaP2] aP _ _ (Rp.keep (Rp.keep (Rp.keep raP T0) T1) (And.left (by assumption))) smaP).mono ?_); rintro e w3 ⟨u1, f1, rfl, r1, F1, t2⟩)
    | (go_at_call 21; (with_reducible refine (toTable_any [.slice AaT0 aT.tracked.length CaT0, .slice AaT1 aT.patterns.length CaT1, .slice AaT2 aT.distances.length CaT2] aT _ _ (Rp.keep (Rp.keep (Rp.keep raT T0) T1) (And.left (by assumption))) smaT).mono ?_); rintro e w4 ⟨u2, f2, rfl, r2, F2, t3⟩)
    | (go_at_call 22; (with_reducible refine (toInt64S_sm (.slice AaPattern aPattern.length CaPattern) aPattern _ _ (Rp.keep (Rp.keep (Rp.keep raPattern T0) T1) (And.left (by assumption))) smaPattern).mono ?_); rintro e w5 ⟨v3, f3, rfl, r3, F3, t4⟩)
    | (go_at_call 20; (with_reducible refine (specDescentLetter_any u1 u2 aP aT v3 aPattern _ _ _ _ (Rp.keep r1 (by first | exact Only.refl _ _ | assumption | exact Only.trans (by assumption) (by assumption))) (Rp.keep r2 (by first | exact Only.refl _ _ | assumption | exact Only.trans (by assumption) (by assumption))) (Rp.keep r3 (by first | exact Only.refl _ _ | assumption | exact Only.trans (by assumption) (by assumption)))).mono ?_); rintro e w6 ⟨rfl, t5⟩)
    | fail "no arm")
  have T2 : Only [] w2 w3 := ((Only.refl _ _).drew).trans t2
  have S2 : w2.heap.size + 0 ≤ w3.heap.size := by have := T2.size; omega
  have L1 := Rp.lt r1
  have G1 : ∀ b ∈ f1, w2.heap.size ≤ b := fun b hb => by have := F1.ge b hb; first | omega | (simp at this; omega)
  have T3 : Only [] w3 w4 := t3
  have S3 : w3.heap.size + 0 ≤ w4.heap.size := by have := T3.size; omega
  have L2 := Rp.lt r2
  have G2 : ∀ b ∈ f2, w3.heap.size ≤ b := fun b hb => by have := F2.ge b hb; first | omega | (simp at this; omega)
  have T4 : Only [] w4 w5 := t4
  have S4 : w4.heap.size + 0 ≤ w5.heap.size := by have := T4.size; omega
  have L3 := Rp.lt r3
  have G3 : ∀ b ∈ f3, w4.heap.size ≤ b := fun b hb => by have := F3.ge b hb; first | omega | (simp at this; omega)
  have T5 : Only [] w5 w6 := t5
  have S5 : w5.heap.size + 0 ≤ w6.heap.size := by have := T5.size; omega
  have caP_6_0 := ((Blk.keep (Blk.keep (Blk.keep (Blk.keep (Blk.keep HBaP.out T1) T2) T3) T4) T5)).cell 0 rfl
  have caP_6_1 := ((Blk.keep (Blk.keep (Blk.keep (Blk.keep (Blk.keep HBaP.out T1) T2) T3) T4) T5)).cell 1 rfl
  have caP_6_2 := ((Blk.keep (Blk.keep (Blk.keep (Blk.keep (Blk.keep HBaP.out T1) T2) T3) T4) T5)).cell 2 rfl
  go_wp2_with fail
  with_reducible refine (toPuzzle_any [.int .i64 aP.points, .string aP.names, .slice AaP2 aP.moves.length CaP2] aP _ _ (Rp.keep (Rp.keep (Rp.keep (Rp.keep (Rp.keep (Rp.keep raP T0) T1) T2) T3) T4) T5) smaP).mono ?_
  rintro e w7 ⟨u4, f4, rfl, r4, F4, t6⟩
  have T6 : Only [] w6 w7 := t6
  have S6 : w6.heap.size + 0 ≤ w7.heap.size := by have := T6.size; omega
  clear caP_6_0 caP_6_1 caP_6_2
  have q4 := r4
  obtain ⟨u42, rfl, -, -, z42⟩ := q4
  obtain ⟨A42, C42, _, _, rfl, -⟩ := z42.open_
  have L4 := Rp.lt r4
  have G4 : ∀ b ∈ f4, w6.heap.size ≤ b := fun b hb => by have := F4.ge b hb; omega
  have caT_7_0 := ((Only.refl [] _).alloc (.cells #[.int .i64 aP.points, .string aP.names, .slice A42 aP.moves.length C42] 26)).cell (by simp) (((Blk.keep (Blk.keep (Blk.keep (Blk.keep (Blk.keep (Blk.keep HBaT.out T1) T2) T3) T4) T5) T6)).cell 0 rfl)
  have caT_7_1 := ((Only.refl [] _).alloc (.cells #[.int .i64 aP.points, .string aP.names, .slice A42 aP.moves.length C42] 26)).cell (by simp) (((Blk.keep (Blk.keep (Blk.keep (Blk.keep (Blk.keep (Blk.keep HBaT.out T1) T2) T3) T4) T5) T6)).cell 1 rfl)
  have caT_7_2 := ((Only.refl [] _).alloc (.cells #[.int .i64 aP.points, .string aP.names, .slice A42 aP.moves.length C42] 26)).cell (by simp) (((Blk.keep (Blk.keep (Blk.keep (Blk.keep (Blk.keep (Blk.keep HBaT.out T1) T2) T3) T4) T5) T6)).cell 2 rfl)
  go_wp2_with fail
  with_reducible refine (toTable_any [.slice AaT0 aT.tracked.length CaT0, .slice AaT1 aT.patterns.length CaT1, .slice AaT2 aT.distances.length CaT2] aT _ _ (Rp.keep (Rp.keep (Rp.keep (Rp.keep (Rp.keep (Rp.keep (Rp.keep (Rp.keep raT T0) T1) T2) T3) T4) T5) T6) ((Only.refl [] _).alloc (.cells #[.int .i64 aP.points, .string aP.names, .slice A42 aP.moves.length C42] 26))) smaT).mono ?_
  rintro e w8 ⟨u5, f5, rfl, r5, F5, t7⟩
  have T7 : Only [] w7 w8 := ((Only.refl [] _).alloc (.cells #[.int .i64 aP.points, .string aP.names, .slice A42 aP.moves.length C42] 26)).trans t7
  have S7 : w7.heap.size + 1 ≤ w8.heap.size := by have := t7.size; simp at this; omega
  have B4 : Blk w8 w7.heap.size [.int .i64 aP.points, .string aP.names, .slice A42 aP.moves.length C42] := (Blk.keep (Blk.new_at (by simp)) t7)
  have LB4 : w7.heap.size < w8.heap.size := B4.lt
  have HB4 := Lib.hid B4; clear B4
  clear caT_7_0 caT_7_1 caT_7_2
  have q5 := r5
  obtain ⟨u50, u51, u52, _, _, _, rfl, -, z50, z51, z52⟩ := q5
  obtain ⟨A50, C50, _, _, rfl, -⟩ := z50.open_
  obtain ⟨A51, C51, _, _, rfl, -⟩ := z51.open_
  obtain ⟨A52, C52, _, _, rfl, -⟩ := z52.open_
  have L5 := Rp.lt r5
  have G5 : ∀ b ∈ f5, w7.heap.size + 1 ≤ b := fun b hb => by have := F5.ge b hb; simp at this; omega
  go_wp2_with fail
  with_reducible refine (toInt64S_sm (.slice AaPattern aPattern.length CaPattern) aPattern _ _ (Rp.keep (Rp.keep (Rp.keep (Rp.keep (Rp.keep (Rp.keep (Rp.keep (Rp.keep (Rp.keep raPattern T0) T1) T2) T3) T4) T5) T6) T7) ((Only.refl [] _).alloc (.cells #[.slice A50 aT.tracked.length C50, .slice A51 aT.patterns.length C51, .slice A52 aT.distances.length C52] 42))) smaPattern).mono ?_
  rintro e w9 ⟨v6, f6, rfl, r6, F6, t8⟩
  have T8 : Only [] w8 w9 := ((Only.refl [] _).alloc (.cells #[.slice A50 aT.tracked.length C50, .slice A51 aT.patterns.length C51, .slice A52 aT.distances.length C52] 42)).trans t8
  have S8 : w8.heap.size + 1 ≤ w9.heap.size := by have := t8.size; simp at this; omega
  have B5 : Blk w9 w8.heap.size [.slice A50 aT.tracked.length C50, .slice A51 aT.patterns.length C51, .slice A52 aT.distances.length C52] := (Blk.keep (Blk.new_at (by simp)) t8)
  have LB5 : w8.heap.size < w9.heap.size := B5.lt
  have HB5 := Lib.hid B5; clear B5
  have L6 := Rp.lt r6
  have G6 : ∀ b ∈ f6, w8.heap.size + 1 ≤ b := fun b hb => by have := F6.ge b hb; simp at this; omega
  have c4_9_0 := ((Blk.keep HB4.out T8)).cell 0 rfl
  have c4_9_1 := ((Blk.keep HB4.out T8)).cell 1 rfl
  have c4_9_2 := ((Blk.keep HB4.out T8)).cell 2 rfl
  have c5_9_0 := (HB5.out).cell 0 rfl
  have c5_9_1 := (HB5.out).cell 1 rfl
  have c5_9_2 := (HB5.out).cell 2 rfl
  go_wp2_with fail
  with_reducible refine (implDescentLetter_any [.int .i64 aP.points, .string aP.names, .slice A42 aP.moves.length C42] [.slice A50 aT.tracked.length C50, .slice A51 aT.patterns.length C51, .slice A52 aT.distances.length C52] aP aT v6 aPattern _ _ _ _ (Rp.keep (Rp.keep r4 T7) T8) (Rp.keep r5 T8) r6).mono ?_
  rintro e w10 ⟨rfl, t9⟩
  have T9 : Only [] w9 w10 := t9
  have S9 : w9.heap.size + 0 ≤ w10.heap.size := by have := T9.size; omega
  clear c4_9_0 c4_9_1 c4_9_2 c5_9_0 c5_9_1 c5_9_2
  go_upto_region 17 with fail
  have e11 : eqV aP aP = true := eqV_yes rfl
  go_region_held3 (fun w' => Only [] w10 w' ∧ w'.cell? ⟨w7.heap.size, 0, none⟩ = some (.int .i64 aP.points) ∧ w'.cell? ⟨w7.heap.size, 1, none⟩ = some (.string aP.names) ∧ w'.cell? ⟨w7.heap.size, 2, none⟩ = some (.slice A42 aP.moves.length C42) ∧ w'.cell? ⟨w.heap.size, 0, none⟩ = some (.int .i64 aP.points) ∧ w'.cell? ⟨w.heap.size, 1, none⟩ = some (.string aP.names) ∧ w'.cell? ⟨w.heap.size, 2, none⟩ = some (.slice AaP2 aP.moves.length CaP2)) ((refine and_of ?_ (fun h__ => ⟨(Blk.keep (Blk.keep (Blk.keep HB4.out T8) T9) h__).cell 0 rfl, (Blk.keep (Blk.keep (Blk.keep HB4.out T8) T9) h__).cell 1 rfl, (Blk.keep (Blk.keep (Blk.keep HB4.out T8) T9) h__).cell 2 rfl, (Blk.keep (Blk.keep (Blk.keep (Blk.keep (Blk.keep (Blk.keep (Blk.keep (Blk.keep (Blk.keep (Blk.keep HBaP.out T1) T2) T3) T4) T5) T6) T7) T8) T9) h__).cell 0 rfl, (Blk.keep (Blk.keep (Blk.keep (Blk.keep (Blk.keep (Blk.keep (Blk.keep (Blk.keep (Blk.keep (Blk.keep HBaP.out T1) T2) T3) T4) T5) T6) T7) T8) T9) h__).cell 1 rfl, (Blk.keep (Blk.keep (Blk.keep (Blk.keep (Blk.keep (Blk.keep (Blk.keep (Blk.keep (Blk.keep (Blk.keep HBaP.out T1) T2) T3) T4) T5) T6) T7) T8) T9) h__).cell 2 rfl⟩); first | exact (Only.refl _ _).drew | exact Only.trans (And.left (by assumption)) (by assumption))) (first
    | (go_at_call 12; (with_reducible refine (toPuzzle_any [.int .i64 aP.points, .string aP.names, .slice AaP2 aP.moves.length CaP2] aP _ _ (Rp.keep (Rp.keep (Rp.keep (Rp.keep (Rp.keep (Rp.keep (Rp.keep (Rp.keep (Rp.keep (Rp.keep (Rp.keep raP T0) T1) T2) T3) T4) T5) T6) T7) T8) T9) (And.left (by assumption))) smaP).mono ?_); rintro e w11 ⟨u7, f7, rfl, r7, F7, t10⟩)
    | (go_at_call 15; (with_reducible refine (eqPuzzle_any [.int .i64 aP.points, .string aP.names, .slice A42 aP.moves.length C42] u7 aP aP _ _ _ (Rp.keep (Rp.keep (Rp.keep (Rp.keep r4 T7) T8) T9) (And.left (by assumption))) (Rp.keep r7 (by first | exact Only.refl _ _ | assumption | exact Only.trans (by assumption) (by assumption)))).mono ?_); rintro e w12 ⟨rfl, t11⟩)
    | fail "no arm")
  have T10 : Only [] w10 w11 := ((Only.refl _ _).drew).trans t10
  have S10 : w10.heap.size + 0 ≤ w11.heap.size := by have := T10.size; omega
  have L7 := Rp.lt r7
  have G7 : ∀ b ∈ f7, w10.heap.size ≤ b := fun b hb => by have := F7.ge b hb; first | omega | (simp at this; omega)
  have T11 : Only [] w11 w12 := t11
  have S11 : w11.heap.size + 0 ≤ w12.heap.size := by have := T11.size; omega
  go_upto_region 19 with fail
  have e13 : eqV aT aT = true := eqV_yes rfl
  go_region_held3 (fun w' => Only [] w12 w' ∧ w'.cell? ⟨w8.heap.size, 0, none⟩ = some (.slice A50 aT.tracked.length C50) ∧ w'.cell? ⟨w8.heap.size, 1, none⟩ = some (.slice A51 aT.patterns.length C51) ∧ w'.cell? ⟨w8.heap.size, 2, none⟩ = some (.slice A52 aT.distances.length C52) ∧ w'.cell? ⟨(w.heap.size + 1), 0, none⟩ = some (.slice AaT0 aT.tracked.length CaT0) ∧ w'.cell? ⟨(w.heap.size + 1), 1, none⟩ = some (.slice AaT1 aT.patterns.length CaT1) ∧ w'.cell? ⟨(w.heap.size + 1), 2, none⟩ = some (.slice AaT2 aT.distances.length CaT2)) ((refine and_of ?_ (fun h__ => ⟨(Blk.keep (Blk.keep (Blk.keep (Blk.keep HB5.out T9) T10) T11) h__).cell 0 rfl, (Blk.keep (Blk.keep (Blk.keep (Blk.keep HB5.out T9) T10) T11) h__).cell 1 rfl, (Blk.keep (Blk.keep (Blk.keep (Blk.keep HB5.out T9) T10) T11) h__).cell 2 rfl, (Blk.keep (Blk.keep (Blk.keep (Blk.keep (Blk.keep (Blk.keep (Blk.keep (Blk.keep (Blk.keep (Blk.keep (Blk.keep (Blk.keep HBaT.out T1) T2) T3) T4) T5) T6) T7) T8) T9) T10) T11) h__).cell 0 rfl, (Blk.keep (Blk.keep (Blk.keep (Blk.keep (Blk.keep (Blk.keep (Blk.keep (Blk.keep (Blk.keep (Blk.keep (Blk.keep (Blk.keep HBaT.out T1) T2) T3) T4) T5) T6) T7) T8) T9) T10) T11) h__).cell 1 rfl, (Blk.keep (Blk.keep (Blk.keep (Blk.keep (Blk.keep (Blk.keep (Blk.keep (Blk.keep (Blk.keep (Blk.keep (Blk.keep (Blk.keep HBaT.out T1) T2) T3) T4) T5) T6) T7) T8) T9) T10) T11) h__).cell 2 rfl⟩); first | exact (Only.refl _ _).drew | exact Only.trans (And.left (by assumption)) (by assumption))) (first
    | (go_at_call 21; (with_reducible refine (toTable_any [.slice AaT0 aT.tracked.length CaT0, .slice AaT1 aT.patterns.length CaT1, .slice AaT2 aT.distances.length CaT2] aT _ _ (Rp.keep (Rp.keep (Rp.keep (Rp.keep (Rp.keep (Rp.keep (Rp.keep (Rp.keep (Rp.keep (Rp.keep (Rp.keep (Rp.keep (Rp.keep raT T0) T1) T2) T3) T4) T5) T6) T7) T8) T9) T10) T11) (And.left (by assumption))) smaT).mono ?_); rintro e w13 ⟨u8, f8, rfl, r8, F8, t12⟩)
    | (go_at_call 24; (with_reducible refine (eqTable_any [.slice A50 aT.tracked.length C50, .slice A51 aT.patterns.length C51, .slice A52 aT.distances.length C52] u8 aT aT _ _ _ (Rp.keep (Rp.keep (Rp.keep (Rp.keep (Rp.keep r5 T8) T9) T10) T11) (And.left (by assumption))) (Rp.keep r8 (by first | exact Only.refl _ _ | assumption | exact Only.trans (by assumption) (by assumption)))).mono ?_); rintro e w14 ⟨rfl, t13⟩)
    | fail "no arm")
  have T12 : Only [] w12 w13 := ((Only.refl _ _).drew).trans t12
  have S12 : w12.heap.size + 0 ≤ w13.heap.size := by have := T12.size; omega
  have L8 := Rp.lt r8
  have G8 : ∀ b ∈ f8, w12.heap.size ≤ b := fun b hb => by have := F8.ge b hb; first | omega | (simp at this; omega)
  have T13 : Only [] w13 w14 := t13
  have S13 : w13.heap.size + 0 ≤ w14.heap.size := by have := T13.size; omega
  go_wp2_with fail
  with_reducible refine (toInt64S_sm (.slice AaPattern aPattern.length CaPattern) aPattern _ _ (Rp.keep (Rp.keep (Rp.keep (Rp.keep (Rp.keep (Rp.keep (Rp.keep (Rp.keep (Rp.keep (Rp.keep (Rp.keep (Rp.keep (Rp.keep (Rp.keep raPattern T0) T1) T2) T3) T4) T5) T6) T7) T8) T9) T10) T11) T12) T13) smaPattern).mono ?_
  rintro e w15 ⟨v9, f9, rfl, r9, F9, t14⟩
  have T14 : Only [] w14 w15 := t14
  have S14 : w14.heap.size + 0 ≤ w15.heap.size := by have := T14.size; omega
  have L9 := Rp.lt r9
  have G9 : ∀ b ∈ f9, w14.heap.size ≤ b := fun b hb => by have := F9.ge b hb; omega
  have e15 : eqV aPattern aPattern = true := eqV_yes rfl
  go_wp2_with fail
  with_reducible refine (eqInt64S_rd v6 v9 aPattern aPattern _ _ _ (Rp.keep (Rp.keep (Rp.keep (Rp.keep (Rp.keep (Rp.keep r6 T9) T10) T11) T12) T13) T14) r9).mono ?_
  rintro e w16 ⟨rfl, d15⟩
  have t15 := d15.only []
  have T15 : Only [] w15 w16 := t15
  have S15 : w15.heap.size + 0 ≤ w16.heap.size := by have := T15.size; omega
  go_wp2
  go_ret
  refine ⟨rfl, ?_⟩
  exact (Only.keepThen (Only.keepThen (Only.keepThen (Only.keepThen (Only.keepThen (Only.keepThen (Only.keepThen (Only.keepThen (Only.keepThen (Only.keepThen (Only.keepThen (Only.keepThen (Only.keepThen (Only.keepThen (Only.keepThen T0 T1) T2) T3) T4) T5) T6) T7) T8) T9) T10) T11) T12) T13) T14) T15)
end Go.Proofs.Ytmilmbgnkpkmnaa
