/- The law on TableFaults: its walk. (Printed by gen_exact.py.) -/
import Derived.Test.YtmilmbgnkpkmnaaImplFaults
import Derived.Test.YtmilmbgnkpkmnaaLawFault
import Derived.Deep.RegionHeld3
import Derived.Deep.DeepCutAuto
namespace Go.Proofs.Ytmilmbgnkpkmnaa
open Go.RowKit
set_option maxRecDepth 10000

theorem tableFaults_cnt (x : Puzzle) (t : Table) : Mk.cnt (tableFaults x t) ≤ 120 := by
  show cntL (tableFaults x t) ≤ 120
  rw [cntL_faults]
  have := tableFaults_len x t
  omega
set_option maxHeartbeats 4000000 in
theorem FnExactTableFaults_any (w : World) (caP : List Value) (aP : Puzzle) (faP : List Nat) (raP : Rp.rep w caP aP faP) (caT : List Value) (aT : Table) (faT : List Nat) (raT : Rp.rep w caT aT faT) :
    Calls Try.prog 9 #[.agg caP.toArray, .agg caT.toArray] w fun e w' => e = .returned (.bool true) ∧ Only [] w w' := by
  have qaP := raP
  obtain ⟨uaP2, rfl, -, -, zaP2⟩ := qaP
  obtain ⟨AaP2, CaP2, _, _, rfl, -⟩ := zaP2.open_
  have LaP := Rp.lt raP
  have qaT := raT
  obtain ⟨uaT0, uaT1, uaT2, _, _, _, rfl, -, zaT0, zaT1, zaT2⟩ := qaT
  obtain ⟨AaT0, CaT0, _, _, rfl, -⟩ := zaT0.open_
  obtain ⟨AaT1, CaT1, _, _, rfl, -⟩ := zaT1.open_
  obtain ⟨AaT2, CaT2, _, _, rfl, -⟩ := zaT2.open_
  have LaT := Rp.lt raT
  rcases szV_cases (1048576) aP with ⟨esaP, msaP⟩ | ⟨esaP, psaP, msaP⟩
  · go_enter Try.func9, Try.ntmps9
    go_wp2_with (with_reducible refine (szPuzzle_any [.int .i64 aP.points, .string aP.names, .slice AaP2 aP.moves.length CaP2] aP _ (1048576) _ (Rp.keep raP (((Only.refl [] _).alloc (.cells #[.int .i64 aP.points, .string aP.names, .slice AaP2 aP.moves.length CaP2] 24)).alloc (.cells #[.slice AaT0 aT.tracked.length CaT0, .slice AaT1 aT.patterns.length CaT1, .slice AaT2 aT.distances.length CaT2] 39))) (by omega) (by omega)).mono ?_; rintro e w1 ⟨rfl, t0⟩)
    go_ret
    exact ⟨rfl, (by with_reducible repeat (first | exact Only.refl _ _ | assumption | refine Only.drewN ?_ _ | refine Only.drew ?_ | refine Only.alloc ?_ _ | refine Only.setCell ?_ (by intro hh; exfalso; simp at hh; try omega) _ | refine Only.trans ?_ (by assumption)))⟩
  have smaP : Sm.sm aP := SzSm.of_ _ (by omega)
  have csaP : Mk.cnt aP ≤ 1048576 := Nat.le_trans (CntSz.le aP) (by omega)
  rcases szV_cases (1048576 - (Sz.sz aP : Nat)) aT with ⟨esaT, msaT⟩ | ⟨esaT, psaT, msaT⟩
  · go_enter Try.func9, Try.ntmps9
    go_wp2_with fail
    with_reducible refine (szPuzzle_any [.int .i64 aP.points, .string aP.names, .slice AaP2 aP.moves.length CaP2] aP _ (1048576) _ (Rp.keep raP (((Only.refl [] _).alloc (.cells #[.int .i64 aP.points, .string aP.names, .slice AaP2 aP.moves.length CaP2] 24)).alloc (.cells #[.slice AaT0 aT.tracked.length CaT0, .slice AaT1 aT.patterns.length CaT1, .slice AaT2 aT.distances.length CaT2] 39))) (by omega) (by omega)).mono ?_
    rintro e w1 ⟨rfl, t0⟩
    rw [esaP]
    have T0 : Only [] w w1 := (((Only.refl [] _).alloc (.cells #[.int .i64 aP.points, .string aP.names, .slice AaP2 aP.moves.length CaP2] 24)).alloc (.cells #[.slice AaT0 aT.tracked.length CaT0, .slice AaT1 aT.patterns.length CaT1, .slice AaT2 aT.distances.length CaT2] 39)).trans t0
    have S0 : w.heap.size + 2 ≤ w1.heap.size := by have := t0.size; simp at this; omega
    have BaP : Blk w1 w.heap.size [.int .i64 aP.points, .string aP.names, .slice AaP2 aP.moves.length CaP2] := (Blk.keep (Blk.keep (Blk.new_at (by simp)) ((Only.refl _ _).alloc _)) t0)
    have LBaP : w.heap.size < w1.heap.size := BaP.lt
    have HBaP := Lib.hid BaP; clear BaP
    have BaT : Blk w1 (w.heap.size + 1) [.slice AaT0 aT.tracked.length CaT0, .slice AaT1 aT.patterns.length CaT1, .slice AaT2 aT.distances.length CaT2] := (Blk.keep (Blk.new_at (by simp)) t0)
    have LBaT : (w.heap.size + 1) < w1.heap.size := BaT.lt
    have HBaT := Lib.hid BaT; clear BaT
    have caT_1_0 := (HBaT.out).cell 0 rfl
    have caT_1_1 := (HBaT.out).cell 1 rfl
    have caT_1_2 := (HBaT.out).cell 2 rfl
    go_wp2_with (with_reducible refine (szTable_any [.slice AaT0 aT.tracked.length CaT0, .slice AaT1 aT.patterns.length CaT1, .slice AaT2 aT.distances.length CaT2] aT _ (1048576 - (Sz.sz aP : Nat)) _ (Rp.keep raT T0) (by omega) (by omega)).mono ?_; rintro e w2 ⟨rfl, t1⟩)
    go_ret
    exact ⟨rfl, (by with_reducible repeat (first | exact Only.refl _ _ | assumption | refine Only.drewN ?_ _ | refine Only.drew ?_ | refine Only.alloc ?_ _ | refine Only.setCell ?_ (by intro hh; exfalso; simp at hh; try omega) _ | refine Only.trans ?_ (by assumption)))⟩
  have smaT : Sm.sm aT := SzSm.of_ _ (by omega)
  have csaT : Mk.cnt aT ≤ 1048576 := Nat.le_trans (CntSz.le aT) (by omega)
  have hcnt := tableFaults_cnt aP aT
  go_enter Try.func9, Try.ntmps9
  go_wp2_with fail
  with_reducible refine (szPuzzle_any [.int .i64 aP.points, .string aP.names, .slice AaP2 aP.moves.length CaP2] aP _ (1048576) _ (Rp.keep raP (((Only.refl [] _).alloc (.cells #[.int .i64 aP.points, .string aP.names, .slice AaP2 aP.moves.length CaP2] 24)).alloc (.cells #[.slice AaT0 aT.tracked.length CaT0, .slice AaT1 aT.patterns.length CaT1, .slice AaT2 aT.distances.length CaT2] 39))) (by omega) (by omega)).mono ?_
  rintro e w1 ⟨rfl, t0⟩
  rw [esaP]
  have T0 : Only [] w w1 := (((Only.refl [] _).alloc (.cells #[.int .i64 aP.points, .string aP.names, .slice AaP2 aP.moves.length CaP2] 24)).alloc (.cells #[.slice AaT0 aT.tracked.length CaT0, .slice AaT1 aT.patterns.length CaT1, .slice AaT2 aT.distances.length CaT2] 39)).trans t0
  have S0 : w.heap.size + 2 ≤ w1.heap.size := by have := t0.size; simp at this; omega
  have BaP : Blk w1 w.heap.size [.int .i64 aP.points, .string aP.names, .slice AaP2 aP.moves.length CaP2] := (Blk.keep (Blk.keep (Blk.new_at (by simp)) ((Only.refl _ _).alloc _)) t0)
  have LBaP : w.heap.size < w1.heap.size := BaP.lt
  have HBaP := Lib.hid BaP; clear BaP
  have BaT : Blk w1 (w.heap.size + 1) [.slice AaT0 aT.tracked.length CaT0, .slice AaT1 aT.patterns.length CaT1, .slice AaT2 aT.distances.length CaT2] := (Blk.keep (Blk.new_at (by simp)) t0)
  have LBaT : (w.heap.size + 1) < w1.heap.size := BaT.lt
  have HBaT := Lib.hid BaT; clear BaT
  have caT_1_0 := (HBaT.out).cell 0 rfl
  have caT_1_1 := (HBaT.out).cell 1 rfl
  have caT_1_2 := (HBaT.out).cell 2 rfl
  go_wp2_with fail
  with_reducible refine (szTable_any [.slice AaT0 aT.tracked.length CaT0, .slice AaT1 aT.patterns.length CaT1, .slice AaT2 aT.distances.length CaT2] aT _ (1048576 - (Sz.sz aP : Nat)) _ (Rp.keep raT T0) (by omega) (by omega)).mono ?_
  rintro e w2 ⟨rfl, t1⟩
  rw [esaT]
  have T1 : Only [] w1 w2 := t1
  have S1 : w1.heap.size + 0 ≤ w2.heap.size := by have := T1.size; omega
  clear caT_1_0 caT_1_1 caT_1_2
  go_upto_region 8 with fail
  go_region_held3 (fun w' => Only [] w2 w' ∧ w'.cell? ⟨w.heap.size, 0, none⟩ = some (.int .i64 aP.points) ∧ w'.cell? ⟨w.heap.size, 1, none⟩ = some (.string aP.names) ∧ w'.cell? ⟨w.heap.size, 2, none⟩ = some (.slice AaP2 aP.moves.length CaP2) ∧ w'.cell? ⟨(w.heap.size + 1), 0, none⟩ = some (.slice AaT0 aT.tracked.length CaT0) ∧ w'.cell? ⟨(w.heap.size + 1), 1, none⟩ = some (.slice AaT1 aT.patterns.length CaT1) ∧ w'.cell? ⟨(w.heap.size + 1), 2, none⟩ = some (.slice AaT2 aT.distances.length CaT2)) ((refine and_of ?_ (fun h__ => ⟨(Blk.keep (Blk.keep HBaP.out T1) h__).cell 0 rfl, (Blk.keep (Blk.keep HBaP.out T1) h__).cell 1 rfl, (Blk.keep (Blk.keep HBaP.out T1) h__).cell 2 rfl, (Blk.keep (Blk.keep HBaT.out T1) h__).cell 0 rfl, (Blk.keep (Blk.keep HBaT.out T1) h__).cell 1 rfl, (Blk.keep (Blk.keep HBaT.out T1) h__).cell 2 rfl⟩); first | exact (Only.refl _ _).drew | exact Only.trans (And.left (by assumption)) (by assumption))) (first
    | (go_at_call 12; (with_reducible refine (toPuzzle_any [.int .i64 aP.points, .string aP.names, .slice AaP2 aP.moves.length CaP2] aP _ _ (Rp.keep (Rp.keep (Rp.keep raP T0) T1) (And.left (by assumption))) smaP).mono ?_); rintro e w3 ⟨u1, f1, rfl, r1, F1, t2⟩)
    | (go_at_call 21; (with_reducible refine (toTable_any [.slice AaT0 aT.tracked.length CaT0, .slice AaT1 aT.patterns.length CaT1, .slice AaT2 aT.distances.length CaT2] aT _ _ (Rp.keep (Rp.keep (Rp.keep raT T0) T1) (And.left (by assumption))) smaT).mono ?_); rintro e w4 ⟨u2, f2, rfl, r2, F2, t3⟩)
    | (go_at_call 44; (with_reducible refine (specTableFaults_any u1 u2 aP aT _ _ _ (Rp.keep r1 (by first | exact Only.refl _ _ | assumption | exact Only.trans (by assumption) (by assumption))) (Rp.keep r2 (by first | exact Only.refl _ _ | assumption | exact Only.trans (by assumption) (by assumption)))).mono ?_); rintro e w5 ⟨v3, f3, rfl, r3, F3, t4⟩)
    | fail "no arm")
  have T2 : Only [] w2 w3 := ((Only.refl _ _).drew).trans t2
  have S2 : w2.heap.size + 0 ≤ w3.heap.size := by have := T2.size; omega
  have L1 := Rp.lt r1
  have G1 : ∀ b ∈ f1, w2.heap.size ≤ b := fun b hb => by have := F1.ge b hb; first | omega | (simp at this; omega)
  have T3 : Only [] w3 w4 := t3
  have S3 : w3.heap.size + 0 ≤ w4.heap.size := by have := T3.size; omega
  have L2 := Rp.lt r2
  have G2 : ∀ b ∈ f2, w3.heap.size ≤ b := fun b hb => by have := F2.ge b hb; first | omega | (simp at this; omega)
  have T4 : Only [] w4 w5 := t4
  have S4 : w4.heap.size + 0 ≤ w5.heap.size := by have := T4.size; omega
  have L3 := Rp.lt r3
  have G3 : ∀ b ∈ f3, w4.heap.size ≤ b := fun b hb => by have := F3.ge b hb; first | omega | (simp at this; omega)
  have caP_5_0 := ((Blk.keep (Blk.keep (Blk.keep (Blk.keep HBaP.out T1) T2) T3) T4)).cell 0 rfl
  have caP_5_1 := ((Blk.keep (Blk.keep (Blk.keep (Blk.keep HBaP.out T1) T2) T3) T4)).cell 1 rfl
  have caP_5_2 := ((Blk.keep (Blk.keep (Blk.keep (Blk.keep HBaP.out T1) T2) T3) T4)).cell 2 rfl
  go_wp2_with fail
  with_reducible refine (toPuzzle_any [.int .i64 aP.points, .string aP.names, .slice AaP2 aP.moves.length CaP2] aP _ _ (Rp.keep (Rp.keep (Rp.keep (Rp.keep (Rp.keep raP T0) T1) T2) T3) T4) smaP).mono ?_
  rintro e w6 ⟨u4, f4, rfl, r4, F4, t5⟩
  have T5 : Only [] w5 w6 := t5
  have S5 : w5.heap.size + 0 ≤ w6.heap.size := by have := T5.size; omega
  clear caP_5_0 caP_5_1 caP_5_2
  have q4 := r4
  obtain ⟨u42, rfl, -, -, z42⟩ := q4
  obtain ⟨A42, C42, _, _, rfl, -⟩ := z42.open_
  have L4 := Rp.lt r4
  have G4 : ∀ b ∈ f4, w5.heap.size ≤ b := fun b hb => by have := F4.ge b hb; omega
  have caT_6_0 := ((Only.refl [] _).alloc (.cells #[.int .i64 aP.points, .string aP.names, .slice A42 aP.moves.length C42] 26)).cell (by simp) (((Blk.keep (Blk.keep (Blk.keep (Blk.keep (Blk.keep HBaT.out T1) T2) T3) T4) T5)).cell 0 rfl)
  have caT_6_1 := ((Only.refl [] _).alloc (.cells #[.int .i64 aP.points, .string aP.names, .slice A42 aP.moves.length C42] 26)).cell (by simp) (((Blk.keep (Blk.keep (Blk.keep (Blk.keep (Blk.keep HBaT.out T1) T2) T3) T4) T5)).cell 1 rfl)
  have caT_6_2 := ((Only.refl [] _).alloc (.cells #[.int .i64 aP.points, .string aP.names, .slice A42 aP.moves.length C42] 26)).cell (by simp) (((Blk.keep (Blk.keep (Blk.keep (Blk.keep (Blk.keep HBaT.out T1) T2) T3) T4) T5)).cell 2 rfl)
  go_wp2_with fail
  with_reducible refine (toTable_any [.slice AaT0 aT.tracked.length CaT0, .slice AaT1 aT.patterns.length CaT1, .slice AaT2 aT.distances.length CaT2] aT _ _ (Rp.keep (Rp.keep (Rp.keep (Rp.keep (Rp.keep (Rp.keep (Rp.keep raT T0) T1) T2) T3) T4) T5) ((Only.refl [] _).alloc (.cells #[.int .i64 aP.points, .string aP.names, .slice A42 aP.moves.length C42] 26))) smaT).mono ?_
  rintro e w7 ⟨u5, f5, rfl, r5, F5, t6⟩
  have T6 : Only [] w6 w7 := ((Only.refl [] _).alloc (.cells #[.int .i64 aP.points, .string aP.names, .slice A42 aP.moves.length C42] 26)).trans t6
  have S6 : w6.heap.size + 1 ≤ w7.heap.size := by have := t6.size; simp at this; omega
  have B4 : Blk w7 w6.heap.size [.int .i64 aP.points, .string aP.names, .slice A42 aP.moves.length C42] := (Blk.keep (Blk.new_at (by simp)) t6)
  have LB4 : w6.heap.size < w7.heap.size := B4.lt
  have HB4 := Lib.hid B4; clear B4
  clear caT_6_0 caT_6_1 caT_6_2
  have q5 := r5
  obtain ⟨u50, u51, u52, _, _, _, rfl, -, z50, z51, z52⟩ := q5
  obtain ⟨A50, C50, _, _, rfl, -⟩ := z50.open_
  obtain ⟨A51, C51, _, _, rfl, -⟩ := z51.open_
  obtain ⟨A52, C52, _, _, rfl, -⟩ := z52.open_
  have L5 := Rp.lt r5
  have G5 : ∀ b ∈ f5, w6.heap.size + 1 ≤ b := fun b hb => by have := F5.ge b hb; simp at this; omega
  have c4_7_0 := ((Only.refl [] _).alloc (.cells #[.slice A50 aT.tracked.length C50, .slice A51 aT.patterns.length C51, .slice A52 aT.distances.length C52] 42)).cell (by simp) ((HB4.out).cell 0 rfl)
  have c4_7_1 := ((Only.refl [] _).alloc (.cells #[.slice A50 aT.tracked.length C50, .slice A51 aT.patterns.length C51, .slice A52 aT.distances.length C52] 42)).cell (by simp) ((HB4.out).cell 1 rfl)
  have c4_7_2 := ((Only.refl [] _).alloc (.cells #[.slice A50 aT.tracked.length C50, .slice A51 aT.patterns.length C51, .slice A52 aT.distances.length C52] 42)).cell (by simp) ((HB4.out).cell 2 rfl)
  go_wp2_with fail
  with_reducible refine (implTableFaults_any [.int .i64 aP.points, .string aP.names, .slice A42 aP.moves.length C42] [.slice A50 aT.tracked.length C50, .slice A51 aT.patterns.length C51, .slice A52 aT.distances.length C52] aP aT _ _ _ (Rp.keep (Rp.keep r4 T6) ((Only.refl [] _).alloc (.cells #[.slice A50 aT.tracked.length C50, .slice A51 aT.patterns.length C51, .slice A52 aT.distances.length C52] 42))) (Rp.keep r5 ((Only.refl [] _).alloc (.cells #[.slice A50 aT.tracked.length C50, .slice A51 aT.patterns.length C51, .slice A52 aT.distances.length C52] 42)))).mono ?_
  rintro e w8 ⟨v6, f6, rfl, r6, F6, t7⟩
  have T7 : Only [] w7 w8 := ((Only.refl [] _).alloc (.cells #[.slice A50 aT.tracked.length C50, .slice A51 aT.patterns.length C51, .slice A52 aT.distances.length C52] 42)).trans t7
  have S7 : w7.heap.size + 1 ≤ w8.heap.size := by have := t7.size; simp at this; omega
  have B5 : Blk w8 w7.heap.size [.slice A50 aT.tracked.length C50, .slice A51 aT.patterns.length C51, .slice A52 aT.distances.length C52] := (Blk.keep (Blk.new_at (by simp)) t7)
  have LB5 : w7.heap.size < w8.heap.size := B5.lt
  have HB5 := Lib.hid B5; clear B5
  clear c4_7_0 c4_7_1 c4_7_2
  have L6 := Rp.lt r6
  have G6 : ∀ b ∈ f6, w7.heap.size + 1 ≤ b := fun b hb => by have := F6.ge b hb; simp at this; omega
  have e8 : eqV (tableFaults aP aT) (tableFaults aP aT) = true := eqV_yes rfl
  go_wp2_with fail
  with_reducible refine (eqTableFaultS_rd v6 v3 (tableFaults aP aT) (tableFaults aP aT) _ _ _ r6 (Rp.keep (Rp.keep (Rp.keep r3 T5) T6) T7)).mono ?_
  rintro e w9 ⟨rfl, t8⟩
  have T8 : Only [] w8 w9 := t8
  have S8 : w8.heap.size + 0 ≤ w9.heap.size := by have := T8.size; omega
  go_upto_region 14 with fail
  have e10 : eqV aP aP = true := eqV_yes rfl
  go_region_held3 (fun w' => Only [] w9 w' ∧ w'.cell? ⟨w6.heap.size, 0, none⟩ = some (.int .i64 aP.points) ∧ w'.cell? ⟨w6.heap.size, 1, none⟩ = some (.string aP.names) ∧ w'.cell? ⟨w6.heap.size, 2, none⟩ = some (.slice A42 aP.moves.length C42) ∧ w'.cell? ⟨w.heap.size, 0, none⟩ = some (.int .i64 aP.points) ∧ w'.cell? ⟨w.heap.size, 1, none⟩ = some (.string aP.names) ∧ w'.cell? ⟨w.heap.size, 2, none⟩ = some (.slice AaP2 aP.moves.length CaP2)) ((refine and_of ?_ (fun h__ => ⟨(Blk.keep (Blk.keep (Blk.keep HB4.out T7) T8) h__).cell 0 rfl, (Blk.keep (Blk.keep (Blk.keep HB4.out T7) T8) h__).cell 1 rfl, (Blk.keep (Blk.keep (Blk.keep HB4.out T7) T8) h__).cell 2 rfl, (Blk.keep (Blk.keep (Blk.keep (Blk.keep (Blk.keep (Blk.keep (Blk.keep (Blk.keep (Blk.keep HBaP.out T1) T2) T3) T4) T5) T6) T7) T8) h__).cell 0 rfl, (Blk.keep (Blk.keep (Blk.keep (Blk.keep (Blk.keep (Blk.keep (Blk.keep (Blk.keep (Blk.keep HBaP.out T1) T2) T3) T4) T5) T6) T7) T8) h__).cell 1 rfl, (Blk.keep (Blk.keep (Blk.keep (Blk.keep (Blk.keep (Blk.keep (Blk.keep (Blk.keep (Blk.keep HBaP.out T1) T2) T3) T4) T5) T6) T7) T8) h__).cell 2 rfl⟩); first | exact (Only.refl _ _).drew | exact Only.trans (And.left (by assumption)) (by assumption))) (first
    | (go_at_call 12; (with_reducible refine (toPuzzle_any [.int .i64 aP.points, .string aP.names, .slice AaP2 aP.moves.length CaP2] aP _ _ (Rp.keep (Rp.keep (Rp.keep (Rp.keep (Rp.keep (Rp.keep (Rp.keep (Rp.keep (Rp.keep (Rp.keep raP T0) T1) T2) T3) T4) T5) T6) T7) T8) (And.left (by assumption))) smaP).mono ?_); rintro e w10 ⟨u7, f7, rfl, r7, F7, t9⟩)
    | (go_at_call 15; (with_reducible refine (eqPuzzle_any [.int .i64 aP.points, .string aP.names, .slice A42 aP.moves.length C42] u7 aP aP _ _ _ (Rp.keep (Rp.keep (Rp.keep (Rp.keep r4 T6) T7) T8) (And.left (by assumption))) (Rp.keep r7 (by first | exact Only.refl _ _ | assumption | exact Only.trans (by assumption) (by assumption)))).mono ?_); rintro e w11 ⟨rfl, t10⟩)
    | fail "no arm")
  have T9 : Only [] w9 w10 := ((Only.refl _ _).drew).trans t9
  have S9 : w9.heap.size + 0 ≤ w10.heap.size := by have := T9.size; omega
  have L7 := Rp.lt r7
  have G7 : ∀ b ∈ f7, w9.heap.size ≤ b := fun b hb => by have := F7.ge b hb; first | omega | (simp at this; omega)
  have T10 : Only [] w10 w11 := t10
  have S10 : w10.heap.size + 0 ≤ w11.heap.size := by have := T10.size; omega
  go_upto_region 16 with fail
  have e12 : eqV aT aT = true := eqV_yes rfl
  go_region_held3 (fun w' => Only [] w11 w' ∧ w'.cell? ⟨w7.heap.size, 0, none⟩ = some (.slice A50 aT.tracked.length C50) ∧ w'.cell? ⟨w7.heap.size, 1, none⟩ = some (.slice A51 aT.patterns.length C51) ∧ w'.cell? ⟨w7.heap.size, 2, none⟩ = some (.slice A52 aT.distances.length C52) ∧ w'.cell? ⟨(w.heap.size + 1), 0, none⟩ = some (.slice AaT0 aT.tracked.length CaT0) ∧ w'.cell? ⟨(w.heap.size + 1), 1, none⟩ = some (.slice AaT1 aT.patterns.length CaT1) ∧ w'.cell? ⟨(w.heap.size + 1), 2, none⟩ = some (.slice AaT2 aT.distances.length CaT2)) ((refine and_of ?_ (fun h__ => ⟨(Blk.keep (Blk.keep (Blk.keep (Blk.keep HB5.out T8) T9) T10) h__).cell 0 rfl, (Blk.keep (Blk.keep (Blk.keep (Blk.keep HB5.out T8) T9) T10) h__).cell 1 rfl, (Blk.keep (Blk.keep (Blk.keep (Blk.keep HB5.out T8) T9) T10) h__).cell 2 rfl, (Blk.keep (Blk.keep (Blk.keep (Blk.keep (Blk.keep (Blk.keep (Blk.keep (Blk.keep (Blk.keep (Blk.keep (Blk.keep HBaT.out T1) T2) T3) T4) T5) T6) T7) T8) T9) T10) h__).cell 0 rfl, (Blk.keep (Blk.keep (Blk.keep (Blk.keep (Blk.keep (Blk.keep (Blk.keep (Blk.keep (Blk.keep (Blk.keep (Blk.keep HBaT.out T1) T2) T3) T4) T5) T6) T7) T8) T9) T10) h__).cell 1 rfl, (Blk.keep (Blk.keep (Blk.keep (Blk.keep (Blk.keep (Blk.keep (Blk.keep (Blk.keep (Blk.keep (Blk.keep (Blk.keep HBaT.out T1) T2) T3) T4) T5) T6) T7) T8) T9) T10) h__).cell 2 rfl⟩); first | exact (Only.refl _ _).drew | exact Only.trans (And.left (by assumption)) (by assumption))) (first
    | (go_at_call 21; (with_reducible refine (toTable_any [.slice AaT0 aT.tracked.length CaT0, .slice AaT1 aT.patterns.length CaT1, .slice AaT2 aT.distances.length CaT2] aT _ _ (Rp.keep (Rp.keep (Rp.keep (Rp.keep (Rp.keep (Rp.keep (Rp.keep (Rp.keep (Rp.keep (Rp.keep (Rp.keep (Rp.keep raT T0) T1) T2) T3) T4) T5) T6) T7) T8) T9) T10) (And.left (by assumption))) smaT).mono ?_); rintro e w12 ⟨u8, f8, rfl, r8, F8, t11⟩)
    | (go_at_call 24; (with_reducible refine (eqTable_any [.slice A50 aT.tracked.length C50, .slice A51 aT.patterns.length C51, .slice A52 aT.distances.length C52] u8 aT aT _ _ _ (Rp.keep (Rp.keep (Rp.keep (Rp.keep (Rp.keep r5 T7) T8) T9) T10) (And.left (by assumption))) (Rp.keep r8 (by first | exact Only.refl _ _ | assumption | exact Only.trans (by assumption) (by assumption)))).mono ?_); rintro e w13 ⟨rfl, t12⟩)
    | fail "no arm")
  have T11 : Only [] w11 w12 := ((Only.refl _ _).drew).trans t11
  have S11 : w11.heap.size + 0 ≤ w12.heap.size := by have := T11.size; omega
  have L8 := Rp.lt r8
  have G8 : ∀ b ∈ f8, w11.heap.size ≤ b := fun b hb => by have := F8.ge b hb; first | omega | (simp at this; omega)
  have T12 : Only [] w12 w13 := t12
  have S12 : w12.heap.size + 0 ≤ w13.heap.size := by have := T12.size; omega
  have c4_13_0 := ((Blk.keep (Blk.keep (Blk.keep (Blk.keep (Blk.keep (Blk.keep HB4.out T7) T8) T9) T10) T11) T12)).cell 0 rfl
  have c4_13_1 := ((Blk.keep (Blk.keep (Blk.keep (Blk.keep (Blk.keep (Blk.keep HB4.out T7) T8) T9) T10) T11) T12)).cell 1 rfl
  have c4_13_2 := ((Blk.keep (Blk.keep (Blk.keep (Blk.keep (Blk.keep (Blk.keep HB4.out T7) T8) T9) T10) T11) T12)).cell 2 rfl
  have m13 : (1 : Int) + (Mk.cnt aP : Nat) ≤ 4611686018427387904 := by omega
  go_wp2_with fail
  with_reducible refine (markPuzzle_any [.int .i64 aP.points, .string aP.names, .slice A42 aP.moves.length C42] aP f4 (1) _ (Rp.keep (Rp.keep (Rp.keep (Rp.keep (Rp.keep (Rp.keep (Rp.keep r4 T6) T7) T8) T9) T10) T11) T12) F4.nd (Own.keep (Own.keep (Own.keep (Own.keep (Own.keep (Own.keep (Own.keep F4.own T6) T7) T8) T9) T10) T11) T12) (by omega) m13).mono ?_
  rintro e w14 ⟨rfl, rr13, oo13, t13⟩
  have T13 : Only f4 w13 w14 := t13
  have S13 : w13.heap.size + 0 ≤ w14.heap.size := by have := T13.size; omega
  clear c4_13_0 c4_13_1 c4_13_2
  clear r4
  have r4 := rr13
  have O4 := oo13
  have c5_14_0 := ((Blk.only (Blk.keep (Blk.keep (Blk.keep (Blk.keep (Blk.keep HB5.out T8) T9) T10) T11) T12) T13 (fun hm => by have := L4 _ hm; omega))).cell 0 rfl
  have c5_14_1 := ((Blk.only (Blk.keep (Blk.keep (Blk.keep (Blk.keep (Blk.keep HB5.out T8) T9) T10) T11) T12) T13 (fun hm => by have := L4 _ hm; omega))).cell 1 rfl
  have c5_14_2 := ((Blk.only (Blk.keep (Blk.keep (Blk.keep (Blk.keep (Blk.keep HB5.out T8) T9) T10) T11) T12) T13 (fun hm => by have := L4 _ hm; omega))).cell 2 rfl
  have m14 : (1 + (Mk.cnt aP : Nat) : Int) + (Mk.cnt aT : Nat) ≤ 4611686018427387904 := by omega
  go_wp2_with fail
  with_reducible refine (markTable_any [.slice A50 aT.tracked.length C50, .slice A51 aT.patterns.length C51, .slice A52 aT.distances.length C52] aT f5 (1 + (Mk.cnt aP : Nat)) _ (Rp.only (Rp.keep (Rp.keep (Rp.keep (Rp.keep (Rp.keep (Rp.keep r5 T7) T8) T9) T10) T11) T12) T13 (fun b hb hm => by have := G5 b hb; have := L4 b hm; omega)) F5.nd (Own.only (Own.keep (Own.keep (Own.keep (Own.keep (Own.keep (Own.keep F5.own T7) T8) T9) T10) T11) T12) T13 (fun b hb hm => by have := G5 b hb; have := L4 b hm; omega)) (by omega) m14).mono ?_
  rintro e w15 ⟨rfl, rr14, oo14, t14⟩
  have T14 : Only f5 w14 w15 := t14
  have S14 : w14.heap.size + 0 ≤ w15.heap.size := by have := T14.size; omega
  clear c5_14_0 c5_14_1 c5_14_2
  clear r5
  have r5 := rr14
  have O5 := oo14
  have e15 : eqV (tableFaults aP aT) (tableFaults aP aT) = true := eqV_yes rfl
  go_wp2_with fail
  with_reducible refine (eqTableFaultS_rd v6 v3 (tableFaults aP aT) (tableFaults aP aT) _ _ _ (Rp.only (Rp.only (Rp.keep (Rp.keep (Rp.keep (Rp.keep (Rp.keep r6 T8) T9) T10) T11) T12) T13 (fun b hb hm => by have := G6 b hb; have := L4 b hm; omega)) T14 (fun b hb hm => by have := G6 b hb; have := L5 b hm; omega)) (Rp.only (Rp.only (Rp.keep (Rp.keep (Rp.keep (Rp.keep (Rp.keep (Rp.keep (Rp.keep (Rp.keep r3 T5) T6) T7) T8) T9) T10) T11) T12) T13 (fun b hb hm => by have := L3 b hb; have := G4 b hm; omega)) T14 (fun b hb hm => by have := L3 b hb; have := G5 b hm; omega))).mono ?_
  rintro e w16 ⟨rfl, t15⟩
  have T15 : Only [] w15 w16 := t15
  have S15 : w15.heap.size + 0 ≤ w16.heap.size := by have := T15.size; omega
  have m16 : (1 : Int) + (Mk.cnt (tableFaults aP aT) : Nat) ≤ 4611686018427387904 := by omega
  go_wp2_with fail
  with_reducible refine (markTableFaultS_rd v6 (tableFaults aP aT) f6 (1) _ (Rp.keep (Rp.only (Rp.only (Rp.keep (Rp.keep (Rp.keep (Rp.keep (Rp.keep r6 T8) T9) T10) T11) T12) T13 (fun b hb hm => by have := G6 b hb; have := L4 b hm; omega)) T14 (fun b hb hm => by have := G6 b hb; have := L5 b hm; omega)) T15) F6.nd (Own.keep (Own.only (Own.only (Own.keep (Own.keep (Own.keep (Own.keep (Own.keep F6.own T8) T9) T10) T11) T12) T13 (fun b hb hm => by have := G6 b hb; have := L4 b hm; omega)) T14 (fun b hb hm => by have := G6 b hb; have := L5 b hm; omega)) T15) (by omega) m16).mono ?_
  rintro e w17 ⟨rfl, rr16, oo16, t16⟩
  have T16 : Only f6 w16 w17 := t16
  have S16 : w16.heap.size + 0 ≤ w17.heap.size := by have := T16.size; omega
  clear r6
  have r6 := rr16
  have O6 := oo16
  have h17 : heldV (1) (Mk.mark (1) (tableFaults aP aT)) = 1 + (Mk.cnt (tableFaults aP aT) : Nat) := heldV_mark (1) (tableFaults aP aT)
  have m17 : (1 : Int) + (Mk.cnt (Mk.mark (1) (tableFaults aP aT)) : Nat) ≤ 4611686018427387904 := by rw [MkL.cnt]; omega
  go_wp2_with fail
  with_reducible refine (heldTableFaultS_rd v6 (Mk.mark (1) (tableFaults aP aT)) _ (1) _ r6 (by omega) m17).mono ?_
  rintro e w18 ⟨rfl, t17⟩
  have T17 : Only [] w17 w18 := t17
  have S17 : w17.heap.size + 0 ≤ w18.heap.size := by have := T17.size; omega
  go_upto_region 31 with fail
  go_region_held3 (fun w' => Only [] w18 w' ∧ w'.cell? ⟨w.heap.size, 0, none⟩ = some (.int .i64 aP.points) ∧ w'.cell? ⟨w.heap.size, 1, none⟩ = some (.string aP.names) ∧ w'.cell? ⟨w.heap.size, 2, none⟩ = some (.slice AaP2 aP.moves.length CaP2) ∧ w'.cell? ⟨(w.heap.size + 1), 0, none⟩ = some (.slice AaT0 aT.tracked.length CaT0) ∧ w'.cell? ⟨(w.heap.size + 1), 1, none⟩ = some (.slice AaT1 aT.patterns.length CaT1) ∧ w'.cell? ⟨(w.heap.size + 1), 2, none⟩ = some (.slice AaT2 aT.distances.length CaT2)) ((refine and_of ?_ (fun h__ => ⟨(Blk.keep (Blk.keep (Blk.only (Blk.keep (Blk.only (Blk.only (Blk.keep (Blk.keep (Blk.keep (Blk.keep (Blk.keep (Blk.keep (Blk.keep (Blk.keep (Blk.keep (Blk.keep (Blk.keep (Blk.keep HBaP.out T1) T2) T3) T4) T5) T6) T7) T8) T9) T10) T11) T12) T13 (fun hm => by have := G4 _ hm; have := LBaP; omega)) T14 (fun hm => by have := G5 _ hm; have := LBaP; omega)) T15) T16 (fun hm => by have := G6 _ hm; have := LBaP; omega)) T17) h__).cell 0 rfl, (Blk.keep (Blk.keep (Blk.only (Blk.keep (Blk.only (Blk.only (Blk.keep (Blk.keep (Blk.keep (Blk.keep (Blk.keep (Blk.keep (Blk.keep (Blk.keep (Blk.keep (Blk.keep (Blk.keep (Blk.keep HBaP.out T1) T2) T3) T4) T5) T6) T7) T8) T9) T10) T11) T12) T13 (fun hm => by have := G4 _ hm; have := LBaP; omega)) T14 (fun hm => by have := G5 _ hm; have := LBaP; omega)) T15) T16 (fun hm => by have := G6 _ hm; have := LBaP; omega)) T17) h__).cell 1 rfl, (Blk.keep (Blk.keep (Blk.only (Blk.keep (Blk.only (Blk.only (Blk.keep (Blk.keep (Blk.keep (Blk.keep (Blk.keep (Blk.keep (Blk.keep (Blk.keep (Blk.keep (Blk.keep (Blk.keep (Blk.keep HBaP.out T1) T2) T3) T4) T5) T6) T7) T8) T9) T10) T11) T12) T13 (fun hm => by have := G4 _ hm; have := LBaP; omega)) T14 (fun hm => by have := G5 _ hm; have := LBaP; omega)) T15) T16 (fun hm => by have := G6 _ hm; have := LBaP; omega)) T17) h__).cell 2 rfl, (Blk.keep (Blk.keep (Blk.only (Blk.keep (Blk.only (Blk.only (Blk.keep (Blk.keep (Blk.keep (Blk.keep (Blk.keep (Blk.keep (Blk.keep (Blk.keep (Blk.keep (Blk.keep (Blk.keep (Blk.keep HBaT.out T1) T2) T3) T4) T5) T6) T7) T8) T9) T10) T11) T12) T13 (fun hm => by have := G4 _ hm; have := LBaT; omega)) T14 (fun hm => by have := G5 _ hm; have := LBaT; omega)) T15) T16 (fun hm => by have := G6 _ hm; have := LBaT; omega)) T17) h__).cell 0 rfl, (Blk.keep (Blk.keep (Blk.only (Blk.keep (Blk.only (Blk.only (Blk.keep (Blk.keep (Blk.keep (Blk.keep (Blk.keep (Blk.keep (Blk.keep (Blk.keep (Blk.keep (Blk.keep (Blk.keep (Blk.keep HBaT.out T1) T2) T3) T4) T5) T6) T7) T8) T9) T10) T11) T12) T13 (fun hm => by have := G4 _ hm; have := LBaT; omega)) T14 (fun hm => by have := G5 _ hm; have := LBaT; omega)) T15) T16 (fun hm => by have := G6 _ hm; have := LBaT; omega)) T17) h__).cell 1 rfl, (Blk.keep (Blk.keep (Blk.only (Blk.keep (Blk.only (Blk.only (Blk.keep (Blk.keep (Blk.keep (Blk.keep (Blk.keep (Blk.keep (Blk.keep (Blk.keep (Blk.keep (Blk.keep (Blk.keep (Blk.keep HBaT.out T1) T2) T3) T4) T5) T6) T7) T8) T9) T10) T11) T12) T13 (fun hm => by have := G4 _ hm; have := LBaT; omega)) T14 (fun hm => by have := G5 _ hm; have := LBaT; omega)) T15) T16 (fun hm => by have := G6 _ hm; have := LBaT; omega)) T17) h__).cell 2 rfl⟩); first | exact (Only.refl _ _).drew | exact Only.trans (And.left (by assumption)) (by assumption))) (first
    | (go_at_call 12; (with_reducible refine (toPuzzle_any [.int .i64 aP.points, .string aP.names, .slice AaP2 aP.moves.length CaP2] aP _ _ (Rp.keep (Rp.keep (Rp.only (Rp.keep (Rp.only (Rp.only (Rp.keep (Rp.keep (Rp.keep (Rp.keep (Rp.keep (Rp.keep (Rp.keep (Rp.keep (Rp.keep (Rp.keep (Rp.keep (Rp.keep (Rp.keep raP T0) T1) T2) T3) T4) T5) T6) T7) T8) T9) T10) T11) T12) T13 (fun b hb hm => by have := LaP b hb; have := G4 b hm; omega)) T14 (fun b hb hm => by have := LaP b hb; have := G5 b hm; omega)) T15) T16 (fun b hb hm => by have := LaP b hb; have := G6 b hm; omega)) T17) (And.left (by assumption))) smaP).mono ?_); rintro e w19 ⟨u9, f9, rfl, r9, F9, t18⟩)
    | (go_at_call 21; (with_reducible refine (toTable_any [.slice AaT0 aT.tracked.length CaT0, .slice AaT1 aT.patterns.length CaT1, .slice AaT2 aT.distances.length CaT2] aT _ _ (Rp.keep (Rp.keep (Rp.only (Rp.keep (Rp.only (Rp.only (Rp.keep (Rp.keep (Rp.keep (Rp.keep (Rp.keep (Rp.keep (Rp.keep (Rp.keep (Rp.keep (Rp.keep (Rp.keep (Rp.keep (Rp.keep raT T0) T1) T2) T3) T4) T5) T6) T7) T8) T9) T10) T11) T12) T13 (fun b hb hm => by have := LaT b hb; have := G4 b hm; omega)) T14 (fun b hb hm => by have := LaT b hb; have := G5 b hm; omega)) T15) T16 (fun b hb hm => by have := LaT b hb; have := G6 b hm; omega)) T17) (And.left (by assumption))) smaT).mono ?_); rintro e w20 ⟨u10, f10, rfl, r10, F10, t19⟩)
    | (go_at_call 45; (with_reducible refine (implTableFaults_any u9 u10 aP aT _ _ _ (Rp.keep r9 (by first | exact Only.refl _ _ | assumption | exact Only.trans (by assumption) (by assumption))) (Rp.keep r10 (by first | exact Only.refl _ _ | assumption | exact Only.trans (by assumption) (by assumption)))).mono ?_); rintro e w21 ⟨v11, f11, rfl, r11, F11, t20⟩)
    | fail "no arm")
  have T18 : Only [] w18 w19 := ((Only.refl _ _).drew).trans t18
  have S18 : w18.heap.size + 0 ≤ w19.heap.size := by have := T18.size; omega
  have L9 := Rp.lt r9
  have G9 : ∀ b ∈ f9, w18.heap.size ≤ b := fun b hb => by have := F9.ge b hb; first | omega | (simp at this; omega)
  have T19 : Only [] w19 w20 := t19
  have S19 : w19.heap.size + 0 ≤ w20.heap.size := by have := T19.size; omega
  have L10 := Rp.lt r10
  have G10 : ∀ b ∈ f10, w19.heap.size ≤ b := fun b hb => by have := F10.ge b hb; first | omega | (simp at this; omega)
  have T20 : Only [] w20 w21 := t20
  have S20 : w20.heap.size + 0 ≤ w21.heap.size := by have := T20.size; omega
  have L11 := Rp.lt r11
  have G11 : ∀ b ∈ f11, w20.heap.size ≤ b := fun b hb => by have := F11.ge b hb; first | omega | (simp at this; omega)
  have e21 : eqV (tableFaults aP aT) (tableFaults aP aT) = true := eqV_yes rfl
  go_wp2_with fail
  with_reducible refine (eqTableFaultS_rd v11 v3 (tableFaults aP aT) (tableFaults aP aT) _ _ _ r11 (Rp.keep (Rp.keep (Rp.keep (Rp.keep (Rp.only (Rp.keep (Rp.only (Rp.only (Rp.keep (Rp.keep (Rp.keep (Rp.keep (Rp.keep (Rp.keep (Rp.keep (Rp.keep r3 T5) T6) T7) T8) T9) T10) T11) T12) T13 (fun b hb hm => by have := L3 b hb; have := G4 b hm; omega)) T14 (fun b hb hm => by have := L3 b hb; have := G5 b hm; omega)) T15) T16 (fun b hb hm => by have := L3 b hb; have := G6 b hm; omega)) T17) T18) T19) T20)).mono ?_
  rintro e w22 ⟨rfl, t21⟩
  have T21 : Only [] w21 w22 := t21
  have S21 : w21.heap.size + 0 ≤ w22.heap.size := by have := T21.size; omega
  have h22 : heldV (1) (Mk.mark (1) (tableFaults aP aT)) = 1 + (Mk.cnt (tableFaults aP aT) : Nat) := heldV_mark (1) (tableFaults aP aT)
  have m22 : (1 : Int) + (Mk.cnt (Mk.mark (1) (tableFaults aP aT)) : Nat) ≤ 4611686018427387904 := by rw [MkL.cnt]; omega
  go_wp2_with fail
  with_reducible refine (heldTableFaultS_rd v6 (Mk.mark (1) (tableFaults aP aT)) _ (1) _ (Rp.keep (Rp.keep (Rp.keep (Rp.keep (Rp.keep r6 T17) T18) T19) T20) T21) (by omega) m22).mono ?_
  rintro e w23 ⟨rfl, t22⟩
  have T22 : Only [] w22 w23 := t22
  have S22 : w22.heap.size + 0 ≤ w23.heap.size := by have := T22.size; omega
  go_wp2
  go_ret
  refine ⟨rfl, ?_⟩
  exact (Only.keepThen (Only.keepThen (Only.keepThen (Only.keepThen (Only.keepThen (Only.keepThen (Only.then_ (Only.keepThen (Only.then_ (Only.then_ (Only.keepThen (Only.keepThen (Only.keepThen (Only.keepThen (Only.keepThen (Only.keepThen (Only.keepThen (Only.keepThen (Only.keepThen (Only.keepThen (Only.keepThen (Only.keepThen T0 T1) T2) T3) T4) T5) T6) T7) T8) T9) T10) T11) T12) T13 (fun b hb hl => by have := G4 b hb; omega)) T14 (fun b hb hl => by have := G5 b hb; omega)) T15) T16 (fun b hb hl => by have := G6 b hb; omega)) T17) T18) T19) T20) T21) T22)
end Go.Proofs.Ytmilmbgnkpkmnaa
