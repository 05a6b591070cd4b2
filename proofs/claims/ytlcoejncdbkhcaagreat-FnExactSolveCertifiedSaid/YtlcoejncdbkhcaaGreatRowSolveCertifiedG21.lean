/- The law on SolveCertified: its walk. (Printed by gen_exact.py.) -/
import Derived.Test.YtlcoejncdbkhcaaGreatRowSolveCertifiedG20
import Derived.Deep.RegionHeld3
import Derived.Deep.DeepCutAuto
namespace Go.Proofs.YtlcoejncdbkhcaaGreat
open Go.RowKit
set_option maxRecDepth 10000

set_option maxHeartbeats 4000000 in
theorem FnExactSolveCertified_any (w : World) (caP : List Value) (aP : Puzzle) (faP : List Nat) (raP : Rp.rep w caP aP faP) (vaS : Value) (aS : List Int) (faS : List Nat) (raS : Rd w vaS aS faS) :
    Calls Tryz.prog 7 #[.agg caP.toArray, vaS] w fun e w' => e = .returned (.bool true) ∧ Only [] w w' := by
  have qaP := raP
  obtain ⟨uaP2, rfl, -, -, zaP2⟩ := qaP
  obtain ⟨AaP2, CaP2, _, _, rfl, -⟩ := zaP2.open_
  have LaP := Rp.lt raP
  obtain ⟨AaS, CaS, _, _, rfl, -⟩ := raS.open_
  have LaS := Rp.lt raS
  have hbaS : aS.length ≤ 9223372036854775807 := by obtain ⟨_, _, _, _, hq, -, hs⟩ := raS.open_; have := hs.bound; exact this
  by_cases lenaS : 1048576 < aS.length
  · go_enter Tryz.func7, Tryz.ntmps7
    go_wp2
    go_ret
    exact ⟨rfl, (by with_reducible repeat (first | exact Only.refl _ _ | assumption | refine Only.drewN ?_ _ | refine Only.drew ?_ | refine Only.alloc ?_ _ | refine Only.setCell ?_ (by intro hh; exfalso; simp at hh; try omega) _ | refine Only.trans ?_ (by assumption)))⟩
  have smaS : Sm.sm aS := ⟨by omega, fun _ _ => trivial⟩
  have csaS : Mk.cnt aS ≤ 1048576 := by simp only [Mk.cnt, cntL_ints]; omega
  rcases szV_cases (1048576) aP with ⟨esaP, msaP⟩ | ⟨esaP, psaP, msaP⟩
  · go_enter Tryz.func7, Tryz.ntmps7
    go_wp2_with (with_reducible refine (szPuzzle_any [.int .i64 aP.points, .string aP.names, .slice AaP2 aP.moves.length CaP2] aP _ (1048576) _ (Rp.keep raP ((Only.refl [] _).alloc (.cells #[.int .i64 aP.points, .string aP.names, .slice AaP2 aP.moves.length CaP2] 24))) (by omega) (by omega)).mono ?_; rintro e w1 ⟨rfl, t0⟩)
    go_ret
    exact ⟨rfl, (by with_reducible repeat (first | exact Only.refl _ _ | assumption | refine Only.drewN ?_ _ | refine Only.drew ?_ | refine Only.alloc ?_ _ | refine Only.setCell ?_ (by intro hh; exfalso; simp at hh; try omega) _ | refine Only.trans ?_ (by assumption)))⟩
  have smaP : Sm.sm aP := SzSm.of_ _ (by omega)
  have csaP : Mk.cnt aP ≤ 1048576 := Nat.le_trans (CntSz.le aP) (by omega)
  have hcnt := sdCert_cnt aP aS
  go_enter Tryz.func7, Tryz.ntmps7
  go_wp2_with fail
  with_reducible refine (szPuzzle_any [.int .i64 aP.points, .string aP.names, .slice AaP2 aP.moves.length CaP2] aP _ (1048576) _ (Rp.keep raP ((Only.refl [] _).alloc (.cells #[.int .i64 aP.points, .string aP.names, .slice AaP2 aP.moves.length CaP2] 24))) (by omega) (by omega)).mono ?_
  rintro e w1 ⟨rfl, t0⟩
  rw [esaP]
  have T0 : Only [] w w1 := ((Only.refl [] _).alloc (.cells #[.int .i64 aP.points, .string aP.names, .slice AaP2 aP.moves.length CaP2] 24)).trans t0
  have S0 : w.heap.size + 1 ≤ w1.heap.size := by have := t0.size; simp at this; omega
  have BaP : Blk w1 w.heap.size [.int .i64 aP.points, .string aP.names, .slice AaP2 aP.moves.length CaP2] := (Blk.keep (Blk.new_at (by simp)) t0)
  have LBaP : w.heap.size < w1.heap.size := BaP.lt
  have HBaP := Lib.hid BaP; clear BaP
  have caP_1_0 := (HBaP.out).cell 0 rfl
  have caP_1_1 := (HBaP.out).cell 1 rfl
  have caP_1_2 := (HBaP.out).cell 2 rfl
  go_wp2_with fail
  with_reducible refine (toPuzzle_any [.int .i64 aP.points, .string aP.names, .slice AaP2 aP.moves.length CaP2] aP _ _ (Rp.keep raP T0) smaP).mono ?_
  rintro e w2 ⟨u1, f1, rfl, r1, F1, t1⟩
  have T1 : Only [] w1 w2 := t1
  have S1 : w1.heap.size + 0 ≤ w2.heap.size := by have := T1.size; omega
  clear caP_1_0 caP_1_1 caP_1_2
  have q1 := r1
  obtain ⟨u12, rfl, -, -, z12⟩ := q1
  obtain ⟨A12, C12, _, _, rfl, -⟩ := z12.open_
  have L1 := Rp.lt r1
  have G1 : ∀ b ∈ f1, w1.heap.size ≤ b := fun b hb => by have := F1.ge b hb; omega
  go_wp2_with fail
  with_reducible refine (toInt64S_sm (.slice AaS aS.length CaS) aS _ _ (Rp.keep (Rp.keep raS T0) T1) smaS).mono ?_
  rintro e w3 ⟨v2, f2, rfl, r2, F2, t2⟩
  have T2 : Only [] w2 w3 := t2
  have S2 : w2.heap.size + 0 ≤ w3.heap.size := by have := T2.size; omega
  have L2 := Rp.lt r2
  have G2 : ∀ b ∈ f2, w2.heap.size ≤ b := fun b hb => by have := F2.ge b hb; omega
  go_wp2_with fail
  with_reducible refine (specSolveCert_any [.int .i64 aP.points, .string aP.names, .slice A12 aP.moves.length C12] aP _ v2 aS _ _ (Rp.keep r1 T2) r2).mono ?_
  rintro e w4 ⟨u3, f3, rfl, r3, F3, t3⟩
  have T3 : Only [] w3 w4 := t3
  have S3 : w3.heap.size + 0 ≤ w4.heap.size := by have := T3.size; omega
  have q3 := r3
  obtain ⟨u31, u32, u33, _, _, _, rfl, -, -, z31, z32, z33⟩ := q3
  obtain ⟨A31, C31, _, _, rfl, -⟩ := z31.open_
  obtain ⟨A32, C32, _, _, rfl, -⟩ := z32.open_
  obtain ⟨A33, C33, _, _, rfl, -⟩ := z33.open_
  have L3 := Rp.lt r3
  have G3 : ∀ b ∈ f3, w3.heap.size ≤ b := fun b hb => by have := F3.ge b hb; omega
  have caP_4_0 := ((Only.refl [] _).alloc (.cells #[.int .i64 (sdCert aP aS).kind, .slice A31 (sdCert aP aS).numbers.length C31, .slice A32 (sdCert aP aS).words.length C32, .slice A33 (sdCert aP aS).tables.length C33] 51)).cell (by simp) (((Blk.keep (Blk.keep (Blk.keep HBaP.out T1) T2) T3)).cell 0 rfl)
  have caP_4_1 := ((Only.refl [] _).alloc (.cells #[.int .i64 (sdCert aP aS).kind, .slice A31 (sdCert aP aS).numbers.length C31, .slice A32 (sdCert aP aS).words.length C32, .slice A33 (sdCert aP aS).tables.length C33] 51)).cell (by simp) (((Blk.keep (Blk.keep (Blk.keep HBaP.out T1) T2) T3)).cell 1 rfl)
  have caP_4_2 := ((Only.refl [] _).alloc (.cells #[.int .i64 (sdCert aP aS).kind, .slice A31 (sdCert aP aS).numbers.length C31, .slice A32 (sdCert aP aS).words.length C32, .slice A33 (sdCert aP aS).tables.length C33] 51)).cell (by simp) (((Blk.keep (Blk.keep (Blk.keep HBaP.out T1) T2) T3)).cell 2 rfl)
  go_wp2_with fail
  with_reducible refine (toPuzzle_any [.int .i64 aP.points, .string aP.names, .slice AaP2 aP.moves.length CaP2] aP _ _ (Rp.keep (Rp.keep (Rp.keep (Rp.keep (Rp.keep raP T0) T1) T2) T3) ((Only.refl [] _).alloc (.cells #[.int .i64 (sdCert aP aS).kind, .slice A31 (sdCert aP aS).numbers.length C31, .slice A32 (sdCert aP aS).words.length C32, .slice A33 (sdCert aP aS).tables.length C33] 51))) smaP).mono ?_
  rintro e w5 ⟨u4, f4, rfl, r4, F4, t4⟩
  have T4 : Only [] w4 w5 := ((Only.refl [] _).alloc (.cells #[.int .i64 (sdCert aP aS).kind, .slice A31 (sdCert aP aS).numbers.length C31, .slice A32 (sdCert aP aS).words.length C32, .slice A33 (sdCert aP aS).tables.length C33] 51)).trans t4
  have S4 : w4.heap.size + 1 ≤ w5.heap.size := by have := t4.size; simp at this; omega
  have B3 : Blk w5 w4.heap.size [.int .i64 (sdCert aP aS).kind, .slice A31 (sdCert aP aS).numbers.length C31, .slice A32 (sdCert aP aS).words.length C32, .slice A33 (sdCert aP aS).tables.length C33] := (Blk.keep (Blk.new_at (by simp)) t4)
  have LB3 : w4.heap.size < w5.heap.size := B3.lt
  have HB3 := Lib.hid B3; clear B3
  clear caP_4_0 caP_4_1 caP_4_2
  have q4 := r4
  obtain ⟨u42, rfl, -, -, z42⟩ := q4
  obtain ⟨A42, C42, _, _, rfl, -⟩ := z42.open_
  have L4 := Rp.lt r4
  have G4 : ∀ b ∈ f4, w4.heap.size + 1 ≤ b := fun b hb => by have := F4.ge b hb; simp at this; omega
  go_wp2_with fail
  with_reducible refine (toInt64S_sm (.slice AaS aS.length CaS) aS _ _ (Rp.keep (Rp.keep (Rp.keep (Rp.keep (Rp.keep (Rp.keep raS T0) T1) T2) T3) T4) ((Only.refl [] _).alloc (.cells #[.int .i64 aP.points, .string aP.names, .slice A42 aP.moves.length C42] 37))) smaS).mono ?_
  rintro e w6 ⟨v5, f5, rfl, r5, F5, t5⟩
  have T5 : Only [] w5 w6 := ((Only.refl [] _).alloc (.cells #[.int .i64 aP.points, .string aP.names, .slice A42 aP.moves.length C42] 37)).trans t5
  have S5 : w5.heap.size + 1 ≤ w6.heap.size := by have := t5.size; simp at this; omega
  have B4 : Blk w6 w5.heap.size [.int .i64 aP.points, .string aP.names, .slice A42 aP.moves.length C42] := (Blk.keep (Blk.new_at (by simp)) t5)
  have LB4 : w5.heap.size < w6.heap.size := B4.lt
  have HB4 := Lib.hid B4; clear B4
  have L5 := Rp.lt r5
  have G5 : ∀ b ∈ f5, w5.heap.size + 1 ≤ b := fun b hb => by have := F5.ge b hb; simp at this; omega
  have c4_6_0 := (HB4.out).cell 0 rfl
  have c4_6_1 := (HB4.out).cell 1 rfl
  have c4_6_2 := (HB4.out).cell 2 rfl
  go_wp2_with fail
  with_reducible refine (implSolveCert_any [.int .i64 aP.points, .string aP.names, .slice A42 aP.moves.length C42] aP _ v5 aS _ _ (Rp.keep r4 T5) r5).mono ?_
  rintro e w7 ⟨u6, f6, rfl, r6, F6, t6⟩
  have T6 : Only [] w6 w7 := t6
  have S6 : w6.heap.size + 0 ≤ w7.heap.size := by have := T6.size; omega
  clear c4_6_0 c4_6_1 c4_6_2
  have q6 := r6
  obtain ⟨u61, u62, u63, _, _, _, rfl, -, -, z61, z62, z63⟩ := q6
  obtain ⟨A61, C61, _, _, rfl, -⟩ := z61.open_
  obtain ⟨A62, C62, _, _, rfl, -⟩ := z62.open_
  obtain ⟨A63, C63, _, _, rfl, -⟩ := z63.open_
  have L6 := Rp.lt r6
  have G6 : ∀ b ∈ f6, w6.heap.size ≤ b := fun b hb => by have := F6.ge b hb; omega
  have c3_7_0 := ((Only.refl [] _).alloc (.cells #[.int .i64 (sdCert aP aS).kind, .slice A61 (sdCert aP aS).numbers.length C61, .slice A62 (sdCert aP aS).words.length C62, .slice A63 (sdCert aP aS).tables.length C63] 51)).cell (by simp) (((Blk.keep (Blk.keep HB3.out T5) T6)).cell 0 rfl)
  have c3_7_1 := ((Only.refl [] _).alloc (.cells #[.int .i64 (sdCert aP aS).kind, .slice A61 (sdCert aP aS).numbers.length C61, .slice A62 (sdCert aP aS).words.length C62, .slice A63 (sdCert aP aS).tables.length C63] 51)).cell (by simp) (((Blk.keep (Blk.keep HB3.out T5) T6)).cell 1 rfl)
  have c3_7_2 := ((Only.refl [] _).alloc (.cells #[.int .i64 (sdCert aP aS).kind, .slice A61 (sdCert aP aS).numbers.length C61, .slice A62 (sdCert aP aS).words.length C62, .slice A63 (sdCert aP aS).tables.length C63] 51)).cell (by simp) (((Blk.keep (Blk.keep HB3.out T5) T6)).cell 2 rfl)
  have c3_7_3 := ((Only.refl [] _).alloc (.cells #[.int .i64 (sdCert aP aS).kind, .slice A61 (sdCert aP aS).numbers.length C61, .slice A62 (sdCert aP aS).words.length C62, .slice A63 (sdCert aP aS).tables.length C63] 51)).cell (by simp) (((Blk.keep (Blk.keep HB3.out T5) T6)).cell 3 rfl)
  have e7 : eqV (sdCert aP aS) (sdCert aP aS) = true := eqV_yes rfl
  go_wp2_with fail
  with_reducible refine (eqCertificate_any [.int .i64 (sdCert aP aS).kind, .slice A61 (sdCert aP aS).numbers.length C61, .slice A62 (sdCert aP aS).words.length C62, .slice A63 (sdCert aP aS).tables.length C63] [.int .i64 (sdCert aP aS).kind, .slice A31 (sdCert aP aS).numbers.length C31, .slice A32 (sdCert aP aS).words.length C32, .slice A33 (sdCert aP aS).tables.length C33] (sdCert aP aS) (sdCert aP aS) _ _ _ (Rp.keep r6 ((Only.refl [] _).alloc (.cells #[.int .i64 (sdCert aP aS).kind, .slice A61 (sdCert aP aS).numbers.length C61, .slice A62 (sdCert aP aS).words.length C62, .slice A63 (sdCert aP aS).tables.length C63] 51))) (Rp.keep (Rp.keep (Rp.keep (Rp.keep r3 T4) T5) T6) ((Only.refl [] _).alloc (.cells #[.int .i64 (sdCert aP aS).kind, .slice A61 (sdCert aP aS).numbers.length C61, .slice A62 (sdCert aP aS).words.length C62, .slice A63 (sdCert aP aS).tables.length C63] 51)))).mono ?_
  rintro e w8 ⟨rfl, t7⟩
  have T7 : Only [] w7 w8 := ((Only.refl [] _).alloc (.cells #[.int .i64 (sdCert aP aS).kind, .slice A61 (sdCert aP aS).numbers.length C61, .slice A62 (sdCert aP aS).words.length C62, .slice A63 (sdCert aP aS).tables.length C63] 51)).trans t7
  have S7 : w7.heap.size + 1 ≤ w8.heap.size := by have := t7.size; simp at this; omega
  have B6 : Blk w8 w7.heap.size [.int .i64 (sdCert aP aS).kind, .slice A61 (sdCert aP aS).numbers.length C61, .slice A62 (sdCert aP aS).words.length C62, .slice A63 (sdCert aP aS).tables.length C63] := (Blk.keep (Blk.new_at (by simp)) t7)
  have LB6 : w7.heap.size < w8.heap.size := B6.lt
  have HB6 := Lib.hid B6; clear B6
  clear c3_7_0 c3_7_1 c3_7_2 c3_7_3
  go_upto_region 13 with fail
  have e9 : eqV aP aP = true := eqV_yes rfl
  go_region_held3 (fun w' => Only [] w8 w' ∧ w'.cell? ⟨w5.heap.size, 0, none⟩ = some (.int .i64 aP.points) ∧ w'.cell? ⟨w5.heap.size, 1, none⟩ = some (.string aP.names) ∧ w'.cell? ⟨w5.heap.size, 2, none⟩ = some (.slice A42 aP.moves.length C42) ∧ w'.cell? ⟨w.heap.size, 0, none⟩ = some (.int .i64 aP.points) ∧ w'.cell? ⟨w.heap.size, 1, none⟩ = some (.string aP.names) ∧ w'.cell? ⟨w.heap.size, 2, none⟩ = some (.slice AaP2 aP.moves.length CaP2)) ((refine and_of ?_ (fun h__ => ⟨(Blk.keep (Blk.keep (Blk.keep HB4.out T6) T7) h__).cell 0 rfl, (Blk.keep (Blk.keep (Blk.keep HB4.out T6) T7) h__).cell 1 rfl, (Blk.keep (Blk.keep (Blk.keep HB4.out T6) T7) h__).cell 2 rfl, (Blk.keep (Blk.keep (Blk.keep (Blk.keep (Blk.keep (Blk.keep (Blk.keep (Blk.keep HBaP.out T1) T2) T3) T4) T5) T6) T7) h__).cell 0 rfl, (Blk.keep (Blk.keep (Blk.keep (Blk.keep (Blk.keep (Blk.keep (Blk.keep (Blk.keep HBaP.out T1) T2) T3) T4) T5) T6) T7) h__).cell 1 rfl, (Blk.keep (Blk.keep (Blk.keep (Blk.keep (Blk.keep (Blk.keep (Blk.keep (Blk.keep HBaP.out T1) T2) T3) T4) T5) T6) T7) h__).cell 2 rfl⟩); first | exact (Only.refl _ _).drew | exact Only.trans (And.left (by assumption)) (by assumption))) (first
    | (go_at_call 15; (with_reducible refine (toPuzzle_any [.int .i64 aP.points, .string aP.names, .slice AaP2 aP.moves.length CaP2] aP _ _ (Rp.keep (Rp.keep (Rp.keep (Rp.keep (Rp.keep (Rp.keep (Rp.keep (Rp.keep (Rp.keep raP T0) T1) T2) T3) T4) T5) T6) T7) (And.left (by assumption))) smaP).mono ?_); rintro e w9 ⟨u7, f7, rfl, r7, F7, t8⟩)
    | (go_at_call 19; (with_reducible refine (eqPuzzle_any [.int .i64 aP.points, .string aP.names, .slice A42 aP.moves.length C42] u7 aP aP _ _ _ (Rp.keep (Rp.keep (Rp.keep (Rp.keep r4 T5) T6) T7) (And.left (by assumption))) (Rp.keep r7 (by first | exact Only.refl _ _ | assumption | exact Only.trans (by assumption) (by assumption)))).mono ?_); rintro e w10 ⟨rfl, t9⟩)
    | fail "no arm")
  have T8 : Only [] w8 w9 := ((Only.refl _ _).drew).trans t8
  have S8 : w8.heap.size + 0 ≤ w9.heap.size := by have := T8.size; omega
  have L7 := Rp.lt r7
  have G7 : ∀ b ∈ f7, w8.heap.size ≤ b := fun b hb => by have := F7.ge b hb; first | omega | (simp at this; omega)
  have T9 : Only [] w9 w10 := t9
  have S9 : w9.heap.size + 0 ≤ w10.heap.size := by have := T9.size; omega
  go_wp2_with fail
  with_reducible refine (toInt64S_sm (.slice AaS aS.length CaS) aS _ _ (Rp.keep (Rp.keep (Rp.keep (Rp.keep (Rp.keep (Rp.keep (Rp.keep (Rp.keep (Rp.keep (Rp.keep raS T0) T1) T2) T3) T4) T5) T6) T7) T8) T9) smaS).mono ?_
  rintro e w11 ⟨v8, f8, rfl, r8, F8, t10⟩
  have T10 : Only [] w10 w11 := t10
  have S10 : w10.heap.size + 0 ≤ w11.heap.size := by have := T10.size; omega
  have L8 := Rp.lt r8
  have G8 : ∀ b ∈ f8, w10.heap.size ≤ b := fun b hb => by have := F8.ge b hb; omega
  have e11 : eqV aS aS = true := eqV_yes rfl
  go_wp2_with fail
  with_reducible refine (eqInt64S_rd v5 v8 aS aS _ _ _ (Rp.keep (Rp.keep (Rp.keep (Rp.keep (Rp.keep r5 T6) T7) T8) T9) T10) r8).mono ?_
  rintro e w12 ⟨rfl, d11⟩
  have t11 := d11.only []
  have T11 : Only [] w11 w12 := t11
  have S11 : w11.heap.size + 0 ≤ w12.heap.size := by have := T11.size; omega
  have c4_12_0 := ((Blk.keep (Blk.keep (Blk.keep (Blk.keep (Blk.keep (Blk.keep HB4.out T6) T7) T8) T9) T10) T11)).cell 0 rfl
  have c4_12_1 := ((Blk.keep (Blk.keep (Blk.keep (Blk.keep (Blk.keep (Blk.keep HB4.out T6) T7) T8) T9) T10) T11)).cell 1 rfl
  have c4_12_2 := ((Blk.keep (Blk.keep (Blk.keep (Blk.keep (Blk.keep (Blk.keep HB4.out T6) T7) T8) T9) T10) T11)).cell 2 rfl
  have m12 : (1 : Int) + (Mk.cnt aP : Nat) ≤ 4611686018427387904 := by omega
  go_wp2_with fail
  with_reducible refine (markPuzzle_any [.int .i64 aP.points, .string aP.names, .slice A42 aP.moves.length C42] aP f4 (1) _ (Rp.keep (Rp.keep (Rp.keep (Rp.keep (Rp.keep (Rp.keep (Rp.keep r4 T5) T6) T7) T8) T9) T10) T11) F4.nd (Own.keep (Own.keep (Own.keep (Own.keep (Own.keep (Own.keep (Own.keep F4.own T5) T6) T7) T8) T9) T10) T11) (by omega) m12).mono ?_
  rintro e w13 ⟨rfl, rr12, oo12, t12⟩
  have T12 : Only f4 w12 w13 := t12
  have S12 : w12.heap.size + 0 ≤ w13.heap.size := by have := T12.size; omega
  clear c4_12_0 c4_12_1 c4_12_2
  clear r4
  have r4 := rr12
  have O4 := oo12
  have m13 : (1 + (Mk.cnt aP : Nat) : Int) + (Mk.cnt aS : Nat) ≤ 4611686018427387904 := by omega
  go_wp2_with fail
  with_reducible refine (markInt64S_rd v5 aS f5 (1 + (Mk.cnt aP : Nat)) _ (Rp.only (Rp.keep (Rp.keep (Rp.keep (Rp.keep (Rp.keep (Rp.keep r5 T6) T7) T8) T9) T10) T11) T12 (fun b hb hm => by have := G5 b hb; have := L4 b hm; omega)) (Own.only (Own.keep (Own.keep (Own.keep (Own.keep (Own.keep (Own.keep F5.own T6) T7) T8) T9) T10) T11) T12 (fun b hb hm => by have := G5 b hb; have := L4 b hm; omega)) (by omega) m13).mono ?_
  rintro e w14 ⟨rfl, rr13, oo13, t13⟩
  have T13 : Only f5 w13 w14 := t13
  have S13 : w13.heap.size + 0 ≤ w14.heap.size := by have := T13.size; omega
  clear r5
  have r5 := rr13
  have O5 := oo13
  have c6_14_0 := ((Blk.only (Blk.only (Blk.keep (Blk.keep (Blk.keep (Blk.keep HB6.out T8) T9) T10) T11) T12 (fun hm => by have := L4 _ hm; omega)) T13 (fun hm => by have := L5 _ hm; omega))).cell 0 rfl
  have c6_14_1 := ((Blk.only (Blk.only (Blk.keep (Blk.keep (Blk.keep (Blk.keep HB6.out T8) T9) T10) T11) T12 (fun hm => by have := L4 _ hm; omega)) T13 (fun hm => by have := L5 _ hm; omega))).cell 1 rfl
  have c6_14_2 := ((Blk.only (Blk.only (Blk.keep (Blk.keep (Blk.keep (Blk.keep HB6.out T8) T9) T10) T11) T12 (fun hm => by have := L4 _ hm; omega)) T13 (fun hm => by have := L5 _ hm; omega))).cell 2 rfl
  have c6_14_3 := ((Blk.only (Blk.only (Blk.keep (Blk.keep (Blk.keep (Blk.keep HB6.out T8) T9) T10) T11) T12 (fun hm => by have := L4 _ hm; omega)) T13 (fun hm => by have := L5 _ hm; omega))).cell 3 rfl
  have c3_14_0 := ((Blk.only (Blk.only (Blk.keep (Blk.keep (Blk.keep (Blk.keep (Blk.keep (Blk.keep (Blk.keep HB3.out T5) T6) T7) T8) T9) T10) T11) T12 (fun hm => by have := G4 _ hm; have := LB3; omega)) T13 (fun hm => by have := G5 _ hm; have := LB3; omega))).cell 0 rfl
  have c3_14_1 := ((Blk.only (Blk.only (Blk.keep (Blk.keep (Blk.keep (Blk.keep (Blk.keep (Blk.keep (Blk.keep HB3.out T5) T6) T7) T8) T9) T10) T11) T12 (fun hm => by have := G4 _ hm; have := LB3; omega)) T13 (fun hm => by have := G5 _ hm; have := LB3; omega))).cell 1 rfl
  have c3_14_2 := ((Blk.only (Blk.only (Blk.keep (Blk.keep (Blk.keep (Blk.keep (Blk.keep (Blk.keep (Blk.keep HB3.out T5) T6) T7) T8) T9) T10) T11) T12 (fun hm => by have := G4 _ hm; have := LB3; omega)) T13 (fun hm => by have := G5 _ hm; have := LB3; omega))).cell 2 rfl
  have c3_14_3 := ((Blk.only (Blk.only (Blk.keep (Blk.keep (Blk.keep (Blk.keep (Blk.keep (Blk.keep (Blk.keep HB3.out T5) T6) T7) T8) T9) T10) T11) T12 (fun hm => by have := G4 _ hm; have := LB3; omega)) T13 (fun hm => by have := G5 _ hm; have := LB3; omega))).cell 3 rfl
  have e14 : eqV (sdCert aP aS) (sdCert aP aS) = true := eqV_yes rfl
  go_wp2_with fail
  with_reducible refine (eqCertificate_any [.int .i64 (sdCert aP aS).kind, .slice A61 (sdCert aP aS).numbers.length C61, .slice A62 (sdCert aP aS).words.length C62, .slice A63 (sdCert aP aS).tables.length C63] [.int .i64 (sdCert aP aS).kind, .slice A31 (sdCert aP aS).numbers.length C31, .slice A32 (sdCert aP aS).words.length C32, .slice A33 (sdCert aP aS).tables.length C33] (sdCert aP aS) (sdCert aP aS) _ _ _ (Rp.only (Rp.only (Rp.keep (Rp.keep (Rp.keep (Rp.keep (Rp.keep r6 T7) T8) T9) T10) T11) T12 (fun b hb hm => by have := G6 b hb; have := L4 b hm; omega)) T13 (fun b hb hm => by have := G6 b hb; have := L5 b hm; omega)) (Rp.only (Rp.only (Rp.keep (Rp.keep (Rp.keep (Rp.keep (Rp.keep (Rp.keep (Rp.keep (Rp.keep r3 T4) T5) T6) T7) T8) T9) T10) T11) T12 (fun b hb hm => by have := L3 b hb; have := G4 b hm; omega)) T13 (fun b hb hm => by have := L3 b hb; have := G5 b hm; omega))).mono ?_
  rintro e w15 ⟨rfl, t14⟩
  have T14 : Only [] w14 w15 := t14
  have S14 : w14.heap.size + 0 ≤ w15.heap.size := by have := T14.size; omega
  clear c6_14_0 c6_14_1 c6_14_2 c6_14_3 c3_14_0 c3_14_1 c3_14_2 c3_14_3
  have c6_15_0 := ((Blk.keep (Blk.only (Blk.only (Blk.keep (Blk.keep (Blk.keep (Blk.keep HB6.out T8) T9) T10) T11) T12 (fun hm => by have := L4 _ hm; omega)) T13 (fun hm => by have := L5 _ hm; omega)) T14)).cell 0 rfl
  have c6_15_1 := ((Blk.keep (Blk.only (Blk.only (Blk.keep (Blk.keep (Blk.keep (Blk.keep HB6.out T8) T9) T10) T11) T12 (fun hm => by have := L4 _ hm; omega)) T13 (fun hm => by have := L5 _ hm; omega)) T14)).cell 1 rfl
  have c6_15_2 := ((Blk.keep (Blk.only (Blk.only (Blk.keep (Blk.keep (Blk.keep (Blk.keep HB6.out T8) T9) T10) T11) T12 (fun hm => by have := L4 _ hm; omega)) T13 (fun hm => by have := L5 _ hm; omega)) T14)).cell 2 rfl
  have c6_15_3 := ((Blk.keep (Blk.only (Blk.only (Blk.keep (Blk.keep (Blk.keep (Blk.keep HB6.out T8) T9) T10) T11) T12 (fun hm => by have := L4 _ hm; omega)) T13 (fun hm => by have := L5 _ hm; omega)) T14)).cell 3 rfl
  have m15 : (1 : Int) + (Mk.cnt (sdCert aP aS) : Nat) ≤ 4611686018427387904 := by omega
  go_wp2_with fail
  with_reducible refine (markCertificate_any [.int .i64 (sdCert aP aS).kind, .slice A61 (sdCert aP aS).numbers.length C61, .slice A62 (sdCert aP aS).words.length C62, .slice A63 (sdCert aP aS).tables.length C63] (sdCert aP aS) f6 (1) _ (Rp.keep (Rp.only (Rp.only (Rp.keep (Rp.keep (Rp.keep (Rp.keep (Rp.keep r6 T7) T8) T9) T10) T11) T12 (fun b hb hm => by have := G6 b hb; have := L4 b hm; omega)) T13 (fun b hb hm => by have := G6 b hb; have := L5 b hm; omega)) T14) F6.nd (Own.keep (Own.only (Own.only (Own.keep (Own.keep (Own.keep (Own.keep (Own.keep F6.own T7) T8) T9) T10) T11) T12 (fun b hb hm => by have := G6 b hb; have := L4 b hm; omega)) T13 (fun b hb hm => by have := G6 b hb; have := L5 b hm; omega)) T14) (by omega) m15).mono ?_
  rintro e w16 ⟨rfl, rr15, oo15, t15⟩
  have T15 : Only f6 w15 w16 := t15
  have S15 : w15.heap.size + 0 ≤ w16.heap.size := by have := T15.size; omega
  clear c6_15_0 c6_15_1 c6_15_2 c6_15_3
  clear r6
  have r6 := rr15
  have O6 := oo15
  have c6_16_0 := ((Blk.only (Blk.keep (Blk.only (Blk.only (Blk.keep (Blk.keep (Blk.keep (Blk.keep HB6.out T8) T9) T10) T11) T12 (fun hm => by have := L4 _ hm; omega)) T13 (fun hm => by have := L5 _ hm; omega)) T14) T15 (fun hm => by have := L6 _ hm; omega))).cell 0 rfl
  have c6_16_1 := ((Blk.only (Blk.keep (Blk.only (Blk.only (Blk.keep (Blk.keep (Blk.keep (Blk.keep HB6.out T8) T9) T10) T11) T12 (fun hm => by have := L4 _ hm; omega)) T13 (fun hm => by have := L5 _ hm; omega)) T14) T15 (fun hm => by have := L6 _ hm; omega))).cell 1 rfl
  have c6_16_2 := ((Blk.only (Blk.keep (Blk.only (Blk.only (Blk.keep (Blk.keep (Blk.keep (Blk.keep HB6.out T8) T9) T10) T11) T12 (fun hm => by have := L4 _ hm; omega)) T13 (fun hm => by have := L5 _ hm; omega)) T14) T15 (fun hm => by have := L6 _ hm; omega))).cell 2 rfl
  have c6_16_3 := ((Blk.only (Blk.keep (Blk.only (Blk.only (Blk.keep (Blk.keep (Blk.keep (Blk.keep HB6.out T8) T9) T10) T11) T12 (fun hm => by have := L4 _ hm; omega)) T13 (fun hm => by have := L5 _ hm; omega)) T14) T15 (fun hm => by have := L6 _ hm; omega))).cell 3 rfl
  have h16 : heldV (1) (Mk.mark (1) (sdCert aP aS)) = 1 + (Mk.cnt (sdCert aP aS) : Nat) := heldV_mark (1) (sdCert aP aS)
  have m16 : (1 : Int) + (Mk.cnt (Mk.mark (1) (sdCert aP aS)) : Nat) ≤ 4611686018427387904 := by rw [MkL.cnt]; omega
  go_wp2_with fail
  with_reducible refine (heldCertificate_any [.int .i64 (sdCert aP aS).kind, .slice A61 (sdCert aP aS).numbers.length C61, .slice A62 (sdCert aP aS).words.length C62, .slice A63 (sdCert aP aS).tables.length C63] (Mk.mark (1) (sdCert aP aS)) _ (1) _ r6 (by omega) m16).mono ?_
  rintro e w17 ⟨rfl, t16⟩
  have T16 : Only [] w16 w17 := t16
  have S16 : w16.heap.size + 0 ≤ w17.heap.size := by have := T16.size; omega
  clear c6_16_0 c6_16_1 c6_16_2 c6_16_3
  have caP_17_0 := ((Blk.keep (Blk.only (Blk.keep (Blk.only (Blk.only (Blk.keep (Blk.keep (Blk.keep (Blk.keep (Blk.keep (Blk.keep (Blk.keep (Blk.keep (Blk.keep (Blk.keep (Blk.keep HBaP.out T1) T2) T3) T4) T5) T6) T7) T8) T9) T10) T11) T12 (fun hm => by have := G4 _ hm; have := LBaP; omega)) T13 (fun hm => by have := G5 _ hm; have := LBaP; omega)) T14) T15 (fun hm => by have := G6 _ hm; have := LBaP; omega)) T16)).cell 0 rfl
  have caP_17_1 := ((Blk.keep (Blk.only (Blk.keep (Blk.only (Blk.only (Blk.keep (Blk.keep (Blk.keep (Blk.keep (Blk.keep (Blk.keep (Blk.keep (Blk.keep (Blk.keep (Blk.keep (Blk.keep HBaP.out T1) T2) T3) T4) T5) T6) T7) T8) T9) T10) T11) T12 (fun hm => by have := G4 _ hm; have := LBaP; omega)) T13 (fun hm => by have := G5 _ hm; have := LBaP; omega)) T14) T15 (fun hm => by have := G6 _ hm; have := LBaP; omega)) T16)).cell 1 rfl
  have caP_17_2 := ((Blk.keep (Blk.only (Blk.keep (Blk.only (Blk.only (Blk.keep (Blk.keep (Blk.keep (Blk.keep (Blk.keep (Blk.keep (Blk.keep (Blk.keep (Blk.keep (Blk.keep (Blk.keep HBaP.out T1) T2) T3) T4) T5) T6) T7) T8) T9) T10) T11) T12 (fun hm => by have := G4 _ hm; have := LBaP; omega)) T13 (fun hm => by have := G5 _ hm; have := LBaP; omega)) T14) T15 (fun hm => by have := G6 _ hm; have := LBaP; omega)) T16)).cell 2 rfl
  go_wp2_with fail
  with_reducible refine (toPuzzle_any [.int .i64 aP.points, .string aP.names, .slice AaP2 aP.moves.length CaP2] aP _ _ (Rp.keep (Rp.only (Rp.keep (Rp.only (Rp.only (Rp.keep (Rp.keep (Rp.keep (Rp.keep (Rp.keep (Rp.keep (Rp.keep (Rp.keep (Rp.keep (Rp.keep (Rp.keep (Rp.keep raP T0) T1) T2) T3) T4) T5) T6) T7) T8) T9) T10) T11) T12 (fun b hb hm => by have := LaP b hb; have := G4 b hm; omega)) T13 (fun b hb hm => by have := LaP b hb; have := G5 b hm; omega)) T14) T15 (fun b hb hm => by have := LaP b hb; have := G6 b hm; omega)) T16) smaP).mono ?_
  rintro e w18 ⟨u9, f9, rfl, r9, F9, t17⟩
  have T17 : Only [] w17 w18 := t17
  have S17 : w17.heap.size + 0 ≤ w18.heap.size := by have := T17.size; omega
  clear caP_17_0 caP_17_1 caP_17_2
  have q9 := r9
  obtain ⟨u92, rfl, -, -, z92⟩ := q9
  obtain ⟨A92, C92, _, _, rfl, -⟩ := z92.open_
  have L9 := Rp.lt r9
  have G9 : ∀ b ∈ f9, w17.heap.size ≤ b := fun b hb => by have := F9.ge b hb; omega
  go_wp2_with fail
  with_reducible refine (toInt64S_sm (.slice AaS aS.length CaS) aS _ _ (Rp.keep (Rp.keep (Rp.only (Rp.keep (Rp.only (Rp.only (Rp.keep (Rp.keep (Rp.keep (Rp.keep (Rp.keep (Rp.keep (Rp.keep (Rp.keep (Rp.keep (Rp.keep (Rp.keep (Rp.keep raS T0) T1) T2) T3) T4) T5) T6) T7) T8) T9) T10) T11) T12 (fun b hb hm => by have := LaS b hb; have := G4 b hm; omega)) T13 (fun b hb hm => by have := LaS b hb; have := G5 b hm; omega)) T14) T15 (fun b hb hm => by have := LaS b hb; have := G6 b hm; omega)) T16) T17) smaS).mono ?_
  rintro e w19 ⟨v10, f10, rfl, r10, F10, t18⟩
  have T18 : Only [] w18 w19 := t18
  have S18 : w18.heap.size + 0 ≤ w19.heap.size := by have := T18.size; omega
  have L10 := Rp.lt r10
  have G10 : ∀ b ∈ f10, w18.heap.size ≤ b := fun b hb => by have := F10.ge b hb; omega
  go_wp2_with fail
  with_reducible refine (implSolveCert_any [.int .i64 aP.points, .string aP.names, .slice A92 aP.moves.length C92] aP _ v10 aS _ _ (Rp.keep r9 T18) r10).mono ?_
  rintro e w20 ⟨u11, f11, rfl, r11, F11, t19⟩
  have T19 : Only [] w19 w20 := t19
  have S19 : w19.heap.size + 0 ≤ w20.heap.size := by have := T19.size; omega
  have q11 := r11
  obtain ⟨u111, u112, u113, _, _, _, rfl, -, -, z111, z112, z113⟩ := q11
  obtain ⟨A111, C111, _, _, rfl, -⟩ := z111.open_
  obtain ⟨A112, C112, _, _, rfl, -⟩ := z112.open_
  obtain ⟨A113, C113, _, _, rfl, -⟩ := z113.open_
  have L11 := Rp.lt r11
  have G11 : ∀ b ∈ f11, w19.heap.size ≤ b := fun b hb => by have := F11.ge b hb; omega
  have c3_20_0 := ((Only.refl [] _).alloc (.cells #[.int .i64 (sdCert aP aS).kind, .slice A111 (sdCert aP aS).numbers.length C111, .slice A112 (sdCert aP aS).words.length C112, .slice A113 (sdCert aP aS).tables.length C113] 51)).cell (by simp) (((Blk.keep (Blk.keep (Blk.keep (Blk.keep (Blk.only (Blk.keep (Blk.only (Blk.only (Blk.keep (Blk.keep (Blk.keep (Blk.keep (Blk.keep (Blk.keep (Blk.keep HB3.out T5) T6) T7) T8) T9) T10) T11) T12 (fun hm => by have := G4 _ hm; have := LB3; omega)) T13 (fun hm => by have := G5 _ hm; have := LB3; omega)) T14) T15 (fun hm => by have := G6 _ hm; have := LB3; omega)) T16) T17) T18) T19)).cell 0 rfl)
  have c3_20_1 := ((Only.refl [] _).alloc (.cells #[.int .i64 (sdCert aP aS).kind, .slice A111 (sdCert aP aS).numbers.length C111, .slice A112 (sdCert aP aS).words.length C112, .slice A113 (sdCert aP aS).tables.length C113] 51)).cell (by simp) (((Blk.keep (Blk.keep (Blk.keep (Blk.keep (Blk.only (Blk.keep (Blk.only (Blk.only (Blk.keep (Blk.keep (Blk.keep (Blk.keep (Blk.keep (Blk.keep (Blk.keep HB3.out T5) T6) T7) T8) T9) T10) T11) T12 (fun hm => by have := G4 _ hm; have := LB3; omega)) T13 (fun hm => by have := G5 _ hm; have := LB3; omega)) T14) T15 (fun hm => by have := G6 _ hm; have := LB3; omega)) T16) T17) T18) T19)).cell 1 rfl)
  have c3_20_2 := ((Only.refl [] _).alloc (.cells #[.int .i64 (sdCert aP aS).kind, .slice A111 (sdCert aP aS).numbers.length C111, .slice A112 (sdCert aP aS).words.length C112, .slice A113 (sdCert aP aS).tables.length C113] 51)).cell (by simp) (((Blk.keep (Blk.keep (Blk.keep (Blk.keep (Blk.only (Blk.keep (Blk.only (Blk.only (Blk.keep (Blk.keep (Blk.keep (Blk.keep (Blk.keep (Blk.keep (Blk.keep HB3.out T5) T6) T7) T8) T9) T10) T11) T12 (fun hm => by have := G4 _ hm; have := LB3; omega)) T13 (fun hm => by have := G5 _ hm; have := LB3; omega)) T14) T15 (fun hm => by have := G6 _ hm; have := LB3; omega)) T16) T17) T18) T19)).cell 2 rfl)
  have c3_20_3 := ((Only.refl [] _).alloc (.cells #[.int .i64 (sdCert aP aS).kind, .slice A111 (sdCert aP aS).numbers.length C111, .slice A112 (sdCert aP aS).words.length C112, .slice A113 (sdCert aP aS).tables.length C113] 51)).cell (by simp) (((Blk.keep (Blk.keep (Blk.keep (Blk.keep (Blk.only (Blk.keep (Blk.only (Blk.only (Blk.keep (Blk.keep (Blk.keep (Blk.keep (Blk.keep (Blk.keep (Blk.keep HB3.out T5) T6) T7) T8) T9) T10) T11) T12 (fun hm => by have := G4 _ hm; have := LB3; omega)) T13 (fun hm => by have := G5 _ hm; have := LB3; omega)) T14) T15 (fun hm => by have := G6 _ hm; have := LB3; omega)) T16) T17) T18) T19)).cell 3 rfl)
  have e20 : eqV (sdCert aP aS) (sdCert aP aS) = true := eqV_yes rfl
  go_wp2_with fail
  with_reducible refine (eqCertificate_any [.int .i64 (sdCert aP aS).kind, .slice A111 (sdCert aP aS).numbers.length C111, .slice A112 (sdCert aP aS).words.length C112, .slice A113 (sdCert aP aS).tables.length C113] [.int .i64 (sdCert aP aS).kind, .slice A31 (sdCert aP aS).numbers.length C31, .slice A32 (sdCert aP aS).words.length C32, .slice A33 (sdCert aP aS).tables.length C33] (sdCert aP aS) (sdCert aP aS) _ _ _ (Rp.keep r11 ((Only.refl [] _).alloc (.cells #[.int .i64 (sdCert aP aS).kind, .slice A111 (sdCert aP aS).numbers.length C111, .slice A112 (sdCert aP aS).words.length C112, .slice A113 (sdCert aP aS).tables.length C113] 51))) (Rp.keep (Rp.keep (Rp.keep (Rp.keep (Rp.keep (Rp.only (Rp.keep (Rp.only (Rp.only (Rp.keep (Rp.keep (Rp.keep (Rp.keep (Rp.keep (Rp.keep (Rp.keep (Rp.keep r3 T4) T5) T6) T7) T8) T9) T10) T11) T12 (fun b hb hm => by have := L3 b hb; have := G4 b hm; omega)) T13 (fun b hb hm => by have := L3 b hb; have := G5 b hm; omega)) T14) T15 (fun b hb hm => by have := L3 b hb; have := G6 b hm; omega)) T16) T17) T18) T19) ((Only.refl [] _).alloc (.cells #[.int .i64 (sdCert aP aS).kind, .slice A111 (sdCert aP aS).numbers.length C111, .slice A112 (sdCert aP aS).words.length C112, .slice A113 (sdCert aP aS).tables.length C113] 51)))).mono ?_
  rintro e w21 ⟨rfl, t20⟩
  have T20 : Only [] w20 w21 := ((Only.refl [] _).alloc (.cells #[.int .i64 (sdCert aP aS).kind, .slice A111 (sdCert aP aS).numbers.length C111, .slice A112 (sdCert aP aS).words.length C112, .slice A113 (sdCert aP aS).tables.length C113] 51)).trans t20
  have S20 : w20.heap.size + 1 ≤ w21.heap.size := by have := t20.size; simp at this; omega
  have B11 : Blk w21 w20.heap.size [.int .i64 (sdCert aP aS).kind, .slice A111 (sdCert aP aS).numbers.length C111, .slice A112 (sdCert aP aS).words.length C112, .slice A113 (sdCert aP aS).tables.length C113] := (Blk.keep (Blk.new_at (by simp)) t20)
  have LB11 : w20.heap.size < w21.heap.size := B11.lt
  have HB11 := Lib.hid B11; clear B11
  clear c3_20_0 c3_20_1 c3_20_2 c3_20_3
  have c6_21_0 := ((Blk.keep (Blk.keep (Blk.keep (Blk.keep (Blk.keep (Blk.only (Blk.keep (Blk.only (Blk.only (Blk.keep (Blk.keep (Blk.keep (Blk.keep HB6.out T8) T9) T10) T11) T12 (fun hm => by have := L4 _ hm; omega)) T13 (fun hm => by have := L5 _ hm; omega)) T14) T15 (fun hm => by have := L6 _ hm; omega)) T16) T17) T18) T19) T20)).cell 0 rfl
  have c6_21_1 := ((Blk.keep (Blk.keep (Blk.keep (Blk.keep (Blk.keep (Blk.only (Blk.keep (Blk.only (Blk.only (Blk.keep (Blk.keep (Blk.keep (Blk.keep HB6.out T8) T9) T10) T11) T12 (fun hm => by have := L4 _ hm; omega)) T13 (fun hm => by have := L5 _ hm; omega)) T14) T15 (fun hm => by have := L6 _ hm; omega)) T16) T17) T18) T19) T20)).cell 1 rfl
  have c6_21_2 := ((Blk.keep (Blk.keep (Blk.keep (Blk.keep (Blk.keep (Blk.only (Blk.keep (Blk.only (Blk.only (Blk.keep (Blk.keep (Blk.keep (Blk.keep HB6.out T8) T9) T10) T11) T12 (fun hm => by have := L4 _ hm; omega)) T13 (fun hm => by have := L5 _ hm; omega)) T14) T15 (fun hm => by have := L6 _ hm; omega)) T16) T17) T18) T19) T20)).cell 2 rfl
  have c6_21_3 := ((Blk.keep (Blk.keep (Blk.keep (Blk.keep (Blk.keep (Blk.only (Blk.keep (Blk.only (Blk.only (Blk.keep (Blk.keep (Blk.keep (Blk.keep HB6.out T8) T9) T10) T11) T12 (fun hm => by have := L4 _ hm; omega)) T13 (fun hm => by have := L5 _ hm; omega)) T14) T15 (fun hm => by have := L6 _ hm; omega)) T16) T17) T18) T19) T20)).cell 3 rfl
  have h21 : heldV (1) (Mk.mark (1) (sdCert aP aS)) = 1 + (Mk.cnt (sdCert aP aS) : Nat) := heldV_mark (1) (sdCert aP aS)
  have m21 : (1 : Int) + (Mk.cnt (Mk.mark (1) (sdCert aP aS)) : Nat) ≤ 4611686018427387904 := by rw [MkL.cnt]; omega
  go_wp2_with fail
  with_reducible refine (heldCertificate_any [.int .i64 (sdCert aP aS).kind, .slice A61 (sdCert aP aS).numbers.length C61, .slice A62 (sdCert aP aS).words.length C62, .slice A63 (sdCert aP aS).tables.length C63] (Mk.mark (1) (sdCert aP aS)) _ (1) _ (Rp.keep (Rp.keep (Rp.keep (Rp.keep (Rp.keep r6 T16) T17) T18) T19) T20) (by omega) m21).mono ?_
  rintro e w22 ⟨rfl, t21⟩
  have T21 : Only [] w21 w22 := t21
  have S21 : w21.heap.size + 0 ≤ w22.heap.size := by have := T21.size; omega
  clear c6_21_0 c6_21_1 c6_21_2 c6_21_3
  go_wp2
  go_ret
  refine ⟨rfl, ?_⟩
  exact (Only.keepThen (Only.keepThen (Only.keepThen (Only.keepThen (Only.keepThen (Only.keepThen (Only.then_ (Only.keepThen (Only.then_ (Only.then_ (Only.keepThen (Only.keepThen (Only.keepThen (Only.keepThen (Only.keepThen (Only.keepThen (Only.keepThen (Only.keepThen (Only.keepThen (Only.keepThen (Only.keepThen T0 T1) T2) T3) T4) T5) T6) T7) T8) T9) T10) T11) T12 (fun b hb hl => by have := G4 b hb; omega)) T13 (fun b hb hl => by have := G5 b hb; omega)) T14) T15 (fun b hb hl => by have := G6 b hb; omega)) T16) T17) T18) T19) T20) T21)
end Go.Proofs.YtlcoejncdbkhcaaGreat
