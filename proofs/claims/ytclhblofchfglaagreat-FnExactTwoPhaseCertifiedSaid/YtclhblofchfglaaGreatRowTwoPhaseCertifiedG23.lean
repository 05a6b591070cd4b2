/- The law on TwoPhaseCertified: its walk. (Printed by gen_exact.py.) -/
import Derived.Test.YtclhblofchfglaaGreatRowTwoPhaseCertifiedG22
import Derived.Test.YtclhblofchfglaaGreatRowTwoPhaseCertifiedG20
import Derived.Deep.RegionHeld3
import Derived.Deep.DeepCutAuto
namespace Go.Proofs.YtclhblofchfglaaGreat
open Go.RowKit
set_option maxRecDepth 10000

set_option maxHeartbeats 4000000 in
theorem FnExactTwoPhaseCertified_any (w : World) (caP : List Value) (aP : Puzzle) (faP : List Nat) (raP : Rp.rep w caP aP faP) (vaSubset : Value) (aSubset : List Int) (faSubset : List Nat) (raSubset : Rd w vaSubset aSubset faSubset) (vaS : Value) (aS : List Int) (faS : List Nat) (raS : Rd w vaS aS faS) :
    Calls Tryz.prog 4 #[.agg caP.toArray, vaSubset, vaS] w fun e w' => e = .returned (.bool true) ∧ Only [] w w' := by
  have qaP := raP
  obtain ⟨uaP2, rfl, -, -, zaP2⟩ := qaP
  obtain ⟨AaP2, CaP2, _, _, rfl, -⟩ := zaP2.open_
  have LaP := Rp.lt raP
  obtain ⟨AaSubset, CaSubset, _, _, rfl, -⟩ := raSubset.open_
  have LaSubset := Rp.lt raSubset
  have hbaSubset : aSubset.length ≤ 9223372036854775807 := by obtain ⟨_, _, _, _, hq, -, hs⟩ := raSubset.open_; have := hs.bound; exact this
  obtain ⟨AaS, CaS, _, _, rfl, -⟩ := raS.open_
  have LaS := Rp.lt raS
  have hbaS : aS.length ≤ 9223372036854775807 := by obtain ⟨_, _, _, _, hq, -, hs⟩ := raS.open_; have := hs.bound; exact this
  by_cases lenaSubset : 1048576 < aSubset.length
  · go_enter Tryz.func4, Tryz.ntmps4
    go_wp2
    go_ret
    exact ⟨rfl, (by with_reducible repeat (first | exact Only.refl _ _ | assumption | refine Only.drewN ?_ _ | refine Only.drew ?_ | refine Only.alloc ?_ _ | refine Only.setCell ?_ (by intro hh; exfalso; simp at hh; try omega) _ | refine Only.trans ?_ (by assumption)))⟩
  have smaSubset : Sm.sm aSubset := ⟨by omega, fun _ _ => trivial⟩
  have csaSubset : Mk.cnt aSubset ≤ 1048576 := by simp only [Mk.cnt, cntL_ints]; omega
  by_cases lenaS : 1048576 < aS.length
  · go_enter Tryz.func4, Tryz.ntmps4
    go_wp2
    go_ret
    exact ⟨rfl, (by with_reducible repeat (first | exact Only.refl _ _ | assumption | refine Only.drewN ?_ _ | refine Only.drew ?_ | refine Only.alloc ?_ _ | refine Only.setCell ?_ (by intro hh; exfalso; simp at hh; try omega) _ | refine Only.trans ?_ (by assumption)))⟩
  have smaS : Sm.sm aS := ⟨by omega, fun _ _ => trivial⟩
  have csaS : Mk.cnt aS ≤ 1048576 := by simp only [Mk.cnt, cntL_ints]; omega
  rcases szV_cases (1048576) aP with ⟨esaP, msaP⟩ | ⟨esaP, psaP, msaP⟩
  · go_enter Tryz.func4, Tryz.ntmps4
    go_wp2_with (with_reducible refine (szPuzzle_any [.int .i64 aP.points, .string aP.names, .slice AaP2 aP.moves.length CaP2] aP _ (1048576) _ (Rp.keep raP ((Only.refl [] _).alloc (.cells #[.int .i64 aP.points, .string aP.names, .slice AaP2 aP.moves.length CaP2] 24))) (by omega) (by omega)).mono ?_; rintro e w1 ⟨rfl, t0⟩)
    go_ret
    exact ⟨rfl, (by with_reducible repeat (first | exact Only.refl _ _ | assumption | refine Only.drewN ?_ _ | refine Only.drew ?_ | refine Only.alloc ?_ _ | refine Only.setCell ?_ (by intro hh; exfalso; simp at hh; try omega) _ | refine Only.trans ?_ (by assumption)))⟩
  have smaP : Sm.sm aP := SzSm.of_ _ (by omega)
  have csaP : Mk.cnt aP ≤ 1048576 := Nat.le_trans (CntSz.le aP) (by omega)
  have hcnt := wCert_cnt (twC aP aSubset aS)
  go_enter Tryz.func4, Tryz.ntmps4
  go_wp2_with fail
  with_reducible refine (szPuzzle_any [.int .i64 aP.points, .string aP.names, .slice AaP2 aP.moves.length CaP2] aP _ (1048576) _ (Rp.keep raP ((Only.refl [] _).alloc (.cells #[.int .i64 aP.points, .string aP.names, .slice AaP2 aP.moves.length CaP2] 24))) (by omega) (by omega)).mono ?_
  rintro e w1 ⟨rfl, t0⟩
  rw [esaP]
  have T0 : Only [] w w1 := ((Only.refl [] _).alloc (.cells #[.int .i64 aP.points, .string aP.names, .slice AaP2 aP.moves.length CaP2] 24)).trans t0
  have S0 : w.heap.size + 1 ≤ w1.heap.size := by have := t0.size; simp at this; omega
  have BaP : Blk w1 w.heap.size [.int .i64 aP.points, .string aP.names, .slice AaP2 aP.moves.length CaP2] := (Blk.keep (Blk.new_at (by simp)) t0)
  have LBaP : w.heap.size < w1.heap.size := BaP.lt
  have HBaP := Lib.hid BaP; clear BaP
  have caP_1_0 := (HBaP.out).cell 0 rfl
  have caP_1_1 := (HBaP.out).cell 1 rfl
  have caP_1_2 := (HBaP.out).cell 2 rfl
  go_wp2_with fail
  with_reducible refine (toPuzzle_any [.int .i64 aP.points, .string aP.names, .slice AaP2 aP.moves.length CaP2] aP _ _ (Rp.keep raP T0) smaP).mono ?_
  rintro e w2 ⟨u1, f1, rfl, r1, F1, t1⟩
  have T1 : Only [] w1 w2 := t1
  have S1 : w1.heap.size + 0 ≤ w2.heap.size := by have := T1.size; omega
  clear caP_1_0 caP_1_1 caP_1_2
  have q1 := r1
  obtain ⟨u12, rfl, -, -, z12⟩ := q1
  obtain ⟨A12, C12, _, _, rfl, -⟩ := z12.open_
  have L1 := Rp.lt r1
  have G1 : ∀ b ∈ f1, w1.heap.size ≤ b := fun b hb => by have := F1.ge b hb; omega
  go_wp2_with fail
  with_reducible refine (toInt64S_sm (.slice AaSubset aSubset.length CaSubset) aSubset _ _ (Rp.keep (Rp.keep raSubset T0) T1) smaSubset).mono ?_
  rintro e w3 ⟨v2, f2, rfl, r2, F2, t2⟩
  have T2 : Only [] w2 w3 := t2
  have S2 : w2.heap.size + 0 ≤ w3.heap.size := by have := T2.size; omega
  have L2 := Rp.lt r2
  have G2 : ∀ b ∈ f2, w2.heap.size ≤ b := fun b hb => by have := F2.ge b hb; omega
  go_wp2_with fail
  with_reducible refine (toInt64S_sm (.slice AaS aS.length CaS) aS _ _ (Rp.keep (Rp.keep (Rp.keep raS T0) T1) T2) smaS).mono ?_
  rintro e w4 ⟨v3, f3, rfl, r3, F3, t3⟩
  have T3 : Only [] w3 w4 := t3
  have S3 : w3.heap.size + 0 ≤ w4.heap.size := by have := T3.size; omega
  have L3 := Rp.lt r3
  have G3 : ∀ b ∈ f3, w3.heap.size ≤ b := fun b hb => by have := F3.ge b hb; omega
  go_wp2_with fail
  with_reducible refine (specTwoPhaseCert_any [.int .i64 aP.points, .string aP.names, .slice A12 aP.moves.length C12] aP _ v2 aSubset _ v3 aS _ _ (Rp.keep (Rp.keep r1 T2) T3) (Rp.keep r2 T3) r3).mono ?_
  rintro e w5 ⟨u4, f4, rfl, r4, F4, t4⟩
  have T4 : Only [] w4 w5 := t4
  have S4 : w4.heap.size + 0 ≤ w5.heap.size := by have := T4.size; omega
  have q4 := r4
  obtain ⟨u41, u42, u43, _, _, _, rfl, -, -, z41, z42, z43⟩ := q4
  obtain ⟨A41, C41, _, _, rfl, -⟩ := z41.open_
  obtain ⟨A42, C42, _, _, rfl, -⟩ := z42.open_
  obtain ⟨A43, C43, _, _, rfl, -⟩ := z43.open_
  have L4 := Rp.lt r4
  have G4 : ∀ b ∈ f4, w4.heap.size ≤ b := fun b hb => by have := F4.ge b hb; omega
  have caP_5_0 := ((Only.refl [] _).alloc (.cells #[.int .i64 (wCert (twC aP aSubset aS)).kind, .slice A41 (wCert (twC aP aSubset aS)).numbers.length C41, .slice A42 (wCert (twC aP aSubset aS)).words.length C42, .slice A43 (wCert (twC aP aSubset aS)).tables.length C43] 30)).cell (by simp) (((Blk.keep (Blk.keep (Blk.keep (Blk.keep HBaP.out T1) T2) T3) T4)).cell 0 rfl)
  have caP_5_1 := ((Only.refl [] _).alloc (.cells #[.int .i64 (wCert (twC aP aSubset aS)).kind, .slice A41 (wCert (twC aP aSubset aS)).numbers.length C41, .slice A42 (wCert (twC aP aSubset aS)).words.length C42, .slice A43 (wCert (twC aP aSubset aS)).tables.length C43] 30)).cell (by simp) (((Blk.keep (Blk.keep (Blk.keep (Blk.keep HBaP.out T1) T2) T3) T4)).cell 1 rfl)
  have caP_5_2 := ((Only.refl [] _).alloc (.cells #[.int .i64 (wCert (twC aP aSubset aS)).kind, .slice A41 (wCert (twC aP aSubset aS)).numbers.length C41, .slice A42 (wCert (twC aP aSubset aS)).words.length C42, .slice A43 (wCert (twC aP aSubset aS)).tables.length C43] 30)).cell (by simp) (((Blk.keep (Blk.keep (Blk.keep (Blk.keep HBaP.out T1) T2) T3) T4)).cell 2 rfl)
  go_wp2_with fail
  with_reducible refine (toPuzzle_any [.int .i64 aP.points, .string aP.names, .slice AaP2 aP.moves.length CaP2] aP _ _ (Rp.keep (Rp.keep (Rp.keep (Rp.keep (Rp.keep (Rp.keep raP T0) T1) T2) T3) T4) ((Only.refl [] _).alloc (.cells #[.int .i64 (wCert (twC aP aSubset aS)).kind, .slice A41 (wCert (twC aP aSubset aS)).numbers.length C41, .slice A42 (wCert (twC aP aSubset aS)).words.length C42, .slice A43 (wCert (twC aP aSubset aS)).tables.length C43] 30))) smaP).mono ?_
  rintro e w6 ⟨u5, f5, rfl, r5, F5, t5⟩
  have T5 : Only [] w5 w6 := ((Only.refl [] _).alloc (.cells #[.int .i64 (wCert (twC aP aSubset aS)).kind, .slice A41 (wCert (twC aP aSubset aS)).numbers.length C41, .slice A42 (wCert (twC aP aSubset aS)).words.length C42, .slice A43 (wCert (twC aP aSubset aS)).tables.length C43] 30)).trans t5
  have S5 : w5.heap.size + 1 ≤ w6.heap.size := by have := t5.size; simp at this; omega
  have B4 : Blk w6 w5.heap.size [.int .i64 (wCert (twC aP aSubset aS)).kind, .slice A41 (wCert (twC aP aSubset aS)).numbers.length C41, .slice A42 (wCert (twC aP aSubset aS)).words.length C42, .slice A43 (wCert (twC aP aSubset aS)).tables.length C43] := (Blk.keep (Blk.new_at (by simp)) t5)
  have LB4 : w5.heap.size < w6.heap.size := B4.lt
  have HB4 := Lib.hid B4; clear B4
  clear caP_5_0 caP_5_1 caP_5_2
  have q5 := r5
  obtain ⟨u52, rfl, -, -, z52⟩ := q5
  obtain ⟨A52, C52, _, _, rfl, -⟩ := z52.open_
  have L5 := Rp.lt r5
  have G5 : ∀ b ∈ f5, w5.heap.size + 1 ≤ b := fun b hb => by have := F5.ge b hb; simp at this; omega
  go_wp2_with fail
  with_reducible refine (toInt64S_sm (.slice AaSubset aSubset.length CaSubset) aSubset _ _ (Rp.keep (Rp.keep (Rp.keep (Rp.keep (Rp.keep (Rp.keep (Rp.keep raSubset T0) T1) T2) T3) T4) T5) ((Only.refl [] _).alloc (.cells #[.int .i64 aP.points, .string aP.names, .slice A52 aP.moves.length C52] 33))) smaSubset).mono ?_
  rintro e w7 ⟨v6, f6, rfl, r6, F6, t6⟩
  have T6 : Only [] w6 w7 := ((Only.refl [] _).alloc (.cells #[.int .i64 aP.points, .string aP.names, .slice A52 aP.moves.length C52] 33)).trans t6
  have S6 : w6.heap.size + 1 ≤ w7.heap.size := by have := t6.size; simp at this; omega
  have B5 : Blk w7 w6.heap.size [.int .i64 aP.points, .string aP.names, .slice A52 aP.moves.length C52] := (Blk.keep (Blk.new_at (by simp)) t6)
  have LB5 : w6.heap.size < w7.heap.size := B5.lt
  have HB5 := Lib.hid B5; clear B5
  have L6 := Rp.lt r6
  have G6 : ∀ b ∈ f6, w6.heap.size + 1 ≤ b := fun b hb => by have := F6.ge b hb; simp at this; omega
  go_wp2_with fail
  with_reducible refine (toInt64S_sm (.slice AaS aS.length CaS) aS _ _ (Rp.keep (Rp.keep (Rp.keep (Rp.keep (Rp.keep (Rp.keep (Rp.keep raS T0) T1) T2) T3) T4) T5) T6) smaS).mono ?_
  rintro e w8 ⟨v7, f7, rfl, r7, F7, t7⟩
  have T7 : Only [] w7 w8 := t7
  have S7 : w7.heap.size + 0 ≤ w8.heap.size := by have := T7.size; omega
  have L7 := Rp.lt r7
  have G7 : ∀ b ∈ f7, w7.heap.size ≤ b := fun b hb => by have := F7.ge b hb; omega
  have c5_8_0 := ((Blk.keep HB5.out T7)).cell 0 rfl
  have c5_8_1 := ((Blk.keep HB5.out T7)).cell 1 rfl
  have c5_8_2 := ((Blk.keep HB5.out T7)).cell 2 rfl
  go_wp2_with fail
  with_reducible refine (implTwoPhaseCert_any [.int .i64 aP.points, .string aP.names, .slice A52 aP.moves.length C52] aP _ v6 aSubset _ v7 aS _ _ (Rp.keep (Rp.keep r5 T6) T7) (Rp.keep r6 T7) r7).mono ?_
  rintro e w9 ⟨u8, f8, rfl, r8, F8, t8⟩
  have T8 : Only [] w8 w9 := t8
  have S8 : w8.heap.size + 0 ≤ w9.heap.size := by have := T8.size; omega
  clear c5_8_0 c5_8_1 c5_8_2
  have q8 := r8
  obtain ⟨u81, u82, u83, _, _, _, rfl, -, -, z81, z82, z83⟩ := q8
  obtain ⟨A81, C81, _, _, rfl, -⟩ := z81.open_
  obtain ⟨A82, C82, _, _, rfl, -⟩ := z82.open_
  obtain ⟨A83, C83, _, _, rfl, -⟩ := z83.open_
  have L8 := Rp.lt r8
  have G8 : ∀ b ∈ f8, w8.heap.size ≤ b := fun b hb => by have := F8.ge b hb; omega
  have c4_9_0 := ((Only.refl [] _).alloc (.cells #[.int .i64 (wCert (twC aP aSubset aS)).kind, .slice A81 (wCert (twC aP aSubset aS)).numbers.length C81, .slice A82 (wCert (twC aP aSubset aS)).words.length C82, .slice A83 (wCert (twC aP aSubset aS)).tables.length C83] 30)).cell (by simp) (((Blk.keep (Blk.keep (Blk.keep HB4.out T6) T7) T8)).cell 0 rfl)
  have c4_9_1 := ((Only.refl [] _).alloc (.cells #[.int .i64 (wCert (twC aP aSubset aS)).kind, .slice A81 (wCert (twC aP aSubset aS)).numbers.length C81, .slice A82 (wCert (twC aP aSubset aS)).words.length C82, .slice A83 (wCert (twC aP aSubset aS)).tables.length C83] 30)).cell (by simp) (((Blk.keep (Blk.keep (Blk.keep HB4.out T6) T7) T8)).cell 1 rfl)
  have c4_9_2 := ((Only.refl [] _).alloc (.cells #[.int .i64 (wCert (twC aP aSubset aS)).kind, .slice A81 (wCert (twC aP aSubset aS)).numbers.length C81, .slice A82 (wCert (twC aP aSubset aS)).words.length C82, .slice A83 (wCert (twC aP aSubset aS)).tables.length C83] 30)).cell (by simp) (((Blk.keep (Blk.keep (Blk.keep HB4.out T6) T7) T8)).cell 2 rfl)
  have c4_9_3 := ((Only.refl [] _).alloc (.cells #[.int .i64 (wCert (twC aP aSubset aS)).kind, .slice A81 (wCert (twC aP aSubset aS)).numbers.length C81, .slice A82 (wCert (twC aP aSubset aS)).words.length C82, .slice A83 (wCert (twC aP aSubset aS)).tables.length C83] 30)).cell (by simp) (((Blk.keep (Blk.keep (Blk.keep HB4.out T6) T7) T8)).cell 3 rfl)
  have e9 : eqV (wCert (twC aP aSubset aS)) (wCert (twC aP aSubset aS)) = true := eqV_yes rfl
  go_wp2_with fail
  with_reducible refine (eqCertificate_any [.int .i64 (wCert (twC aP aSubset aS)).kind, .slice A81 (wCert (twC aP aSubset aS)).numbers.length C81, .slice A82 (wCert (twC aP aSubset aS)).words.length C82, .slice A83 (wCert (twC aP aSubset aS)).tables.length C83] [.int .i64 (wCert (twC aP aSubset aS)).kind, .slice A41 (wCert (twC aP aSubset aS)).numbers.length C41, .slice A42 (wCert (twC aP aSubset aS)).words.length C42, .slice A43 (wCert (twC aP aSubset aS)).tables.length C43] (wCert (twC aP aSubset aS)) (wCert (twC aP aSubset aS)) _ _ _ (Rp.keep r8 ((Only.refl [] _).alloc (.cells #[.int .i64 (wCert (twC aP aSubset aS)).kind, .slice A81 (wCert (twC aP aSubset aS)).numbers.length C81, .slice A82 (wCert (twC aP aSubset aS)).words.length C82, .slice A83 (wCert (twC aP aSubset aS)).tables.length C83] 30))) (Rp.keep (Rp.keep (Rp.keep (Rp.keep (Rp.keep r4 T5) T6) T7) T8) ((Only.refl [] _).alloc (.cells #[.int .i64 (wCert (twC aP aSubset aS)).kind, .slice A81 (wCert (twC aP aSubset aS)).numbers.length C81, .slice A82 (wCert (twC aP aSubset aS)).words.length C82, .slice A83 (wCert (twC aP aSubset aS)).tables.length C83] 30)))).mono ?_
  rintro e w10 ⟨rfl, t9⟩
  have T9 : Only [] w9 w10 := ((Only.refl [] _).alloc (.cells #[.int .i64 (wCert (twC aP aSubset aS)).kind, .slice A81 (wCert (twC aP aSubset aS)).numbers.length C81, .slice A82 (wCert (twC aP aSubset aS)).words.length C82, .slice A83 (wCert (twC aP aSubset aS)).tables.length C83] 30)).trans t9
  have S9 : w9.heap.size + 1 ≤ w10.heap.size := by have := t9.size; simp at this; omega
  have B8 : Blk w10 w9.heap.size [.int .i64 (wCert (twC aP aSubset aS)).kind, .slice A81 (wCert (twC aP aSubset aS)).numbers.length C81, .slice A82 (wCert (twC aP aSubset aS)).words.length C82, .slice A83 (wCert (twC aP aSubset aS)).tables.length C83] := (Blk.keep (Blk.new_at (by simp)) t9)
  have LB8 : w9.heap.size < w10.heap.size := B8.lt
  have HB8 := Lib.hid B8; clear B8
  clear c4_9_0 c4_9_1 c4_9_2 c4_9_3
  go_upto_region 16 with fail
  have e11 : eqV aP aP = true := eqV_yes rfl
  go_region_held3 (fun w' => Only [] w10 w' ∧ w'.cell? ⟨w6.heap.size, 0, none⟩ = some (.int .i64 aP.points) ∧ w'.cell? ⟨w6.heap.size, 1, none⟩ = some (.string aP.names) ∧ w'.cell? ⟨w6.heap.size, 2, none⟩ = some (.slice A52 aP.moves.length C52) ∧ w'.cell? ⟨w.heap.size, 0, none⟩ = some (.int .i64 aP.points) ∧ w'.cell? ⟨w.heap.size, 1, none⟩ = some (.string aP.names) ∧ w'.cell? ⟨w.heap.size, 2, none⟩ = some (.slice AaP2 aP.moves.length CaP2)) ((refine and_of ?_ (fun h__ => ⟨(Blk.keep (Blk.keep (Blk.keep (Blk.keep HB5.out T7) T8) T9) h__).cell 0 rfl, (Blk.keep (Blk.keep (Blk.keep (Blk.keep HB5.out T7) T8) T9) h__).cell 1 rfl, (Blk.keep (Blk.keep (Blk.keep (Blk.keep HB5.out T7) T8) T9) h__).cell 2 rfl, (Blk.keep (Blk.keep (Blk.keep (Blk.keep (Blk.keep (Blk.keep (Blk.keep (Blk.keep (Blk.keep (Blk.keep HBaP.out T1) T2) T3) T4) T5) T6) T7) T8) T9) h__).cell 0 rfl, (Blk.keep (Blk.keep (Blk.keep (Blk.keep (Blk.keep (Blk.keep (Blk.keep (Blk.keep (Blk.keep (Blk.keep HBaP.out T1) T2) T3) T4) T5) T6) T7) T8) T9) h__).cell 1 rfl, (Blk.keep (Blk.keep (Blk.keep (Blk.keep (Blk.keep (Blk.keep (Blk.keep (Blk.keep (Blk.keep (Blk.keep HBaP.out T1) T2) T3) T4) T5) T6) T7) T8) T9) h__).cell 2 rfl⟩); first | exact (Only.refl _ _).drew | exact Only.trans (And.left (by assumption)) (by assumption))) (first
    | (go_at_call 10; (with_reducible refine (toPuzzle_any [.int .i64 aP.points, .string aP.names, .slice AaP2 aP.moves.length CaP2] aP _ _ (Rp.keep (Rp.keep (Rp.keep (Rp.keep (Rp.keep (Rp.keep (Rp.keep (Rp.keep (Rp.keep (Rp.keep (Rp.keep raP T0) T1) T2) T3) T4) T5) T6) T7) T8) T9) (And.left (by assumption))) smaP).mono ?_); rintro e w11 ⟨u9, f9, rfl, r9, F9, t10⟩)
    | (go_at_call 15; (with_reducible refine (eqPuzzle_any [.int .i64 aP.points, .string aP.names, .slice A52 aP.moves.length C52] u9 aP aP _ _ _ (Rp.keep (Rp.keep (Rp.keep (Rp.keep (Rp.keep r5 T6) T7) T8) T9) (And.left (by assumption))) (Rp.keep r9 (by first | exact Only.refl _ _ | assumption | exact Only.trans (by assumption) (by assumption)))).mono ?_); rintro e w12 ⟨rfl, t11⟩)
    | fail "no arm")
  have T10 : Only [] w10 w11 := ((Only.refl _ _).drew).trans t10
  have S10 : w10.heap.size + 0 ≤ w11.heap.size := by have := T10.size; omega
  have L9 := Rp.lt r9
  have G9 : ∀ b ∈ f9, w10.heap.size ≤ b := fun b hb => by have := F9.ge b hb; first | omega | (simp at this; omega)
  have T11 : Only [] w11 w12 := t11
  have S11 : w11.heap.size + 0 ≤ w12.heap.size := by have := T11.size; omega
  go_wp2_with fail
  with_reducible refine (toInt64S_sm (.slice AaSubset aSubset.length CaSubset) aSubset _ _ (Rp.keep (Rp.keep (Rp.keep (Rp.keep (Rp.keep (Rp.keep (Rp.keep (Rp.keep (Rp.keep (Rp.keep (Rp.keep (Rp.keep raSubset T0) T1) T2) T3) T4) T5) T6) T7) T8) T9) T10) T11) smaSubset).mono ?_
  rintro e w13 ⟨v10, f10, rfl, r10, F10, t12⟩
  have T12 : Only [] w12 w13 := t12
  have S12 : w12.heap.size + 0 ≤ w13.heap.size := by have := T12.size; omega
  have L10 := Rp.lt r10
  have G10 : ∀ b ∈ f10, w12.heap.size ≤ b := fun b hb => by have := F10.ge b hb; omega
  have e13 : eqV aSubset aSubset = true := eqV_yes rfl
  go_wp2_with fail
  with_reducible refine (eqInt64S_rd v6 v10 aSubset aSubset _ _ _ (Rp.keep (Rp.keep (Rp.keep (Rp.keep (Rp.keep (Rp.keep r6 T7) T8) T9) T10) T11) T12) r10).mono ?_
  rintro e w14 ⟨rfl, d13⟩
  have t13 := d13.only []
  have T13 : Only [] w13 w14 := t13
  have S13 : w13.heap.size + 0 ≤ w14.heap.size := by have := T13.size; omega
  go_wp2_with fail
  with_reducible refine (toInt64S_sm (.slice AaS aS.length CaS) aS _ _ (Rp.keep (Rp.keep (Rp.keep (Rp.keep (Rp.keep (Rp.keep (Rp.keep (Rp.keep (Rp.keep (Rp.keep (Rp.keep (Rp.keep (Rp.keep (Rp.keep raS T0) T1) T2) T3) T4) T5) T6) T7) T8) T9) T10) T11) T12) T13) smaS).mono ?_
  rintro e w15 ⟨v11, f11, rfl, r11, F11, t14⟩
  have T14 : Only [] w14 w15 := t14
  have S14 : w14.heap.size + 0 ≤ w15.heap.size := by have := T14.size; omega
  have L11 := Rp.lt r11
  have G11 : ∀ b ∈ f11, w14.heap.size ≤ b := fun b hb => by have := F11.ge b hb; omega
  have e15 : eqV aS aS = true := eqV_yes rfl
  go_wp2_with fail
  with_reducible refine (eqInt64S_rd v7 v11 aS aS _ _ _ (Rp.keep (Rp.keep (Rp.keep (Rp.keep (Rp.keep (Rp.keep (Rp.keep r7 T8) T9) T10) T11) T12) T13) T14) r11).mono ?_
  rintro e w16 ⟨rfl, d15⟩
  have t15 := d15.only []
  have T15 : Only [] w15 w16 := t15
  have S15 : w15.heap.size + 0 ≤ w16.heap.size := by have := T15.size; omega
  have c5_16_0 := ((Blk.keep (Blk.keep (Blk.keep (Blk.keep (Blk.keep (Blk.keep (Blk.keep (Blk.keep (Blk.keep HB5.out T7) T8) T9) T10) T11) T12) T13) T14) T15)).cell 0 rfl
  have c5_16_1 := ((Blk.keep (Blk.keep (Blk.keep (Blk.keep (Blk.keep (Blk.keep (Blk.keep (Blk.keep (Blk.keep HB5.out T7) T8) T9) T10) T11) T12) T13) T14) T15)).cell 1 rfl
  have c5_16_2 := ((Blk.keep (Blk.keep (Blk.keep (Blk.keep (Blk.keep (Blk.keep (Blk.keep (Blk.keep (Blk.keep HB5.out T7) T8) T9) T10) T11) T12) T13) T14) T15)).cell 2 rfl
  have m16 : (1 : Int) + (Mk.cnt aP : Nat) ≤ 4611686018427387904 := by omega
  go_wp2_with fail
  with_reducible refine (markPuzzle_any [.int .i64 aP.points, .string aP.names, .slice A52 aP.moves.length C52] aP f5 (1) _ (Rp.keep (Rp.keep (Rp.keep (Rp.keep (Rp.keep (Rp.keep (Rp.keep (Rp.keep (Rp.keep (Rp.keep r5 T6) T7) T8) T9) T10) T11) T12) T13) T14) T15) F5.nd (Own.keep (Own.keep (Own.keep (Own.keep (Own.keep (Own.keep (Own.keep (Own.keep (Own.keep (Own.keep F5.own T6) T7) T8) T9) T10) T11) T12) T13) T14) T15) (by omega) m16).mono ?_
  rintro e w17 ⟨rfl, rr16, oo16, t16⟩
  have T16 : Only f5 w16 w17 := t16
  have S16 : w16.heap.size + 0 ≤ w17.heap.size := by have := T16.size; omega
  clear c5_16_0 c5_16_1 c5_16_2
  clear r5
  have r5 := rr16
  have O5 := oo16
  have m17 : (1 + (Mk.cnt aP : Nat) : Int) + (Mk.cnt aSubset : Nat) ≤ 4611686018427387904 := by omega
  go_wp2_with fail
  with_reducible refine (markInt64S_rd v6 aSubset f6 (1 + (Mk.cnt aP : Nat)) _ (Rp.only (Rp.keep (Rp.keep (Rp.keep (Rp.keep (Rp.keep (Rp.keep (Rp.keep (Rp.keep (Rp.keep r6 T7) T8) T9) T10) T11) T12) T13) T14) T15) T16 (fun b hb hm => by have := G6 b hb; have := L5 b hm; omega)) (Own.only (Own.keep (Own.keep (Own.keep (Own.keep (Own.keep (Own.keep (Own.keep (Own.keep (Own.keep F6.own T7) T8) T9) T10) T11) T12) T13) T14) T15) T16 (fun b hb hm => by have := G6 b hb; have := L5 b hm; omega)) (by omega) m17).mono ?_
  rintro e w18 ⟨rfl, rr17, oo17, t17⟩
  have T17 : Only f6 w17 w18 := t17
  have S17 : w17.heap.size + 0 ≤ w18.heap.size := by have := T17.size; omega
  clear r6
  have r6 := rr17
  have O6 := oo17
  have m18 : (1 + (Mk.cnt aP : Nat) + (Mk.cnt aSubset : Nat) : Int) + (Mk.cnt aS : Nat) ≤ 4611686018427387904 := by omega
  go_wp2_with fail
  with_reducible refine (markInt64S_rd v7 aS f7 (1 + (Mk.cnt aP : Nat) + (Mk.cnt aSubset : Nat)) _ (Rp.only (Rp.only (Rp.keep (Rp.keep (Rp.keep (Rp.keep (Rp.keep (Rp.keep (Rp.keep (Rp.keep r7 T8) T9) T10) T11) T12) T13) T14) T15) T16 (fun b hb hm => by have := G7 b hb; have := L5 b hm; omega)) T17 (fun b hb hm => by have := G7 b hb; have := L6 b hm; omega)) (Own.only (Own.only (Own.keep (Own.keep (Own.keep (Own.keep (Own.keep (Own.keep (Own.keep (Own.keep F7.own T8) T9) T10) T11) T12) T13) T14) T15) T16 (fun b hb hm => by have := G7 b hb; have := L5 b hm; omega)) T17 (fun b hb hm => by have := G7 b hb; have := L6 b hm; omega)) (by omega) m18).mono ?_
  rintro e w19 ⟨rfl, rr18, oo18, t18⟩
  have T18 : Only f7 w18 w19 := t18
  have S18 : w18.heap.size + 0 ≤ w19.heap.size := by have := T18.size; omega
  clear r7
  have r7 := rr18
  have O7 := oo18
  have c8_19_0 := ((Blk.only (Blk.only (Blk.only (Blk.keep (Blk.keep (Blk.keep (Blk.keep (Blk.keep (Blk.keep HB8.out T10) T11) T12) T13) T14) T15) T16 (fun hm => by have := L5 _ hm; omega)) T17 (fun hm => by have := L6 _ hm; omega)) T18 (fun hm => by have := L7 _ hm; omega))).cell 0 rfl
  have c8_19_1 := ((Blk.only (Blk.only (Blk.only (Blk.keep (Blk.keep (Blk.keep (Blk.keep (Blk.keep (Blk.keep HB8.out T10) T11) T12) T13) T14) T15) T16 (fun hm => by have := L5 _ hm; omega)) T17 (fun hm => by have := L6 _ hm; omega)) T18 (fun hm => by have := L7 _ hm; omega))).cell 1 rfl
  have c8_19_2 := ((Blk.only (Blk.only (Blk.only (Blk.keep (Blk.keep (Blk.keep (Blk.keep (Blk.keep (Blk.keep HB8.out T10) T11) T12) T13) T14) T15) T16 (fun hm => by have := L5 _ hm; omega)) T17 (fun hm => by have := L6 _ hm; omega)) T18 (fun hm => by have := L7 _ hm; omega))).cell 2 rfl
  have c8_19_3 := ((Blk.only (Blk.only (Blk.only (Blk.keep (Blk.keep (Blk.keep (Blk.keep (Blk.keep (Blk.keep HB8.out T10) T11) T12) T13) T14) T15) T16 (fun hm => by have := L5 _ hm; omega)) T17 (fun hm => by have := L6 _ hm; omega)) T18 (fun hm => by have := L7 _ hm; omega))).cell 3 rfl
  have c4_19_0 := ((Blk.only (Blk.only (Blk.only (Blk.keep (Blk.keep (Blk.keep (Blk.keep (Blk.keep (Blk.keep (Blk.keep (Blk.keep (Blk.keep (Blk.keep HB4.out T6) T7) T8) T9) T10) T11) T12) T13) T14) T15) T16 (fun hm => by have := G5 _ hm; have := LB4; omega)) T17 (fun hm => by have := G6 _ hm; have := LB4; omega)) T18 (fun hm => by have := G7 _ hm; have := LB4; omega))).cell 0 rfl
  have c4_19_1 := ((Blk.only (Blk.only (Blk.only (Blk.keep (Blk.keep (Blk.keep (Blk.keep (Blk.keep (Blk.keep (Blk.keep (Blk.keep (Blk.keep (Blk.keep HB4.out T6) T7) T8) T9) T10) T11) T12) T13) T14) T15) T16 (fun hm => by have := G5 _ hm; have := LB4; omega)) T17 (fun hm => by have := G6 _ hm; have := LB4; omega)) T18 (fun hm => by have := G7 _ hm; have := LB4; omega))).cell 1 rfl
  have c4_19_2 := ((Blk.only (Blk.only (Blk.only (Blk.keep (Blk.keep (Blk.keep (Blk.keep (Blk.keep (Blk.keep (Blk.keep (Blk.keep (Blk.keep (Blk.keep HB4.out T6) T7) T8) T9) T10) T11) T12) T13) T14) T15) T16 (fun hm => by have := G5 _ hm; have := LB4; omega)) T17 (fun hm => by have := G6 _ hm; have := LB4; omega)) T18 (fun hm => by have := G7 _ hm; have := LB4; omega))).cell 2 rfl
  have c4_19_3 := ((Blk.only (Blk.only (Blk.only (Blk.keep (Blk.keep (Blk.keep (Blk.keep (Blk.keep (Blk.keep (Blk.keep (Blk.keep (Blk.keep (Blk.keep HB4.out T6) T7) T8) T9) T10) T11) T12) T13) T14) T15) T16 (fun hm => by have := G5 _ hm; have := LB4; omega)) T17 (fun hm => by have := G6 _ hm; have := LB4; omega)) T18 (fun hm => by have := G7 _ hm; have := LB4; omega))).cell 3 rfl
  have e19 : eqV (wCert (twC aP aSubset aS)) (wCert (twC aP aSubset aS)) = true := eqV_yes rfl
  go_wp2_with fail
  with_reducible refine (eqCertificate_any [.int .i64 (wCert (twC aP aSubset aS)).kind, .slice A81 (wCert (twC aP aSubset aS)).numbers.length C81, .slice A82 (wCert (twC aP aSubset aS)).words.length C82, .slice A83 (wCert (twC aP aSubset aS)).tables.length C83] [.int .i64 (wCert (twC aP aSubset aS)).kind, .slice A41 (wCert (twC aP aSubset aS)).numbers.length C41, .slice A42 (wCert (twC aP aSubset aS)).words.length C42, .slice A43 (wCert (twC aP aSubset aS)).tables.length C43] (wCert (twC aP aSubset aS)) (wCert (twC aP aSubset aS)) _ _ _ (Rp.only (Rp.only (Rp.only (Rp.keep (Rp.keep (Rp.keep (Rp.keep (Rp.keep (Rp.keep (Rp.keep r8 T9) T10) T11) T12) T13) T14) T15) T16 (fun b hb hm => by have := G8 b hb; have := L5 b hm; omega)) T17 (fun b hb hm => by have := G8 b hb; have := L6 b hm; omega)) T18 (fun b hb hm => by have := G8 b hb; have := L7 b hm; omega)) (Rp.only (Rp.only (Rp.only (Rp.keep (Rp.keep (Rp.keep (Rp.keep (Rp.keep (Rp.keep (Rp.keep (Rp.keep (Rp.keep (Rp.keep (Rp.keep r4 T5) T6) T7) T8) T9) T10) T11) T12) T13) T14) T15) T16 (fun b hb hm => by have := L4 b hb; have := G5 b hm; omega)) T17 (fun b hb hm => by have := L4 b hb; have := G6 b hm; omega)) T18 (fun b hb hm => by have := L4 b hb; have := G7 b hm; omega))).mono ?_
  rintro e w20 ⟨rfl, t19⟩
  have T19 : Only [] w19 w20 := t19
  have S19 : w19.heap.size + 0 ≤ w20.heap.size := by have := T19.size; omega
  clear c8_19_0 c8_19_1 c8_19_2 c8_19_3 c4_19_0 c4_19_1 c4_19_2 c4_19_3
  have c8_20_0 := ((Blk.keep (Blk.only (Blk.only (Blk.only (Blk.keep (Blk.keep (Blk.keep (Blk.keep (Blk.keep (Blk.keep HB8.out T10) T11) T12) T13) T14) T15) T16 (fun hm => by have := L5 _ hm; omega)) T17 (fun hm => by have := L6 _ hm; omega)) T18 (fun hm => by have := L7 _ hm; omega)) T19)).cell 0 rfl
  have c8_20_1 := ((Blk.keep (Blk.only (Blk.only (Blk.only (Blk.keep (Blk.keep (Blk.keep (Blk.keep (Blk.keep (Blk.keep HB8.out T10) T11) T12) T13) T14) T15) T16 (fun hm => by have := L5 _ hm; omega)) T17 (fun hm => by have := L6 _ hm; omega)) T18 (fun hm => by have := L7 _ hm; omega)) T19)).cell 1 rfl
  have c8_20_2 := ((Blk.keep (Blk.only (Blk.only (Blk.only (Blk.keep (Blk.keep (Blk.keep (Blk.keep (Blk.keep (Blk.keep HB8.out T10) T11) T12) T13) T14) T15) T16 (fun hm => by have := L5 _ hm; omega)) T17 (fun hm => by have := L6 _ hm; omega)) T18 (fun hm => by have := L7 _ hm; omega)) T19)).cell 2 rfl
  have c8_20_3 := ((Blk.keep (Blk.only (Blk.only (Blk.only (Blk.keep (Blk.keep (Blk.keep (Blk.keep (Blk.keep (Blk.keep HB8.out T10) T11) T12) T13) T14) T15) T16 (fun hm => by have := L5 _ hm; omega)) T17 (fun hm => by have := L6 _ hm; omega)) T18 (fun hm => by have := L7 _ hm; omega)) T19)).cell 3 rfl
  have m20 : (1 : Int) + (Mk.cnt (wCert (twC aP aSubset aS)) : Nat) ≤ 4611686018427387904 := by omega
  go_wp2_with fail
  with_reducible refine (markCertificate_any [.int .i64 (wCert (twC aP aSubset aS)).kind, .slice A81 (wCert (twC aP aSubset aS)).numbers.length C81, .slice A82 (wCert (twC aP aSubset aS)).words.length C82, .slice A83 (wCert (twC aP aSubset aS)).tables.length C83] (wCert (twC aP aSubset aS)) f8 (1) _ (Rp.keep (Rp.only (Rp.only (Rp.only (Rp.keep (Rp.keep (Rp.keep (Rp.keep (Rp.keep (Rp.keep (Rp.keep r8 T9) T10) T11) T12) T13) T14) T15) T16 (fun b hb hm => by have := G8 b hb; have := L5 b hm; omega)) T17 (fun b hb hm => by have := G8 b hb; have := L6 b hm; omega)) T18 (fun b hb hm => by have := G8 b hb; have := L7 b hm; omega)) T19) F8.nd (Own.keep (Own.only (Own.only (Own.only (Own.keep (Own.keep (Own.keep (Own.keep (Own.keep (Own.keep (Own.keep F8.own T9) T10) T11) T12) T13) T14) T15) T16 (fun b hb hm => by have := G8 b hb; have := L5 b hm; omega)) T17 (fun b hb hm => by have := G8 b hb; have := L6 b hm; omega)) T18 (fun b hb hm => by have := G8 b hb; have := L7 b hm; omega)) T19) (by omega) m20).mono ?_
  rintro e w21 ⟨rfl, rr20, oo20, t20⟩
  have T20 : Only f8 w20 w21 := t20
  have S20 : w20.heap.size + 0 ≤ w21.heap.size := by have := T20.size; omega
  clear c8_20_0 c8_20_1 c8_20_2 c8_20_3
  clear r8
  have r8 := rr20
  have O8 := oo20
  have c8_21_0 := ((Blk.only (Blk.keep (Blk.only (Blk.only (Blk.only (Blk.keep (Blk.keep (Blk.keep (Blk.keep (Blk.keep (Blk.keep HB8.out T10) T11) T12) T13) T14) T15) T16 (fun hm => by have := L5 _ hm; omega)) T17 (fun hm => by have := L6 _ hm; omega)) T18 (fun hm => by have := L7 _ hm; omega)) T19) T20 (fun hm => by have := L8 _ hm; omega))).cell 0 rfl
  have c8_21_1 := ((Blk.only (Blk.keep (Blk.only (Blk.only (Blk.only (Blk.keep (Blk.keep (Blk.keep (Blk.keep (Blk.keep (Blk.keep HB8.out T10) T11) T12) T13) T14) T15) T16 (fun hm => by have := L5 _ hm; omega)) T17 (fun hm => by have := L6 _ hm; omega)) T18 (fun hm => by have := L7 _ hm; omega)) T19) T20 (fun hm => by have := L8 _ hm; omega))).cell 1 rfl
  have c8_21_2 := ((Blk.only (Blk.keep (Blk.only (Blk.only (Blk.only (Blk.keep (Blk.keep (Blk.keep (Blk.keep (Blk.keep (Blk.keep HB8.out T10) T11) T12) T13) T14) T15) T16 (fun hm => by have := L5 _ hm; omega)) T17 (fun hm => by have := L6 _ hm; omega)) T18 (fun hm => by have := L7 _ hm; omega)) T19) T20 (fun hm => by have := L8 _ hm; omega))).cell 2 rfl
  have c8_21_3 := ((Blk.only (Blk.keep (Blk.only (Blk.only (Blk.only (Blk.keep (Blk.keep (Blk.keep (Blk.keep (Blk.keep (Blk.keep HB8.out T10) T11) T12) T13) T14) T15) T16 (fun hm => by have := L5 _ hm; omega)) T17 (fun hm => by have := L6 _ hm; omega)) T18 (fun hm => by have := L7 _ hm; omega)) T19) T20 (fun hm => by have := L8 _ hm; omega))).cell 3 rfl
  have h21 : heldV (1) (Mk.mark (1) (wCert (twC aP aSubset aS))) = 1 + (Mk.cnt (wCert (twC aP aSubset aS)) : Nat) := heldV_mark (1) (wCert (twC aP aSubset aS))
  have m21 : (1 : Int) + (Mk.cnt (Mk.mark (1) (wCert (twC aP aSubset aS))) : Nat) ≤ 4611686018427387904 := by rw [MkL.cnt]; omega
  go_wp2_with fail
  with_reducible refine (heldCertificate_any [.int .i64 (wCert (twC aP aSubset aS)).kind, .slice A81 (wCert (twC aP aSubset aS)).numbers.length C81, .slice A82 (wCert (twC aP aSubset aS)).words.length C82, .slice A83 (wCert (twC aP aSubset aS)).tables.length C83] (Mk.mark (1) (wCert (twC aP aSubset aS))) _ (1) _ r8 (by omega) m21).mono ?_
  rintro e w22 ⟨rfl, t21⟩
  have T21 : Only [] w21 w22 := t21
  have S21 : w21.heap.size + 0 ≤ w22.heap.size := by have := T21.size; omega
  clear c8_21_0 c8_21_1 c8_21_2 c8_21_3
  have caP_22_0 := ((Blk.keep (Blk.only (Blk.keep (Blk.only (Blk.only (Blk.only (Blk.keep (Blk.keep (Blk.keep (Blk.keep (Blk.keep (Blk.keep (Blk.keep (Blk.keep (Blk.keep (Blk.keep (Blk.keep (Blk.keep (Blk.keep (Blk.keep (Blk.keep HBaP.out T1) T2) T3) T4) T5) T6) T7) T8) T9) T10) T11) T12) T13) T14) T15) T16 (fun hm => by have := G5 _ hm; have := LBaP; omega)) T17 (fun hm => by have := G6 _ hm; have := LBaP; omega)) T18 (fun hm => by have := G7 _ hm; have := LBaP; omega)) T19) T20 (fun hm => by have := G8 _ hm; have := LBaP; omega)) T21)).cell 0 rfl
  have caP_22_1 := ((Blk.keep (Blk.only (Blk.keep (Blk.only (Blk.only (Blk.only (Blk.keep (Blk.keep (Blk.keep (Blk.keep (Blk.keep (Blk.keep (Blk.keep (Blk.keep (Blk.keep (Blk.keep (Blk.keep (Blk.keep (Blk.keep (Blk.keep (Blk.keep HBaP.out T1) T2) T3) T4) T5) T6) T7) T8) T9) T10) T11) T12) T13) T14) T15) T16 (fun hm => by have := G5 _ hm; have := LBaP; omega)) T17 (fun hm => by have := G6 _ hm; have := LBaP; omega)) T18 (fun hm => by have := G7 _ hm; have := LBaP; omega)) T19) T20 (fun hm => by have := G8 _ hm; have := LBaP; omega)) T21)).cell 1 rfl
  have caP_22_2 := ((Blk.keep (Blk.only (Blk.keep (Blk.only (Blk.only (Blk.only (Blk.keep (Blk.keep (Blk.keep (Blk.keep (Blk.keep (Blk.keep (Blk.keep (Blk.keep (Blk.keep (Blk.keep (Blk.keep (Blk.keep (Blk.keep (Blk.keep (Blk.keep HBaP.out T1) T2) T3) T4) T5) T6) T7) T8) T9) T10) T11) T12) T13) T14) T15) T16 (fun hm => by have := G5 _ hm; have := LBaP; omega)) T17 (fun hm => by have := G6 _ hm; have := LBaP; omega)) T18 (fun hm => by have := G7 _ hm; have := LBaP; omega)) T19) T20 (fun hm => by have := G8 _ hm; have := LBaP; omega)) T21)).cell 2 rfl
  go_wp2_with fail
  with_reducible refine (toPuzzle_any [.int .i64 aP.points, .string aP.names, .slice AaP2 aP.moves.length CaP2] aP _ _ (Rp.keep (Rp.only (Rp.keep (Rp.only (Rp.only (Rp.only (Rp.keep (Rp.keep (Rp.keep (Rp.keep (Rp.keep (Rp.keep (Rp.keep (Rp.keep (Rp.keep (Rp.keep (Rp.keep (Rp.keep (Rp.keep (Rp.keep (Rp.keep (Rp.keep raP T0) T1) T2) T3) T4) T5) T6) T7) T8) T9) T10) T11) T12) T13) T14) T15) T16 (fun b hb hm => by have := LaP b hb; have := G5 b hm; omega)) T17 (fun b hb hm => by have := LaP b hb; have := G6 b hm; omega)) T18 (fun b hb hm => by have := LaP b hb; have := G7 b hm; omega)) T19) T20 (fun b hb hm => by have := LaP b hb; have := G8 b hm; omega)) T21) smaP).mono ?_
  rintro e w23 ⟨u12, f12, rfl, r12, F12, t22⟩
  have T22 : Only [] w22 w23 := t22
  have S22 : w22.heap.size + 0 ≤ w23.heap.size := by have := T22.size; omega
  clear caP_22_0 caP_22_1 caP_22_2
  have q12 := r12
  obtain ⟨u122, rfl, -, -, z122⟩ := q12
  obtain ⟨A122, C122, _, _, rfl, -⟩ := z122.open_
  have L12 := Rp.lt r12
  have G12 : ∀ b ∈ f12, w22.heap.size ≤ b := fun b hb => by have := F12.ge b hb; omega
  go_wp2_with fail
  with_reducible refine (toInt64S_sm (.slice AaSubset aSubset.length CaSubset) aSubset _ _ (Rp.keep (Rp.keep (Rp.only (Rp.keep (Rp.only (Rp.only (Rp.only (Rp.keep (Rp.keep (Rp.keep (Rp.keep (Rp.keep (Rp.keep (Rp.keep (Rp.keep (Rp.keep (Rp.keep (Rp.keep (Rp.keep (Rp.keep (Rp.keep (Rp.keep (Rp.keep raSubset T0) T1) T2) T3) T4) T5) T6) T7) T8) T9) T10) T11) T12) T13) T14) T15) T16 (fun b hb hm => by have := LaSubset b hb; have := G5 b hm; omega)) T17 (fun b hb hm => by have := LaSubset b hb; have := G6 b hm; omega)) T18 (fun b hb hm => by have := LaSubset b hb; have := G7 b hm; omega)) T19) T20 (fun b hb hm => by have := LaSubset b hb; have := G8 b hm; omega)) T21) T22) smaSubset).mono ?_
  rintro e w24 ⟨v13, f13, rfl, r13, F13, t23⟩
  have T23 : Only [] w23 w24 := t23
  have S23 : w23.heap.size + 0 ≤ w24.heap.size := by have := T23.size; omega
  have L13 := Rp.lt r13
  have G13 : ∀ b ∈ f13, w23.heap.size ≤ b := fun b hb => by have := F13.ge b hb; omega
  go_wp2_with fail
  with_reducible refine (toInt64S_sm (.slice AaS aS.length CaS) aS _ _ (Rp.keep (Rp.keep (Rp.keep (Rp.only (Rp.keep (Rp.only (Rp.only (Rp.only (Rp.keep (Rp.keep (Rp.keep (Rp.keep (Rp.keep (Rp.keep (Rp.keep (Rp.keep (Rp.keep (Rp.keep (Rp.keep (Rp.keep (Rp.keep (Rp.keep (Rp.keep (Rp.keep raS T0) T1) T2) T3) T4) T5) T6) T7) T8) T9) T10) T11) T12) T13) T14) T15) T16 (fun b hb hm => by have := LaS b hb; have := G5 b hm; omega)) T17 (fun b hb hm => by have := LaS b hb; have := G6 b hm; omega)) T18 (fun b hb hm => by have := LaS b hb; have := G7 b hm; omega)) T19) T20 (fun b hb hm => by have := LaS b hb; have := G8 b hm; omega)) T21) T22) T23) smaS).mono ?_
  rintro e w25 ⟨v14, f14, rfl, r14, F14, t24⟩
  have T24 : Only [] w24 w25 := t24
  have S24 : w24.heap.size + 0 ≤ w25.heap.size := by have := T24.size; omega
  have L14 := Rp.lt r14
  have G14 : ∀ b ∈ f14, w24.heap.size ≤ b := fun b hb => by have := F14.ge b hb; omega
  go_wp2_with fail
  with_reducible refine (implTwoPhaseCert_any [.int .i64 aP.points, .string aP.names, .slice A122 aP.moves.length C122] aP _ v13 aSubset _ v14 aS _ _ (Rp.keep (Rp.keep r12 T23) T24) (Rp.keep r13 T24) r14).mono ?_
  rintro e w26 ⟨u15, f15, rfl, r15, F15, t25⟩
  have T25 : Only [] w25 w26 := t25
  have S25 : w25.heap.size + 0 ≤ w26.heap.size := by have := T25.size; omega
  have q15 := r15
  obtain ⟨u151, u152, u153, _, _, _, rfl, -, -, z151, z152, z153⟩ := q15
  obtain ⟨A151, C151, _, _, rfl, -⟩ := z151.open_
  obtain ⟨A152, C152, _, _, rfl, -⟩ := z152.open_
  obtain ⟨A153, C153, _, _, rfl, -⟩ := z153.open_
  have L15 := Rp.lt r15
  have G15 : ∀ b ∈ f15, w25.heap.size ≤ b := fun b hb => by have := F15.ge b hb; omega
  have c4_26_0 := ((Only.refl [] _).alloc (.cells #[.int .i64 (wCert (twC aP aSubset aS)).kind, .slice A151 (wCert (twC aP aSubset aS)).numbers.length C151, .slice A152 (wCert (twC aP aSubset aS)).words.length C152, .slice A153 (wCert (twC aP aSubset aS)).tables.length C153] 30)).cell (by simp) (((Blk.keep (Blk.keep (Blk.keep (Blk.keep (Blk.keep (Blk.only (Blk.keep (Blk.only (Blk.only (Blk.only (Blk.keep (Blk.keep (Blk.keep (Blk.keep (Blk.keep (Blk.keep (Blk.keep (Blk.keep (Blk.keep (Blk.keep HB4.out T6) T7) T8) T9) T10) T11) T12) T13) T14) T15) T16 (fun hm => by have := G5 _ hm; have := LB4; omega)) T17 (fun hm => by have := G6 _ hm; have := LB4; omega)) T18 (fun hm => by have := G7 _ hm; have := LB4; omega)) T19) T20 (fun hm => by have := G8 _ hm; have := LB4; omega)) T21) T22) T23) T24) T25)).cell 0 rfl)
  have c4_26_1 := ((Only.refl [] _).alloc (.cells #[.int .i64 (wCert (twC aP aSubset aS)).kind, .slice A151 (wCert (twC aP aSubset aS)).numbers.length C151, .slice A152 (wCert (twC aP aSubset aS)).words.length C152, .slice A153 (wCert (twC aP aSubset aS)).tables.length C153] 30)).cell (by simp) (((Blk.keep (Blk.keep (Blk.keep (Blk.keep (Blk.keep (Blk.only (Blk.keep (Blk.only (Blk.only (Blk.only (Blk.keep (Blk.keep (Blk.keep (Blk.keep (Blk.keep (Blk.keep (Blk.keep (Blk.keep (Blk.keep (Blk.keep HB4.out T6) T7) T8) T9) T10) T11) T12) T13) T14) T15) T16 (fun hm => by have := G5 _ hm; have := LB4; omega)) T17 (fun hm => by have := G6 _ hm; have := LB4; omega)) T18 (fun hm => by have := G7 _ hm; have := LB4; omega)) T19) T20 (fun hm => by have := G8 _ hm; have := LB4; omega)) T21) T22) T23) T24) T25)).cell 1 rfl)
  have c4_26_2 := ((Only.refl [] _).alloc (.cells #[.int .i64 (wCert (twC aP aSubset aS)).kind, .slice A151 (wCert (twC aP aSubset aS)).numbers.length C151, .slice A152 (wCert (twC aP aSubset aS)).words.length C152, .slice A153 (wCert (twC aP aSubset aS)).tables.length C153] 30)).cell (by simp) (((Blk.keep (Blk.keep (Blk.keep (Blk.keep (Blk.keep (Blk.only (Blk.keep (Blk.only (Blk.only (Blk.only (Blk.keep (Blk.keep (Blk.keep (Blk.keep (Blk.keep (Blk.keep (Blk.keep (Blk.keep (Blk.keep (Blk.keep HB4.out T6) T7) T8) T9) T10) T11) T12) T13) T14) T15) T16 (fun hm => by have := G5 _ hm; have := LB4; omega)) T17 (fun hm => by have := G6 _ hm; have := LB4; omega)) T18 (fun hm => by have := G7 _ hm; have := LB4; omega)) T19) T20 (fun hm => by have := G8 _ hm; have := LB4; omega)) T21) T22) T23) T24) T25)).cell 2 rfl)
  have c4_26_3 := ((Only.refl [] _).alloc (.cells #[.int .i64 (wCert (twC aP aSubset aS)).kind, .slice A151 (wCert (twC aP aSubset aS)).numbers.length C151, .slice A152 (wCert (twC aP aSubset aS)).words.length C152, .slice A153 (wCert (twC aP aSubset aS)).tables.length C153] 30)).cell (by simp) (((Blk.keep (Blk.keep (Blk.keep (Blk.keep (Blk.keep (Blk.only (Blk.keep (Blk.only (Blk.only (Blk.only (Blk.keep (Blk.keep (Blk.keep (Blk.keep (Blk.keep (Blk.keep (Blk.keep (Blk.keep (Blk.keep (Blk.keep HB4.out T6) T7) T8) T9) T10) T11) T12) T13) T14) T15) T16 (fun hm => by have := G5 _ hm; have := LB4; omega)) T17 (fun hm => by have := G6 _ hm; have := LB4; omega)) T18 (fun hm => by have := G7 _ hm; have := LB4; omega)) T19) T20 (fun hm => by have := G8 _ hm; have := LB4; omega)) T21) T22) T23) T24) T25)).cell 3 rfl)
  have e26 : eqV (wCert (twC aP aSubset aS)) (wCert (twC aP aSubset aS)) = true := eqV_yes rfl
  go_wp2_with fail
  with_reducible refine (eqCertificate_any [.int .i64 (wCert (twC aP aSubset aS)).kind, .slice A151 (wCert (twC aP aSubset aS)).numbers.length C151, .slice A152 (wCert (twC aP aSubset aS)).words.length C152, .slice A153 (wCert (twC aP aSubset aS)).tables.length C153] [.int .i64 (wCert (twC aP aSubset aS)).kind, .slice A41 (wCert (twC aP aSubset aS)).numbers.length C41, .slice A42 (wCert (twC aP aSubset aS)).words.length C42, .slice A43 (wCert (twC aP aSubset aS)).tables.length C43] (wCert (twC aP aSubset aS)) (wCert (twC aP aSubset aS)) _ _ _ (Rp.keep r15 ((Only.refl [] _).alloc (.cells #[.int .i64 (wCert (twC aP aSubset aS)).kind, .slice A151 (wCert (twC aP aSubset aS)).numbers.length C151, .slice A152 (wCert (twC aP aSubset aS)).words.length C152, .slice A153 (wCert (twC aP aSubset aS)).tables.length C153] 30))) (Rp.keep (Rp.keep (Rp.keep (Rp.keep (Rp.keep (Rp.keep (Rp.only (Rp.keep (Rp.only (Rp.only (Rp.only (Rp.keep (Rp.keep (Rp.keep (Rp.keep (Rp.keep (Rp.keep (Rp.keep (Rp.keep (Rp.keep (Rp.keep (Rp.keep r4 T5) T6) T7) T8) T9) T10) T11) T12) T13) T14) T15) T16 (fun b hb hm => by have := L4 b hb; have := G5 b hm; omega)) T17 (fun b hb hm => by have := L4 b hb; have := G6 b hm; omega)) T18 (fun b hb hm => by have := L4 b hb; have := G7 b hm; omega)) T19) T20 (fun b hb hm => by have := L4 b hb; have := G8 b hm; omega)) T21) T22) T23) T24) T25) ((Only.refl [] _).alloc (.cells #[.int .i64 (wCert (twC aP aSubset aS)).kind, .slice A151 (wCert (twC aP aSubset aS)).numbers.length C151, .slice A152 (wCert (twC aP aSubset aS)).words.length C152, .slice A153 (wCert (twC aP aSubset aS)).tables.length C153] 30)))).mono ?_
  rintro e w27 ⟨rfl, t26⟩
  have T26 : Only [] w26 w27 := ((Only.refl [] _).alloc (.cells #[.int .i64 (wCert (twC aP aSubset aS)).kind, .slice A151 (wCert (twC aP aSubset aS)).numbers.length C151, .slice A152 (wCert (twC aP aSubset aS)).words.length C152, .slice A153 (wCert (twC aP aSubset aS)).tables.length C153] 30)).trans t26
  have S26 : w26.heap.size + 1 ≤ w27.heap.size := by have := t26.size; simp at this; omega
  have B15 : Blk w27 w26.heap.size [.int .i64 (wCert (twC aP aSubset aS)).kind, .slice A151 (wCert (twC aP aSubset aS)).numbers.length C151, .slice A152 (wCert (twC aP aSubset aS)).words.length C152, .slice A153 (wCert (twC aP aSubset aS)).tables.length C153] := (Blk.keep (Blk.new_at (by simp)) t26)
  have LB15 : w26.heap.size < w27.heap.size := B15.lt
  have HB15 := Lib.hid B15; clear B15
  clear c4_26_0 c4_26_1 c4_26_2 c4_26_3
  have c8_27_0 := ((Blk.keep (Blk.keep (Blk.keep (Blk.keep (Blk.keep (Blk.keep (Blk.only (Blk.keep (Blk.only (Blk.only (Blk.only (Blk.keep (Blk.keep (Blk.keep (Blk.keep (Blk.keep (Blk.keep HB8.out T10) T11) T12) T13) T14) T15) T16 (fun hm => by have := L5 _ hm; omega)) T17 (fun hm => by have := L6 _ hm; omega)) T18 (fun hm => by have := L7 _ hm; omega)) T19) T20 (fun hm => by have := L8 _ hm; omega)) T21) T22) T23) T24) T25) T26)).cell 0 rfl
  have c8_27_1 := ((Blk.keep (Blk.keep (Blk.keep (Blk.keep (Blk.keep (Blk.keep (Blk.only (Blk.keep (Blk.only (Blk.only (Blk.only (Blk.keep (Blk.keep (Blk.keep (Blk.keep (Blk.keep (Blk.keep HB8.out T10) T11) T12) T13) T14) T15) T16 (fun hm => by have := L5 _ hm; omega)) T17 (fun hm => by have := L6 _ hm; omega)) T18 (fun hm => by have := L7 _ hm; omega)) T19) T20 (fun hm => by have := L8 _ hm; omega)) T21) T22) T23) T24) T25) T26)).cell 1 rfl
  have c8_27_2 := ((Blk.keep (Blk.keep (Blk.keep (Blk.keep (Blk.keep (Blk.keep (Blk.only (Blk.keep (Blk.only (Blk.only (Blk.only (Blk.keep (Blk.keep (Blk.keep (Blk.keep (Blk.keep (Blk.keep HB8.out T10) T11) T12) T13) T14) T15) T16 (fun hm => by have := L5 _ hm; omega)) T17 (fun hm => by have := L6 _ hm; omega)) T18 (fun hm => by have := L7 _ hm; omega)) T19) T20 (fun hm => by have := L8 _ hm; omega)) T21) T22) T23) T24) T25) T26)).cell 2 rfl
  have c8_27_3 := ((Blk.keep (Blk.keep (Blk.keep (Blk.keep (Blk.keep (Blk.keep (Blk.only (Blk.keep (Blk.only (Blk.only (Blk.only (Blk.keep (Blk.keep (Blk.keep (Blk.keep (Blk.keep (Blk.keep HB8.out T10) T11) T12) T13) T14) T15) T16 (fun hm => by have := L5 _ hm; omega)) T17 (fun hm => by have := L6 _ hm; omega)) T18 (fun hm => by have := L7 _ hm; omega)) T19) T20 (fun hm => by have := L8 _ hm; omega)) T21) T22) T23) T24) T25) T26)).cell 3 rfl
  have h27 : heldV (1) (Mk.mark (1) (wCert (twC aP aSubset aS))) = 1 + (Mk.cnt (wCert (twC aP aSubset aS)) : Nat) := heldV_mark (1) (wCert (twC aP aSubset aS))
  have m27 : (1 : Int) + (Mk.cnt (Mk.mark (1) (wCert (twC aP aSubset aS))) : Nat) ≤ 4611686018427387904 := by rw [MkL.cnt]; omega
  go_wp2_with fail
  with_reducible refine (heldCertificate_any [.int .i64 (wCert (twC aP aSubset aS)).kind, .slice A81 (wCert (twC aP aSubset aS)).numbers.length C81, .slice A82 (wCert (twC aP aSubset aS)).words.length C82, .slice A83 (wCert (twC aP aSubset aS)).tables.length C83] (Mk.mark (1) (wCert (twC aP aSubset aS))) _ (1) _ (Rp.keep (Rp.keep (Rp.keep (Rp.keep (Rp.keep (Rp.keep r8 T21) T22) T23) T24) T25) T26) (by omega) m27).mono ?_
  rintro e w28 ⟨rfl, t27⟩
  have T27 : Only [] w27 w28 := t27
  have S27 : w27.heap.size + 0 ≤ w28.heap.size := by have := T27.size; omega
  clear c8_27_0 c8_27_1 c8_27_2 c8_27_3
  go_wp2
  go_ret
  refine ⟨rfl, ?_⟩
  exact (Only.keepThen (Only.keepThen (Only.keepThen (Only.keepThen (Only.keepThen (Only.keepThen (Only.keepThen (Only.then_ (Only.keepThen (Only.then_ (Only.then_ (Only.then_ (Only.keepThen (Only.keepThen (Only.keepThen (Only.keepThen (Only.keepThen (Only.keepThen (Only.keepThen (Only.keepThen (Only.keepThen (Only.keepThen (Only.keepThen (Only.keepThen (Only.keepThen (Only.keepThen (Only.keepThen T0 T1) T2) T3) T4) T5) T6) T7) T8) T9) T10) T11) T12) T13) T14) T15) T16 (fun b hb hl => by have := G5 b hb; omega)) T17 (fun b hb hl => by have := G6 b hb; omega)) T18 (fun b hb hl => by have := G7 b hb; omega)) T19) T20 (fun b hb hl => by have := G8 b hb; omega)) T21) T22) T23) T24) T25) T26) T27)
end Go.Proofs.YtclhblofchfglaaGreat
