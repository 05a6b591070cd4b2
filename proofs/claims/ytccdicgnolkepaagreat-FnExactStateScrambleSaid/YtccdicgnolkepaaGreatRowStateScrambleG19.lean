/- The law on StateScramble: its walk. (Printed by gen_exact.py.) -/
import Derived.Test.YtccdicgnolkepaaGreatRowStateScrambleG18
import Derived.Test.YtccdicgnolkepaaGreatRowStateScrambleG8
import Derived.Test.YtccdicgnolkepaaGreatRowStateScrambleG4
import Derived.Deep.RegionHeld3
import Derived.Deep.DeepCutAuto
namespace Go.Proofs.YtccdicgnolkepaaGreat
open Go.RowKit
set_option maxRecDepth 10000

theorem stScr_cnt (x : Puzzle) (seed : Int) : Mk.cnt ((stScr x seed).getD []) ≤ 200 := by
  show cntL ((stScr x seed).getD []) ≤ 200
  rw [cntL_ints]
  unfold stScr
  split
  · cases h : optX x (PM.inv (rndS x seed).1) with
    | none => simp
    | some w => exact (optX_len h).2
  · simp
set_option maxHeartbeats 4000000 in
theorem FnExactStateScramble_any (w : World) (caP : List Value) (aP : Puzzle) (faP : List Nat) (raP : Rp.rep w caP aP faP) (aSeed : Int) (iaSeed : I64 aSeed) :
    Calls Tryz.prog 3 #[.agg caP.toArray, .int .i64 aSeed] w fun e w' => e = .returned (.bool true) ∧ Only [] w w' := by
  have qaP := raP
  obtain ⟨uaP2, rfl, -, -, zaP2⟩ := qaP
  obtain ⟨AaP2, CaP2, _, _, rfl, -⟩ := zaP2.open_
  have LaP := Rp.lt raP
  have ibaSeed := iaSeed; unfold I64 at ibaSeed; obtain ⟨ilaSeed, ihaSeed⟩ := ibaSeed
  rcases szV_cases (1048576) aP with ⟨esaP, msaP⟩ | ⟨esaP, psaP, msaP⟩
  · go_enter Tryz.func3, Tryz.ntmps3
    go_wp2_with (with_reducible refine (szPuzzle_any [.int .i64 aP.points, .string aP.names, .slice AaP2 aP.moves.length CaP2] aP _ (1048576) _ (Rp.keep raP ((Only.refl [] _).alloc (.cells #[.int .i64 aP.points, .string aP.names, .slice AaP2 aP.moves.length CaP2] 24))) (by omega) (by omega)).mono ?_; rintro e w1 ⟨rfl, t0⟩)
    go_ret
    exact ⟨rfl, (by with_reducible repeat (first | exact Only.refl _ _ | assumption | refine Only.drewN ?_ _ | refine Only.drew ?_ | refine Only.alloc ?_ _ | refine Only.setCell ?_ (by intro hh; exfalso; simp at hh; try omega) _ | refine Only.trans ?_ (by assumption)))⟩
  have smaP : Sm.sm aP := SzSm.of_ _ (by omega)
  have csaP : Mk.cnt aP ≤ 1048576 := Nat.le_trans (CntSz.le aP) (by omega)
  have hcnt := stScr_cnt aP aSeed
  go_enter Tryz.func3, Tryz.ntmps3
  go_wp2_with fail
  with_reducible refine (szPuzzle_any [.int .i64 aP.points, .string aP.names, .slice AaP2 aP.moves.length CaP2] aP _ (1048576) _ (Rp.keep raP ((Only.refl [] _).alloc (.cells #[.int .i64 aP.points, .string aP.names, .slice AaP2 aP.moves.length CaP2] 24))) (by omega) (by omega)).mono ?_
  rintro e w1 ⟨rfl, t0⟩
  rw [esaP]
  have T0 : Only [] w w1 := ((Only.refl [] _).alloc (.cells #[.int .i64 aP.points, .string aP.names, .slice AaP2 aP.moves.length CaP2] 24)).trans t0
  have S0 : w.heap.size + 1 ≤ w1.heap.size := by have := t0.size; simp at this; omega
  have BaP : Blk w1 w.heap.size [.int .i64 aP.points, .string aP.names, .slice AaP2 aP.moves.length CaP2] := (Blk.keep (Blk.new_at (by simp)) t0)
  have LBaP : w.heap.size < w1.heap.size := BaP.lt
  have HBaP := Lib.hid BaP; clear BaP
  have caP_1_0 := (HBaP.out).cell 0 rfl
  have caP_1_1 := (HBaP.out).cell 1 rfl
  have caP_1_2 := (HBaP.out).cell 2 rfl
  go_wp2_with fail
  with_reducible refine (toPuzzle_any [.int .i64 aP.points, .string aP.names, .slice AaP2 aP.moves.length CaP2] aP _ _ (Rp.keep raP T0) smaP).mono ?_
  rintro e w2 ⟨u1, f1, rfl, r1, F1, t1⟩
  have T1 : Only [] w1 w2 := t1
  have S1 : w1.heap.size + 0 ≤ w2.heap.size := by have := T1.size; omega
  clear caP_1_0 caP_1_1 caP_1_2
  have q1 := r1
  obtain ⟨u12, rfl, -, -, z12⟩ := q1
  obtain ⟨A12, C12, _, _, rfl, -⟩ := z12.open_
  have L1 := Rp.lt r1
  have G1 : ∀ b ∈ f1, w1.heap.size ≤ b := fun b hb => by have := F1.ge b hb; omega
  go_wp2_with fail
  with_reducible refine (specStateScramble_any [.int .i64 aP.points, .string aP.names, .slice A12 aP.moves.length C12] aP _ aSeed _ r1).mono ?_
  rintro e w3 ⟨v2, f2, rfl, r2, F2, t2⟩
  have T2 : Only [] w2 w3 := t2
  have S2 : w2.heap.size + 0 ≤ w3.heap.size := by have := T2.size; omega
  have L2 := Rp.lt r2
  have G2 : ∀ b ∈ f2, w2.heap.size ≤ b := fun b hb => by have := F2.ge b hb; omega
  have caP_3_0 := ((Blk.keep (Blk.keep HBaP.out T1) T2)).cell 0 rfl
  have caP_3_1 := ((Blk.keep (Blk.keep HBaP.out T1) T2)).cell 1 rfl
  have caP_3_2 := ((Blk.keep (Blk.keep HBaP.out T1) T2)).cell 2 rfl
  go_wp2_with fail
  with_reducible refine (toPuzzle_any [.int .i64 aP.points, .string aP.names, .slice AaP2 aP.moves.length CaP2] aP _ _ (Rp.keep (Rp.keep (Rp.keep raP T0) T1) T2) smaP).mono ?_
  rintro e w4 ⟨u3, f3, rfl, r3, F3, t3⟩
  have T3 : Only [] w3 w4 := t3
  have S3 : w3.heap.size + 0 ≤ w4.heap.size := by have := T3.size; omega
  clear caP_3_0 caP_3_1 caP_3_2
  have q3 := r3
  obtain ⟨u32, rfl, -, -, z32⟩ := q3
  obtain ⟨A32, C32, _, _, rfl, -⟩ := z32.open_
  have L3 := Rp.lt r3
  have G3 : ∀ b ∈ f3, w3.heap.size ≤ b := fun b hb => by have := F3.ge b hb; omega
  go_wp2_with fail
  with_reducible refine (implStateScramble_any [.int .i64 aP.points, .string aP.names, .slice A32 aP.moves.length C32] aP _ aSeed _ (Rp.keep r3 ((Only.refl [] _).alloc (.cells #[.int .i64 aP.points, .string aP.names, .slice A32 aP.moves.length C32] 29)))).mono ?_
  rintro e w5 ⟨v4, f4, rfl, r4, F4, t4⟩
  have T4 : Only [] w4 w5 := ((Only.refl [] _).alloc (.cells #[.int .i64 aP.points, .string aP.names, .slice A32 aP.moves.length C32] 29)).trans t4
  have S4 : w4.heap.size + 1 ≤ w5.heap.size := by have := t4.size; simp at this; omega
  have B3 : Blk w5 w4.heap.size [.int .i64 aP.points, .string aP.names, .slice A32 aP.moves.length C32] := (Blk.keep (Blk.new_at (by simp)) t4)
  have LB3 : w4.heap.size < w5.heap.size := B3.lt
  have HB3 := Lib.hid B3; clear B3
  have L4 := Rp.lt r4
  have G4 : ∀ b ∈ f4, w4.heap.size + 1 ≤ b := fun b hb => by have := F4.ge b hb; simp at this; omega
  have e5 : eqV ((stScr aP aSeed).getD []) ((stScr aP aSeed).getD []) = true := eqV_yes rfl
  go_wp2_with fail
  with_reducible refine (eqInt64S_rd v4 v2 ((stScr aP aSeed).getD []) ((stScr aP aSeed).getD []) _ _ _ r4 (Rp.keep (Rp.keep r2 T3) T4)).mono ?_
  rintro e w6 ⟨rfl, d5⟩
  have t5 := d5.only []
  have T5 : Only [] w5 w6 := t5
  have S5 : w5.heap.size + 0 ≤ w6.heap.size := by have := T5.size; omega
  go_upto_region 10 with fail
  have e7 : eqV aP aP = true := eqV_yes rfl
  go_region_held3 (fun w' => Only [] w6 w' ∧ w'.cell? ⟨w4.heap.size, 0, none⟩ = some (.int .i64 aP.points) ∧ w'.cell? ⟨w4.heap.size, 1, none⟩ = some (.string aP.names) ∧ w'.cell? ⟨w4.heap.size, 2, none⟩ = some (.slice A32 aP.moves.length C32) ∧ w'.cell? ⟨w.heap.size, 0, none⟩ = some (.int .i64 aP.points) ∧ w'.cell? ⟨w.heap.size, 1, none⟩ = some (.string aP.names) ∧ w'.cell? ⟨w.heap.size, 2, none⟩ = some (.slice AaP2 aP.moves.length CaP2)) ((refine and_of ?_ (fun h__ => ⟨(Blk.keep (Blk.keep HB3.out T5) h__).cell 0 rfl, (Blk.keep (Blk.keep HB3.out T5) h__).cell 1 rfl, (Blk.keep (Blk.keep HB3.out T5) h__).cell 2 rfl, (Blk.keep (Blk.keep (Blk.keep (Blk.keep (Blk.keep (Blk.keep HBaP.out T1) T2) T3) T4) T5) h__).cell 0 rfl, (Blk.keep (Blk.keep (Blk.keep (Blk.keep (Blk.keep (Blk.keep HBaP.out T1) T2) T3) T4) T5) h__).cell 1 rfl, (Blk.keep (Blk.keep (Blk.keep (Blk.keep (Blk.keep (Blk.keep HBaP.out T1) T2) T3) T4) T5) h__).cell 2 rfl⟩); first | exact (Only.refl _ _).drew | exact Only.trans (And.left (by assumption)) (by assumption))) (first
    | (go_at_call 6; (with_reducible refine (toPuzzle_any [.int .i64 aP.points, .string aP.names, .slice AaP2 aP.moves.length CaP2] aP _ _ (Rp.keep (Rp.keep (Rp.keep (Rp.keep (Rp.keep (Rp.keep (Rp.keep raP T0) T1) T2) T3) T4) T5) (And.left (by assumption))) smaP).mono ?_); rintro e w7 ⟨u5, f5, rfl, r5, F5, t6⟩)
    | (go_at_call 9; (with_reducible refine (eqPuzzle_any [.int .i64 aP.points, .string aP.names, .slice A32 aP.moves.length C32] u5 aP aP _ _ _ (Rp.keep (Rp.keep (Rp.keep r3 T4) T5) (And.left (by assumption))) (Rp.keep r5 (by first | exact Only.refl _ _ | assumption | exact Only.trans (by assumption) (by assumption)))).mono ?_); rintro e w8 ⟨rfl, t7⟩)
    | fail "no arm")
  have T6 : Only [] w6 w7 := ((Only.refl _ _).drew).trans t6
  have S6 : w6.heap.size + 0 ≤ w7.heap.size := by have := T6.size; omega
  have L5 := Rp.lt r5
  have G5 : ∀ b ∈ f5, w6.heap.size ≤ b := fun b hb => by have := F5.ge b hb; first | omega | (simp at this; omega)
  have T7 : Only [] w7 w8 := t7
  have S7 : w7.heap.size + 0 ≤ w8.heap.size := by have := T7.size; omega
  have c3_8_0 := ((Blk.keep (Blk.keep (Blk.keep HB3.out T5) T6) T7)).cell 0 rfl
  have c3_8_1 := ((Blk.keep (Blk.keep (Blk.keep HB3.out T5) T6) T7)).cell 1 rfl
  have c3_8_2 := ((Blk.keep (Blk.keep (Blk.keep HB3.out T5) T6) T7)).cell 2 rfl
  have m8 : (1 : Int) + (Mk.cnt aP : Nat) ≤ 4611686018427387904 := by omega
  go_wp2_with fail
  with_reducible refine (markPuzzle_any [.int .i64 aP.points, .string aP.names, .slice A32 aP.moves.length C32] aP f3 (1) _ (Rp.keep (Rp.keep (Rp.keep (Rp.keep r3 T4) T5) T6) T7) F3.nd (Own.keep (Own.keep (Own.keep (Own.keep F3.own T4) T5) T6) T7) (by omega) m8).mono ?_
  rintro e w9 ⟨rfl, rr8, oo8, t8⟩
  have T8 : Only f3 w8 w9 := t8
  have S8 : w8.heap.size + 0 ≤ w9.heap.size := by have := T8.size; omega
  clear c3_8_0 c3_8_1 c3_8_2
  clear r3
  have r3 := rr8
  have O3 := oo8
  have e9 : eqV ((stScr aP aSeed).getD []) ((stScr aP aSeed).getD []) = true := eqV_yes rfl
  go_wp2_with fail
  with_reducible refine (eqInt64S_rd v4 v2 ((stScr aP aSeed).getD []) ((stScr aP aSeed).getD []) _ _ _ (Rp.only (Rp.keep (Rp.keep (Rp.keep r4 T5) T6) T7) T8 (fun b hb hm => by have := G4 b hb; have := L3 b hm; omega)) (Rp.only (Rp.keep (Rp.keep (Rp.keep (Rp.keep (Rp.keep r2 T3) T4) T5) T6) T7) T8 (fun b hb hm => by have := L2 b hb; have := G3 b hm; omega))).mono ?_
  rintro e w10 ⟨rfl, d9⟩
  have t9 := d9.only []
  have T9 : Only [] w9 w10 := t9
  have S9 : w9.heap.size + 0 ≤ w10.heap.size := by have := T9.size; omega
  have m10 : (1 : Int) + (Mk.cnt ((stScr aP aSeed).getD []) : Nat) ≤ 4611686018427387904 := by omega
  go_wp2_with fail
  with_reducible refine (markInt64S_rd v4 ((stScr aP aSeed).getD []) f4 (1) _ (Rp.keep (Rp.only (Rp.keep (Rp.keep (Rp.keep r4 T5) T6) T7) T8 (fun b hb hm => by have := G4 b hb; have := L3 b hm; omega)) T9) (Own.keep (Own.only (Own.keep (Own.keep (Own.keep F4.own T5) T6) T7) T8 (fun b hb hm => by have := G4 b hb; have := L3 b hm; omega)) T9) (by omega) m10).mono ?_
  rintro e w11 ⟨rfl, rr10, oo10, t10⟩
  have T10 : Only f4 w10 w11 := t10
  have S10 : w10.heap.size + 0 ≤ w11.heap.size := by have := T10.size; omega
  clear r4
  have r4 := rr10
  have O4 := oo10
  have h11 : heldV (1) (Mk.mark (1) ((stScr aP aSeed).getD [])) = 1 + (Mk.cnt ((stScr aP aSeed).getD []) : Nat) := heldV_mark (1) ((stScr aP aSeed).getD [])
  have m11 : (1 : Int) + (Mk.cnt (Mk.mark (1) ((stScr aP aSeed).getD [])) : Nat) ≤ 4611686018427387904 := by rw [MkL.cnt]; omega
  go_wp2_with fail
  with_reducible refine (heldInt64S_rd v4 (Mk.mark (1) ((stScr aP aSeed).getD [])) _ (1) _ r4 (by omega) m11).mono ?_
  rintro e w12 ⟨rfl, d11⟩
  have t11 := d11.only []
  have T11 : Only [] w11 w12 := t11
  have S11 : w11.heap.size + 0 ≤ w12.heap.size := by have := T11.size; omega
  have caP_12_0 := ((Blk.keep (Blk.only (Blk.keep (Blk.only (Blk.keep (Blk.keep (Blk.keep (Blk.keep (Blk.keep (Blk.keep (Blk.keep HBaP.out T1) T2) T3) T4) T5) T6) T7) T8 (fun hm => by have := G3 _ hm; have := LBaP; omega)) T9) T10 (fun hm => by have := G4 _ hm; have := LBaP; omega)) T11)).cell 0 rfl
  have caP_12_1 := ((Blk.keep (Blk.only (Blk.keep (Blk.only (Blk.keep (Blk.keep (Blk.keep (Blk.keep (Blk.keep (Blk.keep (Blk.keep HBaP.out T1) T2) T3) T4) T5) T6) T7) T8 (fun hm => by have := G3 _ hm; have := LBaP; omega)) T9) T10 (fun hm => by have := G4 _ hm; have := LBaP; omega)) T11)).cell 1 rfl
  have caP_12_2 := ((Blk.keep (Blk.only (Blk.keep (Blk.only (Blk.keep (Blk.keep (Blk.keep (Blk.keep (Blk.keep (Blk.keep (Blk.keep HBaP.out T1) T2) T3) T4) T5) T6) T7) T8 (fun hm => by have := G3 _ hm; have := LBaP; omega)) T9) T10 (fun hm => by have := G4 _ hm; have := LBaP; omega)) T11)).cell 2 rfl
  go_wp2_with fail
  with_reducible refine (toPuzzle_any [.int .i64 aP.points, .string aP.names, .slice AaP2 aP.moves.length CaP2] aP _ _ (Rp.keep (Rp.only (Rp.keep (Rp.only (Rp.keep (Rp.keep (Rp.keep (Rp.keep (Rp.keep (Rp.keep (Rp.keep (Rp.keep raP T0) T1) T2) T3) T4) T5) T6) T7) T8 (fun b hb hm => by have := LaP b hb; have := G3 b hm; omega)) T9) T10 (fun b hb hm => by have := LaP b hb; have := G4 b hm; omega)) T11) smaP).mono ?_
  rintro e w13 ⟨u6, f6, rfl, r6, F6, t12⟩
  have T12 : Only [] w12 w13 := t12
  have S12 : w12.heap.size + 0 ≤ w13.heap.size := by have := T12.size; omega
  clear caP_12_0 caP_12_1 caP_12_2
  have q6 := r6
  obtain ⟨u62, rfl, -, -, z62⟩ := q6
  obtain ⟨A62, C62, _, _, rfl, -⟩ := z62.open_
  have L6 := Rp.lt r6
  have G6 : ∀ b ∈ f6, w12.heap.size ≤ b := fun b hb => by have := F6.ge b hb; omega
  go_wp2_with fail
  with_reducible refine (implStateScramble_any [.int .i64 aP.points, .string aP.names, .slice A62 aP.moves.length C62] aP _ aSeed _ r6).mono ?_
  rintro e w14 ⟨v7, f7, rfl, r7, F7, t13⟩
  have T13 : Only [] w13 w14 := t13
  have S13 : w13.heap.size + 0 ≤ w14.heap.size := by have := T13.size; omega
  have L7 := Rp.lt r7
  have G7 : ∀ b ∈ f7, w13.heap.size ≤ b := fun b hb => by have := F7.ge b hb; omega
  have e14 : eqV ((stScr aP aSeed).getD []) ((stScr aP aSeed).getD []) = true := eqV_yes rfl
  go_wp2_with fail
  with_reducible refine (eqInt64S_rd v7 v2 ((stScr aP aSeed).getD []) ((stScr aP aSeed).getD []) _ _ _ r7 (Rp.keep (Rp.keep (Rp.keep (Rp.only (Rp.keep (Rp.only (Rp.keep (Rp.keep (Rp.keep (Rp.keep (Rp.keep r2 T3) T4) T5) T6) T7) T8 (fun b hb hm => by have := L2 b hb; have := G3 b hm; omega)) T9) T10 (fun b hb hm => by have := L2 b hb; have := G4 b hm; omega)) T11) T12) T13)).mono ?_
  rintro e w15 ⟨rfl, d14⟩
  have t14 := d14.only []
  have T14 : Only [] w14 w15 := t14
  have S14 : w14.heap.size + 0 ≤ w15.heap.size := by have := T14.size; omega
  have h15 : heldV (1) (Mk.mark (1) ((stScr aP aSeed).getD [])) = 1 + (Mk.cnt ((stScr aP aSeed).getD []) : Nat) := heldV_mark (1) ((stScr aP aSeed).getD [])
  have m15 : (1 : Int) + (Mk.cnt (Mk.mark (1) ((stScr aP aSeed).getD [])) : Nat) ≤ 4611686018427387904 := by rw [MkL.cnt]; omega
  go_wp2_with fail
  with_reducible refine (heldInt64S_rd v4 (Mk.mark (1) ((stScr aP aSeed).getD [])) _ (1) _ (Rp.keep (Rp.keep (Rp.keep (Rp.keep r4 T11) T12) T13) T14) (by omega) m15).mono ?_
  rintro e w16 ⟨rfl, d15⟩
  have t15 := d15.only []
  have T15 : Only [] w15 w16 := t15
  have S15 : w15.heap.size + 0 ≤ w16.heap.size := by have := T15.size; omega
  go_wp2
  go_ret
  refine ⟨rfl, ?_⟩
  exact (Only.keepThen (Only.keepThen (Only.keepThen (Only.keepThen (Only.keepThen (Only.then_ (Only.keepThen (Only.then_ (Only.keepThen (Only.keepThen (Only.keepThen (Only.keepThen (Only.keepThen (Only.keepThen (Only.keepThen T0 T1) T2) T3) T4) T5) T6) T7) T8 (fun b hb hl => by have := G3 b hb; omega)) T9) T10 (fun b hb hl => by have := G4 b hb; omega)) T11) T12) T13) T14) T15)
end Go.Proofs.YtccdicgnolkepaaGreat
