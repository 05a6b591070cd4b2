/- The laws on LowerBoundCertificate and OptimalityCertificate: their walks. (Printed by gen_exact.py.) -/
import Derived.Test.YtolapilacmgliaaCert2
import Derived.Test.YtolapilacmgliaaLawCertificate
import Derived.Test.YtolapilacmgliaaExact
import Derived.Deep.RegionHeld3
import Derived.Deep.DeepCutAuto
namespace Go.Proofs.Ytolapilacmgliaa
open Go.RowKit

theorem lbCert_cnt (b : Int) (l : List Table) : Mk.cnt (lbCert b l) ≤ Mk.cnt l + 1 := by
  unfold lbCert
  split
  · simp [Mk.cnt, cntL]; omega
  · simp [noCert, Mk.cnt, cntL]
theorem opCert_cnt (x : List Int) (l : List Table) : Mk.cnt (opCert x l) ≤ Mk.cnt l + 200 := by
  unfold opCert
  split
  · rename_i h
    have := validW_len h.1
    simp [Mk.cnt, cntL, cntL_ints]; omega
  · simp [noCert, Mk.cnt, cntL]
set_option maxHeartbeats 4000000 in
theorem FnExactLowerBoundCertificate_any (w : World) (aBound : Int) (iaBound : I64 aBound) (vaTables : Value) (aTables : List Table) (faTables : List Nat) (raTables : Rd w vaTables aTables faTables) :
    Calls Try.prog 5 #[.int .i64 aBound, vaTables] w fun e w' => e = .returned (.bool true) ∧ Only [] w w' := by
  have ibaBound := iaBound; unfold I64 at ibaBound; obtain ⟨ilaBound, ihaBound⟩ := ibaBound
  obtain ⟨AaTables, CaTables, _, _, rfl, -⟩ := raTables.open_
  have LaTables := Rp.lt raTables
  have hbaTables : aTables.length ≤ 9223372036854775807 := by obtain ⟨_, _, _, _, hq, -, hs⟩ := raTables.open_; have := hs.bound; exact this
  rcases szV_cases (1048576) aTables with ⟨esaTables, msaTables⟩ | ⟨esaTables, psaTables, msaTables⟩
  · go_enter Try.func5, Try.ntmps5
    go_wp2_with (with_reducible refine (szTableS_rd (.slice AaTables aTables.length CaTables) aTables _ (1048576) _ raTables (by omega) (by omega)).mono ?_; rintro e w1 ⟨rfl, t0⟩)
    go_ret
    exact ⟨rfl, (by with_reducible repeat (first | exact Only.refl _ _ | assumption | refine Only.drewN ?_ _ | refine Only.drew ?_ | refine Only.alloc ?_ _ | refine Only.setCell ?_ (by intro hh; exfalso; simp at hh; try omega) _ | refine Only.trans ?_ (by assumption)))⟩
  have smaTables : Sm.sm aTables := SzSm.of_ _ (by omega)
  have csaTables : Mk.cnt aTables ≤ 1048576 := Nat.le_trans (CntSz.le aTables) (by omega)
  have hcnt := lbCert_cnt aBound aTables
  go_enter Try.func5, Try.ntmps5
  go_wp2_with fail
  with_reducible refine (szTableS_rd (.slice AaTables aTables.length CaTables) aTables _ (1048576) _ raTables (by omega) (by omega)).mono ?_
  rintro e w1 ⟨rfl, t0⟩
  rw [esaTables]
  have T0 : Only [] w w1 := t0
  have S0 : w.heap.size + 0 ≤ w1.heap.size := by have := T0.size; omega
  go_wp2_with fail
  with_reducible refine (toTableS_sm (.slice AaTables aTables.length CaTables) aTables _ _ (Rp.keep raTables T0) smaTables).mono ?_
  rintro e w2 ⟨v1, f1, rfl, r1, F1, t1⟩
  have T1 : Only [] w1 w2 := t1
  have S1 : w1.heap.size + 0 ≤ w2.heap.size := by have := T1.size; omega
  have L1 := Rp.lt r1
  have G1 : ∀ b ∈ f1, w1.heap.size ≤ b := fun b hb => by have := F1.ge b hb; omega
  go_wp2_with fail
  with_reducible refine (specLBCert_rd aBound iaBound v1 aTables _ _ r1 smaTables).mono ?_
  rintro e w3 ⟨u2, f2, rfl, r2, F2, t2⟩
  have T2 : Only [] w2 w3 := t2
  have S2 : w2.heap.size + 0 ≤ w3.heap.size := by have := T2.size; omega
  have q2 := r2
  obtain ⟨u21, u22, u23, _, _, _, rfl, -, -, z21, z22, z23⟩ := q2
  obtain ⟨A21, C21, _, _, rfl, -⟩ := z21.open_
  obtain ⟨A22, C22, _, _, rfl, -⟩ := z22.open_
  obtain ⟨A23, C23, _, _, rfl, -⟩ := z23.open_
  have L2 := Rp.lt r2
  have G2 : ∀ b ∈ f2, w2.heap.size ≤ b := fun b hb => by have := F2.ge b hb; omega
  go_wp2_with fail
  with_reducible refine (toTableS_sm (.slice AaTables aTables.length CaTables) aTables _ _ (Rp.keep (Rp.keep (Rp.keep (Rp.keep raTables T0) T1) T2) ((Only.refl [] _).alloc (.cells #[.int .i64 (lbCert aBound aTables).kind, .slice A21 (lbCert aBound aTables).numbers.length C21, .slice A22 (lbCert aBound aTables).words.length C22, .slice A23 (lbCert aBound aTables).tables.length C23] 26))) smaTables).mono ?_
  rintro e w4 ⟨v3, f3, rfl, r3, F3, t3⟩
  have T3 : Only [] w3 w4 := ((Only.refl [] _).alloc (.cells #[.int .i64 (lbCert aBound aTables).kind, .slice A21 (lbCert aBound aTables).numbers.length C21, .slice A22 (lbCert aBound aTables).words.length C22, .slice A23 (lbCert aBound aTables).tables.length C23] 26)).trans t3
  have S3 : w3.heap.size + 1 ≤ w4.heap.size := by have := t3.size; simp at this; omega
  have B2 : Blk w4 w3.heap.size [.int .i64 (lbCert aBound aTables).kind, .slice A21 (lbCert aBound aTables).numbers.length C21, .slice A22 (lbCert aBound aTables).words.length C22, .slice A23 (lbCert aBound aTables).tables.length C23] := (Blk.keep (Blk.new_at (by simp)) t3)
  have LB2 : w3.heap.size < w4.heap.size := B2.lt
  have HB2 := Lib.hid B2; clear B2
  have L3 := Rp.lt r3
  have G3 : ∀ b ∈ f3, w3.heap.size + 1 ≤ b := fun b hb => by have := F3.ge b hb; simp at this; omega
  go_wp2_with fail
  with_reducible refine (implLBCert_rd aBound iaBound v3 aTables _ _ r3 smaTables).mono ?_
  rintro e w5 ⟨u4, f4, rfl, r4, F4, t4⟩
  have T4 : Only [] w4 w5 := t4
  have S4 : w4.heap.size + 0 ≤ w5.heap.size := by have := T4.size; omega
  have q4 := r4
  obtain ⟨u41, u42, u43, _, _, _, rfl, -, -, z41, z42, z43⟩ := q4
  obtain ⟨A41, C41, _, _, rfl, -⟩ := z41.open_
  obtain ⟨A42, C42, _, _, rfl, -⟩ := z42.open_
  obtain ⟨A43, C43, _, _, rfl, -⟩ := z43.open_
  have L4 := Rp.lt r4
  have G4 : ∀ b ∈ f4, w4.heap.size ≤ b := fun b hb => by have := F4.ge b hb; omega
  have c2_5_0 := ((Only.refl [] _).alloc (.cells #[.int .i64 (lbCert aBound aTables).kind, .slice A41 (lbCert aBound aTables).numbers.length C41, .slice A42 (lbCert aBound aTables).words.length C42, .slice A43 (lbCert aBound aTables).tables.length C43] 26)).cell (by simp) (((Blk.keep HB2.out T4)).cell 0 rfl)
  have c2_5_1 := ((Only.refl [] _).alloc (.cells #[.int .i64 (lbCert aBound aTables).kind, .slice A41 (lbCert aBound aTables).numbers.length C41, .slice A42 (lbCert aBound aTables).words.length C42, .slice A43 (lbCert aBound aTables).tables.length C43] 26)).cell (by simp) (((Blk.keep HB2.out T4)).cell 1 rfl)
  have c2_5_2 := ((Only.refl [] _).alloc (.cells #[.int .i64 (lbCert aBound aTables).kind, .slice A41 (lbCert aBound aTables).numbers.length C41, .slice A42 (lbCert aBound aTables).words.length C42, .slice A43 (lbCert aBound aTables).tables.length C43] 26)).cell (by simp) (((Blk.keep HB2.out T4)).cell 2 rfl)
  have c2_5_3 := ((Only.refl [] _).alloc (.cells #[.int .i64 (lbCert aBound aTables).kind, .slice A41 (lbCert aBound aTables).numbers.length C41, .slice A42 (lbCert aBound aTables).words.length C42, .slice A43 (lbCert aBound aTables).tables.length C43] 26)).cell (by simp) (((Blk.keep HB2.out T4)).cell 3 rfl)
  have e5 : eqV (lbCert aBound aTables) (lbCert aBound aTables) = true := eqV_yes rfl
  go_wp2_with fail
  with_reducible refine (eqCertificate_any [.int .i64 (lbCert aBound aTables).kind, .slice A41 (lbCert aBound aTables).numbers.length C41, .slice A42 (lbCert aBound aTables).words.length C42, .slice A43 (lbCert aBound aTables).tables.length C43] [.int .i64 (lbCert aBound aTables).kind, .slice A21 (lbCert aBound aTables).numbers.length C21, .slice A22 (lbCert aBound aTables).words.length C22, .slice A23 (lbCert aBound aTables).tables.length C23] (lbCert aBound aTables) (lbCert aBound aTables) _ _ _ (Rp.keep r4 ((Only.refl [] _).alloc (.cells #[.int .i64 (lbCert aBound aTables).kind, .slice A41 (lbCert aBound aTables).numbers.length C41, .slice A42 (lbCert aBound aTables).words.length C42, .slice A43 (lbCert aBound aTables).tables.length C43] 26))) (Rp.keep (Rp.keep (Rp.keep r2 T3) T4) ((Only.refl [] _).alloc (.cells #[.int .i64 (lbCert aBound aTables).kind, .slice A41 (lbCert aBound aTables).numbers.length C41, .slice A42 (lbCert aBound aTables).words.length C42, .slice A43 (lbCert aBound aTables).tables.length C43] 26)))).mono ?_
  rintro e w6 ⟨rfl, t5⟩
  have T5 : Only [] w5 w6 := ((Only.refl [] _).alloc (.cells #[.int .i64 (lbCert aBound aTables).kind, .slice A41 (lbCert aBound aTables).numbers.length C41, .slice A42 (lbCert aBound aTables).words.length C42, .slice A43 (lbCert aBound aTables).tables.length C43] 26)).trans t5
  have S5 : w5.heap.size + 1 ≤ w6.heap.size := by have := t5.size; simp at this; omega
  have B4 : Blk w6 w5.heap.size [.int .i64 (lbCert aBound aTables).kind, .slice A41 (lbCert aBound aTables).numbers.length C41, .slice A42 (lbCert aBound aTables).words.length C42, .slice A43 (lbCert aBound aTables).tables.length C43] := (Blk.keep (Blk.new_at (by simp)) t5)
  have LB4 : w5.heap.size < w6.heap.size := B4.lt
  have HB4 := Lib.hid B4; clear B4
  clear c2_5_0 c2_5_1 c2_5_2 c2_5_3
  go_wp2_with fail
  with_reducible refine (toTableS_sm (.slice AaTables aTables.length CaTables) aTables _ _ (Rp.keep (Rp.keep (Rp.keep (Rp.keep (Rp.keep (Rp.keep raTables T0) T1) T2) T3) T4) T5) smaTables).mono ?_
  rintro e w7 ⟨v5, f5, rfl, r5, F5, t6⟩
  have T6 : Only [] w6 w7 := t6
  have S6 : w6.heap.size + 0 ≤ w7.heap.size := by have := T6.size; omega
  have L5 := Rp.lt r5
  have G5 : ∀ b ∈ f5, w6.heap.size ≤ b := fun b hb => by have := F5.ge b hb; omega
  have e7 : eqV aTables aTables = true := eqV_yes rfl
  go_wp2_with fail
  with_reducible refine (eqTableS_rd v3 v5 aTables aTables _ _ _ (Rp.keep (Rp.keep (Rp.keep r3 T4) T5) T6) r5).mono ?_
  rintro e w8 ⟨rfl, t7⟩
  have T7 : Only [] w7 w8 := t7
  have S7 : w7.heap.size + 0 ≤ w8.heap.size := by have := T7.size; omega
  have m8 : (1 : Int) + (Mk.cnt aTables : Nat) ≤ 4611686018427387904 := by omega
  go_wp2_with fail
  with_reducible refine (markTableS_rd v3 aTables f3 (1) _ (Rp.keep (Rp.keep (Rp.keep (Rp.keep r3 T4) T5) T6) T7) F3.nd (Own.keep (Own.keep (Own.keep (Own.keep F3.own T4) T5) T6) T7) (by omega) m8).mono ?_
  rintro e w9 ⟨rfl, rr8, oo8, t8⟩
  have T8 : Only f3 w8 w9 := t8
  have S8 : w8.heap.size + 0 ≤ w9.heap.size := by have := T8.size; omega
  clear r3
  have r3 := rr8
  have O3 := oo8
  have c4_9_0 := ((Blk.only (Blk.keep (Blk.keep HB4.out T6) T7) T8 (fun hm => by have := L3 _ hm; omega))).cell 0 rfl
  have c4_9_1 := ((Blk.only (Blk.keep (Blk.keep HB4.out T6) T7) T8 (fun hm => by have := L3 _ hm; omega))).cell 1 rfl
  have c4_9_2 := ((Blk.only (Blk.keep (Blk.keep HB4.out T6) T7) T8 (fun hm => by have := L3 _ hm; omega))).cell 2 rfl
  have c4_9_3 := ((Blk.only (Blk.keep (Blk.keep HB4.out T6) T7) T8 (fun hm => by have := L3 _ hm; omega))).cell 3 rfl
  have c2_9_0 := ((Blk.only (Blk.keep (Blk.keep (Blk.keep (Blk.keep HB2.out T4) T5) T6) T7) T8 (fun hm => by have := G3 _ hm; have := LB2; omega))).cell 0 rfl
  have c2_9_1 := ((Blk.only (Blk.keep (Blk.keep (Blk.keep (Blk.keep HB2.out T4) T5) T6) T7) T8 (fun hm => by have := G3 _ hm; have := LB2; omega))).cell 1 rfl
  have c2_9_2 := ((Blk.only (Blk.keep (Blk.keep (Blk.keep (Blk.keep HB2.out T4) T5) T6) T7) T8 (fun hm => by have := G3 _ hm; have := LB2; omega))).cell 2 rfl
  have c2_9_3 := ((Blk.only (Blk.keep (Blk.keep (Blk.keep (Blk.keep HB2.out T4) T5) T6) T7) T8 (fun hm => by have := G3 _ hm; have := LB2; omega))).cell 3 rfl
  have e9 : eqV (lbCert aBound aTables) (lbCert aBound aTables) = true := eqV_yes rfl
  go_wp2_with fail
  with_reducible refine (eqCertificate_any [.int .i64 (lbCert aBound aTables).kind, .slice A41 (lbCert aBound aTables).numbers.length C41, .slice A42 (lbCert aBound aTables).words.length C42, .slice A43 (lbCert aBound aTables).tables.length C43] [.int .i64 (lbCert aBound aTables).kind, .slice A21 (lbCert aBound aTables).numbers.length C21, .slice A22 (lbCert aBound aTables).words.length C22, .slice A23 (lbCert aBound aTables).tables.length C23] (lbCert aBound aTables) (lbCert aBound aTables) _ _ _ (Rp.only (Rp.keep (Rp.keep (Rp.keep r4 T5) T6) T7) T8 (fun b hb hm => by have := G4 b hb; have := L3 b hm; omega)) (Rp.only (Rp.keep (Rp.keep (Rp.keep (Rp.keep (Rp.keep r2 T3) T4) T5) T6) T7) T8 (fun b hb hm => by have := L2 b hb; have := G3 b hm; omega))).mono ?_
  rintro e w10 ⟨rfl, t9⟩
  have T9 : Only [] w9 w10 := t9
  have S9 : w9.heap.size + 0 ≤ w10.heap.size := by have := T9.size; omega
  clear c4_9_0 c4_9_1 c4_9_2 c4_9_3 c2_9_0 c2_9_1 c2_9_2 c2_9_3
  have c4_10_0 := ((Blk.keep (Blk.only (Blk.keep (Blk.keep HB4.out T6) T7) T8 (fun hm => by have := L3 _ hm; omega)) T9)).cell 0 rfl
  have c4_10_1 := ((Blk.keep (Blk.only (Blk.keep (Blk.keep HB4.out T6) T7) T8 (fun hm => by have := L3 _ hm; omega)) T9)).cell 1 rfl
  have c4_10_2 := ((Blk.keep (Blk.only (Blk.keep (Blk.keep HB4.out T6) T7) T8 (fun hm => by have := L3 _ hm; omega)) T9)).cell 2 rfl
  have c4_10_3 := ((Blk.keep (Blk.only (Blk.keep (Blk.keep HB4.out T6) T7) T8 (fun hm => by have := L3 _ hm; omega)) T9)).cell 3 rfl
  have m10 : (1 : Int) + (Mk.cnt (lbCert aBound aTables) : Nat) ≤ 4611686018427387904 := by omega
  go_wp2_with fail
  with_reducible refine (markCertificate_any [.int .i64 (lbCert aBound aTables).kind, .slice A41 (lbCert aBound aTables).numbers.length C41, .slice A42 (lbCert aBound aTables).words.length C42, .slice A43 (lbCert aBound aTables).tables.length C43] (lbCert aBound aTables) f4 (1) _ (Rp.keep (Rp.only (Rp.keep (Rp.keep (Rp.keep r4 T5) T6) T7) T8 (fun b hb hm => by have := G4 b hb; have := L3 b hm; omega)) T9) F4.nd (Own.keep (Own.only (Own.keep (Own.keep (Own.keep F4.own T5) T6) T7) T8 (fun b hb hm => by have := G4 b hb; have := L3 b hm; omega)) T9) (by omega) m10).mono ?_
  rintro e w11 ⟨rfl, rr10, oo10, t10⟩
  have T10 : Only f4 w10 w11 := t10
  have S10 : w10.heap.size + 0 ≤ w11.heap.size := by have := T10.size; omega
  clear c4_10_0 c4_10_1 c4_10_2 c4_10_3
  clear r4
  have r4 := rr10
  have O4 := oo10
  have c4_11_0 := ((Blk.only (Blk.keep (Blk.only (Blk.keep (Blk.keep HB4.out T6) T7) T8 (fun hm => by have := L3 _ hm; omega)) T9) T10 (fun hm => by have := L4 _ hm; omega))).cell 0 rfl
  have c4_11_1 := ((Blk.only (Blk.keep (Blk.only (Blk.keep (Blk.keep HB4.out T6) T7) T8 (fun hm => by have := L3 _ hm; omega)) T9) T10 (fun hm => by have := L4 _ hm; omega))).cell 1 rfl
  have c4_11_2 := ((Blk.only (Blk.keep (Blk.only (Blk.keep (Blk.keep HB4.out T6) T7) T8 (fun hm => by have := L3 _ hm; omega)) T9) T10 (fun hm => by have := L4 _ hm; omega))).cell 2 rfl
  have c4_11_3 := ((Blk.only (Blk.keep (Blk.only (Blk.keep (Blk.keep HB4.out T6) T7) T8 (fun hm => by have := L3 _ hm; omega)) T9) T10 (fun hm => by have := L4 _ hm; omega))).cell 3 rfl
  have h11 : heldV (1) (Mk.mark (1) (lbCert aBound aTables)) = 1 + (Mk.cnt (lbCert aBound aTables) : Nat) := heldV_mark (1) (lbCert aBound aTables)
  have m11 : (1 : Int) + (Mk.cnt (Mk.mark (1) (lbCert aBound aTables)) : Nat) ≤ 4611686018427387904 := by rw [MkL.cnt]; omega
  go_wp2_with fail
  with_reducible refine (heldCertificate_any [.int .i64 (lbCert aBound aTables).kind, .slice A41 (lbCert aBound aTables).numbers.length C41, .slice A42 (lbCert aBound aTables).words.length C42, .slice A43 (lbCert aBound aTables).tables.length C43] (Mk.mark (1) (lbCert aBound aTables)) _ (1) _ r4 (by omega) m11).mono ?_
  rintro e w12 ⟨rfl, t11⟩
  have T11 : Only [] w11 w12 := t11
  have S11 : w11.heap.size + 0 ≤ w12.heap.size := by have := T11.size; omega
  clear c4_11_0 c4_11_1 c4_11_2 c4_11_3
  go_wp2_with fail
  with_reducible refine (toTableS_sm (.slice AaTables aTables.length CaTables) aTables _ _ (Rp.keep (Rp.only (Rp.keep (Rp.only (Rp.keep (Rp.keep (Rp.keep (Rp.keep (Rp.keep (Rp.keep (Rp.keep (Rp.keep raTables T0) T1) T2) T3) T4) T5) T6) T7) T8 (fun b hb hm => by have := LaTables b hb; have := G3 b hm; omega)) T9) T10 (fun b hb hm => by have := LaTables b hb; have := G4 b hm; omega)) T11) smaTables).mono ?_
  rintro e w13 ⟨v6, f6, rfl, r6, F6, t12⟩
  have T12 : Only [] w12 w13 := t12
  have S12 : w12.heap.size + 0 ≤ w13.heap.size := by have := T12.size; omega
  have L6 := Rp.lt r6
  have G6 : ∀ b ∈ f6, w12.heap.size ≤ b := fun b hb => by have := F6.ge b hb; omega
  go_wp2_with fail
  with_reducible refine (implLBCert_rd aBound iaBound v6 aTables _ _ r6 smaTables).mono ?_
  rintro e w14 ⟨u7, f7, rfl, r7, F7, t13⟩
  have T13 : Only [] w13 w14 := t13
  have S13 : w13.heap.size + 0 ≤ w14.heap.size := by have := T13.size; omega
  have q7 := r7
  obtain ⟨u71, u72, u73, _, _, _, rfl, -, -, z71, z72, z73⟩ := q7
  obtain ⟨A71, C71, _, _, rfl, -⟩ := z71.open_
  obtain ⟨A72, C72, _, _, rfl, -⟩ := z72.open_
  obtain ⟨A73, C73, _, _, rfl, -⟩ := z73.open_
  have L7 := Rp.lt r7
  have G7 : ∀ b ∈ f7, w13.heap.size ≤ b := fun b hb => by have := F7.ge b hb; omega
  have c2_14_0 := ((Only.refl [] _).alloc (.cells #[.int .i64 (lbCert aBound aTables).kind, .slice A71 (lbCert aBound aTables).numbers.length C71, .slice A72 (lbCert aBound aTables).words.length C72, .slice A73 (lbCert aBound aTables).tables.length C73] 26)).cell (by simp) (((Blk.keep (Blk.keep (Blk.keep (Blk.only (Blk.keep (Blk.only (Blk.keep (Blk.keep (Blk.keep (Blk.keep HB2.out T4) T5) T6) T7) T8 (fun hm => by have := G3 _ hm; have := LB2; omega)) T9) T10 (fun hm => by have := G4 _ hm; have := LB2; omega)) T11) T12) T13)).cell 0 rfl)
  have c2_14_1 := ((Only.refl [] _).alloc (.cells #[.int .i64 (lbCert aBound aTables).kind, .slice A71 (lbCert aBound aTables).numbers.length C71, .slice A72 (lbCert aBound aTables).words.length C72, .slice A73 (lbCert aBound aTables).tables.length C73] 26)).cell (by simp) (((Blk.keep (Blk.keep (Blk.keep (Blk.only (Blk.keep (Blk.only (Blk.keep (Blk.keep (Blk.keep (Blk.keep HB2.out T4) T5) T6) T7) T8 (fun hm => by have := G3 _ hm; have := LB2; omega)) T9) T10 (fun hm => by have := G4 _ hm; have := LB2; omega)) T11) T12) T13)).cell 1 rfl)
  have c2_14_2 := ((Only.refl [] _).alloc (.cells #[.int .i64 (lbCert aBound aTables).kind, .slice A71 (lbCert aBound aTables).numbers.length C71, .slice A72 (lbCert aBound aTables).words.length C72, .slice A73 (lbCert aBound aTables).tables.length C73] 26)).cell (by simp) (((Blk.keep (Blk.keep (Blk.keep (Blk.only (Blk.keep (Blk.only (Blk.keep (Blk.keep (Blk.keep (Blk.keep HB2.out T4) T5) T6) T7) T8 (fun hm => by have := G3 _ hm; have := LB2; omega)) T9) T10 (fun hm => by have := G4 _ hm; have := LB2; omega)) T11) T12) T13)).cell 2 rfl)
  have c2_14_3 := ((Only.refl [] _).alloc (.cells #[.int .i64 (lbCert aBound aTables).kind, .slice A71 (lbCert aBound aTables).numbers.length C71, .slice A72 (lbCert aBound aTables).words.length C72, .slice A73 (lbCert aBound aTables).tables.length C73] 26)).cell (by simp) (((Blk.keep (Blk.keep (Blk.keep (Blk.only (Blk.keep (Blk.only (Blk.keep (Blk.keep (Blk.keep (Blk.keep HB2.out T4) T5) T6) T7) T8 (fun hm => by have := G3 _ hm; have := LB2; omega)) T9) T10 (fun hm => by have := G4 _ hm; have := LB2; omega)) T11) T12) T13)).cell 3 rfl)
  have e14 : eqV (lbCert aBound aTables) (lbCert aBound aTables) = true := eqV_yes rfl
  go_wp2_with fail
  with_reducible refine (eqCertificate_any [.int .i64 (lbCert aBound aTables).kind, .slice A71 (lbCert aBound aTables).numbers.length C71, .slice A72 (lbCert aBound aTables).words.length C72, .slice A73 (lbCert aBound aTables).tables.length C73] [.int .i64 (lbCert aBound aTables).kind, .slice A21 (lbCert aBound aTables).numbers.length C21, .slice A22 (lbCert aBound aTables).words.length C22, .slice A23 (lbCert aBound aTables).tables.length C23] (lbCert aBound aTables) (lbCert aBound aTables) _ _ _ (Rp.keep r7 ((Only.refl [] _).alloc (.cells #[.int .i64 (lbCert aBound aTables).kind, .slice A71 (lbCert aBound aTables).numbers.length C71, .slice A72 (lbCert aBound aTables).words.length C72, .slice A73 (lbCert aBound aTables).tables.length C73] 26))) (Rp.keep (Rp.keep (Rp.keep (Rp.keep (Rp.only (Rp.keep (Rp.only (Rp.keep (Rp.keep (Rp.keep (Rp.keep (Rp.keep r2 T3) T4) T5) T6) T7) T8 (fun b hb hm => by have := L2 b hb; have := G3 b hm; omega)) T9) T10 (fun b hb hm => by have := L2 b hb; have := G4 b hm; omega)) T11) T12) T13) ((Only.refl [] _).alloc (.cells #[.int .i64 (lbCert aBound aTables).kind, .slice A71 (lbCert aBound aTables).numbers.length C71, .slice A72 (lbCert aBound aTables).words.length C72, .slice A73 (lbCert aBound aTables).tables.length C73] 26)))).mono ?_
  rintro e w15 ⟨rfl, t14⟩
  have T14 : Only [] w14 w15 := ((Only.refl [] _).alloc (.cells #[.int .i64 (lbCert aBound aTables).kind, .slice A71 (lbCert aBound aTables).numbers.length C71, .slice A72 (lbCert aBound aTables).words.length C72, .slice A73 (lbCert aBound aTables).tables.length C73] 26)).trans t14
  have S14 : w14.heap.size + 1 ≤ w15.heap.size := by have := t14.size; simp at this; omega
  have B7 : Blk w15 w14.heap.size [.int .i64 (lbCert aBound aTables).kind, .slice A71 (lbCert aBound aTables).numbers.length C71, .slice A72 (lbCert aBound aTables).words.length C72, .slice A73 (lbCert aBound aTables).tables.length C73] := (Blk.keep (Blk.new_at (by simp)) t14)
  have LB7 : w14.heap.size < w15.heap.size := B7.lt
  have HB7 := Lib.hid B7; clear B7
  clear c2_14_0 c2_14_1 c2_14_2 c2_14_3
  have c4_15_0 := ((Blk.keep (Blk.keep (Blk.keep (Blk.keep (Blk.only (Blk.keep (Blk.only (Blk.keep (Blk.keep HB4.out T6) T7) T8 (fun hm => by have := L3 _ hm; omega)) T9) T10 (fun hm => by have := L4 _ hm; omega)) T11) T12) T13) T14)).cell 0 rfl
  have c4_15_1 := ((Blk.keep (Blk.keep (Blk.keep (Blk.keep (Blk.only (Blk.keep (Blk.only (Blk.keep (Blk.keep HB4.out T6) T7) T8 (fun hm => by have := L3 _ hm; omega)) T9) T10 (fun hm => by have := L4 _ hm; omega)) T11) T12) T13) T14)).cell 1 rfl
  have c4_15_2 := ((Blk.keep (Blk.keep (Blk.keep (Blk.keep (Blk.only (Blk.keep (Blk.only (Blk.keep (Blk.keep HB4.out T6) T7) T8 (fun hm => by have := L3 _ hm; omega)) T9) T10 (fun hm => by have := L4 _ hm; omega)) T11) T12) T13) T14)).cell 2 rfl
  have c4_15_3 := ((Blk.keep (Blk.keep (Blk.keep (Blk.keep (Blk.only (Blk.keep (Blk.only (Blk.keep (Blk.keep HB4.out T6) T7) T8 (fun hm => by have := L3 _ hm; omega)) T9) T10 (fun hm => by have := L4 _ hm; omega)) T11) T12) T13) T14)).cell 3 rfl
  have h15 : heldV (1) (Mk.mark (1) (lbCert aBound aTables)) = 1 + (Mk.cnt (lbCert aBound aTables) : Nat) := heldV_mark (1) (lbCert aBound aTables)
  have m15 : (1 : Int) + (Mk.cnt (Mk.mark (1) (lbCert aBound aTables)) : Nat) ≤ 4611686018427387904 := by rw [MkL.cnt]; omega
  go_wp2_with fail
  with_reducible refine (heldCertificate_any [.int .i64 (lbCert aBound aTables).kind, .slice A41 (lbCert aBound aTables).numbers.length C41, .slice A42 (lbCert aBound aTables).words.length C42, .slice A43 (lbCert aBound aTables).tables.length C43] (Mk.mark (1) (lbCert aBound aTables)) _ (1) _ (Rp.keep (Rp.keep (Rp.keep (Rp.keep r4 T11) T12) T13) T14) (by omega) m15).mono ?_
  rintro e w16 ⟨rfl, t15⟩
  have T15 : Only [] w15 w16 := t15
  have S15 : w15.heap.size + 0 ≤ w16.heap.size := by have := T15.size; omega
  clear c4_15_0 c4_15_1 c4_15_2 c4_15_3
  go_wp2
  go_ret
  refine ⟨rfl, ?_⟩
  exact (Only.keepThen (Only.keepThen (Only.keepThen (Only.keepThen (Only.keepThen (Only.then_ (Only.keepThen (Only.then_ (Only.keepThen (Only.keepThen (Only.keepThen (Only.keepThen (Only.keepThen (Only.keepThen (Only.keepThen T0 T1) T2) T3) T4) T5) T6) T7) T8 (fun b hb hl => by have := G3 b hb; omega)) T9) T10 (fun b hb hl => by have := G4 b hb; omega)) T11) T12) T13) T14) T15)
set_option maxHeartbeats 4000000 in
theorem FnExactOptimalityCertificate_any (w : World) (vaW : Value) (aW : List Int) (faW : List Nat) (raW : Rd w vaW aW faW) (vaTables : Value) (aTables : List Table) (faTables : List Nat) (raTables : Rd w vaTables aTables faTables) :
    Calls Try.prog 6 #[vaW, vaTables] w fun e w' => e = .returned (.bool true) ∧ Only [] w w' := by
  obtain ⟨AaW, CaW, _, _, rfl, -⟩ := raW.open_
  have LaW := Rp.lt raW
  have hbaW : aW.length ≤ 9223372036854775807 := by obtain ⟨_, _, _, _, hq, -, hs⟩ := raW.open_; have := hs.bound; exact this
  obtain ⟨AaTables, CaTables, _, _, rfl, -⟩ := raTables.open_
  have LaTables := Rp.lt raTables
  have hbaTables : aTables.length ≤ 9223372036854775807 := by obtain ⟨_, _, _, _, hq, -, hs⟩ := raTables.open_; have := hs.bound; exact this
  by_cases lenaW : 1048576 < aW.length
  · go_enter Try.func6, Try.ntmps6
    go_wp2
    go_ret
    exact ⟨rfl, (by with_reducible repeat (first | exact Only.refl _ _ | assumption | refine Only.drewN ?_ _ | refine Only.drew ?_ | refine Only.alloc ?_ _ | refine Only.setCell ?_ (by intro hh; exfalso; simp at hh; try omega) _ | refine Only.trans ?_ (by assumption)))⟩
  have smaW : Sm.sm aW := ⟨by omega, fun _ _ => trivial⟩
  have csaW : Mk.cnt aW ≤ 1048576 := by simp only [Mk.cnt, cntL_ints]; omega
  rcases szV_cases (1048576) aTables with ⟨esaTables, msaTables⟩ | ⟨esaTables, psaTables, msaTables⟩
  · go_enter Try.func6, Try.ntmps6
    go_wp2_with (with_reducible refine (szTableS_rd (.slice AaTables aTables.length CaTables) aTables _ (1048576) _ raTables (by omega) (by omega)).mono ?_; rintro e w1 ⟨rfl, t0⟩)
    go_ret
    exact ⟨rfl, (by with_reducible repeat (first | exact Only.refl _ _ | assumption | refine Only.drewN ?_ _ | refine Only.drew ?_ | refine Only.alloc ?_ _ | refine Only.setCell ?_ (by intro hh; exfalso; simp at hh; try omega) _ | refine Only.trans ?_ (by assumption)))⟩
  have smaTables : Sm.sm aTables := SzSm.of_ _ (by omega)
  have csaTables : Mk.cnt aTables ≤ 1048576 := Nat.le_trans (CntSz.le aTables) (by omega)
  have hcnt := opCert_cnt aW aTables
  go_enter Try.func6, Try.ntmps6
  go_wp2_with fail
  with_reducible refine (szTableS_rd (.slice AaTables aTables.length CaTables) aTables _ (1048576) _ raTables (by omega) (by omega)).mono ?_
  rintro e w1 ⟨rfl, t0⟩
  rw [esaTables]
  have T0 : Only [] w w1 := t0
  have S0 : w.heap.size + 0 ≤ w1.heap.size := by have := T0.size; omega
  go_wp2_with fail
  with_reducible refine (toInt64S_sm (.slice AaW aW.length CaW) aW _ _ (Rp.keep raW T0) smaW).mono ?_
  rintro e w2 ⟨v1, f1, rfl, r1, F1, t1⟩
  have T1 : Only [] w1 w2 := t1
  have S1 : w1.heap.size + 0 ≤ w2.heap.size := by have := T1.size; omega
  have L1 := Rp.lt r1
  have G1 : ∀ b ∈ f1, w1.heap.size ≤ b := fun b hb => by have := F1.ge b hb; omega
  go_wp2_with fail
  with_reducible refine (toTableS_sm (.slice AaTables aTables.length CaTables) aTables _ _ (Rp.keep (Rp.keep raTables T0) T1) smaTables).mono ?_
  rintro e w3 ⟨v2, f2, rfl, r2, F2, t2⟩
  have T2 : Only [] w2 w3 := t2
  have S2 : w2.heap.size + 0 ≤ w3.heap.size := by have := T2.size; omega
  have L2 := Rp.lt r2
  have G2 : ∀ b ∈ f2, w2.heap.size ≤ b := fun b hb => by have := F2.ge b hb; omega
  go_wp2_with fail
  with_reducible refine (specOpCert_rd v1 aW _ v2 aTables _ _ (Rp.keep r1 T2) r2 smaTables).mono ?_
  rintro e w4 ⟨u3, f3, rfl, r3, F3, t3⟩
  have T3 : Only [] w3 w4 := t3
  have S3 : w3.heap.size + 0 ≤ w4.heap.size := by have := T3.size; omega
  have q3 := r3
  obtain ⟨u31, u32, u33, _, _, _, rfl, -, -, z31, z32, z33⟩ := q3
  obtain ⟨A31, C31, _, _, rfl, -⟩ := z31.open_
  obtain ⟨A32, C32, _, _, rfl, -⟩ := z32.open_
  obtain ⟨A33, C33, _, _, rfl, -⟩ := z33.open_
  have L3 := Rp.lt r3
  have G3 : ∀ b ∈ f3, w3.heap.size ≤ b := fun b hb => by have := F3.ge b hb; omega
  go_wp2_with fail
  with_reducible refine (toInt64S_sm (.slice AaW aW.length CaW) aW _ _ (Rp.keep (Rp.keep (Rp.keep (Rp.keep (Rp.keep raW T0) T1) T2) T3) ((Only.refl [] _).alloc (.cells #[.int .i64 (opCert aW aTables).kind, .slice A31 (opCert aW aTables).numbers.length C31, .slice A32 (opCert aW aTables).words.length C32, .slice A33 (opCert aW aTables).tables.length C33] 26))) smaW).mono ?_
  rintro e w5 ⟨v4, f4, rfl, r4, F4, t4⟩
  have T4 : Only [] w4 w5 := ((Only.refl [] _).alloc (.cells #[.int .i64 (opCert aW aTables).kind, .slice A31 (opCert aW aTables).numbers.length C31, .slice A32 (opCert aW aTables).words.length C32, .slice A33 (opCert aW aTables).tables.length C33] 26)).trans t4
  have S4 : w4.heap.size + 1 ≤ w5.heap.size := by have := t4.size; simp at this; omega
  have B3 : Blk w5 w4.heap.size [.int .i64 (opCert aW aTables).kind, .slice A31 (opCert aW aTables).numbers.length C31, .slice A32 (opCert aW aTables).words.length C32, .slice A33 (opCert aW aTables).tables.length C33] := (Blk.keep (Blk.new_at (by simp)) t4)
  have LB3 : w4.heap.size < w5.heap.size := B3.lt
  have HB3 := Lib.hid B3; clear B3
  have L4 := Rp.lt r4
  have G4 : ∀ b ∈ f4, w4.heap.size + 1 ≤ b := fun b hb => by have := F4.ge b hb; simp at this; omega
  go_wp2_with fail
  with_reducible refine (toTableS_sm (.slice AaTables aTables.length CaTables) aTables _ _ (Rp.keep (Rp.keep (Rp.keep (Rp.keep (Rp.keep raTables T0) T1) T2) T3) T4) smaTables).mono ?_
  rintro e w6 ⟨v5, f5, rfl, r5, F5, t5⟩
  have T5 : Only [] w5 w6 := t5
  have S5 : w5.heap.size + 0 ≤ w6.heap.size := by have := T5.size; omega
  have L5 := Rp.lt r5
  have G5 : ∀ b ∈ f5, w5.heap.size ≤ b := fun b hb => by have := F5.ge b hb; omega
  go_wp2_with fail
  with_reducible refine (implOpCert_rd v4 aW _ v5 aTables _ _ (Rp.keep r4 T5) r5 smaTables).mono ?_
  rintro e w7 ⟨u6, f6, rfl, r6, F6, t6⟩
  have T6 : Only [] w6 w7 := t6
  have S6 : w6.heap.size + 0 ≤ w7.heap.size := by have := T6.size; omega
  have q6 := r6
  obtain ⟨u61, u62, u63, _, _, _, rfl, -, -, z61, z62, z63⟩ := q6
  obtain ⟨A61, C61, _, _, rfl, -⟩ := z61.open_
  obtain ⟨A62, C62, _, _, rfl, -⟩ := z62.open_
  obtain ⟨A63, C63, _, _, rfl, -⟩ := z63.open_
  have L6 := Rp.lt r6
  have G6 : ∀ b ∈ f6, w6.heap.size ≤ b := fun b hb => by have := F6.ge b hb; omega
  have c3_7_0 := ((Only.refl [] _).alloc (.cells #[.int .i64 (opCert aW aTables).kind, .slice A61 (opCert aW aTables).numbers.length C61, .slice A62 (opCert aW aTables).words.length C62, .slice A63 (opCert aW aTables).tables.length C63] 26)).cell (by simp) (((Blk.keep (Blk.keep HB3.out T5) T6)).cell 0 rfl)
  have c3_7_1 := ((Only.refl [] _).alloc (.cells #[.int .i64 (opCert aW aTables).kind, .slice A61 (opCert aW aTables).numbers.length C61, .slice A62 (opCert aW aTables).words.length C62, .slice A63 (opCert aW aTables).tables.length C63] 26)).cell (by simp) (((Blk.keep (Blk.keep HB3.out T5) T6)).cell 1 rfl)
  have c3_7_2 := ((Only.refl [] _).alloc (.cells #[.int .i64 (opCert aW aTables).kind, .slice A61 (opCert aW aTables).numbers.length C61, .slice A62 (opCert aW aTables).words.length C62, .slice A63 (opCert aW aTables).tables.length C63] 26)).cell (by simp) (((Blk.keep (Blk.keep HB3.out T5) T6)).cell 2 rfl)
  have c3_7_3 := ((Only.refl [] _).alloc (.cells #[.int .i64 (opCert aW aTables).kind, .slice A61 (opCert aW aTables).numbers.length C61, .slice A62 (opCert aW aTables).words.length C62, .slice A63 (opCert aW aTables).tables.length C63] 26)).cell (by simp) (((Blk.keep (Blk.keep HB3.out T5) T6)).cell 3 rfl)
  have e7 : eqV (opCert aW aTables) (opCert aW aTables) = true := eqV_yes rfl
  go_wp2_with fail
  with_reducible refine (eqCertificate_any [.int .i64 (opCert aW aTables).kind, .slice A61 (opCert aW aTables).numbers.length C61, .slice A62 (opCert aW aTables).words.length C62, .slice A63 (opCert aW aTables).tables.length C63] [.int .i64 (opCert aW aTables).kind, .slice A31 (opCert aW aTables).numbers.length C31, .slice A32 (opCert aW aTables).words.length C32, .slice A33 (opCert aW aTables).tables.length C33] (opCert aW aTables) (opCert aW aTables) _ _ _ (Rp.keep r6 ((Only.refl [] _).alloc (.cells #[.int .i64 (opCert aW aTables).kind, .slice A61 (opCert aW aTables).numbers.length C61, .slice A62 (opCert aW aTables).words.length C62, .slice A63 (opCert aW aTables).tables.length C63] 26))) (Rp.keep (Rp.keep (Rp.keep (Rp.keep r3 T4) T5) T6) ((Only.refl [] _).alloc (.cells #[.int .i64 (opCert aW aTables).kind, .slice A61 (opCert aW aTables).numbers.length C61, .slice A62 (opCert aW aTables).words.length C62, .slice A63 (opCert aW aTables).tables.length C63] 26)))).mono ?_
  rintro e w8 ⟨rfl, t7⟩
  have T7 : Only [] w7 w8 := ((Only.refl [] _).alloc (.cells #[.int .i64 (opCert aW aTables).kind, .slice A61 (opCert aW aTables).numbers.length C61, .slice A62 (opCert aW aTables).words.length C62, .slice A63 (opCert aW aTables).tables.length C63] 26)).trans t7
  have S7 : w7.heap.size + 1 ≤ w8.heap.size := by have := t7.size; simp at this; omega
  have B6 : Blk w8 w7.heap.size [.int .i64 (opCert aW aTables).kind, .slice A61 (opCert aW aTables).numbers.length C61, .slice A62 (opCert aW aTables).words.length C62, .slice A63 (opCert aW aTables).tables.length C63] := (Blk.keep (Blk.new_at (by simp)) t7)
  have LB6 : w7.heap.size < w8.heap.size := B6.lt
  have HB6 := Lib.hid B6; clear B6
  clear c3_7_0 c3_7_1 c3_7_2 c3_7_3
  go_wp2_with fail
  with_reducible refine (toInt64S_sm (.slice AaW aW.length CaW) aW _ _ (Rp.keep (Rp.keep (Rp.keep (Rp.keep (Rp.keep (Rp.keep (Rp.keep (Rp.keep raW T0) T1) T2) T3) T4) T5) T6) T7) smaW).mono ?_
  rintro e w9 ⟨v7, f7, rfl, r7, F7, t8⟩
  have T8 : Only [] w8 w9 := t8
  have S8 : w8.heap.size + 0 ≤ w9.heap.size := by have := T8.size; omega
  have L7 := Rp.lt r7
  have G7 : ∀ b ∈ f7, w8.heap.size ≤ b := fun b hb => by have := F7.ge b hb; omega
  have e9 : eqV aW aW = true := eqV_yes rfl
  go_wp2_with fail
  with_reducible refine (eqInt64S_rd v4 v7 aW aW _ _ _ (Rp.keep (Rp.keep (Rp.keep (Rp.keep r4 T5) T6) T7) T8) r7).mono ?_
  rintro e w10 ⟨rfl, d9⟩
  have t9 := d9.only []
  have T9 : Only [] w9 w10 := t9
  have S9 : w9.heap.size + 0 ≤ w10.heap.size := by have := T9.size; omega
  go_wp2_with fail
  with_reducible refine (toTableS_sm (.slice AaTables aTables.length CaTables) aTables _ _ (Rp.keep (Rp.keep (Rp.keep (Rp.keep (Rp.keep (Rp.keep (Rp.keep (Rp.keep (Rp.keep (Rp.keep raTables T0) T1) T2) T3) T4) T5) T6) T7) T8) T9) smaTables).mono ?_
  rintro e w11 ⟨v8, f8, rfl, r8, F8, t10⟩
  have T10 : Only [] w10 w11 := t10
  have S10 : w10.heap.size + 0 ≤ w11.heap.size := by have := T10.size; omega
  have L8 := Rp.lt r8
  have G8 : ∀ b ∈ f8, w10.heap.size ≤ b := fun b hb => by have := F8.ge b hb; omega
  have e11 : eqV aTables aTables = true := eqV_yes rfl
  go_wp2_with fail
  with_reducible refine (eqTableS_rd v5 v8 aTables aTables _ _ _ (Rp.keep (Rp.keep (Rp.keep (Rp.keep (Rp.keep r5 T6) T7) T8) T9) T10) r8).mono ?_
  rintro e w12 ⟨rfl, t11⟩
  have T11 : Only [] w11 w12 := t11
  have S11 : w11.heap.size + 0 ≤ w12.heap.size := by have := T11.size; omega
  have m12 : (1 : Int) + (Mk.cnt aW : Nat) ≤ 4611686018427387904 := by omega
  go_wp2_with fail
  with_reducible refine (markInt64S_rd v4 aW f4 (1) _ (Rp.keep (Rp.keep (Rp.keep (Rp.keep (Rp.keep (Rp.keep (Rp.keep r4 T5) T6) T7) T8) T9) T10) T11) (Own.keep (Own.keep (Own.keep (Own.keep (Own.keep (Own.keep (Own.keep F4.own T5) T6) T7) T8) T9) T10) T11) (by omega) m12).mono ?_
  rintro e w13 ⟨rfl, rr12, oo12, t12⟩
  have T12 : Only f4 w12 w13 := t12
  have S12 : w12.heap.size + 0 ≤ w13.heap.size := by have := T12.size; omega
  clear r4
  have r4 := rr12
  have O4 := oo12
  have m13 : (1 + (Mk.cnt aW : Nat) : Int) + (Mk.cnt aTables : Nat) ≤ 4611686018427387904 := by omega
  go_wp2_with fail
  with_reducible refine (markTableS_rd v5 aTables f5 (1 + (Mk.cnt aW : Nat)) _ (Rp.only (Rp.keep (Rp.keep (Rp.keep (Rp.keep (Rp.keep (Rp.keep r5 T6) T7) T8) T9) T10) T11) T12 (fun b hb hm => by have := G5 b hb; have := L4 b hm; omega)) F5.nd (Own.only (Own.keep (Own.keep (Own.keep (Own.keep (Own.keep (Own.keep F5.own T6) T7) T8) T9) T10) T11) T12 (fun b hb hm => by have := G5 b hb; have := L4 b hm; omega)) (by omega) m13).mono ?_
  rintro e w14 ⟨rfl, rr13, oo13, t13⟩
  have T13 : Only f5 w13 w14 := t13
  have S13 : w13.heap.size + 0 ≤ w14.heap.size := by have := T13.size; omega
  clear r5
  have r5 := rr13
  have O5 := oo13
  have c6_14_0 := ((Blk.only (Blk.only (Blk.keep (Blk.keep (Blk.keep (Blk.keep HB6.out T8) T9) T10) T11) T12 (fun hm => by have := L4 _ hm; omega)) T13 (fun hm => by have := L5 _ hm; omega))).cell 0 rfl
  have c6_14_1 := ((Blk.only (Blk.only (Blk.keep (Blk.keep (Blk.keep (Blk.keep HB6.out T8) T9) T10) T11) T12 (fun hm => by have := L4 _ hm; omega)) T13 (fun hm => by have := L5 _ hm; omega))).cell 1 rfl
  have c6_14_2 := ((Blk.only (Blk.only (Blk.keep (Blk.keep (Blk.keep (Blk.keep HB6.out T8) T9) T10) T11) T12 (fun hm => by have := L4 _ hm; omega)) T13 (fun hm => by have := L5 _ hm; omega))).cell 2 rfl
  have c6_14_3 := ((Blk.only (Blk.only (Blk.keep (Blk.keep (Blk.keep (Blk.keep HB6.out T8) T9) T10) T11) T12 (fun hm => by have := L4 _ hm; omega)) T13 (fun hm => by have := L5 _ hm; omega))).cell 3 rfl
  have c3_14_0 := ((Blk.only (Blk.only (Blk.keep (Blk.keep (Blk.keep (Blk.keep (Blk.keep (Blk.keep (Blk.keep HB3.out T5) T6) T7) T8) T9) T10) T11) T12 (fun hm => by have := G4 _ hm; have := LB3; omega)) T13 (fun hm => by have := G5 _ hm; have := LB3; omega))).cell 0 rfl
  have c3_14_1 := ((Blk.only (Blk.only (Blk.keep (Blk.keep (Blk.keep (Blk.keep (Blk.keep (Blk.keep (Blk.keep HB3.out T5) T6) T7) T8) T9) T10) T11) T12 (fun hm => by have := G4 _ hm; have := LB3; omega)) T13 (fun hm => by have := G5 _ hm; have := LB3; omega))).cell 1 rfl
  have c3_14_2 := ((Blk.only (Blk.only (Blk.keep (Blk.keep (Blk.keep (Blk.keep (Blk.keep (Blk.keep (Blk.keep HB3.out T5) T6) T7) T8) T9) T10) T11) T12 (fun hm => by have := G4 _ hm; have := LB3; omega)) T13 (fun hm => by have := G5 _ hm; have := LB3; omega))).cell 2 rfl
  have c3_14_3 := ((Blk.only (Blk.only (Blk.keep (Blk.keep (Blk.keep (Blk.keep (Blk.keep (Blk.keep (Blk.keep HB3.out T5) T6) T7) T8) T9) T10) T11) T12 (fun hm => by have := G4 _ hm; have := LB3; omega)) T13 (fun hm => by have := G5 _ hm; have := LB3; omega))).cell 3 rfl
  have e14 : eqV (opCert aW aTables) (opCert aW aTables) = true := eqV_yes rfl
  go_wp2_with fail
  with_reducible refine (eqCertificate_any [.int .i64 (opCert aW aTables).kind, .slice A61 (opCert aW aTables).numbers.length C61, .slice A62 (opCert aW aTables).words.length C62, .slice A63 (opCert aW aTables).tables.length C63] [.int .i64 (opCert aW aTables).kind, .slice A31 (opCert aW aTables).numbers.length C31, .slice A32 (opCert aW aTables).words.length C32, .slice A33 (opCert aW aTables).tables.length C33] (opCert aW aTables) (opCert aW aTables) _ _ _ (Rp.only (Rp.only (Rp.keep (Rp.keep (Rp.keep (Rp.keep (Rp.keep r6 T7) T8) T9) T10) T11) T12 (fun b hb hm => by have := G6 b hb; have := L4 b hm; omega)) T13 (fun b hb hm => by have := G6 b hb; have := L5 b hm; omega)) (Rp.only (Rp.only (Rp.keep (Rp.keep (Rp.keep (Rp.keep (Rp.keep (Rp.keep (Rp.keep (Rp.keep r3 T4) T5) T6) T7) T8) T9) T10) T11) T12 (fun b hb hm => by have := L3 b hb; have := G4 b hm; omega)) T13 (fun b hb hm => by have := L3 b hb; have := G5 b hm; omega))).mono ?_
  rintro e w15 ⟨rfl, t14⟩
  have T14 : Only [] w14 w15 := t14
  have S14 : w14.heap.size + 0 ≤ w15.heap.size := by have := T14.size; omega
  clear c6_14_0 c6_14_1 c6_14_2 c6_14_3 c3_14_0 c3_14_1 c3_14_2 c3_14_3
  have c6_15_0 := ((Blk.keep (Blk.only (Blk.only (Blk.keep (Blk.keep (Blk.keep (Blk.keep HB6.out T8) T9) T10) T11) T12 (fun hm => by have := L4 _ hm; omega)) T13 (fun hm => by have := L5 _ hm; omega)) T14)).cell 0 rfl
  have c6_15_1 := ((Blk.keep (Blk.only (Blk.only (Blk.keep (Blk.keep (Blk.keep (Blk.keep HB6.out T8) T9) T10) T11) T12 (fun hm => by have := L4 _ hm; omega)) T13 (fun hm => by have := L5 _ hm; omega)) T14)).cell 1 rfl
  have c6_15_2 := ((Blk.keep (Blk.only (Blk.only (Blk.keep (Blk.keep (Blk.keep (Blk.keep HB6.out T8) T9) T10) T11) T12 (fun hm => by have := L4 _ hm; omega)) T13 (fun hm => by have := L5 _ hm; omega)) T14)).cell 2 rfl
  have c6_15_3 := ((Blk.keep (Blk.only (Blk.only (Blk.keep (Blk.keep (Blk.keep (Blk.keep HB6.out T8) T9) T10) T11) T12 (fun hm => by have := L4 _ hm; omega)) T13 (fun hm => by have := L5 _ hm; omega)) T14)).cell 3 rfl
  have m15 : (1 : Int) + (Mk.cnt (opCert aW aTables) : Nat) ≤ 4611686018427387904 := by omega
  go_wp2_with fail
  with_reducible refine (markCertificate_any [.int .i64 (opCert aW aTables).kind, .slice A61 (opCert aW aTables).numbers.length C61, .slice A62 (opCert aW aTables).words.length C62, .slice A63 (opCert aW aTables).tables.length C63] (opCert aW aTables) f6 (1) _ (Rp.keep (Rp.only (Rp.only (Rp.keep (Rp.keep (Rp.keep (Rp.keep (Rp.keep r6 T7) T8) T9) T10) T11) T12 (fun b hb hm => by have := G6 b hb; have := L4 b hm; omega)) T13 (fun b hb hm => by have := G6 b hb; have := L5 b hm; omega)) T14) F6.nd (Own.keep (Own.only (Own.only (Own.keep (Own.keep (Own.keep (Own.keep (Own.keep F6.own T7) T8) T9) T10) T11) T12 (fun b hb hm => by have := G6 b hb; have := L4 b hm; omega)) T13 (fun b hb hm => by have := G6 b hb; have := L5 b hm; omega)) T14) (by omega) m15).mono ?_
  rintro e w16 ⟨rfl, rr15, oo15, t15⟩
  have T15 : Only f6 w15 w16 := t15
  have S15 : w15.heap.size + 0 ≤ w16.heap.size := by have := T15.size; omega
  clear c6_15_0 c6_15_1 c6_15_2 c6_15_3
  clear r6
  have r6 := rr15
  have O6 := oo15
  have c6_16_0 := ((Blk.only (Blk.keep (Blk.only (Blk.only (Blk.keep (Blk.keep (Blk.keep (Blk.keep HB6.out T8) T9) T10) T11) T12 (fun hm => by have := L4 _ hm; omega)) T13 (fun hm => by have := L5 _ hm; omega)) T14) T15 (fun hm => by have := L6 _ hm; omega))).cell 0 rfl
  have c6_16_1 := ((Blk.only (Blk.keep (Blk.only (Blk.only (Blk.keep (Blk.keep (Blk.keep (Blk.keep HB6.out T8) T9) T10) T11) T12 (fun hm => by have := L4 _ hm; omega)) T13 (fun hm => by have := L5 _ hm; omega)) T14) T15 (fun hm => by have := L6 _ hm; omega))).cell 1 rfl
  have c6_16_2 := ((Blk.only (Blk.keep (Blk.only (Blk.only (Blk.keep (Blk.keep (Blk.keep (Blk.keep HB6.out T8) T9) T10) T11) T12 (fun hm => by have := L4 _ hm; omega)) T13 (fun hm => by have := L5 _ hm; omega)) T14) T15 (fun hm => by have := L6 _ hm; omega))).cell 2 rfl
  have c6_16_3 := ((Blk.only (Blk.keep (Blk.only (Blk.only (Blk.keep (Blk.keep (Blk.keep (Blk.keep HB6.out T8) T9) T10) T11) T12 (fun hm => by have := L4 _ hm; omega)) T13 (fun hm => by have := L5 _ hm; omega)) T14) T15 (fun hm => by have := L6 _ hm; omega))).cell 3 rfl
  have h16 : heldV (1) (Mk.mark (1) (opCert aW aTables)) = 1 + (Mk.cnt (opCert aW aTables) : Nat) := heldV_mark (1) (opCert aW aTables)
  have m16 : (1 : Int) + (Mk.cnt (Mk.mark (1) (opCert aW aTables)) : Nat) ≤ 4611686018427387904 := by rw [MkL.cnt]; omega
  go_wp2_with fail
  with_reducible refine (heldCertificate_any [.int .i64 (opCert aW aTables).kind, .slice A61 (opCert aW aTables).numbers.length C61, .slice A62 (opCert aW aTables).words.length C62, .slice A63 (opCert aW aTables).tables.length C63] (Mk.mark (1) (opCert aW aTables)) _ (1) _ r6 (by omega) m16).mono ?_
  rintro e w17 ⟨rfl, t16⟩
  have T16 : Only [] w16 w17 := t16
  have S16 : w16.heap.size + 0 ≤ w17.heap.size := by have := T16.size; omega
  clear c6_16_0 c6_16_1 c6_16_2 c6_16_3
  go_wp2_with fail
  with_reducible refine (toInt64S_sm (.slice AaW aW.length CaW) aW _ _ (Rp.keep (Rp.only (Rp.keep (Rp.only (Rp.only (Rp.keep (Rp.keep (Rp.keep (Rp.keep (Rp.keep (Rp.keep (Rp.keep (Rp.keep (Rp.keep (Rp.keep (Rp.keep (Rp.keep raW T0) T1) T2) T3) T4) T5) T6) T7) T8) T9) T10) T11) T12 (fun b hb hm => by have := LaW b hb; have := G4 b hm; omega)) T13 (fun b hb hm => by have := LaW b hb; have := G5 b hm; omega)) T14) T15 (fun b hb hm => by have := LaW b hb; have := G6 b hm; omega)) T16) smaW).mono ?_
  rintro e w18 ⟨v9, f9, rfl, r9, F9, t17⟩
  have T17 : Only [] w17 w18 := t17
  have S17 : w17.heap.size + 0 ≤ w18.heap.size := by have := T17.size; omega
  have L9 := Rp.lt r9
  have G9 : ∀ b ∈ f9, w17.heap.size ≤ b := fun b hb => by have := F9.ge b hb; omega
  go_wp2_with fail
  with_reducible refine (toTableS_sm (.slice AaTables aTables.length CaTables) aTables _ _ (Rp.keep (Rp.keep (Rp.only (Rp.keep (Rp.only (Rp.only (Rp.keep (Rp.keep (Rp.keep (Rp.keep (Rp.keep (Rp.keep (Rp.keep (Rp.keep (Rp.keep (Rp.keep (Rp.keep (Rp.keep raTables T0) T1) T2) T3) T4) T5) T6) T7) T8) T9) T10) T11) T12 (fun b hb hm => by have := LaTables b hb; have := G4 b hm; omega)) T13 (fun b hb hm => by have := LaTables b hb; have := G5 b hm; omega)) T14) T15 (fun b hb hm => by have := LaTables b hb; have := G6 b hm; omega)) T16) T17) smaTables).mono ?_
  rintro e w19 ⟨v10, f10, rfl, r10, F10, t18⟩
  have T18 : Only [] w18 w19 := t18
  have S18 : w18.heap.size + 0 ≤ w19.heap.size := by have := T18.size; omega
  have L10 := Rp.lt r10
  have G10 : ∀ b ∈ f10, w18.heap.size ≤ b := fun b hb => by have := F10.ge b hb; omega
  go_wp2_with fail
  with_reducible refine (implOpCert_rd v9 aW _ v10 aTables _ _ (Rp.keep r9 T18) r10 smaTables).mono ?_
  rintro e w20 ⟨u11, f11, rfl, r11, F11, t19⟩
  have T19 : Only [] w19 w20 := t19
  have S19 : w19.heap.size + 0 ≤ w20.heap.size := by have := T19.size; omega
  have q11 := r11
  obtain ⟨u111, u112, u113, _, _, _, rfl, -, -, z111, z112, z113⟩ := q11
  obtain ⟨A111, C111, _, _, rfl, -⟩ := z111.open_
  obtain ⟨A112, C112, _, _, rfl, -⟩ := z112.open_
  obtain ⟨A113, C113, _, _, rfl, -⟩ := z113.open_
  have L11 := Rp.lt r11
  have G11 : ∀ b ∈ f11, w19.heap.size ≤ b := fun b hb => by have := F11.ge b hb; omega
  have c3_20_0 := ((Only.refl [] _).alloc (.cells #[.int .i64 (opCert aW aTables).kind, .slice A111 (opCert aW aTables).numbers.length C111, .slice A112 (opCert aW aTables).words.length C112, .slice A113 (opCert aW aTables).tables.length C113] 26)).cell (by simp) (((Blk.keep (Blk.keep (Blk.keep (Blk.keep (Blk.only (Blk.keep (Blk.only (Blk.only (Blk.keep (Blk.keep (Blk.keep (Blk.keep (Blk.keep (Blk.keep (Blk.keep HB3.out T5) T6) T7) T8) T9) T10) T11) T12 (fun hm => by have := G4 _ hm; have := LB3; omega)) T13 (fun hm => by have := G5 _ hm; have := LB3; omega)) T14) T15 (fun hm => by have := G6 _ hm; have := LB3; omega)) T16) T17) T18) T19)).cell 0 rfl)
  have c3_20_1 := ((Only.refl [] _).alloc (.cells #[.int .i64 (opCert aW aTables).kind, .slice A111 (opCert aW aTables).numbers.length C111, .slice A112 (opCert aW aTables).words.length C112, .slice A113 (opCert aW aTables).tables.length C113] 26)).cell (by simp) (((Blk.keep (Blk.keep (Blk.keep (Blk.keep (Blk.only (Blk.keep (Blk.only (Blk.only (Blk.keep (Blk.keep (Blk.keep (Blk.keep (Blk.keep (Blk.keep (Blk.keep HB3.out T5) T6) T7) T8) T9) T10) T11) T12 (fun hm => by have := G4 _ hm; have := LB3; omega)) T13 (fun hm => by have := G5 _ hm; have := LB3; omega)) T14) T15 (fun hm => by have := G6 _ hm; have := LB3; omega)) T16) T17) T18) T19)).cell 1 rfl)
  have c3_20_2 := ((Only.refl [] _).alloc (.cells #[.int .i64 (opCert aW aTables).kind, .slice A111 (opCert aW aTables).numbers.length C111, .slice A112 (opCert aW aTables).words.length C112, .slice A113 (opCert aW aTables).tables.length C113] 26)).cell (by simp) (((Blk.keep (Blk.keep (Blk.keep (Blk.keep (Blk.only (Blk.keep (Blk.only (Blk.only (Blk.keep (Blk.keep (Blk.keep (Blk.keep (Blk.keep (Blk.keep (Blk.keep HB3.out T5) T6) T7) T8) T9) T10) T11) T12 (fun hm => by have := G4 _ hm; have := LB3; omega)) T13 (fun hm => by have := G5 _ hm; have := LB3; omega)) T14) T15 (fun hm => by have := G6 _ hm; have := LB3; omega)) T16) T17) T18) T19)).cell 2 rfl)
  have c3_20_3 := ((Only.refl [] _).alloc (.cells #[.int .i64 (opCert aW aTables).kind, .slice A111 (opCert aW aTables).numbers.length C111, .slice A112 (opCert aW aTables).words.length C112, .slice A113 (opCert aW aTables).tables.length C113] 26)).cell (by simp) (((Blk.keep (Blk.keep (Blk.keep (Blk.keep (Blk.only (Blk.keep (Blk.only (Blk.only (Blk.keep (Blk.keep (Blk.keep (Blk.keep (Blk.keep (Blk.keep (Blk.keep HB3.out T5) T6) T7) T8) T9) T10) T11) T12 (fun hm => by have := G4 _ hm; have := LB3; omega)) T13 (fun hm => by have := G5 _ hm; have := LB3; omega)) T14) T15 (fun hm => by have := G6 _ hm; have := LB3; omega)) T16) T17) T18) T19)).cell 3 rfl)
  have e20 : eqV (opCert aW aTables) (opCert aW aTables) = true := eqV_yes rfl
  go_wp2_with fail
  with_reducible refine (eqCertificate_any [.int .i64 (opCert aW aTables).kind, .slice A111 (opCert aW aTables).numbers.length C111, .slice A112 (opCert aW aTables).words.length C112, .slice A113 (opCert aW aTables).tables.length C113] [.int .i64 (opCert aW aTables).kind, .slice A31 (opCert aW aTables).numbers.length C31, .slice A32 (opCert aW aTables).words.length C32, .slice A33 (opCert aW aTables).tables.length C33] (opCert aW aTables) (opCert aW aTables) _ _ _ (Rp.keep r11 ((Only.refl [] _).alloc (.cells #[.int .i64 (opCert aW aTables).kind, .slice A111 (opCert aW aTables).numbers.length C111, .slice A112 (opCert aW aTables).words.length C112, .slice A113 (opCert aW aTables).tables.length C113] 26))) (Rp.keep (Rp.keep (Rp.keep (Rp.keep (Rp.keep (Rp.only (Rp.keep (Rp.only (Rp.only (Rp.keep (Rp.keep (Rp.keep (Rp.keep (Rp.keep (Rp.keep (Rp.keep (Rp.keep r3 T4) T5) T6) T7) T8) T9) T10) T11) T12 (fun b hb hm => by have := L3 b hb; have := G4 b hm; omega)) T13 (fun b hb hm => by have := L3 b hb; have := G5 b hm; omega)) T14) T15 (fun b hb hm => by have := L3 b hb; have := G6 b hm; omega)) T16) T17) T18) T19) ((Only.refl [] _).alloc (.cells #[.int .i64 (opCert aW aTables).kind, .slice A111 (opCert aW aTables).numbers.length C111, .slice A112 (opCert aW aTables).words.length C112, .slice A113 (opCert aW aTables).tables.length C113] 26)))).mono ?_
  rintro e w21 ⟨rfl, t20⟩
  have T20 : Only [] w20 w21 := ((Only.refl [] _).alloc (.cells #[.int .i64 (opCert aW aTables).kind, .slice A111 (opCert aW aTables).numbers.length C111, .slice A112 (opCert aW aTables).words.length C112, .slice A113 (opCert aW aTables).tables.length C113] 26)).trans t20
  have S20 : w20.heap.size + 1 ≤ w21.heap.size := by have := t20.size; simp at this; omega
  have B11 : Blk w21 w20.heap.size [.int .i64 (opCert aW aTables).kind, .slice A111 (opCert aW aTables).numbers.length C111, .slice A112 (opCert aW aTables).words.length C112, .slice A113 (opCert aW aTables).tables.length C113] := (Blk.keep (Blk.new_at (by simp)) t20)
  have LB11 : w20.heap.size < w21.heap.size := B11.lt
  have HB11 := Lib.hid B11; clear B11
  clear c3_20_0 c3_20_1 c3_20_2 c3_20_3
  have c6_21_0 := ((Blk.keep (Blk.keep (Blk.keep (Blk.keep (Blk.keep (Blk.only (Blk.keep (Blk.only (Blk.only (Blk.keep (Blk.keep (Blk.keep (Blk.keep HB6.out T8) T9) T10) T11) T12 (fun hm => by have := L4 _ hm; omega)) T13 (fun hm => by have := L5 _ hm; omega)) T14) T15 (fun hm => by have := L6 _ hm; omega)) T16) T17) T18) T19) T20)).cell 0 rfl
  have c6_21_1 := ((Blk.keep (Blk.keep (Blk.keep (Blk.keep (Blk.keep (Blk.only (Blk.keep (Blk.only (Blk.only (Blk.keep (Blk.keep (Blk.keep (Blk.keep HB6.out T8) T9) T10) T11) T12 (fun hm => by have := L4 _ hm; omega)) T13 (fun hm => by have := L5 _ hm; omega)) T14) T15 (fun hm => by have := L6 _ hm; omega)) T16) T17) T18) T19) T20)).cell 1 rfl
  have c6_21_2 := ((Blk.keep (Blk.keep (Blk.keep (Blk.keep (Blk.keep (Blk.only (Blk.keep (Blk.only (Blk.only (Blk.keep (Blk.keep (Blk.keep (Blk.keep HB6.out T8) T9) T10) T11) T12 (fun hm => by have := L4 _ hm; omega)) T13 (fun hm => by have := L5 _ hm; omega)) T14) T15 (fun hm => by have := L6 _ hm; omega)) T16) T17) T18) T19) T20)).cell 2 rfl
  have c6_21_3 := ((Blk.keep (Blk.keep (Blk.keep (Blk.keep (Blk.keep (Blk.only (Blk.keep (Blk.only (Blk.only (Blk.keep (Blk.keep (Blk.keep (Blk.keep HB6.out T8) T9) T10) T11) T12 (fun hm => by have := L4 _ hm; omega)) T13 (fun hm => by have := L5 _ hm; omega)) T14) T15 (fun hm => by have := L6 _ hm; omega)) T16) T17) T18) T19) T20)).cell 3 rfl
  have h21 : heldV (1) (Mk.mark (1) (opCert aW aTables)) = 1 + (Mk.cnt (opCert aW aTables) : Nat) := heldV_mark (1) (opCert aW aTables)
  have m21 : (1 : Int) + (Mk.cnt (Mk.mark (1) (opCert aW aTables)) : Nat) ≤ 4611686018427387904 := by rw [MkL.cnt]; omega
  go_wp2_with fail
  with_reducible refine (heldCertificate_any [.int .i64 (opCert aW aTables).kind, .slice A61 (opCert aW aTables).numbers.length C61, .slice A62 (opCert aW aTables).words.length C62, .slice A63 (opCert aW aTables).tables.length C63] (Mk.mark (1) (opCert aW aTables)) _ (1) _ (Rp.keep (Rp.keep (Rp.keep (Rp.keep (Rp.keep r6 T16) T17) T18) T19) T20) (by omega) m21).mono ?_
  rintro e w22 ⟨rfl, t21⟩
  have T21 : Only [] w21 w22 := t21
  have S21 : w21.heap.size + 0 ≤ w22.heap.size := by have := T21.size; omega
  clear c6_21_0 c6_21_1 c6_21_2 c6_21_3
  go_wp2
  go_ret
  refine ⟨rfl, ?_⟩
  exact (Only.keepThen (Only.keepThen (Only.keepThen (Only.keepThen (Only.keepThen (Only.keepThen (Only.then_ (Only.keepThen (Only.then_ (Only.then_ (Only.keepThen (Only.keepThen (Only.keepThen (Only.keepThen (Only.keepThen (Only.keepThen (Only.keepThen (Only.keepThen (Only.keepThen (Only.keepThen (Only.keepThen T0 T1) T2) T3) T4) T5) T6) T7) T8) T9) T10) T11) T12 (fun b hb hl => by have := G4 b hb; omega)) T13 (fun b hb hl => by have := G5 b hb; omega)) T14) T15 (fun b hb hl => by have := G6 b hb; omega)) T16) T17) T18) T19) T20) T21)
end Go.Proofs.Ytolapilacmgliaa
