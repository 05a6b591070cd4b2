/- The law on SolutionCertificate: its walk. (The walk printed by gen_exact.py.) -/
import Derived.Test.YtolapilacmgliaaSolCert
import Derived.Test.YtolapilacmgliaaExact
namespace Go.Proofs.Ytolapilacmgliaa
open Go.RowKit

theorem solCert_cnt (l : List Int) : Mk.cnt (solCert l) ≤ 200 := by
  unfold solCert
  split
  · rename_i h
    have := validW_len h
    simp [Mk.cnt, cntL, cntL_ints]; exact this
  · simp [Mk.cnt, cntL]

set_option maxHeartbeats 4000000 in
theorem FnExactSolutionCertificate_any (w : World) (vaW : Value) (aW : List Int) (faW : List Nat) (raW : Rd w vaW aW faW) :
    Calls Try.prog 3 #[vaW] w fun e w' => e = .returned (.bool true) ∧ Only [] w w' := by
  obtain ⟨AaW, CaW, _, _, rfl, -⟩ := raW.open_
  have LaW := Rp.lt raW
  have hbaW : aW.length ≤ 9223372036854775807 := by obtain ⟨_, _, _, _, hq, -, hs⟩ := raW.open_; have := hs.bound; exact this
  by_cases lenaW : 1048576 < aW.length
  · go_enter Try.func3, Try.ntmps3
    go_wp2
    go_ret
    exact ⟨rfl, (by with_reducible repeat (first | exact Only.refl _ _ | assumption | refine Only.drewN ?_ _ | refine Only.drew ?_ | refine Only.alloc ?_ _ | refine Only.setCell ?_ (by intro hh; exfalso; simp at hh; try omega) _ | refine Only.trans ?_ (by assumption)))⟩
  have smaW : Sm.sm aW := ⟨by omega, fun _ _ => trivial⟩
  have csaW : Mk.cnt aW ≤ 1048576 := by simp only [Mk.cnt, cntL_ints]; omega
  have hcnt := solCert_cnt aW
  go_enter Try.func3, Try.ntmps3
  go_wp2_with fail
  with_reducible refine (toInt64S_sm (.slice AaW aW.length CaW) aW _ _ raW smaW).mono ?_
  rintro e w1 ⟨v1, f1, rfl, r1, F1, t0⟩
  have T0 : Only [] w w1 := t0
  have S0 : w.heap.size ≤ w1.heap.size := by have := t0.size; omega
  have L1 := Rp.lt r1
  have G1 : ∀ b ∈ f1, w.heap.size ≤ b := fun b hb => by have := F1.ge b hb; omega
  go_wp2_with fail
  with_reducible refine (specSolCert_rd v1 aW _ _ r1 ).mono ?_
  rintro e w2 ⟨u2, f2, rfl, r2, F2, t1⟩
  have T1 : Only [] w1 w2 := t1
  have S1 : w1.heap.size ≤ w2.heap.size := by have := t1.size; omega
  have q2 := r2
  obtain ⟨u21, u22, u23, _, _, _, rfl, -, -, z21, z22, z23⟩ := q2
  obtain ⟨A21, C21, _, _, rfl, -⟩ := z21.open_
  obtain ⟨A22, C22, _, _, rfl, -⟩ := z22.open_
  obtain ⟨A23, C23, _, _, rfl, -⟩ := z23.open_
  have L2 := Rp.lt r2
  have G2 : ∀ b ∈ f2, w1.heap.size ≤ b := fun b hb => by have := F2.ge b hb; omega
  go_wp2_with fail
  with_reducible refine (toInt64S_sm (.slice AaW aW.length CaW) aW _ _ (Rp.keep (Rp.keep (Rp.keep raW T0) T1) ((Only.refl _ _).alloc _)) smaW).mono ?_
  rintro e w3 ⟨v3, f3, rfl, r3, F3, t2⟩
  have T2 : Only [] w2 w3 := ((Only.refl _ _).alloc _).trans t2
  have S2 : w2.heap.size < w3.heap.size := by have := t2.size; simp at this; omega
  have B2 : Blk w3 w2.heap.size [.int .i64 (solCert aW).kind, .slice A21 (solCert aW).numbers.length C21, .slice A22 (solCert aW).words.length C22, .slice A23 (solCert aW).tables.length C23] := (Blk.new _ _ _).keep t2
  have LB2 : w2.heap.size < w3.heap.size := B2.lt
  have HB2 := Lib.hid B2; clear B2
  have L3 := Rp.lt r3
  have G3 : ∀ b ∈ f3, w2.heap.size + 1 ≤ b := fun b hb => by have := F3.ge b hb; simp at this; omega
  go_wp2_with fail
  with_reducible refine (implSolCert_rd v3 aW _ _ r3 ).mono ?_
  rintro e w4 ⟨u4, f4, rfl, r4, F4, t3⟩
  have T3 : Only [] w3 w4 := t3
  have S3 : w3.heap.size ≤ w4.heap.size := by have := t3.size; omega
  have q4 := r4
  obtain ⟨u41, u42, u43, _, _, _, rfl, -, -, z41, z42, z43⟩ := q4
  obtain ⟨A41, C41, _, _, rfl, -⟩ := z41.open_
  obtain ⟨A42, C42, _, _, rfl, -⟩ := z42.open_
  obtain ⟨A43, C43, _, _, rfl, -⟩ := z43.open_
  have L4 := Rp.lt r4
  have G4 : ∀ b ∈ f4, w3.heap.size ≤ b := fun b hb => by have := F4.ge b hb; omega
  have c2_4_0 := ((Only.refl [] _).alloc (.cells #[.int .i64 (solCert aW).kind, .slice A41 (solCert aW).numbers.length C41, .slice A42 (solCert aW).words.length C42, .slice A43 (solCert aW).tables.length C43] 26)).cell (by simp) (((Blk.keep HB2.out T3)).cell 0 rfl)
  have c2_4_1 := ((Only.refl [] _).alloc (.cells #[.int .i64 (solCert aW).kind, .slice A41 (solCert aW).numbers.length C41, .slice A42 (solCert aW).words.length C42, .slice A43 (solCert aW).tables.length C43] 26)).cell (by simp) (((Blk.keep HB2.out T3)).cell 1 rfl)
  have c2_4_2 := ((Only.refl [] _).alloc (.cells #[.int .i64 (solCert aW).kind, .slice A41 (solCert aW).numbers.length C41, .slice A42 (solCert aW).words.length C42, .slice A43 (solCert aW).tables.length C43] 26)).cell (by simp) (((Blk.keep HB2.out T3)).cell 2 rfl)
  have c2_4_3 := ((Only.refl [] _).alloc (.cells #[.int .i64 (solCert aW).kind, .slice A41 (solCert aW).numbers.length C41, .slice A42 (solCert aW).words.length C42, .slice A43 (solCert aW).tables.length C43] 26)).cell (by simp) (((Blk.keep HB2.out T3)).cell 3 rfl)
  have e4 : eqV (solCert aW) (solCert aW) = true := eqV_yes rfl
  go_wp2_with fail
  with_reducible refine (eqCertificate_any [.int .i64 (solCert aW).kind, .slice A41 (solCert aW).numbers.length C41, .slice A42 (solCert aW).words.length C42, .slice A43 (solCert aW).tables.length C43] [.int .i64 (solCert aW).kind, .slice A21 (solCert aW).numbers.length C21, .slice A22 (solCert aW).words.length C22, .slice A23 (solCert aW).tables.length C23] (solCert aW) (solCert aW) _ _ _ (Rp.keep r4 ((Only.refl _ _).alloc _)) (Rp.keep (Rp.keep (Rp.keep r2 T2) T3) ((Only.refl _ _).alloc _))).mono ?_
  rintro e w5 ⟨rfl, t4⟩
  have T4 : Only [] w4 w5 := ((Only.refl _ _).alloc _).trans t4
  have S4 : w4.heap.size < w5.heap.size := by have := t4.size; simp at this; omega
  have B4 : Blk w5 w4.heap.size [.int .i64 (solCert aW).kind, .slice A41 (solCert aW).numbers.length C41, .slice A42 (solCert aW).words.length C42, .slice A43 (solCert aW).tables.length C43] := (Blk.new _ _ _).keep t4
  have LB4 : w4.heap.size < w5.heap.size := B4.lt
  have HB4 := Lib.hid B4; clear B4
  go_wp2_with fail
  with_reducible refine (toInt64S_sm (.slice AaW aW.length CaW) aW _ _ (Rp.keep (Rp.keep (Rp.keep (Rp.keep (Rp.keep raW T0) T1) T2) T3) T4) smaW).mono ?_
  rintro e w6 ⟨v5, f5, rfl, r5, F5, t5⟩
  have T5 : Only [] w5 w6 := t5
  have S5 : w5.heap.size ≤ w6.heap.size := by have := t5.size; omega
  have L5 := Rp.lt r5
  have G5 : ∀ b ∈ f5, w5.heap.size ≤ b := fun b hb => by have := F5.ge b hb; omega
  have e6 : eqV aW aW = true := eqV_yes rfl
  go_wp2_with fail
  with_reducible refine (eqInt64S_rd v3 v5 aW aW _ _ _ (Rp.keep (Rp.keep (Rp.keep r3 T3) T4) T5) r5).mono ?_
  rintro e w7 ⟨rfl, d6⟩
  have t6 := d6.only []
  have T6 : Only [] w6 w7 := t6
  have S6 : w6.heap.size ≤ w7.heap.size := by have := t6.size; omega
  have m7 : (1 : Int) + (Mk.cnt aW : Nat) ≤ 4611686018427387904 := by omega
  go_wp2_with fail
  with_reducible refine (markInt64S_rd v3 aW f3 (1) _ (Rp.keep (Rp.keep (Rp.keep (Rp.keep r3 T3) T4) T5) T6) (Own.keep (Own.keep (Own.keep (Own.keep F3.own T3) T4) T5) T6) (by omega) m7).mono ?_
  rintro e w8 ⟨rfl, rr7, oo7, t7⟩
  have T7 : Only f3 w7 w8 := t7
  have S7 : w7.heap.size ≤ w8.heap.size := by have := t7.size; omega
  clear r3
  have r3 := rr7
  have O3 := oo7
  have c4_8_0 := ((Blk.only (Blk.keep (Blk.keep HB4.out T5) T6) T7 (fun hm => by have := L3 _ hm; omega))).cell 0 rfl
  have c4_8_1 := ((Blk.only (Blk.keep (Blk.keep HB4.out T5) T6) T7 (fun hm => by have := L3 _ hm; omega))).cell 1 rfl
  have c4_8_2 := ((Blk.only (Blk.keep (Blk.keep HB4.out T5) T6) T7 (fun hm => by have := L3 _ hm; omega))).cell 2 rfl
  have c4_8_3 := ((Blk.only (Blk.keep (Blk.keep HB4.out T5) T6) T7 (fun hm => by have := L3 _ hm; omega))).cell 3 rfl
  have c2_8_0 := ((Blk.only (Blk.keep (Blk.keep (Blk.keep (Blk.keep HB2.out T3) T4) T5) T6) T7 (fun hm => by have := G3 _ hm; have := LB2; omega))).cell 0 rfl
  have c2_8_1 := ((Blk.only (Blk.keep (Blk.keep (Blk.keep (Blk.keep HB2.out T3) T4) T5) T6) T7 (fun hm => by have := G3 _ hm; have := LB2; omega))).cell 1 rfl
  have c2_8_2 := ((Blk.only (Blk.keep (Blk.keep (Blk.keep (Blk.keep HB2.out T3) T4) T5) T6) T7 (fun hm => by have := G3 _ hm; have := LB2; omega))).cell 2 rfl
  have c2_8_3 := ((Blk.only (Blk.keep (Blk.keep (Blk.keep (Blk.keep HB2.out T3) T4) T5) T6) T7 (fun hm => by have := G3 _ hm; have := LB2; omega))).cell 3 rfl
  have e8 : eqV (solCert aW) (solCert aW) = true := eqV_yes rfl
  go_wp2_with fail
  with_reducible refine (eqCertificate_any [.int .i64 (solCert aW).kind, .slice A41 (solCert aW).numbers.length C41, .slice A42 (solCert aW).words.length C42, .slice A43 (solCert aW).tables.length C43] [.int .i64 (solCert aW).kind, .slice A21 (solCert aW).numbers.length C21, .slice A22 (solCert aW).words.length C22, .slice A23 (solCert aW).tables.length C23] (solCert aW) (solCert aW) _ _ _ (Rp.only (Rp.keep (Rp.keep (Rp.keep r4 T4) T5) T6) T7 (fun b hb hm => by have := G4 b hb; have := L3 b hm; omega)) (Rp.only (Rp.keep (Rp.keep (Rp.keep (Rp.keep (Rp.keep r2 T2) T3) T4) T5) T6) T7 (fun b hb hm => by have := L2 b hb; have := G3 b hm; omega))).mono ?_
  rintro e w9 ⟨rfl, t8⟩
  have T8 : Only [] w8 w9 := t8
  have S8 : w8.heap.size ≤ w9.heap.size := by have := t8.size; omega
  have c4_9_0 := ((Blk.keep (Blk.only (Blk.keep (Blk.keep HB4.out T5) T6) T7 (fun hm => by have := L3 _ hm; omega)) T8)).cell 0 rfl
  have c4_9_1 := ((Blk.keep (Blk.only (Blk.keep (Blk.keep HB4.out T5) T6) T7 (fun hm => by have := L3 _ hm; omega)) T8)).cell 1 rfl
  have c4_9_2 := ((Blk.keep (Blk.only (Blk.keep (Blk.keep HB4.out T5) T6) T7 (fun hm => by have := L3 _ hm; omega)) T8)).cell 2 rfl
  have c4_9_3 := ((Blk.keep (Blk.only (Blk.keep (Blk.keep HB4.out T5) T6) T7 (fun hm => by have := L3 _ hm; omega)) T8)).cell 3 rfl
  have m9 : (1 : Int) + (Mk.cnt (solCert aW) : Nat) ≤ 4611686018427387904 := by omega
  go_wp2_with fail
  with_reducible refine (markCertificate_any [.int .i64 (solCert aW).kind, .slice A41 (solCert aW).numbers.length C41, .slice A42 (solCert aW).words.length C42, .slice A43 (solCert aW).tables.length C43] (solCert aW) f4 (1) _ (Rp.keep (Rp.only (Rp.keep (Rp.keep (Rp.keep r4 T4) T5) T6) T7 (fun b hb hm => by have := G4 b hb; have := L3 b hm; omega)) T8) F4.nd (Own.keep (Own.only (Own.keep (Own.keep (Own.keep F4.own T4) T5) T6) T7 (fun b hb hm => by have := G4 b hb; have := L3 b hm; omega)) T8) (by omega) m9).mono ?_
  rintro e w10 ⟨rfl, rr9, oo9, t9⟩
  have T9 : Only f4 w9 w10 := t9
  have S9 : w9.heap.size ≤ w10.heap.size := by have := t9.size; omega
  clear r4
  have r4 := rr9
  have O4 := oo9
  have c4_10_0 := ((Blk.only (Blk.keep (Blk.only (Blk.keep (Blk.keep HB4.out T5) T6) T7 (fun hm => by have := L3 _ hm; omega)) T8) T9 (fun hm => by have := L4 _ hm; omega))).cell 0 rfl
  have c4_10_1 := ((Blk.only (Blk.keep (Blk.only (Blk.keep (Blk.keep HB4.out T5) T6) T7 (fun hm => by have := L3 _ hm; omega)) T8) T9 (fun hm => by have := L4 _ hm; omega))).cell 1 rfl
  have c4_10_2 := ((Blk.only (Blk.keep (Blk.only (Blk.keep (Blk.keep HB4.out T5) T6) T7 (fun hm => by have := L3 _ hm; omega)) T8) T9 (fun hm => by have := L4 _ hm; omega))).cell 2 rfl
  have c4_10_3 := ((Blk.only (Blk.keep (Blk.only (Blk.keep (Blk.keep HB4.out T5) T6) T7 (fun hm => by have := L3 _ hm; omega)) T8) T9 (fun hm => by have := L4 _ hm; omega))).cell 3 rfl
  have h10 : heldV 1 (Mk.mark (1) (solCert aW)) = 1 + (Mk.cnt (solCert aW) : Nat) := heldV_mark 1 (solCert aW)
  have m10 : (1 : Int) + (Mk.cnt (Mk.mark (1) (solCert aW)) : Nat) ≤ 4611686018427387904 := by rw [MkL.cnt]; omega
  go_wp2_with fail
  with_reducible refine (heldCertificate_any [.int .i64 (solCert aW).kind, .slice A41 (solCert aW).numbers.length C41, .slice A42 (solCert aW).words.length C42, .slice A43 (solCert aW).tables.length C43] (Mk.mark (1) (solCert aW)) _ 1 _ r4 (by omega) m10).mono ?_
  rintro e w11 ⟨rfl, t10⟩
  have T10 : Only [] w10 w11 := t10
  have S10 : w10.heap.size ≤ w11.heap.size := by have := t10.size; omega
  go_wp2_with fail
  with_reducible refine (toInt64S_sm (.slice AaW aW.length CaW) aW _ _ (Rp.keep (Rp.only (Rp.keep (Rp.only (Rp.keep (Rp.keep (Rp.keep (Rp.keep (Rp.keep (Rp.keep (Rp.keep raW T0) T1) T2) T3) T4) T5) T6) T7 (fun b hb hm => by have := LaW b hb; have := G3 b hm; omega)) T8) T9 (fun b hb hm => by have := LaW b hb; have := G4 b hm; omega)) T10) smaW).mono ?_
  rintro e w12 ⟨v6, f6, rfl, r6, F6, t11⟩
  have T11 : Only [] w11 w12 := t11
  have S11 : w11.heap.size ≤ w12.heap.size := by have := t11.size; omega
  have L6 := Rp.lt r6
  have G6 : ∀ b ∈ f6, w11.heap.size ≤ b := fun b hb => by have := F6.ge b hb; omega
  go_wp2_with fail
  with_reducible refine (implSolCert_rd v6 aW _ _ r6 ).mono ?_
  rintro e w13 ⟨u7, f7, rfl, r7, F7, t12⟩
  have T12 : Only [] w12 w13 := t12
  have S12 : w12.heap.size ≤ w13.heap.size := by have := t12.size; omega
  have q7 := r7
  obtain ⟨u71, u72, u73, _, _, _, rfl, -, -, z71, z72, z73⟩ := q7
  obtain ⟨A71, C71, _, _, rfl, -⟩ := z71.open_
  obtain ⟨A72, C72, _, _, rfl, -⟩ := z72.open_
  obtain ⟨A73, C73, _, _, rfl, -⟩ := z73.open_
  have L7 := Rp.lt r7
  have G7 : ∀ b ∈ f7, w12.heap.size ≤ b := fun b hb => by have := F7.ge b hb; omega
  have c2_13_0 := ((Only.refl [] _).alloc (.cells #[.int .i64 (solCert aW).kind, .slice A71 (solCert aW).numbers.length C71, .slice A72 (solCert aW).words.length C72, .slice A73 (solCert aW).tables.length C73] 26)).cell (by simp) (((Blk.keep (Blk.keep (Blk.keep (Blk.only (Blk.keep (Blk.only (Blk.keep (Blk.keep (Blk.keep (Blk.keep HB2.out T3) T4) T5) T6) T7 (fun hm => by have := G3 _ hm; have := LB2; omega)) T8) T9 (fun hm => by have := G4 _ hm; have := LB2; omega)) T10) T11) T12)).cell 0 rfl)
  have c2_13_1 := ((Only.refl [] _).alloc (.cells #[.int .i64 (solCert aW).kind, .slice A71 (solCert aW).numbers.length C71, .slice A72 (solCert aW).words.length C72, .slice A73 (solCert aW).tables.length C73] 26)).cell (by simp) (((Blk.keep (Blk.keep (Blk.keep (Blk.only (Blk.keep (Blk.only (Blk.keep (Blk.keep (Blk.keep (Blk.keep HB2.out T3) T4) T5) T6) T7 (fun hm => by have := G3 _ hm; have := LB2; omega)) T8) T9 (fun hm => by have := G4 _ hm; have := LB2; omega)) T10) T11) T12)).cell 1 rfl)
  have c2_13_2 := ((Only.refl [] _).alloc (.cells #[.int .i64 (solCert aW).kind, .slice A71 (solCert aW).numbers.length C71, .slice A72 (solCert aW).words.length C72, .slice A73 (solCert aW).tables.length C73] 26)).cell (by simp) (((Blk.keep (Blk.keep (Blk.keep (Blk.only (Blk.keep (Blk.only (Blk.keep (Blk.keep (Blk.keep (Blk.keep HB2.out T3) T4) T5) T6) T7 (fun hm => by have := G3 _ hm; have := LB2; omega)) T8) T9 (fun hm => by have := G4 _ hm; have := LB2; omega)) T10) T11) T12)).cell 2 rfl)
  have c2_13_3 := ((Only.refl [] _).alloc (.cells #[.int .i64 (solCert aW).kind, .slice A71 (solCert aW).numbers.length C71, .slice A72 (solCert aW).words.length C72, .slice A73 (solCert aW).tables.length C73] 26)).cell (by simp) (((Blk.keep (Blk.keep (Blk.keep (Blk.only (Blk.keep (Blk.only (Blk.keep (Blk.keep (Blk.keep (Blk.keep HB2.out T3) T4) T5) T6) T7 (fun hm => by have := G3 _ hm; have := LB2; omega)) T8) T9 (fun hm => by have := G4 _ hm; have := LB2; omega)) T10) T11) T12)).cell 3 rfl)
  have e13 : eqV (solCert aW) (solCert aW) = true := eqV_yes rfl
  go_wp2_with fail
  with_reducible refine (eqCertificate_any [.int .i64 (solCert aW).kind, .slice A71 (solCert aW).numbers.length C71, .slice A72 (solCert aW).words.length C72, .slice A73 (solCert aW).tables.length C73] [.int .i64 (solCert aW).kind, .slice A21 (solCert aW).numbers.length C21, .slice A22 (solCert aW).words.length C22, .slice A23 (solCert aW).tables.length C23] (solCert aW) (solCert aW) _ _ _ (Rp.keep r7 ((Only.refl _ _).alloc _)) (Rp.keep (Rp.keep (Rp.keep (Rp.keep (Rp.only (Rp.keep (Rp.only (Rp.keep (Rp.keep (Rp.keep (Rp.keep (Rp.keep r2 T2) T3) T4) T5) T6) T7 (fun b hb hm => by have := L2 b hb; have := G3 b hm; omega)) T8) T9 (fun b hb hm => by have := L2 b hb; have := G4 b hm; omega)) T10) T11) T12) ((Only.refl _ _).alloc _))).mono ?_
  rintro e w14 ⟨rfl, t13⟩
  have T13 : Only [] w13 w14 := ((Only.refl _ _).alloc _).trans t13
  have S13 : w13.heap.size < w14.heap.size := by have := t13.size; simp at this; omega
  have B7 : Blk w14 w13.heap.size [.int .i64 (solCert aW).kind, .slice A71 (solCert aW).numbers.length C71, .slice A72 (solCert aW).words.length C72, .slice A73 (solCert aW).tables.length C73] := (Blk.new _ _ _).keep t13
  have LB7 : w13.heap.size < w14.heap.size := B7.lt
  have HB7 := Lib.hid B7; clear B7
  have c4_14_0 := ((Blk.keep (Blk.keep (Blk.keep (Blk.keep (Blk.only (Blk.keep (Blk.only (Blk.keep (Blk.keep HB4.out T5) T6) T7 (fun hm => by have := L3 _ hm; omega)) T8) T9 (fun hm => by have := L4 _ hm; omega)) T10) T11) T12) T13)).cell 0 rfl
  have c4_14_1 := ((Blk.keep (Blk.keep (Blk.keep (Blk.keep (Blk.only (Blk.keep (Blk.only (Blk.keep (Blk.keep HB4.out T5) T6) T7 (fun hm => by have := L3 _ hm; omega)) T8) T9 (fun hm => by have := L4 _ hm; omega)) T10) T11) T12) T13)).cell 1 rfl
  have c4_14_2 := ((Blk.keep (Blk.keep (Blk.keep (Blk.keep (Blk.only (Blk.keep (Blk.only (Blk.keep (Blk.keep HB4.out T5) T6) T7 (fun hm => by have := L3 _ hm; omega)) T8) T9 (fun hm => by have := L4 _ hm; omega)) T10) T11) T12) T13)).cell 2 rfl
  have c4_14_3 := ((Blk.keep (Blk.keep (Blk.keep (Blk.keep (Blk.only (Blk.keep (Blk.only (Blk.keep (Blk.keep HB4.out T5) T6) T7 (fun hm => by have := L3 _ hm; omega)) T8) T9 (fun hm => by have := L4 _ hm; omega)) T10) T11) T12) T13)).cell 3 rfl
  have h14 : heldV 1 (Mk.mark (1) (solCert aW)) = 1 + (Mk.cnt (solCert aW) : Nat) := heldV_mark 1 (solCert aW)
  have m14 : (1 : Int) + (Mk.cnt (Mk.mark (1) (solCert aW)) : Nat) ≤ 4611686018427387904 := by rw [MkL.cnt]; omega
  go_wp2_with fail
  with_reducible refine (heldCertificate_any [.int .i64 (solCert aW).kind, .slice A41 (solCert aW).numbers.length C41, .slice A42 (solCert aW).words.length C42, .slice A43 (solCert aW).tables.length C43] (Mk.mark (1) (solCert aW)) _ 1 _ (Rp.keep (Rp.keep (Rp.keep (Rp.keep r4 T10) T11) T12) T13) (by omega) m14).mono ?_
  rintro e w15 ⟨rfl, t14⟩
  have T14 : Only [] w14 w15 := t14
  have S14 : w14.heap.size ≤ w15.heap.size := by have := t14.size; omega
  go_wp2
  go_ret
  refine ⟨rfl, ?_⟩
  exact (Only.keepThen (Only.keepThen (Only.keepThen (Only.keepThen (Only.keepThen (Only.then_ (Only.keepThen (Only.then_ (Only.keepThen (Only.keepThen (Only.keepThen (Only.keepThen (Only.keepThen (Only.keepThen T0 T1) T2) T3) T4) T5) T6) T7 (fun b hb hl => by have := G3 b hb; omega)) T8) T9 (fun b hb hl => by have := G4 b hb; omega)) T10) T11) T12) T13) T14)
end Go.Proofs.Ytolapilacmgliaa
