/- The law on SameCertificate: its walk. (The walk printed by gen_exact.py.) -/
import Derived.Test.YtolapilacmgliaaSameCert
import Derived.Test.YtolapilacmgliaaLawCertificate
import Derived.Test.YtolapilacmgliaaExact
import Derived.Deep.RegionHeld3
import Derived.Deep.DeepCutAuto
namespace Go.Proofs.Ytolapilacmgliaa
open Go.RowKit

set_option maxHeartbeats 4000000 in
theorem FnExactSameCertificate_any (w : World) (caA : List Value) (aA : Certificate) (faA : List Nat) (raA : Rp.rep w caA aA faA) (caB : List Value) (aB : Certificate) (faB : List Nat) (raB : Rp.rep w caB aB faB) :
    Calls Try.prog 4 #[.agg caA.toArray, .agg caB.toArray] w fun e w' => e = .returned (.bool true) ∧ Only [] w w' := by
  have qaA := raA
  obtain ⟨uaA1, uaA2, uaA3, _, _, _, rfl, -, -, zaA1, zaA2, zaA3⟩ := qaA
  obtain ⟨AaA1, CaA1, _, _, rfl, -⟩ := zaA1.open_
  obtain ⟨AaA2, CaA2, _, _, rfl, -⟩ := zaA2.open_
  obtain ⟨AaA3, CaA3, _, _, rfl, -⟩ := zaA3.open_
  have LaA := Rp.lt raA
  have qaB := raB
  obtain ⟨uaB1, uaB2, uaB3, _, _, _, rfl, -, -, zaB1, zaB2, zaB3⟩ := qaB
  obtain ⟨AaB1, CaB1, _, _, rfl, -⟩ := zaB1.open_
  obtain ⟨AaB2, CaB2, _, _, rfl, -⟩ := zaB2.open_
  obtain ⟨AaB3, CaB3, _, _, rfl, -⟩ := zaB3.open_
  have LaB := Rp.lt raB
  rcases szV_cases (1048576) aA with ⟨esaA, msaA⟩ | ⟨esaA, psaA, msaA⟩
  · go_enter Try.func4, Try.ntmps4
    go_wp2_with (with_reducible refine (szCertificate_any [.int .i64 aA.kind, .slice AaA1 aA.numbers.length CaA1, .slice AaA2 aA.words.length CaA2, .slice AaA3 aA.tables.length CaA3] aA _ (1048576) _ (Rp.keep raA (((Only.refl [] _).alloc (.cells #[.int .i64 aA.kind, .slice AaA1 aA.numbers.length CaA1, .slice AaA2 aA.words.length CaA2, .slice AaA3 aA.tables.length CaA3] 36)).alloc (.cells #[.int .i64 aB.kind, .slice AaB1 aB.numbers.length CaB1, .slice AaB2 aB.words.length CaB2, .slice AaB3 aB.tables.length CaB3] 36))) (by omega) (by omega)).mono ?_; rintro e w1 ⟨rfl, t0⟩)
    go_ret
    exact ⟨rfl, (by with_reducible repeat (first | exact Only.refl _ _ | assumption | refine Only.drewN ?_ _ | refine Only.drew ?_ | refine Only.alloc ?_ _ | refine Only.setCell ?_ (by intro hh; exfalso; simp at hh; try omega) _ | refine Only.trans ?_ (by assumption)))⟩
  have smaA : Sm.sm aA := SzSm.of_ _ (by omega)
  have csaA : Mk.cnt aA ≤ 1048576 := Nat.le_trans (CntSz.le aA) (by omega)
  rcases szV_cases (1048576 - (Sz.sz aA : Nat)) aB with ⟨esaB, msaB⟩ | ⟨esaB, psaB, msaB⟩
  · go_enter Try.func4, Try.ntmps4
    go_wp2_with fail
    with_reducible refine (szCertificate_any [.int .i64 aA.kind, .slice AaA1 aA.numbers.length CaA1, .slice AaA2 aA.words.length CaA2, .slice AaA3 aA.tables.length CaA3] aA _ (1048576) _ (Rp.keep raA (((Only.refl [] _).alloc (.cells #[.int .i64 aA.kind, .slice AaA1 aA.numbers.length CaA1, .slice AaA2 aA.words.length CaA2, .slice AaA3 aA.tables.length CaA3] 36)).alloc (.cells #[.int .i64 aB.kind, .slice AaB1 aB.numbers.length CaB1, .slice AaB2 aB.words.length CaB2, .slice AaB3 aB.tables.length CaB3] 36))) (by omega) (by omega)).mono ?_
    rintro e w1 ⟨rfl, t0⟩
    rw [esaA]
    have T0 : Only [] w w1 := (((Only.refl [] _).alloc (.cells #[.int .i64 aA.kind, .slice AaA1 aA.numbers.length CaA1, .slice AaA2 aA.words.length CaA2, .slice AaA3 aA.tables.length CaA3] 36)).alloc (.cells #[.int .i64 aB.kind, .slice AaB1 aB.numbers.length CaB1, .slice AaB2 aB.words.length CaB2, .slice AaB3 aB.tables.length CaB3] 36)).trans t0
    have S0 : w.heap.size + 2 ≤ w1.heap.size := by have := t0.size; simp at this; omega
    have BaA : Blk w1 w.heap.size [.int .i64 aA.kind, .slice AaA1 aA.numbers.length CaA1, .slice AaA2 aA.words.length CaA2, .slice AaA3 aA.tables.length CaA3] := (Blk.keep (Blk.keep (Blk.new_at (by simp)) ((Only.refl _ _).alloc _)) t0)
    have LBaA : w.heap.size < w1.heap.size := BaA.lt
    have HBaA := Lib.hid BaA; clear BaA
    have BaB : Blk w1 (w.heap.size + 1) [.int .i64 aB.kind, .slice AaB1 aB.numbers.length CaB1, .slice AaB2 aB.words.length CaB2, .slice AaB3 aB.tables.length CaB3] := (Blk.keep (Blk.new_at (by simp)) t0)
    have LBaB : (w.heap.size + 1) < w1.heap.size := BaB.lt
    have HBaB := Lib.hid BaB; clear BaB
    have caB_1_0 := (HBaB.out).cell 0 rfl
    have caB_1_1 := (HBaB.out).cell 1 rfl
    have caB_1_2 := (HBaB.out).cell 2 rfl
    have caB_1_3 := (HBaB.out).cell 3 rfl
    go_wp2_with (with_reducible refine (szCertificate_any [.int .i64 aB.kind, .slice AaB1 aB.numbers.length CaB1, .slice AaB2 aB.words.length CaB2, .slice AaB3 aB.tables.length CaB3] aB _ (1048576 - (Sz.sz aA : Nat)) _ (Rp.keep raB T0) (by omega) (by omega)).mono ?_; rintro e w2 ⟨rfl, t1⟩)
    go_ret
    exact ⟨rfl, (by with_reducible repeat (first | exact Only.refl _ _ | assumption | refine Only.drewN ?_ _ | refine Only.drew ?_ | refine Only.alloc ?_ _ | refine Only.setCell ?_ (by intro hh; exfalso; simp at hh; try omega) _ | refine Only.trans ?_ (by assumption)))⟩
  have smaB : Sm.sm aB := SzSm.of_ _ (by omega)
  have csaB : Mk.cnt aB ≤ 1048576 := Nat.le_trans (CntSz.le aB) (by omega)
  go_enter Try.func4, Try.ntmps4
  go_wp2_with fail
  with_reducible refine (szCertificate_any [.int .i64 aA.kind, .slice AaA1 aA.numbers.length CaA1, .slice AaA2 aA.words.length CaA2, .slice AaA3 aA.tables.length CaA3] aA _ (1048576) _ (Rp.keep raA (((Only.refl [] _).alloc (.cells #[.int .i64 aA.kind, .slice AaA1 aA.numbers.length CaA1, .slice AaA2 aA.words.length CaA2, .slice AaA3 aA.tables.length CaA3] 36)).alloc (.cells #[.int .i64 aB.kind, .slice AaB1 aB.numbers.length CaB1, .slice AaB2 aB.words.length CaB2, .slice AaB3 aB.tables.length CaB3] 36))) (by omega) (by omega)).mono ?_
  rintro e w1 ⟨rfl, t0⟩
  rw [esaA]
  have T0 : Only [] w w1 := (((Only.refl [] _).alloc (.cells #[.int .i64 aA.kind, .slice AaA1 aA.numbers.length CaA1, .slice AaA2 aA.words.length CaA2, .slice AaA3 aA.tables.length CaA3] 36)).alloc (.cells #[.int .i64 aB.kind, .slice AaB1 aB.numbers.length CaB1, .slice AaB2 aB.words.length CaB2, .slice AaB3 aB.tables.length CaB3] 36)).trans t0
  have S0 : w.heap.size + 2 ≤ w1.heap.size := by have := t0.size; simp at this; omega
  have BaA : Blk w1 w.heap.size [.int .i64 aA.kind, .slice AaA1 aA.numbers.length CaA1, .slice AaA2 aA.words.length CaA2, .slice AaA3 aA.tables.length CaA3] := (Blk.keep (Blk.keep (Blk.new_at (by simp)) ((Only.refl _ _).alloc _)) t0)
  have LBaA : w.heap.size < w1.heap.size := BaA.lt
  have HBaA := Lib.hid BaA; clear BaA
  have BaB : Blk w1 (w.heap.size + 1) [.int .i64 aB.kind, .slice AaB1 aB.numbers.length CaB1, .slice AaB2 aB.words.length CaB2, .slice AaB3 aB.tables.length CaB3] := (Blk.keep (Blk.new_at (by simp)) t0)
  have LBaB : (w.heap.size + 1) < w1.heap.size := BaB.lt
  have HBaB := Lib.hid BaB; clear BaB
  have caB_1_0 := (HBaB.out).cell 0 rfl
  have caB_1_1 := (HBaB.out).cell 1 rfl
  have caB_1_2 := (HBaB.out).cell 2 rfl
  have caB_1_3 := (HBaB.out).cell 3 rfl
  go_wp2_with fail
  with_reducible refine (szCertificate_any [.int .i64 aB.kind, .slice AaB1 aB.numbers.length CaB1, .slice AaB2 aB.words.length CaB2, .slice AaB3 aB.tables.length CaB3] aB _ (1048576 - (Sz.sz aA : Nat)) _ (Rp.keep raB T0) (by omega) (by omega)).mono ?_
  rintro e w2 ⟨rfl, t1⟩
  rw [esaB]
  have T1 : Only [] w1 w2 := t1
  have S1 : w1.heap.size + 0 ≤ w2.heap.size := by have := T1.size; omega
  clear caB_1_0 caB_1_1 caB_1_2 caB_1_3
  go_upto_region 8 with fail
  go_region_held3 (fun w' => Only [] w2 w' ∧ w'.cell? ⟨w.heap.size, 0, none⟩ = some (.int .i64 aA.kind) ∧ w'.cell? ⟨w.heap.size, 1, none⟩ = some (.slice AaA1 aA.numbers.length CaA1) ∧ w'.cell? ⟨w.heap.size, 2, none⟩ = some (.slice AaA2 aA.words.length CaA2) ∧ w'.cell? ⟨w.heap.size, 3, none⟩ = some (.slice AaA3 aA.tables.length CaA3) ∧ w'.cell? ⟨(w.heap.size + 1), 0, none⟩ = some (.int .i64 aB.kind) ∧ w'.cell? ⟨(w.heap.size + 1), 1, none⟩ = some (.slice AaB1 aB.numbers.length CaB1) ∧ w'.cell? ⟨(w.heap.size + 1), 2, none⟩ = some (.slice AaB2 aB.words.length CaB2) ∧ w'.cell? ⟨(w.heap.size + 1), 3, none⟩ = some (.slice AaB3 aB.tables.length CaB3)) ((refine and_of ?_ (fun h__ => ⟨(Blk.keep (Blk.keep HBaA.out T1) h__).cell 0 rfl, (Blk.keep (Blk.keep HBaA.out T1) h__).cell 1 rfl, (Blk.keep (Blk.keep HBaA.out T1) h__).cell 2 rfl, (Blk.keep (Blk.keep HBaA.out T1) h__).cell 3 rfl, (Blk.keep (Blk.keep HBaB.out T1) h__).cell 0 rfl, (Blk.keep (Blk.keep HBaB.out T1) h__).cell 1 rfl, (Blk.keep (Blk.keep HBaB.out T1) h__).cell 2 rfl, (Blk.keep (Blk.keep HBaB.out T1) h__).cell 3 rfl⟩); first | exact (Only.refl _ _).drew | exact Only.trans (And.left (by assumption)) (by assumption))) (first
    | (go_at_call 17; (with_reducible refine (toCertificate_any [.int .i64 aA.kind, .slice AaA1 aA.numbers.length CaA1, .slice AaA2 aA.words.length CaA2, .slice AaA3 aA.tables.length CaA3] aA _ _ (Rp.keep (Rp.keep (Rp.keep raA T0) T1) (And.left (by assumption))) smaA).mono ?_); rintro e w3 ⟨u1, f1, rfl, r1, F1, t2⟩)
    | (go_at_call 17; (with_reducible refine (toCertificate_any [.int .i64 aB.kind, .slice AaB1 aB.numbers.length CaB1, .slice AaB2 aB.words.length CaB2, .slice AaB3 aB.tables.length CaB3] aB _ _ (Rp.keep (Rp.keep (Rp.keep raB T0) T1) (And.left (by assumption))) smaB).mono ?_); rintro e w4 ⟨u2, f2, rfl, r2, F2, t3⟩)
    | (go_at_call 16; (with_reducible refine (specSameCertificate_any u1 u2 aA aB _ _ _ (Rp.keep r1 (by first | exact Only.refl _ _ | assumption | exact Only.trans (by assumption) (by assumption))) (Rp.keep r2 (by first | exact Only.refl _ _ | assumption | exact Only.trans (by assumption) (by assumption)))).mono ?_); rintro e w5 ⟨rfl, t4⟩))
  have T2 : Only [] w2 w3 := ((Only.refl _ _).drew).trans t2
  have S2 : w2.heap.size + 0 ≤ w3.heap.size := by have := T2.size; omega
  have L1 := Rp.lt r1
  have G1 : ∀ b ∈ f1, w2.heap.size ≤ b := fun b hb => by have := F1.ge b hb; first | omega | (simp at this; omega)
  have T3 : Only [] w3 w4 := t3
  have S3 : w3.heap.size + 0 ≤ w4.heap.size := by have := T3.size; omega
  have L2 := Rp.lt r2
  have G2 : ∀ b ∈ f2, w3.heap.size ≤ b := fun b hb => by have := F2.ge b hb; first | omega | (simp at this; omega)
  have T4 : Only [] w4 w5 := t4
  have S4 : w4.heap.size + 0 ≤ w5.heap.size := by have := T4.size; omega
  have caA_5_0 := ((Blk.keep (Blk.keep (Blk.keep (Blk.keep HBaA.out T1) T2) T3) T4)).cell 0 rfl
  have caA_5_1 := ((Blk.keep (Blk.keep (Blk.keep (Blk.keep HBaA.out T1) T2) T3) T4)).cell 1 rfl
  have caA_5_2 := ((Blk.keep (Blk.keep (Blk.keep (Blk.keep HBaA.out T1) T2) T3) T4)).cell 2 rfl
  have caA_5_3 := ((Blk.keep (Blk.keep (Blk.keep (Blk.keep HBaA.out T1) T2) T3) T4)).cell 3 rfl
  go_wp2_with fail
  with_reducible refine (toCertificate_any [.int .i64 aA.kind, .slice AaA1 aA.numbers.length CaA1, .slice AaA2 aA.words.length CaA2, .slice AaA3 aA.tables.length CaA3] aA _ _ (Rp.keep (Rp.keep (Rp.keep (Rp.keep (Rp.keep raA T0) T1) T2) T3) T4) smaA).mono ?_
  rintro e w6 ⟨u3, f3, rfl, r3, F3, t5⟩
  have T5 : Only [] w5 w6 := t5
  have S5 : w5.heap.size + 0 ≤ w6.heap.size := by have := T5.size; omega
  clear caA_5_0 caA_5_1 caA_5_2 caA_5_3
  have q3 := r3
  obtain ⟨u31, u32, u33, _, _, _, rfl, -, -, z31, z32, z33⟩ := q3
  obtain ⟨A31, C31, _, _, rfl, -⟩ := z31.open_
  obtain ⟨A32, C32, _, _, rfl, -⟩ := z32.open_
  obtain ⟨A33, C33, _, _, rfl, -⟩ := z33.open_
  have L3 := Rp.lt r3
  have G3 : ∀ b ∈ f3, w5.heap.size ≤ b := fun b hb => by have := F3.ge b hb; omega
  have caB_6_0 := ((Only.refl [] _).alloc (.cells #[.int .i64 aA.kind, .slice A31 aA.numbers.length C31, .slice A32 aA.words.length C32, .slice A33 aA.tables.length C33] 26)).cell (by simp) (((Blk.keep (Blk.keep (Blk.keep (Blk.keep (Blk.keep HBaB.out T1) T2) T3) T4) T5)).cell 0 rfl)
  have caB_6_1 := ((Only.refl [] _).alloc (.cells #[.int .i64 aA.kind, .slice A31 aA.numbers.length C31, .slice A32 aA.words.length C32, .slice A33 aA.tables.length C33] 26)).cell (by simp) (((Blk.keep (Blk.keep (Blk.keep (Blk.keep (Blk.keep HBaB.out T1) T2) T3) T4) T5)).cell 1 rfl)
  have caB_6_2 := ((Only.refl [] _).alloc (.cells #[.int .i64 aA.kind, .slice A31 aA.numbers.length C31, .slice A32 aA.words.length C32, .slice A33 aA.tables.length C33] 26)).cell (by simp) (((Blk.keep (Blk.keep (Blk.keep (Blk.keep (Blk.keep HBaB.out T1) T2) T3) T4) T5)).cell 2 rfl)
  have caB_6_3 := ((Only.refl [] _).alloc (.cells #[.int .i64 aA.kind, .slice A31 aA.numbers.length C31, .slice A32 aA.words.length C32, .slice A33 aA.tables.length C33] 26)).cell (by simp) (((Blk.keep (Blk.keep (Blk.keep (Blk.keep (Blk.keep HBaB.out T1) T2) T3) T4) T5)).cell 3 rfl)
  go_wp2_with fail
  with_reducible refine (toCertificate_any [.int .i64 aB.kind, .slice AaB1 aB.numbers.length CaB1, .slice AaB2 aB.words.length CaB2, .slice AaB3 aB.tables.length CaB3] aB _ _ (Rp.keep (Rp.keep (Rp.keep (Rp.keep (Rp.keep (Rp.keep (Rp.keep raB T0) T1) T2) T3) T4) T5) ((Only.refl [] _).alloc (.cells #[.int .i64 aA.kind, .slice A31 aA.numbers.length C31, .slice A32 aA.words.length C32, .slice A33 aA.tables.length C33] 26))) smaB).mono ?_
  rintro e w7 ⟨u4, f4, rfl, r4, F4, t6⟩
  have T6 : Only [] w6 w7 := ((Only.refl [] _).alloc (.cells #[.int .i64 aA.kind, .slice A31 aA.numbers.length C31, .slice A32 aA.words.length C32, .slice A33 aA.tables.length C33] 26)).trans t6
  have S6 : w6.heap.size + 1 ≤ w7.heap.size := by have := t6.size; simp at this; omega
  have B3 : Blk w7 w6.heap.size [.int .i64 aA.kind, .slice A31 aA.numbers.length C31, .slice A32 aA.words.length C32, .slice A33 aA.tables.length C33] := (Blk.keep (Blk.new_at (by simp)) t6)
  have LB3 : w6.heap.size < w7.heap.size := B3.lt
  have HB3 := Lib.hid B3; clear B3
  clear caB_6_0 caB_6_1 caB_6_2 caB_6_3
  have q4 := r4
  obtain ⟨u41, u42, u43, _, _, _, rfl, -, -, z41, z42, z43⟩ := q4
  obtain ⟨A41, C41, _, _, rfl, -⟩ := z41.open_
  obtain ⟨A42, C42, _, _, rfl, -⟩ := z42.open_
  obtain ⟨A43, C43, _, _, rfl, -⟩ := z43.open_
  have L4 := Rp.lt r4
  have G4 : ∀ b ∈ f4, w6.heap.size + 1 ≤ b := fun b hb => by have := F4.ge b hb; simp at this; omega
  have c3_7_0 := ((Only.refl [] _).alloc (.cells #[.int .i64 aB.kind, .slice A41 aB.numbers.length C41, .slice A42 aB.words.length C42, .slice A43 aB.tables.length C43] 26)).cell (by simp) ((HB3.out).cell 0 rfl)
  have c3_7_1 := ((Only.refl [] _).alloc (.cells #[.int .i64 aB.kind, .slice A41 aB.numbers.length C41, .slice A42 aB.words.length C42, .slice A43 aB.tables.length C43] 26)).cell (by simp) ((HB3.out).cell 1 rfl)
  have c3_7_2 := ((Only.refl [] _).alloc (.cells #[.int .i64 aB.kind, .slice A41 aB.numbers.length C41, .slice A42 aB.words.length C42, .slice A43 aB.tables.length C43] 26)).cell (by simp) ((HB3.out).cell 2 rfl)
  have c3_7_3 := ((Only.refl [] _).alloc (.cells #[.int .i64 aB.kind, .slice A41 aB.numbers.length C41, .slice A42 aB.words.length C42, .slice A43 aB.tables.length C43] 26)).cell (by simp) ((HB3.out).cell 3 rfl)
  go_wp2_with fail
  with_reducible refine (implSameCertificate_any [.int .i64 aA.kind, .slice A31 aA.numbers.length C31, .slice A32 aA.words.length C32, .slice A33 aA.tables.length C33] [.int .i64 aB.kind, .slice A41 aB.numbers.length C41, .slice A42 aB.words.length C42, .slice A43 aB.tables.length C43] aA aB _ _ _ (Rp.keep (Rp.keep r3 T6) ((Only.refl [] _).alloc (.cells #[.int .i64 aB.kind, .slice A41 aB.numbers.length C41, .slice A42 aB.words.length C42, .slice A43 aB.tables.length C43] 26))) (Rp.keep r4 ((Only.refl [] _).alloc (.cells #[.int .i64 aB.kind, .slice A41 aB.numbers.length C41, .slice A42 aB.words.length C42, .slice A43 aB.tables.length C43] 26)))).mono ?_
  rintro e w8 ⟨rfl, t7⟩
  have T7 : Only [] w7 w8 := ((Only.refl [] _).alloc (.cells #[.int .i64 aB.kind, .slice A41 aB.numbers.length C41, .slice A42 aB.words.length C42, .slice A43 aB.tables.length C43] 26)).trans t7
  have S7 : w7.heap.size + 1 ≤ w8.heap.size := by have := t7.size; simp at this; omega
  have B4 : Blk w8 w7.heap.size [.int .i64 aB.kind, .slice A41 aB.numbers.length C41, .slice A42 aB.words.length C42, .slice A43 aB.tables.length C43] := (Blk.keep (Blk.new_at (by simp)) t7)
  have LB4 : w7.heap.size < w8.heap.size := B4.lt
  have HB4 := Lib.hid B4; clear B4
  clear c3_7_0 c3_7_1 c3_7_2 c3_7_3
  go_upto_region 14 with fail
  have e9 : eqV aA aA = true := eqV_yes rfl
  go_region_held3 (fun w' => Only [] w8 w' ∧ w'.cell? ⟨w6.heap.size, 0, none⟩ = some (.int .i64 aA.kind) ∧ w'.cell? ⟨w6.heap.size, 1, none⟩ = some (.slice A31 aA.numbers.length C31) ∧ w'.cell? ⟨w6.heap.size, 2, none⟩ = some (.slice A32 aA.words.length C32) ∧ w'.cell? ⟨w6.heap.size, 3, none⟩ = some (.slice A33 aA.tables.length C33) ∧ w'.cell? ⟨w.heap.size, 0, none⟩ = some (.int .i64 aA.kind) ∧ w'.cell? ⟨w.heap.size, 1, none⟩ = some (.slice AaA1 aA.numbers.length CaA1) ∧ w'.cell? ⟨w.heap.size, 2, none⟩ = some (.slice AaA2 aA.words.length CaA2) ∧ w'.cell? ⟨w.heap.size, 3, none⟩ = some (.slice AaA3 aA.tables.length CaA3)) ((refine and_of ?_ (fun h__ => ⟨(Blk.keep (Blk.keep HB3.out T7) h__).cell 0 rfl, (Blk.keep (Blk.keep HB3.out T7) h__).cell 1 rfl, (Blk.keep (Blk.keep HB3.out T7) h__).cell 2 rfl, (Blk.keep (Blk.keep HB3.out T7) h__).cell 3 rfl, (Blk.keep (Blk.keep (Blk.keep (Blk.keep (Blk.keep (Blk.keep (Blk.keep (Blk.keep HBaA.out T1) T2) T3) T4) T5) T6) T7) h__).cell 0 rfl, (Blk.keep (Blk.keep (Blk.keep (Blk.keep (Blk.keep (Blk.keep (Blk.keep (Blk.keep HBaA.out T1) T2) T3) T4) T5) T6) T7) h__).cell 1 rfl, (Blk.keep (Blk.keep (Blk.keep (Blk.keep (Blk.keep (Blk.keep (Blk.keep (Blk.keep HBaA.out T1) T2) T3) T4) T5) T6) T7) h__).cell 2 rfl, (Blk.keep (Blk.keep (Blk.keep (Blk.keep (Blk.keep (Blk.keep (Blk.keep (Blk.keep HBaA.out T1) T2) T3) T4) T5) T6) T7) h__).cell 3 rfl⟩); first | exact (Only.refl _ _).drew | exact Only.trans (And.left (by assumption)) (by assumption))) (first
    | (go_at_call 17; (with_reducible refine (toCertificate_any [.int .i64 aA.kind, .slice AaA1 aA.numbers.length CaA1, .slice AaA2 aA.words.length CaA2, .slice AaA3 aA.tables.length CaA3] aA _ _ (Rp.keep (Rp.keep (Rp.keep (Rp.keep (Rp.keep (Rp.keep (Rp.keep (Rp.keep (Rp.keep raA T0) T1) T2) T3) T4) T5) T6) T7) (And.left (by assumption))) smaA).mono ?_); rintro e w9 ⟨u5, f5, rfl, r5, F5, t8⟩)
    | (go_at_call 10; (with_reducible refine (eqCertificate_any [.int .i64 aA.kind, .slice A31 aA.numbers.length C31, .slice A32 aA.words.length C32, .slice A33 aA.tables.length C33] u5 aA aA _ _ _ (Rp.keep (Rp.keep (Rp.keep r3 T6) T7) (And.left (by assumption))) (Rp.keep r5 (by first | exact Only.refl _ _ | assumption | exact Only.trans (by assumption) (by assumption)))).mono ?_); rintro e w10 ⟨rfl, t9⟩))
  have T8 : Only [] w8 w9 := ((Only.refl _ _).drew).trans t8
  have S8 : w8.heap.size + 0 ≤ w9.heap.size := by have := T8.size; omega
  have L5 := Rp.lt r5
  have G5 : ∀ b ∈ f5, w8.heap.size ≤ b := fun b hb => by have := F5.ge b hb; first | omega | (simp at this; omega)
  have T9 : Only [] w9 w10 := t9
  have S9 : w9.heap.size + 0 ≤ w10.heap.size := by have := T9.size; omega
  go_upto_region 16 with fail
  have e11 : eqV aB aB = true := eqV_yes rfl
  go_region_held3 (fun w' => Only [] w10 w' ∧ w'.cell? ⟨w7.heap.size, 0, none⟩ = some (.int .i64 aB.kind) ∧ w'.cell? ⟨w7.heap.size, 1, none⟩ = some (.slice A41 aB.numbers.length C41) ∧ w'.cell? ⟨w7.heap.size, 2, none⟩ = some (.slice A42 aB.words.length C42) ∧ w'.cell? ⟨w7.heap.size, 3, none⟩ = some (.slice A43 aB.tables.length C43) ∧ w'.cell? ⟨(w.heap.size + 1), 0, none⟩ = some (.int .i64 aB.kind) ∧ w'.cell? ⟨(w.heap.size + 1), 1, none⟩ = some (.slice AaB1 aB.numbers.length CaB1) ∧ w'.cell? ⟨(w.heap.size + 1), 2, none⟩ = some (.slice AaB2 aB.words.length CaB2) ∧ w'.cell? ⟨(w.heap.size + 1), 3, none⟩ = some (.slice AaB3 aB.tables.length CaB3)) ((refine and_of ?_ (fun h__ => ⟨(Blk.keep (Blk.keep (Blk.keep HB4.out T8) T9) h__).cell 0 rfl, (Blk.keep (Blk.keep (Blk.keep HB4.out T8) T9) h__).cell 1 rfl, (Blk.keep (Blk.keep (Blk.keep HB4.out T8) T9) h__).cell 2 rfl, (Blk.keep (Blk.keep (Blk.keep HB4.out T8) T9) h__).cell 3 rfl, (Blk.keep (Blk.keep (Blk.keep (Blk.keep (Blk.keep (Blk.keep (Blk.keep (Blk.keep (Blk.keep (Blk.keep HBaB.out T1) T2) T3) T4) T5) T6) T7) T8) T9) h__).cell 0 rfl, (Blk.keep (Blk.keep (Blk.keep (Blk.keep (Blk.keep (Blk.keep (Blk.keep (Blk.keep (Blk.keep (Blk.keep HBaB.out T1) T2) T3) T4) T5) T6) T7) T8) T9) h__).cell 1 rfl, (Blk.keep (Blk.keep (Blk.keep (Blk.keep (Blk.keep (Blk.keep (Blk.keep (Blk.keep (Blk.keep (Blk.keep HBaB.out T1) T2) T3) T4) T5) T6) T7) T8) T9) h__).cell 2 rfl, (Blk.keep (Blk.keep (Blk.keep (Blk.keep (Blk.keep (Blk.keep (Blk.keep (Blk.keep (Blk.keep (Blk.keep HBaB.out T1) T2) T3) T4) T5) T6) T7) T8) T9) h__).cell 3 rfl⟩); first | exact (Only.refl _ _).drew | exact Only.trans (And.left (by assumption)) (by assumption))) (first
    | (go_at_call 17; (with_reducible refine (toCertificate_any [.int .i64 aB.kind, .slice AaB1 aB.numbers.length CaB1, .slice AaB2 aB.words.length CaB2, .slice AaB3 aB.tables.length CaB3] aB _ _ (Rp.keep (Rp.keep (Rp.keep (Rp.keep (Rp.keep (Rp.keep (Rp.keep (Rp.keep (Rp.keep (Rp.keep (Rp.keep raB T0) T1) T2) T3) T4) T5) T6) T7) T8) T9) (And.left (by assumption))) smaB).mono ?_); rintro e w11 ⟨u6, f6, rfl, r6, F6, t10⟩)
    | (go_at_call 10; (with_reducible refine (eqCertificate_any [.int .i64 aB.kind, .slice A41 aB.numbers.length C41, .slice A42 aB.words.length C42, .slice A43 aB.tables.length C43] u6 aB aB _ _ _ (Rp.keep (Rp.keep (Rp.keep (Rp.keep r4 T7) T8) T9) (And.left (by assumption))) (Rp.keep r6 (by first | exact Only.refl _ _ | assumption | exact Only.trans (by assumption) (by assumption)))).mono ?_); rintro e w12 ⟨rfl, t11⟩))
  have T10 : Only [] w10 w11 := ((Only.refl _ _).drew).trans t10
  have S10 : w10.heap.size + 0 ≤ w11.heap.size := by have := T10.size; omega
  have L6 := Rp.lt r6
  have G6 : ∀ b ∈ f6, w10.heap.size ≤ b := fun b hb => by have := F6.ge b hb; first | omega | (simp at this; omega)
  have T11 : Only [] w11 w12 := t11
  have S11 : w11.heap.size + 0 ≤ w12.heap.size := by have := T11.size; omega
  go_wp2
  go_ret
  refine ⟨rfl, ?_⟩
  exact (Only.keepThen (Only.keepThen (Only.keepThen (Only.keepThen (Only.keepThen (Only.keepThen (Only.keepThen (Only.keepThen (Only.keepThen (Only.keepThen (Only.keepThen T0 T1) T2) T3) T4) T5) T6) T7) T8) T9) T10) T11)
end Go.Proofs.Ytolapilacmgliaa
