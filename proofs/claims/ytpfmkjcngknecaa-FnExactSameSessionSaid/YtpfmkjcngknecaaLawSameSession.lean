/- The law on SameSession: its walk. (Printed by gen_exact.py.) -/
import Derived.Test.YtpfmkjcngknecaaSameSe
import Derived.Test.YtpfmkjcngknecaaExact
import Derived.Deep.RegionHeld3
import Derived.Deep.DeepCutAuto
namespace Go.Proofs.Ytpfmkjcngknecaa
open Go.RowKit
set_option maxRecDepth 10000

set_option maxHeartbeats 4000000 in
theorem FnExactSameSession_any (w : World) (caA : List Value) (aA : Session) (faA : List Nat) (raA : Rp.rep w caA aA faA) (caB : List Value) (aB : Session) (faB : List Nat) (raB : Rp.rep w caB aB faB) :
    Calls Try.prog 4 #[.agg caA.toArray, .agg caB.toArray] w fun e w' => e = .returned (.bool true) ∧ Only [] w w' := by
  have qaA := raA
  obtain ⟨uaA0, uaA1, uaA2, uaA3, _, _, _, _, rfl, -, zaA0, zaA1, zaA2, zaA3⟩ := qaA
  have qaA0x := zaA0
  obtain ⟨uaA0x2, rfl, -, -, zaA0x2⟩ := qaA0x
  obtain ⟨AaA0x2, CaA0x2, _, _, rfl, -⟩ := zaA0x2.open_
  obtain ⟨AaA1, CaA1, _, _, rfl, -⟩ := zaA1.open_
  obtain ⟨AaA2, CaA2, _, _, rfl, -⟩ := zaA2.open_
  obtain ⟨AaA3, CaA3, _, _, rfl, -⟩ := zaA3.open_
  have LaA := Rp.lt raA
  have qaB := raB
  obtain ⟨uaB0, uaB1, uaB2, uaB3, _, _, _, _, rfl, -, zaB0, zaB1, zaB2, zaB3⟩ := qaB
  have qaB0x := zaB0
  obtain ⟨uaB0x2, rfl, -, -, zaB0x2⟩ := qaB0x
  obtain ⟨AaB0x2, CaB0x2, _, _, rfl, -⟩ := zaB0x2.open_
  obtain ⟨AaB1, CaB1, _, _, rfl, -⟩ := zaB1.open_
  obtain ⟨AaB2, CaB2, _, _, rfl, -⟩ := zaB2.open_
  obtain ⟨AaB3, CaB3, _, _, rfl, -⟩ := zaB3.open_
  have LaB := Rp.lt raB
  rcases szV_cases (1048576) aA with ⟨esaA, msaA⟩ | ⟨esaA, psaA, msaA⟩
  · go_enter Try.func4, Try.ntmps4
    go_wp2_with (with_reducible refine (szSession_any [.int .i64 aA.puzzle.points, .string aA.puzzle.names, .slice AaA0x2 aA.puzzle.moves.length CaA0x2, .slice AaA1 aA.state.length CaA1, .slice AaA2 aA.history.length CaA2, .slice AaA3 aA.future.length CaA3] aA _ (1048576) _ (Rp.keep raA (((Only.refl [] _).alloc (.cells #[.int .i64 aA.puzzle.points, .string aA.puzzle.names, .slice AaA0x2 aA.puzzle.moves.length CaA0x2, .slice AaA1 aA.state.length CaA1, .slice AaA2 aA.history.length CaA2, .slice AaA3 aA.future.length CaA3] 27)).alloc (.cells #[.int .i64 aB.puzzle.points, .string aB.puzzle.names, .slice AaB0x2 aB.puzzle.moves.length CaB0x2, .slice AaB1 aB.state.length CaB1, .slice AaB2 aB.history.length CaB2, .slice AaB3 aB.future.length CaB3] 27))) (by omega) (by omega)).mono ?_; rintro e w1 ⟨rfl, t0⟩)
    go_ret
    exact ⟨rfl, (by with_reducible repeat (first | exact Only.refl _ _ | assumption | refine Only.drewN ?_ _ | refine Only.drew ?_ | refine Only.alloc ?_ _ | refine Only.setCell ?_ (by intro hh; exfalso; simp at hh; try omega) _ | refine Only.trans ?_ (by assumption)))⟩
  have smaA : Sm.sm aA := SzSm.of_ _ (by omega)
  have csaA : Mk.cnt aA ≤ 1048576 := Nat.le_trans (CntSz.le aA) (by omega)
  rcases szV_cases (1048576 - (Sz.sz aA : Nat)) aB with ⟨esaB, msaB⟩ | ⟨esaB, psaB, msaB⟩
  · go_enter Try.func4, Try.ntmps4
    go_wp2_with fail
    with_reducible refine (szSession_any [.int .i64 aA.puzzle.points, .string aA.puzzle.names, .slice AaA0x2 aA.puzzle.moves.length CaA0x2, .slice AaA1 aA.state.length CaA1, .slice AaA2 aA.history.length CaA2, .slice AaA3 aA.future.length CaA3] aA _ (1048576) _ (Rp.keep raA (((Only.refl [] _).alloc (.cells #[.int .i64 aA.puzzle.points, .string aA.puzzle.names, .slice AaA0x2 aA.puzzle.moves.length CaA0x2, .slice AaA1 aA.state.length CaA1, .slice AaA2 aA.history.length CaA2, .slice AaA3 aA.future.length CaA3] 27)).alloc (.cells #[.int .i64 aB.puzzle.points, .string aB.puzzle.names, .slice AaB0x2 aB.puzzle.moves.length CaB0x2, .slice AaB1 aB.state.length CaB1, .slice AaB2 aB.history.length CaB2, .slice AaB3 aB.future.length CaB3] 27))) (by omega) (by omega)).mono ?_
    rintro e w1 ⟨rfl, t0⟩
    rw [esaA]
    have T0 : Only [] w w1 := (((Only.refl [] _).alloc (.cells #[.int .i64 aA.puzzle.points, .string aA.puzzle.names, .slice AaA0x2 aA.puzzle.moves.length CaA0x2, .slice AaA1 aA.state.length CaA1, .slice AaA2 aA.history.length CaA2, .slice AaA3 aA.future.length CaA3] 27)).alloc (.cells #[.int .i64 aB.puzzle.points, .string aB.puzzle.names, .slice AaB0x2 aB.puzzle.moves.length CaB0x2, .slice AaB1 aB.state.length CaB1, .slice AaB2 aB.history.length CaB2, .slice AaB3 aB.future.length CaB3] 27)).trans t0
    have S0 : w.heap.size + 2 ≤ w1.heap.size := by have := t0.size; simp at this; omega
    have BaA : Blk w1 w.heap.size [.int .i64 aA.puzzle.points, .string aA.puzzle.names, .slice AaA0x2 aA.puzzle.moves.length CaA0x2, .slice AaA1 aA.state.length CaA1, .slice AaA2 aA.history.length CaA2, .slice AaA3 aA.future.length CaA3] := (Blk.keep (Blk.keep (Blk.new_at (by simp)) ((Only.refl _ _).alloc _)) t0)
    have LBaA : w.heap.size < w1.heap.size := BaA.lt
    have HBaA := Lib.hid BaA; clear BaA
    have BaB : Blk w1 (w.heap.size + 1) [.int .i64 aB.puzzle.points, .string aB.puzzle.names, .slice AaB0x2 aB.puzzle.moves.length CaB0x2, .slice AaB1 aB.state.length CaB1, .slice AaB2 aB.history.length CaB2, .slice AaB3 aB.future.length CaB3] := (Blk.keep (Blk.new_at (by simp)) t0)
    have LBaB : (w.heap.size + 1) < w1.heap.size := BaB.lt
    have HBaB := Lib.hid BaB; clear BaB
    have caB_1_0 := (HBaB.out).cell 0 rfl
    have caB_1_1 := (HBaB.out).cell 1 rfl
    have caB_1_2 := (HBaB.out).cell 2 rfl
    have caB_1_3 := (HBaB.out).cell 3 rfl
    have caB_1_4 := (HBaB.out).cell 4 rfl
    have caB_1_5 := (HBaB.out).cell 5 rfl
    go_wp2_with (with_reducible refine (szSession_any [.int .i64 aB.puzzle.points, .string aB.puzzle.names, .slice AaB0x2 aB.puzzle.moves.length CaB0x2, .slice AaB1 aB.state.length CaB1, .slice AaB2 aB.history.length CaB2, .slice AaB3 aB.future.length CaB3] aB _ (1048576 - (Sz.sz aA : Nat)) _ (Rp.keep raB T0) (by omega) (by omega)).mono ?_; rintro e w2 ⟨rfl, t1⟩)
    go_ret
    exact ⟨rfl, (by with_reducible repeat (first | exact Only.refl _ _ | assumption | refine Only.drewN ?_ _ | refine Only.drew ?_ | refine Only.alloc ?_ _ | refine Only.setCell ?_ (by intro hh; exfalso; simp at hh; try omega) _ | refine Only.trans ?_ (by assumption)))⟩
  have smaB : Sm.sm aB := SzSm.of_ _ (by omega)
  have csaB : Mk.cnt aB ≤ 1048576 := Nat.le_trans (CntSz.le aB) (by omega)
  go_enter Try.func4, Try.ntmps4
  go_wp2_with fail
  with_reducible refine (szSession_any [.int .i64 aA.puzzle.points, .string aA.puzzle.names, .slice AaA0x2 aA.puzzle.moves.length CaA0x2, .slice AaA1 aA.state.length CaA1, .slice AaA2 aA.history.length CaA2, .slice AaA3 aA.future.length CaA3] aA _ (1048576) _ (Rp.keep raA (((Only.refl [] _).alloc (.cells #[.int .i64 aA.puzzle.points, .string aA.puzzle.names, .slice AaA0x2 aA.puzzle.moves.length CaA0x2, .slice AaA1 aA.state.length CaA1, .slice AaA2 aA.history.length CaA2, .slice AaA3 aA.future.length CaA3] 27)).alloc (.cells #[.int .i64 aB.puzzle.points, .string aB.puzzle.names, .slice AaB0x2 aB.puzzle.moves.length CaB0x2, .slice AaB1 aB.state.length CaB1, .slice AaB2 aB.history.length CaB2, .slice AaB3 aB.future.length CaB3] 27))) (by omega) (by omega)).mono ?_
  rintro e w1 ⟨rfl, t0⟩
  rw [esaA]
  have T0 : Only [] w w1 := (((Only.refl [] _).alloc (.cells #[.int .i64 aA.puzzle.points, .string aA.puzzle.names, .slice AaA0x2 aA.puzzle.moves.length CaA0x2, .slice AaA1 aA.state.length CaA1, .slice AaA2 aA.history.length CaA2, .slice AaA3 aA.future.length CaA3] 27)).alloc (.cells #[.int .i64 aB.puzzle.points, .string aB.puzzle.names, .slice AaB0x2 aB.puzzle.moves.length CaB0x2, .slice AaB1 aB.state.length CaB1, .slice AaB2 aB.history.length CaB2, .slice AaB3 aB.future.length CaB3] 27)).trans t0
  have S0 : w.heap.size + 2 ≤ w1.heap.size := by have := t0.size; simp at this; omega
  have BaA : Blk w1 w.heap.size [.int .i64 aA.puzzle.points, .string aA.puzzle.names, .slice AaA0x2 aA.puzzle.moves.length CaA0x2, .slice AaA1 aA.state.length CaA1, .slice AaA2 aA.history.length CaA2, .slice AaA3 aA.future.length CaA3] := (Blk.keep (Blk.keep (Blk.new_at (by simp)) ((Only.refl _ _).alloc _)) t0)
  have LBaA : w.heap.size < w1.heap.size := BaA.lt
  have HBaA := Lib.hid BaA; clear BaA
  have BaB : Blk w1 (w.heap.size + 1) [.int .i64 aB.puzzle.points, .string aB.puzzle.names, .slice AaB0x2 aB.puzzle.moves.length CaB0x2, .slice AaB1 aB.state.length CaB1, .slice AaB2 aB.history.length CaB2, .slice AaB3 aB.future.length CaB3] := (Blk.keep (Blk.new_at (by simp)) t0)
  have LBaB : (w.heap.size + 1) < w1.heap.size := BaB.lt
  have HBaB := Lib.hid BaB; clear BaB
  have caB_1_0 := (HBaB.out).cell 0 rfl
  have caB_1_1 := (HBaB.out).cell 1 rfl
  have caB_1_2 := (HBaB.out).cell 2 rfl
  have caB_1_3 := (HBaB.out).cell 3 rfl
  have caB_1_4 := (HBaB.out).cell 4 rfl
  have caB_1_5 := (HBaB.out).cell 5 rfl
  go_wp2_with fail
  with_reducible refine (szSession_any [.int .i64 aB.puzzle.points, .string aB.puzzle.names, .slice AaB0x2 aB.puzzle.moves.length CaB0x2, .slice AaB1 aB.state.length CaB1, .slice AaB2 aB.history.length CaB2, .slice AaB3 aB.future.length CaB3] aB _ (1048576 - (Sz.sz aA : Nat)) _ (Rp.keep raB T0) (by omega) (by omega)).mono ?_
  rintro e w2 ⟨rfl, t1⟩
  rw [esaB]
  have T1 : Only [] w1 w2 := t1
  have S1 : w1.heap.size + 0 ≤ w2.heap.size := by have := T1.size; omega
  clear caB_1_0 caB_1_1 caB_1_2 caB_1_3 caB_1_4 caB_1_5
  go_upto_region 8 with fail
  go_region_held3 (fun w' => Only [] w2 w' ∧ w'.cell? ⟨w.heap.size, 0, none⟩ = some (.int .i64 aA.puzzle.points) ∧ w'.cell? ⟨w.heap.size, 1, none⟩ = some (.string aA.puzzle.names) ∧ w'.cell? ⟨w.heap.size, 2, none⟩ = some (.slice AaA0x2 aA.puzzle.moves.length CaA0x2) ∧ w'.cell? ⟨w.heap.size, 3, none⟩ = some (.slice AaA1 aA.state.length CaA1) ∧ w'.cell? ⟨w.heap.size, 4, none⟩ = some (.slice AaA2 aA.history.length CaA2) ∧ w'.cell? ⟨w.heap.size, 5, none⟩ = some (.slice AaA3 aA.future.length CaA3) ∧ w'.cell? ⟨(w.heap.size + 1), 0, none⟩ = some (.int .i64 aB.puzzle.points) ∧ w'.cell? ⟨(w.heap.size + 1), 1, none⟩ = some (.string aB.puzzle.names) ∧ w'.cell? ⟨(w.heap.size + 1), 2, none⟩ = some (.slice AaB0x2 aB.puzzle.moves.length CaB0x2) ∧ w'.cell? ⟨(w.heap.size + 1), 3, none⟩ = some (.slice AaB1 aB.state.length CaB1) ∧ w'.cell? ⟨(w.heap.size + 1), 4, none⟩ = some (.slice AaB2 aB.history.length CaB2) ∧ w'.cell? ⟨(w.heap.size + 1), 5, none⟩ = some (.slice AaB3 aB.future.length CaB3)) ((refine and_of ?_ (fun h__ => ⟨(Blk.keep (Blk.keep HBaA.out T1) h__).cell 0 rfl, (Blk.keep (Blk.keep HBaA.out T1) h__).cell 1 rfl, (Blk.keep (Blk.keep HBaA.out T1) h__).cell 2 rfl, (Blk.keep (Blk.keep HBaA.out T1) h__).cell 3 rfl, (Blk.keep (Blk.keep HBaA.out T1) h__).cell 4 rfl, (Blk.keep (Blk.keep HBaA.out T1) h__).cell 5 rfl, (Blk.keep (Blk.keep HBaB.out T1) h__).cell 0 rfl, (Blk.keep (Blk.keep HBaB.out T1) h__).cell 1 rfl, (Blk.keep (Blk.keep HBaB.out T1) h__).cell 2 rfl, (Blk.keep (Blk.keep HBaB.out T1) h__).cell 3 rfl, (Blk.keep (Blk.keep HBaB.out T1) h__).cell 4 rfl, (Blk.keep (Blk.keep HBaB.out T1) h__).cell 5 rfl⟩); first | exact (Only.refl _ _).drew | exact Only.trans (And.left (by assumption)) (by assumption))) (first
    | (go_at_call 12; (with_reducible refine (toSession_any [.int .i64 aA.puzzle.points, .string aA.puzzle.names, .slice AaA0x2 aA.puzzle.moves.length CaA0x2, .slice AaA1 aA.state.length CaA1, .slice AaA2 aA.history.length CaA2, .slice AaA3 aA.future.length CaA3] aA _ _ (Rp.keep (Rp.keep (Rp.keep raA T0) T1) (And.left (by assumption))) smaA).mono ?_); rintro e w3 ⟨u1, f1, rfl, r1, F1, t2⟩)
    | (go_at_call 12; (with_reducible refine (toSession_any [.int .i64 aB.puzzle.points, .string aB.puzzle.names, .slice AaB0x2 aB.puzzle.moves.length CaB0x2, .slice AaB1 aB.state.length CaB1, .slice AaB2 aB.history.length CaB2, .slice AaB3 aB.future.length CaB3] aB _ _ (Rp.keep (Rp.keep (Rp.keep raB T0) T1) (And.left (by assumption))) smaB).mono ?_); rintro e w4 ⟨u2, f2, rfl, r2, F2, t3⟩)
    | (go_at_call 15; (with_reducible refine (specSameSession_any u1 u2 aA aB _ _ _ (Rp.keep r1 (by first | exact Only.refl _ _ | assumption | exact Only.trans (by assumption) (by assumption))) (Rp.keep r2 (by first | exact Only.refl _ _ | assumption | exact Only.trans (by assumption) (by assumption)))).mono ?_); rintro e w5 ⟨rfl, t4⟩)
    | fail "no arm")
  have T2 : Only [] w2 w3 := ((Only.refl _ _).drew).trans t2
  have S2 : w2.heap.size + 0 ≤ w3.heap.size := by have := T2.size; omega
  have L1 := Rp.lt r1
  have G1 : ∀ b ∈ f1, w2.heap.size ≤ b := fun b hb => by have := F1.ge b hb; first | omega | (simp at this; omega)
  have T3 : Only [] w3 w4 := t3
  have S3 : w3.heap.size + 0 ≤ w4.heap.size := by have := T3.size; omega
  have L2 := Rp.lt r2
  have G2 : ∀ b ∈ f2, w3.heap.size ≤ b := fun b hb => by have := F2.ge b hb; first | omega | (simp at this; omega)
  have T4 : Only [] w4 w5 := t4
  have S4 : w4.heap.size + 0 ≤ w5.heap.size := by have := T4.size; omega
  have caA_5_0 := ((Blk.keep (Blk.keep (Blk.keep (Blk.keep HBaA.out T1) T2) T3) T4)).cell 0 rfl
  have caA_5_1 := ((Blk.keep (Blk.keep (Blk.keep (Blk.keep HBaA.out T1) T2) T3) T4)).cell 1 rfl
  have caA_5_2 := ((Blk.keep (Blk.keep (Blk.keep (Blk.keep HBaA.out T1) T2) T3) T4)).cell 2 rfl
  have caA_5_3 := ((Blk.keep (Blk.keep (Blk.keep (Blk.keep HBaA.out T1) T2) T3) T4)).cell 3 rfl
  have caA_5_4 := ((Blk.keep (Blk.keep (Blk.keep (Blk.keep HBaA.out T1) T2) T3) T4)).cell 4 rfl
  have caA_5_5 := ((Blk.keep (Blk.keep (Blk.keep (Blk.keep HBaA.out T1) T2) T3) T4)).cell 5 rfl
  go_wp2_with fail
  with_reducible refine (toSession_any [.int .i64 aA.puzzle.points, .string aA.puzzle.names, .slice AaA0x2 aA.puzzle.moves.length CaA0x2, .slice AaA1 aA.state.length CaA1, .slice AaA2 aA.history.length CaA2, .slice AaA3 aA.future.length CaA3] aA _ _ (Rp.keep (Rp.keep (Rp.keep (Rp.keep (Rp.keep raA T0) T1) T2) T3) T4) smaA).mono ?_
  rintro e w6 ⟨u3, f3, rfl, r3, F3, t5⟩
  have T5 : Only [] w5 w6 := t5
  have S5 : w5.heap.size + 0 ≤ w6.heap.size := by have := T5.size; omega
  clear caA_5_0 caA_5_1 caA_5_2 caA_5_3 caA_5_4 caA_5_5
  have q3 := r3
  obtain ⟨u30, u31, u32, u33, _, _, _, _, rfl, -, z30, z31, z32, z33⟩ := q3
  have q30x := z30
  obtain ⟨u30x2, rfl, -, -, z30x2⟩ := q30x
  obtain ⟨A30x2, C30x2, _, _, rfl, -⟩ := z30x2.open_
  obtain ⟨A31, C31, _, _, rfl, -⟩ := z31.open_
  obtain ⟨A32, C32, _, _, rfl, -⟩ := z32.open_
  obtain ⟨A33, C33, _, _, rfl, -⟩ := z33.open_
  have L3 := Rp.lt r3
  have G3 : ∀ b ∈ f3, w5.heap.size ≤ b := fun b hb => by have := F3.ge b hb; omega
  have caB_6_0 := ((Only.refl [] _).alloc (.cells #[.int .i64 aA.puzzle.points, .string aA.puzzle.names, .slice A30x2 aA.puzzle.moves.length C30x2, .slice A31 aA.state.length C31, .slice A32 aA.history.length C32, .slice A33 aA.future.length C33] 32)).cell (by simp) (((Blk.keep (Blk.keep (Blk.keep (Blk.keep (Blk.keep HBaB.out T1) T2) T3) T4) T5)).cell 0 rfl)
  have caB_6_1 := ((Only.refl [] _).alloc (.cells #[.int .i64 aA.puzzle.points, .string aA.puzzle.names, .slice A30x2 aA.puzzle.moves.length C30x2, .slice A31 aA.state.length C31, .slice A32 aA.history.length C32, .slice A33 aA.future.length C33] 32)).cell (by simp) (((Blk.keep (Blk.keep (Blk.keep (Blk.keep (Blk.keep HBaB.out T1) T2) T3) T4) T5)).cell 1 rfl)
  have caB_6_2 := ((Only.refl [] _).alloc (.cells #[.int .i64 aA.puzzle.points, .string aA.puzzle.names, .slice A30x2 aA.puzzle.moves.length C30x2, .slice A31 aA.state.length C31, .slice A32 aA.history.length C32, .slice A33 aA.future.length C33] 32)).cell (by simp) (((Blk.keep (Blk.keep (Blk.keep (Blk.keep (Blk.keep HBaB.out T1) T2) T3) T4) T5)).cell 2 rfl)
  have caB_6_3 := ((Only.refl [] _).alloc (.cells #[.int .i64 aA.puzzle.points, .string aA.puzzle.names, .slice A30x2 aA.puzzle.moves.length C30x2, .slice A31 aA.state.length C31, .slice A32 aA.history.length C32, .slice A33 aA.future.length C33] 32)).cell (by simp) (((Blk.keep (Blk.keep (Blk.keep (Blk.keep (Blk.keep HBaB.out T1) T2) T3) T4) T5)).cell 3 rfl)
  have caB_6_4 := ((Only.refl [] _).alloc (.cells #[.int .i64 aA.puzzle.points, .string aA.puzzle.names, .slice A30x2 aA.puzzle.moves.length C30x2, .slice A31 aA.state.length C31, .slice A32 aA.history.length C32, .slice A33 aA.future.length C33] 32)).cell (by simp) (((Blk.keep (Blk.keep (Blk.keep (Blk.keep (Blk.keep HBaB.out T1) T2) T3) T4) T5)).cell 4 rfl)
  have caB_6_5 := ((Only.refl [] _).alloc (.cells #[.int .i64 aA.puzzle.points, .string aA.puzzle.names, .slice A30x2 aA.puzzle.moves.length C30x2, .slice A31 aA.state.length C31, .slice A32 aA.history.length C32, .slice A33 aA.future.length C33] 32)).cell (by simp) (((Blk.keep (Blk.keep (Blk.keep (Blk.keep (Blk.keep HBaB.out T1) T2) T3) T4) T5)).cell 5 rfl)
  go_wp2_with fail
  with_reducible refine (toSession_any [.int .i64 aB.puzzle.points, .string aB.puzzle.names, .slice AaB0x2 aB.puzzle.moves.length CaB0x2, .slice AaB1 aB.state.length CaB1, .slice AaB2 aB.history.length CaB2, .slice AaB3 aB.future.length CaB3] aB _ _ (Rp.keep (Rp.keep (Rp.keep (Rp.keep (Rp.keep (Rp.keep (Rp.keep raB T0) T1) T2) T3) T4) T5) ((Only.refl [] _).alloc (.cells #[.int .i64 aA.puzzle.points, .string aA.puzzle.names, .slice A30x2 aA.puzzle.moves.length C30x2, .slice A31 aA.state.length C31, .slice A32 aA.history.length C32, .slice A33 aA.future.length C33] 32))) smaB).mono ?_
  rintro e w7 ⟨u4, f4, rfl, r4, F4, t6⟩
  have T6 : Only [] w6 w7 := ((Only.refl [] _).alloc (.cells #[.int .i64 aA.puzzle.points, .string aA.puzzle.names, .slice A30x2 aA.puzzle.moves.length C30x2, .slice A31 aA.state.length C31, .slice A32 aA.history.length C32, .slice A33 aA.future.length C33] 32)).trans t6
  have S6 : w6.heap.size + 1 ≤ w7.heap.size := by have := t6.size; simp at this; omega
  have B3 : Blk w7 w6.heap.size [.int .i64 aA.puzzle.points, .string aA.puzzle.names, .slice A30x2 aA.puzzle.moves.length C30x2, .slice A31 aA.state.length C31, .slice A32 aA.history.length C32, .slice A33 aA.future.length C33] := (Blk.keep (Blk.new_at (by simp)) t6)
  have LB3 : w6.heap.size < w7.heap.size := B3.lt
  have HB3 := Lib.hid B3; clear B3
  clear caB_6_0 caB_6_1 caB_6_2 caB_6_3 caB_6_4 caB_6_5
  have q4 := r4
  obtain ⟨u40, u41, u42, u43, _, _, _, _, rfl, -, z40, z41, z42, z43⟩ := q4
  have q40x := z40
  obtain ⟨u40x2, rfl, -, -, z40x2⟩ := q40x
  obtain ⟨A40x2, C40x2, _, _, rfl, -⟩ := z40x2.open_
  obtain ⟨A41, C41, _, _, rfl, -⟩ := z41.open_
  obtain ⟨A42, C42, _, _, rfl, -⟩ := z42.open_
  obtain ⟨A43, C43, _, _, rfl, -⟩ := z43.open_
  have L4 := Rp.lt r4
  have G4 : ∀ b ∈ f4, w6.heap.size + 1 ≤ b := fun b hb => by have := F4.ge b hb; simp at this; omega
  have c3_7_0 := ((Only.refl [] _).alloc (.cells #[.int .i64 aB.puzzle.points, .string aB.puzzle.names, .slice A40x2 aB.puzzle.moves.length C40x2, .slice A41 aB.state.length C41, .slice A42 aB.history.length C42, .slice A43 aB.future.length C43] 32)).cell (by simp) ((HB3.out).cell 0 rfl)
  have c3_7_1 := ((Only.refl [] _).alloc (.cells #[.int .i64 aB.puzzle.points, .string aB.puzzle.names, .slice A40x2 aB.puzzle.moves.length C40x2, .slice A41 aB.state.length C41, .slice A42 aB.history.length C42, .slice A43 aB.future.length C43] 32)).cell (by simp) ((HB3.out).cell 1 rfl)
  have c3_7_2 := ((Only.refl [] _).alloc (.cells #[.int .i64 aB.puzzle.points, .string aB.puzzle.names, .slice A40x2 aB.puzzle.moves.length C40x2, .slice A41 aB.state.length C41, .slice A42 aB.history.length C42, .slice A43 aB.future.length C43] 32)).cell (by simp) ((HB3.out).cell 2 rfl)
  have c3_7_3 := ((Only.refl [] _).alloc (.cells #[.int .i64 aB.puzzle.points, .string aB.puzzle.names, .slice A40x2 aB.puzzle.moves.length C40x2, .slice A41 aB.state.length C41, .slice A42 aB.history.length C42, .slice A43 aB.future.length C43] 32)).cell (by simp) ((HB3.out).cell 3 rfl)
  have c3_7_4 := ((Only.refl [] _).alloc (.cells #[.int .i64 aB.puzzle.points, .string aB.puzzle.names, .slice A40x2 aB.puzzle.moves.length C40x2, .slice A41 aB.state.length C41, .slice A42 aB.history.length C42, .slice A43 aB.future.length C43] 32)).cell (by simp) ((HB3.out).cell 4 rfl)
  have c3_7_5 := ((Only.refl [] _).alloc (.cells #[.int .i64 aB.puzzle.points, .string aB.puzzle.names, .slice A40x2 aB.puzzle.moves.length C40x2, .slice A41 aB.state.length C41, .slice A42 aB.history.length C42, .slice A43 aB.future.length C43] 32)).cell (by simp) ((HB3.out).cell 5 rfl)
  go_wp2_with fail
  with_reducible refine (implSameSession_any [.int .i64 aA.puzzle.points, .string aA.puzzle.names, .slice A30x2 aA.puzzle.moves.length C30x2, .slice A31 aA.state.length C31, .slice A32 aA.history.length C32, .slice A33 aA.future.length C33] [.int .i64 aB.puzzle.points, .string aB.puzzle.names, .slice A40x2 aB.puzzle.moves.length C40x2, .slice A41 aB.state.length C41, .slice A42 aB.history.length C42, .slice A43 aB.future.length C43] aA aB _ _ _ (Rp.keep (Rp.keep r3 T6) ((Only.refl [] _).alloc (.cells #[.int .i64 aB.puzzle.points, .string aB.puzzle.names, .slice A40x2 aB.puzzle.moves.length C40x2, .slice A41 aB.state.length C41, .slice A42 aB.history.length C42, .slice A43 aB.future.length C43] 32))) (Rp.keep r4 ((Only.refl [] _).alloc (.cells #[.int .i64 aB.puzzle.points, .string aB.puzzle.names, .slice A40x2 aB.puzzle.moves.length C40x2, .slice A41 aB.state.length C41, .slice A42 aB.history.length C42, .slice A43 aB.future.length C43] 32)))).mono ?_
  rintro e w8 ⟨rfl, t7⟩
  have T7 : Only [] w7 w8 := ((Only.refl [] _).alloc (.cells #[.int .i64 aB.puzzle.points, .string aB.puzzle.names, .slice A40x2 aB.puzzle.moves.length C40x2, .slice A41 aB.state.length C41, .slice A42 aB.history.length C42, .slice A43 aB.future.length C43] 32)).trans t7
  have S7 : w7.heap.size + 1 ≤ w8.heap.size := by have := t7.size; simp at this; omega
  have B4 : Blk w8 w7.heap.size [.int .i64 aB.puzzle.points, .string aB.puzzle.names, .slice A40x2 aB.puzzle.moves.length C40x2, .slice A41 aB.state.length C41, .slice A42 aB.history.length C42, .slice A43 aB.future.length C43] := (Blk.keep (Blk.new_at (by simp)) t7)
  have LB4 : w7.heap.size < w8.heap.size := B4.lt
  have HB4 := Lib.hid B4; clear B4
  clear c3_7_0 c3_7_1 c3_7_2 c3_7_3 c3_7_4 c3_7_5
  go_upto_region 14 with fail
  have e9 : eqV aA aA = true := eqV_yes rfl
  go_region_held3 (fun w' => Only [] w8 w' ∧ w'.cell? ⟨w6.heap.size, 0, none⟩ = some (.int .i64 aA.puzzle.points) ∧ w'.cell? ⟨w6.heap.size, 1, none⟩ = some (.string aA.puzzle.names) ∧ w'.cell? ⟨w6.heap.size, 2, none⟩ = some (.slice A30x2 aA.puzzle.moves.length C30x2) ∧ w'.cell? ⟨w6.heap.size, 3, none⟩ = some (.slice A31 aA.state.length C31) ∧ w'.cell? ⟨w6.heap.size, 4, none⟩ = some (.slice A32 aA.history.length C32) ∧ w'.cell? ⟨w6.heap.size, 5, none⟩ = some (.slice A33 aA.future.length C33) ∧ w'.cell? ⟨w.heap.size, 0, none⟩ = some (.int .i64 aA.puzzle.points) ∧ w'.cell? ⟨w.heap.size, 1, none⟩ = some (.string aA.puzzle.names) ∧ w'.cell? ⟨w.heap.size, 2, none⟩ = some (.slice AaA0x2 aA.puzzle.moves.length CaA0x2) ∧ w'.cell? ⟨w.heap.size, 3, none⟩ = some (.slice AaA1 aA.state.length CaA1) ∧ w'.cell? ⟨w.heap.size, 4, none⟩ = some (.slice AaA2 aA.history.length CaA2) ∧ w'.cell? ⟨w.heap.size, 5, none⟩ = some (.slice AaA3 aA.future.length CaA3)) ((refine and_of ?_ (fun h__ => ⟨(Blk.keep (Blk.keep HB3.out T7) h__).cell 0 rfl, (Blk.keep (Blk.keep HB3.out T7) h__).cell 1 rfl, (Blk.keep (Blk.keep HB3.out T7) h__).cell 2 rfl, (Blk.keep (Blk.keep HB3.out T7) h__).cell 3 rfl, (Blk.keep (Blk.keep HB3.out T7) h__).cell 4 rfl, (Blk.keep (Blk.keep HB3.out T7) h__).cell 5 rfl, (Blk.keep (Blk.keep (Blk.keep (Blk.keep (Blk.keep (Blk.keep (Blk.keep (Blk.keep HBaA.out T1) T2) T3) T4) T5) T6) T7) h__).cell 0 rfl, (Blk.keep (Blk.keep (Blk.keep (Blk.keep (Blk.keep (Blk.keep (Blk.keep (Blk.keep HBaA.out T1) T2) T3) T4) T5) T6) T7) h__).cell 1 rfl, (Blk.keep (Blk.keep (Blk.keep (Blk.keep (Blk.keep (Blk.keep (Blk.keep (Blk.keep HBaA.out T1) T2) T3) T4) T5) T6) T7) h__).cell 2 rfl, (Blk.keep (Blk.keep (Blk.keep (Blk.keep (Blk.keep (Blk.keep (Blk.keep (Blk.keep HBaA.out T1) T2) T3) T4) T5) T6) T7) h__).cell 3 rfl, (Blk.keep (Blk.keep (Blk.keep (Blk.keep (Blk.keep (Blk.keep (Blk.keep (Blk.keep HBaA.out T1) T2) T3) T4) T5) T6) T7) h__).cell 4 rfl, (Blk.keep (Blk.keep (Blk.keep (Blk.keep (Blk.keep (Blk.keep (Blk.keep (Blk.keep HBaA.out T1) T2) T3) T4) T5) T6) T7) h__).cell 5 rfl⟩); first | exact (Only.refl _ _).drew | exact Only.trans (And.left (by assumption)) (by assumption))) (first
    | (go_at_call 12; (with_reducible refine (toSession_any [.int .i64 aA.puzzle.points, .string aA.puzzle.names, .slice AaA0x2 aA.puzzle.moves.length CaA0x2, .slice AaA1 aA.state.length CaA1, .slice AaA2 aA.history.length CaA2, .slice AaA3 aA.future.length CaA3] aA _ _ (Rp.keep (Rp.keep (Rp.keep (Rp.keep (Rp.keep (Rp.keep (Rp.keep (Rp.keep (Rp.keep raA T0) T1) T2) T3) T4) T5) T6) T7) (And.left (by assumption))) smaA).mono ?_); rintro e w9 ⟨u5, f5, rfl, r5, F5, t8⟩)
    | (go_at_call 14; (with_reducible refine (eqSession_any [.int .i64 aA.puzzle.points, .string aA.puzzle.names, .slice A30x2 aA.puzzle.moves.length C30x2, .slice A31 aA.state.length C31, .slice A32 aA.history.length C32, .slice A33 aA.future.length C33] u5 aA aA _ _ _ (Rp.keep (Rp.keep (Rp.keep r3 T6) T7) (And.left (by assumption))) (Rp.keep r5 (by first | exact Only.refl _ _ | assumption | exact Only.trans (by assumption) (by assumption)))).mono ?_); rintro e w10 ⟨rfl, t9⟩)
    | fail "no arm")
  have T8 : Only [] w8 w9 := ((Only.refl _ _).drew).trans t8
  have S8 : w8.heap.size + 0 ≤ w9.heap.size := by have := T8.size; omega
  have L5 := Rp.lt r5
  have G5 : ∀ b ∈ f5, w8.heap.size ≤ b := fun b hb => by have := F5.ge b hb; first | omega | (simp at this; omega)
  have T9 : Only [] w9 w10 := t9
  have S9 : w9.heap.size + 0 ≤ w10.heap.size := by have := T9.size; omega
  go_upto_region 16 with fail
  have e11 : eqV aB aB = true := eqV_yes rfl
  go_region_held3 (fun w' => Only [] w10 w' ∧ w'.cell? ⟨w7.heap.size, 0, none⟩ = some (.int .i64 aB.puzzle.points) ∧ w'.cell? ⟨w7.heap.size, 1, none⟩ = some (.string aB.puzzle.names) ∧ w'.cell? ⟨w7.heap.size, 2, none⟩ = some (.slice A40x2 aB.puzzle.moves.length C40x2) ∧ w'.cell? ⟨w7.heap.size, 3, none⟩ = some (.slice A41 aB.state.length C41) ∧ w'.cell? ⟨w7.heap.size, 4, none⟩ = some (.slice A42 aB.history.length C42) ∧ w'.cell? ⟨w7.heap.size, 5, none⟩ = some (.slice A43 aB.future.length C43) ∧ w'.cell? ⟨(w.heap.size + 1), 0, none⟩ = some (.int .i64 aB.puzzle.points) ∧ w'.cell? ⟨(w.heap.size + 1), 1, none⟩ = some (.string aB.puzzle.names) ∧ w'.cell? ⟨(w.heap.size + 1), 2, none⟩ = some (.slice AaB0x2 aB.puzzle.moves.length CaB0x2) ∧ w'.cell? ⟨(w.heap.size + 1), 3, none⟩ = some (.slice AaB1 aB.state.length CaB1) ∧ w'.cell? ⟨(w.heap.size + 1), 4, none⟩ = some (.slice AaB2 aB.history.length CaB2) ∧ w'.cell? ⟨(w.heap.size + 1), 5, none⟩ = some (.slice AaB3 aB.future.length CaB3)) ((refine and_of ?_ (fun h__ => ⟨(Blk.keep (Blk.keep (Blk.keep HB4.out T8) T9) h__).cell 0 rfl, (Blk.keep (Blk.keep (Blk.keep HB4.out T8) T9) h__).cell 1 rfl, (Blk.keep (Blk.keep (Blk.keep HB4.out T8) T9) h__).cell 2 rfl, (Blk.keep (Blk.keep (Blk.keep HB4.out T8) T9) h__).cell 3 rfl, (Blk.keep (Blk.keep (Blk.keep HB4.out T8) T9) h__).cell 4 rfl, (Blk.keep (Blk.keep (Blk.keep HB4.out T8) T9) h__).cell 5 rfl, (Blk.keep (Blk.keep (Blk.keep (Blk.keep (Blk.keep (Blk.keep (Blk.keep (Blk.keep (Blk.keep (Blk.keep HBaB.out T1) T2) T3) T4) T5) T6) T7) T8) T9) h__).cell 0 rfl, (Blk.keep (Blk.keep (Blk.keep (Blk.keep (Blk.keep (Blk.keep (Blk.keep (Blk.keep (Blk.keep (Blk.keep HBaB.out T1) T2) T3) T4) T5) T6) T7) T8) T9) h__).cell 1 rfl, (Blk.keep (Blk.keep (Blk.keep (Blk.keep (Blk.keep (Blk.keep (Blk.keep (Blk.keep (Blk.keep (Blk.keep HBaB.out T1) T2) T3) T4) T5) T6) T7) T8) T9) h__).cell 2 rfl, (Blk.keep (Blk.keep (Blk.keep (Blk.keep (Blk.keep (Blk.keep (Blk.keep (Blk.keep (Blk.keep (Blk.keep HBaB.out T1) T2) T3) T4) T5) T6) T7) T8) T9) h__).cell 3 rfl, (Blk.keep (Blk.keep (Blk.keep (Blk.keep (Blk.keep (Blk.keep (Blk.keep (Blk.keep (Blk.keep (Blk.keep HBaB.out T1) T2) T3) T4) T5) T6) T7) T8) T9) h__).cell 4 rfl, (Blk.keep (Blk.keep (Blk.keep (Blk.keep (Blk.keep (Blk.keep (Blk.keep (Blk.keep (Blk.keep (Blk.keep HBaB.out T1) T2) T3) T4) T5) T6) T7) T8) T9) h__).cell 5 rfl⟩); first | exact (Only.refl _ _).drew | exact Only.trans (And.left (by assumption)) (by assumption))) (first
    | (go_at_call 12; (with_reducible refine (toSession_any [.int .i64 aB.puzzle.points, .string aB.puzzle.names, .slice AaB0x2 aB.puzzle.moves.length CaB0x2, .slice AaB1 aB.state.length CaB1, .slice AaB2 aB.history.length CaB2, .slice AaB3 aB.future.length CaB3] aB _ _ (Rp.keep (Rp.keep (Rp.keep (Rp.keep (Rp.keep (Rp.keep (Rp.keep (Rp.keep (Rp.keep (Rp.keep (Rp.keep raB T0) T1) T2) T3) T4) T5) T6) T7) T8) T9) (And.left (by assumption))) smaB).mono ?_); rintro e w11 ⟨u6, f6, rfl, r6, F6, t10⟩)
    | (go_at_call 14; (with_reducible refine (eqSession_any [.int .i64 aB.puzzle.points, .string aB.puzzle.names, .slice A40x2 aB.puzzle.moves.length C40x2, .slice A41 aB.state.length C41, .slice A42 aB.history.length C42, .slice A43 aB.future.length C43] u6 aB aB _ _ _ (Rp.keep (Rp.keep (Rp.keep (Rp.keep r4 T7) T8) T9) (And.left (by assumption))) (Rp.keep r6 (by first | exact Only.refl _ _ | assumption | exact Only.trans (by assumption) (by assumption)))).mono ?_); rintro e w12 ⟨rfl, t11⟩)
    | fail "no arm")
  have T10 : Only [] w10 w11 := ((Only.refl _ _).drew).trans t10
  have S10 : w10.heap.size + 0 ≤ w11.heap.size := by have := T10.size; omega
  have L6 := Rp.lt r6
  have G6 : ∀ b ∈ f6, w10.heap.size ≤ b := fun b hb => by have := F6.ge b hb; first | omega | (simp at this; omega)
  have T11 : Only [] w11 w12 := t11
  have S11 : w11.heap.size + 0 ≤ w12.heap.size := by have := T11.size; omega
  go_wp2
  go_ret
  refine ⟨rfl, ?_⟩
  exact (Only.keepThen (Only.keepThen (Only.keepThen (Only.keepThen (Only.keepThen (Only.keepThen (Only.keepThen (Only.keepThen (Only.keepThen (Only.keepThen (Only.keepThen T0 T1) T2) T3) T4) T5) T6) T7) T8) T9) T10) T11)
end Go.Proofs.Ytpfmkjcngknecaa
