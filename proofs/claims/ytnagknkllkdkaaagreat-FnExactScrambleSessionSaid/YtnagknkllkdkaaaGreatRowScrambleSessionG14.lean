/- The law on ScrambleSession: its walk. (Printed by gen_exact.py.) -/
import Derived.Test.YtnagknkllkdkaaaGreatRowScrambleSessionG13
import Derived.Test.YtnagknkllkdkaaaGreatRowScrambleSessionG10
import Derived.Test.YtnagknkllkdkaaaGreatRowScrambleSessionG5
import Derived.Deep.RegionHeld3
import Derived.Deep.DeepCutAuto
namespace Go.Proofs.YtnagknkllkdkaaaGreat
open Go.RowKit
set_option maxRecDepth 10000

set_option maxHeartbeats 4000000 in
theorem FnExactScrambleSession_any (w : World) (caS : List Value) (aS : Session) (faS : List Nat) (raS : Rp.rep w caS aS faS) (aSeed : Int) (iaSeed : I64 aSeed) :
    Calls Tryz.prog 3 #[.agg caS.toArray, .int .i64 aSeed] w fun e w' => e = .returned (.bool true) ∧ Only [] w w' := by
  have qaS := raS
  obtain ⟨uaS0, uaS1, uaS2, uaS3, _, _, _, _, rfl, -, zaS0, zaS1, zaS2, zaS3⟩ := qaS
  have qaS0x := zaS0
  obtain ⟨uaS0x2, rfl, -, -, zaS0x2⟩ := qaS0x
  obtain ⟨AaS0x2, CaS0x2, _, _, rfl, -⟩ := zaS0x2.open_
  obtain ⟨AaS1, CaS1, _, _, rfl, -⟩ := zaS1.open_
  obtain ⟨AaS2, CaS2, _, _, rfl, -⟩ := zaS2.open_
  obtain ⟨AaS3, CaS3, _, _, rfl, -⟩ := zaS3.open_
  have LaS := Rp.lt raS
  have ibaSeed := iaSeed; unfold I64 at ibaSeed; obtain ⟨ilaSeed, ihaSeed⟩ := ibaSeed
  rcases szV_cases (1048576) aS with ⟨esaS, msaS⟩ | ⟨esaS, psaS, msaS⟩
  · go_enter Tryz.func3, Tryz.ntmps3
    go_wp2_with (with_reducible refine (szSession_any [.int .i64 aS.puzzle.points, .string aS.puzzle.names, .slice AaS0x2 aS.puzzle.moves.length CaS0x2, .slice AaS1 aS.state.length CaS1, .slice AaS2 aS.history.length CaS2, .slice AaS3 aS.future.length CaS3] aS _ (1048576) _ (Rp.keep raS ((Only.refl [] _).alloc (.cells #[.int .i64 aS.puzzle.points, .string aS.puzzle.names, .slice AaS0x2 aS.puzzle.moves.length CaS0x2, .slice AaS1 aS.state.length CaS1, .slice AaS2 aS.history.length CaS2, .slice AaS3 aS.future.length CaS3] 27))) (by omega) (by omega)).mono ?_; rintro e w1 ⟨rfl, t0⟩)
    go_ret
    exact ⟨rfl, (by with_reducible repeat (first | exact Only.refl _ _ | assumption | refine Only.drewN ?_ _ | refine Only.drew ?_ | refine Only.alloc ?_ _ | refine Only.setCell ?_ (by intro hh; exfalso; simp at hh; try omega) _ | refine Only.trans ?_ (by assumption)))⟩
  have smaS : Sm.sm aS := SzSm.of_ _ (by omega)
  have csaS : Mk.cnt aS ≤ 1048576 := Nat.le_trans (CntSz.le aS) (by omega)
  have hcnt := scrS_cnt aS aSeed
  go_enter Tryz.func3, Tryz.ntmps3
  go_wp2_with fail
  with_reducible refine (szSession_any [.int .i64 aS.puzzle.points, .string aS.puzzle.names, .slice AaS0x2 aS.puzzle.moves.length CaS0x2, .slice AaS1 aS.state.length CaS1, .slice AaS2 aS.history.length CaS2, .slice AaS3 aS.future.length CaS3] aS _ (1048576) _ (Rp.keep raS ((Only.refl [] _).alloc (.cells #[.int .i64 aS.puzzle.points, .string aS.puzzle.names, .slice AaS0x2 aS.puzzle.moves.length CaS0x2, .slice AaS1 aS.state.length CaS1, .slice AaS2 aS.history.length CaS2, .slice AaS3 aS.future.length CaS3] 27))) (by omega) (by omega)).mono ?_
  rintro e w1 ⟨rfl, t0⟩
  rw [esaS]
  have T0 : Only [] w w1 := ((Only.refl [] _).alloc (.cells #[.int .i64 aS.puzzle.points, .string aS.puzzle.names, .slice AaS0x2 aS.puzzle.moves.length CaS0x2, .slice AaS1 aS.state.length CaS1, .slice AaS2 aS.history.length CaS2, .slice AaS3 aS.future.length CaS3] 27)).trans t0
  have S0 : w.heap.size + 1 ≤ w1.heap.size := by have := t0.size; simp at this; omega
  have BaS : Blk w1 w.heap.size [.int .i64 aS.puzzle.points, .string aS.puzzle.names, .slice AaS0x2 aS.puzzle.moves.length CaS0x2, .slice AaS1 aS.state.length CaS1, .slice AaS2 aS.history.length CaS2, .slice AaS3 aS.future.length CaS3] := (Blk.keep (Blk.new_at (by simp)) t0)
  have LBaS : w.heap.size < w1.heap.size := BaS.lt
  have HBaS := Lib.hid BaS; clear BaS
  have caS_1_0 := (HBaS.out).cell 0 rfl
  have caS_1_1 := (HBaS.out).cell 1 rfl
  have caS_1_2 := (HBaS.out).cell 2 rfl
  have caS_1_3 := (HBaS.out).cell 3 rfl
  have caS_1_4 := (HBaS.out).cell 4 rfl
  have caS_1_5 := (HBaS.out).cell 5 rfl
  go_wp2_with fail
  with_reducible refine (toSession_any [.int .i64 aS.puzzle.points, .string aS.puzzle.names, .slice AaS0x2 aS.puzzle.moves.length CaS0x2, .slice AaS1 aS.state.length CaS1, .slice AaS2 aS.history.length CaS2, .slice AaS3 aS.future.length CaS3] aS _ _ (Rp.keep raS T0) smaS).mono ?_
  rintro e w2 ⟨u1, f1, rfl, r1, F1, t1⟩
  have T1 : Only [] w1 w2 := t1
  have S1 : w1.heap.size + 0 ≤ w2.heap.size := by have := T1.size; omega
  clear caS_1_0 caS_1_1 caS_1_2 caS_1_3 caS_1_4 caS_1_5
  have q1 := r1
  obtain ⟨u10, u11, u12, u13, _, _, _, _, rfl, -, z10, z11, z12, z13⟩ := q1
  have q10x := z10
  obtain ⟨u10x2, rfl, -, -, z10x2⟩ := q10x
  obtain ⟨A10x2, C10x2, _, _, rfl, -⟩ := z10x2.open_
  obtain ⟨A11, C11, _, _, rfl, -⟩ := z11.open_
  obtain ⟨A12, C12, _, _, rfl, -⟩ := z12.open_
  obtain ⟨A13, C13, _, _, rfl, -⟩ := z13.open_
  have L1 := Rp.lt r1
  have G1 : ∀ b ∈ f1, w1.heap.size ≤ b := fun b hb => by have := F1.ge b hb; omega
  go_wp2_with fail
  with_reducible refine (specScramble_any [.int .i64 aS.puzzle.points, .string aS.puzzle.names, .slice A10x2 aS.puzzle.moves.length C10x2, .slice A11 aS.state.length C11, .slice A12 aS.history.length C12, .slice A13 aS.future.length C13] aS _ aSeed _ r1 iaSeed).mono ?_
  rintro e w3 ⟨u2, f2, rfl, r2, F2, t2⟩
  have T2 : Only [] w2 w3 := t2
  have S2 : w2.heap.size + 0 ≤ w3.heap.size := by have := T2.size; omega
  have q2 := r2
  obtain ⟨u20, u21, u22, u23, _, _, _, _, rfl, -, z20, z21, z22, z23⟩ := q2
  have q20x := z20
  obtain ⟨u20x2, rfl, -, -, z20x2⟩ := q20x
  obtain ⟨A20x2, C20x2, _, _, rfl, -⟩ := z20x2.open_
  obtain ⟨A21, C21, _, _, rfl, -⟩ := z21.open_
  obtain ⟨A22, C22, _, _, rfl, -⟩ := z22.open_
  obtain ⟨A23, C23, _, _, rfl, -⟩ := z23.open_
  have L2 := Rp.lt r2
  have G2 : ∀ b ∈ f2, w2.heap.size ≤ b := fun b hb => by have := F2.ge b hb; omega
  have caS_3_0 := ((Only.refl [] _).alloc (.cells #[.int .i64 (scrS aS aSeed).1.puzzle.points, .string (scrS aS aSeed).1.puzzle.names, .slice A20x2 (scrS aS aSeed).1.puzzle.moves.length C20x2, .slice A21 (scrS aS aSeed).1.state.length C21, .slice A22 (scrS aS aSeed).1.history.length C22, .slice A23 (scrS aS aSeed).1.future.length C23] 31)).cell (by simp) (((Blk.keep (Blk.keep HBaS.out T1) T2)).cell 0 rfl)
  have caS_3_1 := ((Only.refl [] _).alloc (.cells #[.int .i64 (scrS aS aSeed).1.puzzle.points, .string (scrS aS aSeed).1.puzzle.names, .slice A20x2 (scrS aS aSeed).1.puzzle.moves.length C20x2, .slice A21 (scrS aS aSeed).1.state.length C21, .slice A22 (scrS aS aSeed).1.history.length C22, .slice A23 (scrS aS aSeed).1.future.length C23] 31)).cell (by simp) (((Blk.keep (Blk.keep HBaS.out T1) T2)).cell 1 rfl)
  have caS_3_2 := ((Only.refl [] _).alloc (.cells #[.int .i64 (scrS aS aSeed).1.puzzle.points, .string (scrS aS aSeed).1.puzzle.names, .slice A20x2 (scrS aS aSeed).1.puzzle.moves.length C20x2, .slice A21 (scrS aS aSeed).1.state.length C21, .slice A22 (scrS aS aSeed).1.history.length C22, .slice A23 (scrS aS aSeed).1.future.length C23] 31)).cell (by simp) (((Blk.keep (Blk.keep HBaS.out T1) T2)).cell 2 rfl)
  have caS_3_3 := ((Only.refl [] _).alloc (.cells #[.int .i64 (scrS aS aSeed).1.puzzle.points, .string (scrS aS aSeed).1.puzzle.names, .slice A20x2 (scrS aS aSeed).1.puzzle.moves.length C20x2, .slice A21 (scrS aS aSeed).1.state.length C21, .slice A22 (scrS aS aSeed).1.history.length C22, .slice A23 (scrS aS aSeed).1.future.length C23] 31)).cell (by simp) (((Blk.keep (Blk.keep HBaS.out T1) T2)).cell 3 rfl)
  have caS_3_4 := ((Only.refl [] _).alloc (.cells #[.int .i64 (scrS aS aSeed).1.puzzle.points, .string (scrS aS aSeed).1.puzzle.names, .slice A20x2 (scrS aS aSeed).1.puzzle.moves.length C20x2, .slice A21 (scrS aS aSeed).1.state.length C21, .slice A22 (scrS aS aSeed).1.history.length C22, .slice A23 (scrS aS aSeed).1.future.length C23] 31)).cell (by simp) (((Blk.keep (Blk.keep HBaS.out T1) T2)).cell 4 rfl)
  have caS_3_5 := ((Only.refl [] _).alloc (.cells #[.int .i64 (scrS aS aSeed).1.puzzle.points, .string (scrS aS aSeed).1.puzzle.names, .slice A20x2 (scrS aS aSeed).1.puzzle.moves.length C20x2, .slice A21 (scrS aS aSeed).1.state.length C21, .slice A22 (scrS aS aSeed).1.history.length C22, .slice A23 (scrS aS aSeed).1.future.length C23] 31)).cell (by simp) (((Blk.keep (Blk.keep HBaS.out T1) T2)).cell 5 rfl)
  go_wp2_with fail
  with_reducible refine (toSession_any [.int .i64 aS.puzzle.points, .string aS.puzzle.names, .slice AaS0x2 aS.puzzle.moves.length CaS0x2, .slice AaS1 aS.state.length CaS1, .slice AaS2 aS.history.length CaS2, .slice AaS3 aS.future.length CaS3] aS _ _ (Rp.keep (Rp.keep (Rp.keep (Rp.keep raS T0) T1) T2) ((Only.refl [] _).alloc (.cells #[.int .i64 (scrS aS aSeed).1.puzzle.points, .string (scrS aS aSeed).1.puzzle.names, .slice A20x2 (scrS aS aSeed).1.puzzle.moves.length C20x2, .slice A21 (scrS aS aSeed).1.state.length C21, .slice A22 (scrS aS aSeed).1.history.length C22, .slice A23 (scrS aS aSeed).1.future.length C23] 31))) smaS).mono ?_
  rintro e w4 ⟨u3, f3, rfl, r3, F3, t3⟩
  have T3 : Only [] w3 w4 := ((Only.refl [] _).alloc (.cells #[.int .i64 (scrS aS aSeed).1.puzzle.points, .string (scrS aS aSeed).1.puzzle.names, .slice A20x2 (scrS aS aSeed).1.puzzle.moves.length C20x2, .slice A21 (scrS aS aSeed).1.state.length C21, .slice A22 (scrS aS aSeed).1.history.length C22, .slice A23 (scrS aS aSeed).1.future.length C23] 31)).trans t3
  have S3 : w3.heap.size + 1 ≤ w4.heap.size := by have := t3.size; simp at this; omega
  have B2 : Blk w4 w3.heap.size [.int .i64 (scrS aS aSeed).1.puzzle.points, .string (scrS aS aSeed).1.puzzle.names, .slice A20x2 (scrS aS aSeed).1.puzzle.moves.length C20x2, .slice A21 (scrS aS aSeed).1.state.length C21, .slice A22 (scrS aS aSeed).1.history.length C22, .slice A23 (scrS aS aSeed).1.future.length C23] := (Blk.keep (Blk.new_at (by simp)) t3)
  have LB2 : w3.heap.size < w4.heap.size := B2.lt
  have HB2 := Lib.hid B2; clear B2
  clear caS_3_0 caS_3_1 caS_3_2 caS_3_3 caS_3_4 caS_3_5
  have q3 := r3
  obtain ⟨u30, u31, u32, u33, _, _, _, _, rfl, -, z30, z31, z32, z33⟩ := q3
  have q30x := z30
  obtain ⟨u30x2, rfl, -, -, z30x2⟩ := q30x
  obtain ⟨A30x2, C30x2, _, _, rfl, -⟩ := z30x2.open_
  obtain ⟨A31, C31, _, _, rfl, -⟩ := z31.open_
  obtain ⟨A32, C32, _, _, rfl, -⟩ := z32.open_
  obtain ⟨A33, C33, _, _, rfl, -⟩ := z33.open_
  have L3 := Rp.lt r3
  have G3 : ∀ b ∈ f3, w3.heap.size + 1 ≤ b := fun b hb => by have := F3.ge b hb; simp at this; omega
  go_wp2_with fail
  with_reducible refine (implScramble_any [.int .i64 aS.puzzle.points, .string aS.puzzle.names, .slice A30x2 aS.puzzle.moves.length C30x2, .slice A31 aS.state.length C31, .slice A32 aS.history.length C32, .slice A33 aS.future.length C33] aS _ aSeed _ (Rp.keep r3 ((Only.refl [] _).alloc (.cells #[.int .i64 aS.puzzle.points, .string aS.puzzle.names, .slice A30x2 aS.puzzle.moves.length C30x2, .slice A31 aS.state.length C31, .slice A32 aS.history.length C32, .slice A33 aS.future.length C33] 31))) iaSeed).mono ?_
  rintro e w5 ⟨u4, f4, rfl, r4, F4, t4⟩
  have T4 : Only [] w4 w5 := ((Only.refl [] _).alloc (.cells #[.int .i64 aS.puzzle.points, .string aS.puzzle.names, .slice A30x2 aS.puzzle.moves.length C30x2, .slice A31 aS.state.length C31, .slice A32 aS.history.length C32, .slice A33 aS.future.length C33] 31)).trans t4
  have S4 : w4.heap.size + 1 ≤ w5.heap.size := by have := t4.size; simp at this; omega
  have B3 : Blk w5 w4.heap.size [.int .i64 aS.puzzle.points, .string aS.puzzle.names, .slice A30x2 aS.puzzle.moves.length C30x2, .slice A31 aS.state.length C31, .slice A32 aS.history.length C32, .slice A33 aS.future.length C33] := (Blk.keep (Blk.new_at (by simp)) t4)
  have LB3 : w4.heap.size < w5.heap.size := B3.lt
  have HB3 := Lib.hid B3; clear B3
  have q4 := r4
  obtain ⟨u40, u41, u42, u43, _, _, _, _, rfl, -, z40, z41, z42, z43⟩ := q4
  have q40x := z40
  obtain ⟨u40x2, rfl, -, -, z40x2⟩ := q40x
  obtain ⟨A40x2, C40x2, _, _, rfl, -⟩ := z40x2.open_
  obtain ⟨A41, C41, _, _, rfl, -⟩ := z41.open_
  obtain ⟨A42, C42, _, _, rfl, -⟩ := z42.open_
  obtain ⟨A43, C43, _, _, rfl, -⟩ := z43.open_
  have L4 := Rp.lt r4
  have G4 : ∀ b ∈ f4, w4.heap.size + 1 ≤ b := fun b hb => by have := F4.ge b hb; simp at this; omega
  have c2_5_0 := ((Only.refl [] _).alloc (.cells #[.int .i64 (scrS aS aSeed).1.puzzle.points, .string (scrS aS aSeed).1.puzzle.names, .slice A40x2 (scrS aS aSeed).1.puzzle.moves.length C40x2, .slice A41 (scrS aS aSeed).1.state.length C41, .slice A42 (scrS aS aSeed).1.history.length C42, .slice A43 (scrS aS aSeed).1.future.length C43] 31)).cell (by simp) (((Blk.keep HB2.out T4)).cell 0 rfl)
  have c2_5_1 := ((Only.refl [] _).alloc (.cells #[.int .i64 (scrS aS aSeed).1.puzzle.points, .string (scrS aS aSeed).1.puzzle.names, .slice A40x2 (scrS aS aSeed).1.puzzle.moves.length C40x2, .slice A41 (scrS aS aSeed).1.state.length C41, .slice A42 (scrS aS aSeed).1.history.length C42, .slice A43 (scrS aS aSeed).1.future.length C43] 31)).cell (by simp) (((Blk.keep HB2.out T4)).cell 1 rfl)
  have c2_5_2 := ((Only.refl [] _).alloc (.cells #[.int .i64 (scrS aS aSeed).1.puzzle.points, .string (scrS aS aSeed).1.puzzle.names, .slice A40x2 (scrS aS aSeed).1.puzzle.moves.length C40x2, .slice A41 (scrS aS aSeed).1.state.length C41, .slice A42 (scrS aS aSeed).1.history.length C42, .slice A43 (scrS aS aSeed).1.future.length C43] 31)).cell (by simp) (((Blk.keep HB2.out T4)).cell 2 rfl)
  have c2_5_3 := ((Only.refl [] _).alloc (.cells #[.int .i64 (scrS aS aSeed).1.puzzle.points, .string (scrS aS aSeed).1.puzzle.names, .slice A40x2 (scrS aS aSeed).1.puzzle.moves.length C40x2, .slice A41 (scrS aS aSeed).1.state.length C41, .slice A42 (scrS aS aSeed).1.history.length C42, .slice A43 (scrS aS aSeed).1.future.length C43] 31)).cell (by simp) (((Blk.keep HB2.out T4)).cell 3 rfl)
  have c2_5_4 := ((Only.refl [] _).alloc (.cells #[.int .i64 (scrS aS aSeed).1.puzzle.points, .string (scrS aS aSeed).1.puzzle.names, .slice A40x2 (scrS aS aSeed).1.puzzle.moves.length C40x2, .slice A41 (scrS aS aSeed).1.state.length C41, .slice A42 (scrS aS aSeed).1.history.length C42, .slice A43 (scrS aS aSeed).1.future.length C43] 31)).cell (by simp) (((Blk.keep HB2.out T4)).cell 4 rfl)
  have c2_5_5 := ((Only.refl [] _).alloc (.cells #[.int .i64 (scrS aS aSeed).1.puzzle.points, .string (scrS aS aSeed).1.puzzle.names, .slice A40x2 (scrS aS aSeed).1.puzzle.moves.length C40x2, .slice A41 (scrS aS aSeed).1.state.length C41, .slice A42 (scrS aS aSeed).1.history.length C42, .slice A43 (scrS aS aSeed).1.future.length C43] 31)).cell (by simp) (((Blk.keep HB2.out T4)).cell 5 rfl)
  have e5 : eqV (scrS aS aSeed).1 (scrS aS aSeed).1 = true := eqV_yes rfl
  go_wp2_with fail
  with_reducible refine (eqSession_any [.int .i64 (scrS aS aSeed).1.puzzle.points, .string (scrS aS aSeed).1.puzzle.names, .slice A40x2 (scrS aS aSeed).1.puzzle.moves.length C40x2, .slice A41 (scrS aS aSeed).1.state.length C41, .slice A42 (scrS aS aSeed).1.history.length C42, .slice A43 (scrS aS aSeed).1.future.length C43] [.int .i64 (scrS aS aSeed).1.puzzle.points, .string (scrS aS aSeed).1.puzzle.names, .slice A20x2 (scrS aS aSeed).1.puzzle.moves.length C20x2, .slice A21 (scrS aS aSeed).1.state.length C21, .slice A22 (scrS aS aSeed).1.history.length C22, .slice A23 (scrS aS aSeed).1.future.length C23] (scrS aS aSeed).1 (scrS aS aSeed).1 _ _ _ (Rp.keep r4 ((Only.refl [] _).alloc (.cells #[.int .i64 (scrS aS aSeed).1.puzzle.points, .string (scrS aS aSeed).1.puzzle.names, .slice A40x2 (scrS aS aSeed).1.puzzle.moves.length C40x2, .slice A41 (scrS aS aSeed).1.state.length C41, .slice A42 (scrS aS aSeed).1.history.length C42, .slice A43 (scrS aS aSeed).1.future.length C43] 31))) (Rp.keep (Rp.keep (Rp.keep r2 T3) T4) ((Only.refl [] _).alloc (.cells #[.int .i64 (scrS aS aSeed).1.puzzle.points, .string (scrS aS aSeed).1.puzzle.names, .slice A40x2 (scrS aS aSeed).1.puzzle.moves.length C40x2, .slice A41 (scrS aS aSeed).1.state.length C41, .slice A42 (scrS aS aSeed).1.history.length C42, .slice A43 (scrS aS aSeed).1.future.length C43] 31)))).mono ?_
  rintro e w6 ⟨rfl, t5⟩
  have T5 : Only [] w5 w6 := ((Only.refl [] _).alloc (.cells #[.int .i64 (scrS aS aSeed).1.puzzle.points, .string (scrS aS aSeed).1.puzzle.names, .slice A40x2 (scrS aS aSeed).1.puzzle.moves.length C40x2, .slice A41 (scrS aS aSeed).1.state.length C41, .slice A42 (scrS aS aSeed).1.history.length C42, .slice A43 (scrS aS aSeed).1.future.length C43] 31)).trans t5
  have S5 : w5.heap.size + 1 ≤ w6.heap.size := by have := t5.size; simp at this; omega
  have B4 : Blk w6 w5.heap.size [.int .i64 (scrS aS aSeed).1.puzzle.points, .string (scrS aS aSeed).1.puzzle.names, .slice A40x2 (scrS aS aSeed).1.puzzle.moves.length C40x2, .slice A41 (scrS aS aSeed).1.state.length C41, .slice A42 (scrS aS aSeed).1.history.length C42, .slice A43 (scrS aS aSeed).1.future.length C43] := (Blk.keep (Blk.new_at (by simp)) t5)
  have LB4 : w5.heap.size < w6.heap.size := B4.lt
  have HB4 := Lib.hid B4; clear B4
  clear c2_5_0 c2_5_1 c2_5_2 c2_5_3 c2_5_4 c2_5_5
  go_upto_region 10 with fail
  have e7 : eqV aS aS = true := eqV_yes rfl
  go_region_held3 (fun w' => Only [] w6 w' ∧ w'.cell? ⟨w4.heap.size, 0, none⟩ = some (.int .i64 aS.puzzle.points) ∧ w'.cell? ⟨w4.heap.size, 1, none⟩ = some (.string aS.puzzle.names) ∧ w'.cell? ⟨w4.heap.size, 2, none⟩ = some (.slice A30x2 aS.puzzle.moves.length C30x2) ∧ w'.cell? ⟨w4.heap.size, 3, none⟩ = some (.slice A31 aS.state.length C31) ∧ w'.cell? ⟨w4.heap.size, 4, none⟩ = some (.slice A32 aS.history.length C32) ∧ w'.cell? ⟨w4.heap.size, 5, none⟩ = some (.slice A33 aS.future.length C33) ∧ w'.cell? ⟨w.heap.size, 0, none⟩ = some (.int .i64 aS.puzzle.points) ∧ w'.cell? ⟨w.heap.size, 1, none⟩ = some (.string aS.puzzle.names) ∧ w'.cell? ⟨w.heap.size, 2, none⟩ = some (.slice AaS0x2 aS.puzzle.moves.length CaS0x2) ∧ w'.cell? ⟨w.heap.size, 3, none⟩ = some (.slice AaS1 aS.state.length CaS1) ∧ w'.cell? ⟨w.heap.size, 4, none⟩ = some (.slice AaS2 aS.history.length CaS2) ∧ w'.cell? ⟨w.heap.size, 5, none⟩ = some (.slice AaS3 aS.future.length CaS3)) ((refine and_of ?_ (fun h__ => ⟨(Blk.keep (Blk.keep HB3.out T5) h__).cell 0 rfl, (Blk.keep (Blk.keep HB3.out T5) h__).cell 1 rfl, (Blk.keep (Blk.keep HB3.out T5) h__).cell 2 rfl, (Blk.keep (Blk.keep HB3.out T5) h__).cell 3 rfl, (Blk.keep (Blk.keep HB3.out T5) h__).cell 4 rfl, (Blk.keep (Blk.keep HB3.out T5) h__).cell 5 rfl, (Blk.keep (Blk.keep (Blk.keep (Blk.keep (Blk.keep (Blk.keep HBaS.out T1) T2) T3) T4) T5) h__).cell 0 rfl, (Blk.keep (Blk.keep (Blk.keep (Blk.keep (Blk.keep (Blk.keep HBaS.out T1) T2) T3) T4) T5) h__).cell 1 rfl, (Blk.keep (Blk.keep (Blk.keep (Blk.keep (Blk.keep (Blk.keep HBaS.out T1) T2) T3) T4) T5) h__).cell 2 rfl, (Blk.keep (Blk.keep (Blk.keep (Blk.keep (Blk.keep (Blk.keep HBaS.out T1) T2) T3) T4) T5) h__).cell 3 rfl, (Blk.keep (Blk.keep (Blk.keep (Blk.keep (Blk.keep (Blk.keep HBaS.out T1) T2) T3) T4) T5) h__).cell 4 rfl, (Blk.keep (Blk.keep (Blk.keep (Blk.keep (Blk.keep (Blk.keep HBaS.out T1) T2) T3) T4) T5) h__).cell 5 rfl⟩); first | exact (Only.refl _ _).drew | exact Only.trans (And.left (by assumption)) (by assumption))) (first
    | (go_at_call 6; (with_reducible refine (toSession_any [.int .i64 aS.puzzle.points, .string aS.puzzle.names, .slice AaS0x2 aS.puzzle.moves.length CaS0x2, .slice AaS1 aS.state.length CaS1, .slice AaS2 aS.history.length CaS2, .slice AaS3 aS.future.length CaS3] aS _ _ (Rp.keep (Rp.keep (Rp.keep (Rp.keep (Rp.keep (Rp.keep (Rp.keep raS T0) T1) T2) T3) T4) T5) (And.left (by assumption))) smaS).mono ?_); rintro e w7 ⟨u5, f5, rfl, r5, F5, t6⟩)
    | (go_at_call 8; (with_reducible refine (eqSession_any [.int .i64 aS.puzzle.points, .string aS.puzzle.names, .slice A30x2 aS.puzzle.moves.length C30x2, .slice A31 aS.state.length C31, .slice A32 aS.history.length C32, .slice A33 aS.future.length C33] u5 aS aS _ _ _ (Rp.keep (Rp.keep (Rp.keep r3 T4) T5) (And.left (by assumption))) (Rp.keep r5 (by first | exact Only.refl _ _ | assumption | exact Only.trans (by assumption) (by assumption)))).mono ?_); rintro e w8 ⟨rfl, t7⟩)
    | fail "no arm")
  have T6 : Only [] w6 w7 := ((Only.refl _ _).drew).trans t6
  have S6 : w6.heap.size + 0 ≤ w7.heap.size := by have := T6.size; omega
  have L5 := Rp.lt r5
  have G5 : ∀ b ∈ f5, w6.heap.size ≤ b := fun b hb => by have := F5.ge b hb; first | omega | (simp at this; omega)
  have T7 : Only [] w7 w8 := t7
  have S7 : w7.heap.size + 0 ≤ w8.heap.size := by have := T7.size; omega
  have c3_8_0 := ((Blk.keep (Blk.keep (Blk.keep HB3.out T5) T6) T7)).cell 0 rfl
  have c3_8_1 := ((Blk.keep (Blk.keep (Blk.keep HB3.out T5) T6) T7)).cell 1 rfl
  have c3_8_2 := ((Blk.keep (Blk.keep (Blk.keep HB3.out T5) T6) T7)).cell 2 rfl
  have c3_8_3 := ((Blk.keep (Blk.keep (Blk.keep HB3.out T5) T6) T7)).cell 3 rfl
  have c3_8_4 := ((Blk.keep (Blk.keep (Blk.keep HB3.out T5) T6) T7)).cell 4 rfl
  have c3_8_5 := ((Blk.keep (Blk.keep (Blk.keep HB3.out T5) T6) T7)).cell 5 rfl
  have m8 : (1 : Int) + (Mk.cnt aS : Nat) ≤ 4611686018427387904 := by omega
  go_wp2_with fail
  with_reducible refine (markSession_any [.int .i64 aS.puzzle.points, .string aS.puzzle.names, .slice A30x2 aS.puzzle.moves.length C30x2, .slice A31 aS.state.length C31, .slice A32 aS.history.length C32, .slice A33 aS.future.length C33] aS f3 (1) _ (Rp.keep (Rp.keep (Rp.keep (Rp.keep r3 T4) T5) T6) T7) F3.nd (Own.keep (Own.keep (Own.keep (Own.keep F3.own T4) T5) T6) T7) (by omega) m8).mono ?_
  rintro e w9 ⟨rfl, rr8, oo8, t8⟩
  have T8 : Only f3 w8 w9 := t8
  have S8 : w8.heap.size + 0 ≤ w9.heap.size := by have := T8.size; omega
  clear c3_8_0 c3_8_1 c3_8_2 c3_8_3 c3_8_4 c3_8_5
  clear r3
  have r3 := rr8
  have O3 := oo8
  have c4_9_0 := ((Blk.only (Blk.keep (Blk.keep HB4.out T6) T7) T8 (fun hm => by have := L3 _ hm; omega))).cell 0 rfl
  have c4_9_1 := ((Blk.only (Blk.keep (Blk.keep HB4.out T6) T7) T8 (fun hm => by have := L3 _ hm; omega))).cell 1 rfl
  have c4_9_2 := ((Blk.only (Blk.keep (Blk.keep HB4.out T6) T7) T8 (fun hm => by have := L3 _ hm; omega))).cell 2 rfl
  have c4_9_3 := ((Blk.only (Blk.keep (Blk.keep HB4.out T6) T7) T8 (fun hm => by have := L3 _ hm; omega))).cell 3 rfl
  have c4_9_4 := ((Blk.only (Blk.keep (Blk.keep HB4.out T6) T7) T8 (fun hm => by have := L3 _ hm; omega))).cell 4 rfl
  have c4_9_5 := ((Blk.only (Blk.keep (Blk.keep HB4.out T6) T7) T8 (fun hm => by have := L3 _ hm; omega))).cell 5 rfl
  have c2_9_0 := ((Blk.only (Blk.keep (Blk.keep (Blk.keep (Blk.keep HB2.out T4) T5) T6) T7) T8 (fun hm => by have := G3 _ hm; have := LB2; omega))).cell 0 rfl
  have c2_9_1 := ((Blk.only (Blk.keep (Blk.keep (Blk.keep (Blk.keep HB2.out T4) T5) T6) T7) T8 (fun hm => by have := G3 _ hm; have := LB2; omega))).cell 1 rfl
  have c2_9_2 := ((Blk.only (Blk.keep (Blk.keep (Blk.keep (Blk.keep HB2.out T4) T5) T6) T7) T8 (fun hm => by have := G3 _ hm; have := LB2; omega))).cell 2 rfl
  have c2_9_3 := ((Blk.only (Blk.keep (Blk.keep (Blk.keep (Blk.keep HB2.out T4) T5) T6) T7) T8 (fun hm => by have := G3 _ hm; have := LB2; omega))).cell 3 rfl
  have c2_9_4 := ((Blk.only (Blk.keep (Blk.keep (Blk.keep (Blk.keep HB2.out T4) T5) T6) T7) T8 (fun hm => by have := G3 _ hm; have := LB2; omega))).cell 4 rfl
  have c2_9_5 := ((Blk.only (Blk.keep (Blk.keep (Blk.keep (Blk.keep HB2.out T4) T5) T6) T7) T8 (fun hm => by have := G3 _ hm; have := LB2; omega))).cell 5 rfl
  have e9 : eqV (scrS aS aSeed).1 (scrS aS aSeed).1 = true := eqV_yes rfl
  go_wp2_with fail
  with_reducible refine (eqSession_any [.int .i64 (scrS aS aSeed).1.puzzle.points, .string (scrS aS aSeed).1.puzzle.names, .slice A40x2 (scrS aS aSeed).1.puzzle.moves.length C40x2, .slice A41 (scrS aS aSeed).1.state.length C41, .slice A42 (scrS aS aSeed).1.history.length C42, .slice A43 (scrS aS aSeed).1.future.length C43] [.int .i64 (scrS aS aSeed).1.puzzle.points, .string (scrS aS aSeed).1.puzzle.names, .slice A20x2 (scrS aS aSeed).1.puzzle.moves.length C20x2, .slice A21 (scrS aS aSeed).1.state.length C21, .slice A22 (scrS aS aSeed).1.history.length C22, .slice A23 (scrS aS aSeed).1.future.length C23] (scrS aS aSeed).1 (scrS aS aSeed).1 _ _ _ (Rp.only (Rp.keep (Rp.keep (Rp.keep r4 T5) T6) T7) T8 (fun b hb hm => by have := G4 b hb; have := L3 b hm; omega)) (Rp.only (Rp.keep (Rp.keep (Rp.keep (Rp.keep (Rp.keep r2 T3) T4) T5) T6) T7) T8 (fun b hb hm => by have := L2 b hb; have := G3 b hm; omega))).mono ?_
  rintro e w10 ⟨rfl, t9⟩
  have T9 : Only [] w9 w10 := t9
  have S9 : w9.heap.size + 0 ≤ w10.heap.size := by have := T9.size; omega
  clear c4_9_0 c4_9_1 c4_9_2 c4_9_3 c4_9_4 c4_9_5 c2_9_0 c2_9_1 c2_9_2 c2_9_3 c2_9_4 c2_9_5
  have c4_10_0 := ((Blk.keep (Blk.only (Blk.keep (Blk.keep HB4.out T6) T7) T8 (fun hm => by have := L3 _ hm; omega)) T9)).cell 0 rfl
  have c4_10_1 := ((Blk.keep (Blk.only (Blk.keep (Blk.keep HB4.out T6) T7) T8 (fun hm => by have := L3 _ hm; omega)) T9)).cell 1 rfl
  have c4_10_2 := ((Blk.keep (Blk.only (Blk.keep (Blk.keep HB4.out T6) T7) T8 (fun hm => by have := L3 _ hm; omega)) T9)).cell 2 rfl
  have c4_10_3 := ((Blk.keep (Blk.only (Blk.keep (Blk.keep HB4.out T6) T7) T8 (fun hm => by have := L3 _ hm; omega)) T9)).cell 3 rfl
  have c4_10_4 := ((Blk.keep (Blk.only (Blk.keep (Blk.keep HB4.out T6) T7) T8 (fun hm => by have := L3 _ hm; omega)) T9)).cell 4 rfl
  have c4_10_5 := ((Blk.keep (Blk.only (Blk.keep (Blk.keep HB4.out T6) T7) T8 (fun hm => by have := L3 _ hm; omega)) T9)).cell 5 rfl
  have m10 : (1 : Int) + (Mk.cnt (scrS aS aSeed).1 : Nat) ≤ 4611686018427387904 := by omega
  go_wp2_with fail
  with_reducible refine (markSession_any [.int .i64 (scrS aS aSeed).1.puzzle.points, .string (scrS aS aSeed).1.puzzle.names, .slice A40x2 (scrS aS aSeed).1.puzzle.moves.length C40x2, .slice A41 (scrS aS aSeed).1.state.length C41, .slice A42 (scrS aS aSeed).1.history.length C42, .slice A43 (scrS aS aSeed).1.future.length C43] (scrS aS aSeed).1 f4 (1) _ (Rp.keep (Rp.only (Rp.keep (Rp.keep (Rp.keep r4 T5) T6) T7) T8 (fun b hb hm => by have := G4 b hb; have := L3 b hm; omega)) T9) F4.nd (Own.keep (Own.only (Own.keep (Own.keep (Own.keep F4.own T5) T6) T7) T8 (fun b hb hm => by have := G4 b hb; have := L3 b hm; omega)) T9) (by omega) m10).mono ?_
  rintro e w11 ⟨rfl, rr10, oo10, t10⟩
  have T10 : Only f4 w10 w11 := t10
  have S10 : w10.heap.size + 0 ≤ w11.heap.size := by have := T10.size; omega
  clear c4_10_0 c4_10_1 c4_10_2 c4_10_3 c4_10_4 c4_10_5
  clear r4
  have r4 := rr10
  have O4 := oo10
  have c4_11_0 := ((Blk.only (Blk.keep (Blk.only (Blk.keep (Blk.keep HB4.out T6) T7) T8 (fun hm => by have := L3 _ hm; omega)) T9) T10 (fun hm => by have := L4 _ hm; omega))).cell 0 rfl
  have c4_11_1 := ((Blk.only (Blk.keep (Blk.only (Blk.keep (Blk.keep HB4.out T6) T7) T8 (fun hm => by have := L3 _ hm; omega)) T9) T10 (fun hm => by have := L4 _ hm; omega))).cell 1 rfl
  have c4_11_2 := ((Blk.only (Blk.keep (Blk.only (Blk.keep (Blk.keep HB4.out T6) T7) T8 (fun hm => by have := L3 _ hm; omega)) T9) T10 (fun hm => by have := L4 _ hm; omega))).cell 2 rfl
  have c4_11_3 := ((Blk.only (Blk.keep (Blk.only (Blk.keep (Blk.keep HB4.out T6) T7) T8 (fun hm => by have := L3 _ hm; omega)) T9) T10 (fun hm => by have := L4 _ hm; omega))).cell 3 rfl
  have c4_11_4 := ((Blk.only (Blk.keep (Blk.only (Blk.keep (Blk.keep HB4.out T6) T7) T8 (fun hm => by have := L3 _ hm; omega)) T9) T10 (fun hm => by have := L4 _ hm; omega))).cell 4 rfl
  have c4_11_5 := ((Blk.only (Blk.keep (Blk.only (Blk.keep (Blk.keep HB4.out T6) T7) T8 (fun hm => by have := L3 _ hm; omega)) T9) T10 (fun hm => by have := L4 _ hm; omega))).cell 5 rfl
  have h11 : heldV (1) (Mk.mark (1) (scrS aS aSeed).1) = 1 + (Mk.cnt (scrS aS aSeed).1 : Nat) := heldV_mark (1) (scrS aS aSeed).1
  have m11 : (1 : Int) + (Mk.cnt (Mk.mark (1) (scrS aS aSeed).1) : Nat) ≤ 4611686018427387904 := by rw [MkL.cnt]; omega
  go_wp2_with fail
  with_reducible refine (heldSession_any [.int .i64 (scrS aS aSeed).1.puzzle.points, .string (scrS aS aSeed).1.puzzle.names, .slice A40x2 (scrS aS aSeed).1.puzzle.moves.length C40x2, .slice A41 (scrS aS aSeed).1.state.length C41, .slice A42 (scrS aS aSeed).1.history.length C42, .slice A43 (scrS aS aSeed).1.future.length C43] (Mk.mark (1) (scrS aS aSeed).1) _ (1) _ r4 (by omega) m11).mono ?_
  rintro e w12 ⟨rfl, t11⟩
  have T11 : Only [] w11 w12 := t11
  have S11 : w11.heap.size + 0 ≤ w12.heap.size := by have := T11.size; omega
  clear c4_11_0 c4_11_1 c4_11_2 c4_11_3 c4_11_4 c4_11_5
  have caS_12_0 := ((Blk.keep (Blk.only (Blk.keep (Blk.only (Blk.keep (Blk.keep (Blk.keep (Blk.keep (Blk.keep (Blk.keep (Blk.keep HBaS.out T1) T2) T3) T4) T5) T6) T7) T8 (fun hm => by have := G3 _ hm; have := LBaS; omega)) T9) T10 (fun hm => by have := G4 _ hm; have := LBaS; omega)) T11)).cell 0 rfl
  have caS_12_1 := ((Blk.keep (Blk.only (Blk.keep (Blk.only (Blk.keep (Blk.keep (Blk.keep (Blk.keep (Blk.keep (Blk.keep (Blk.keep HBaS.out T1) T2) T3) T4) T5) T6) T7) T8 (fun hm => by have := G3 _ hm; have := LBaS; omega)) T9) T10 (fun hm => by have := G4 _ hm; have := LBaS; omega)) T11)).cell 1 rfl
  have caS_12_2 := ((Blk.keep (Blk.only (Blk.keep (Blk.only (Blk.keep (Blk.keep (Blk.keep (Blk.keep (Blk.keep (Blk.keep (Blk.keep HBaS.out T1) T2) T3) T4) T5) T6) T7) T8 (fun hm => by have := G3 _ hm; have := LBaS; omega)) T9) T10 (fun hm => by have := G4 _ hm; have := LBaS; omega)) T11)).cell 2 rfl
  have caS_12_3 := ((Blk.keep (Blk.only (Blk.keep (Blk.only (Blk.keep (Blk.keep (Blk.keep (Blk.keep (Blk.keep (Blk.keep (Blk.keep HBaS.out T1) T2) T3) T4) T5) T6) T7) T8 (fun hm => by have := G3 _ hm; have := LBaS; omega)) T9) T10 (fun hm => by have := G4 _ hm; have := LBaS; omega)) T11)).cell 3 rfl
  have caS_12_4 := ((Blk.keep (Blk.only (Blk.keep (Blk.only (Blk.keep (Blk.keep (Blk.keep (Blk.keep (Blk.keep (Blk.keep (Blk.keep HBaS.out T1) T2) T3) T4) T5) T6) T7) T8 (fun hm => by have := G3 _ hm; have := LBaS; omega)) T9) T10 (fun hm => by have := G4 _ hm; have := LBaS; omega)) T11)).cell 4 rfl
  have caS_12_5 := ((Blk.keep (Blk.only (Blk.keep (Blk.only (Blk.keep (Blk.keep (Blk.keep (Blk.keep (Blk.keep (Blk.keep (Blk.keep HBaS.out T1) T2) T3) T4) T5) T6) T7) T8 (fun hm => by have := G3 _ hm; have := LBaS; omega)) T9) T10 (fun hm => by have := G4 _ hm; have := LBaS; omega)) T11)).cell 5 rfl
  go_wp2_with fail
  with_reducible refine (toSession_any [.int .i64 aS.puzzle.points, .string aS.puzzle.names, .slice AaS0x2 aS.puzzle.moves.length CaS0x2, .slice AaS1 aS.state.length CaS1, .slice AaS2 aS.history.length CaS2, .slice AaS3 aS.future.length CaS3] aS _ _ (Rp.keep (Rp.only (Rp.keep (Rp.only (Rp.keep (Rp.keep (Rp.keep (Rp.keep (Rp.keep (Rp.keep (Rp.keep (Rp.keep raS T0) T1) T2) T3) T4) T5) T6) T7) T8 (fun b hb hm => by have := LaS b hb; have := G3 b hm; omega)) T9) T10 (fun b hb hm => by have := LaS b hb; have := G4 b hm; omega)) T11) smaS).mono ?_
  rintro e w13 ⟨u6, f6, rfl, r6, F6, t12⟩
  have T12 : Only [] w12 w13 := t12
  have S12 : w12.heap.size + 0 ≤ w13.heap.size := by have := T12.size; omega
  clear caS_12_0 caS_12_1 caS_12_2 caS_12_3 caS_12_4 caS_12_5
  have q6 := r6
  obtain ⟨u60, u61, u62, u63, _, _, _, _, rfl, -, z60, z61, z62, z63⟩ := q6
  have q60x := z60
  obtain ⟨u60x2, rfl, -, -, z60x2⟩ := q60x
  obtain ⟨A60x2, C60x2, _, _, rfl, -⟩ := z60x2.open_
  obtain ⟨A61, C61, _, _, rfl, -⟩ := z61.open_
  obtain ⟨A62, C62, _, _, rfl, -⟩ := z62.open_
  obtain ⟨A63, C63, _, _, rfl, -⟩ := z63.open_
  have L6 := Rp.lt r6
  have G6 : ∀ b ∈ f6, w12.heap.size ≤ b := fun b hb => by have := F6.ge b hb; omega
  go_wp2_with fail
  with_reducible refine (implScramble_any [.int .i64 aS.puzzle.points, .string aS.puzzle.names, .slice A60x2 aS.puzzle.moves.length C60x2, .slice A61 aS.state.length C61, .slice A62 aS.history.length C62, .slice A63 aS.future.length C63] aS _ aSeed _ r6 iaSeed).mono ?_
  rintro e w14 ⟨u7, f7, rfl, r7, F7, t13⟩
  have T13 : Only [] w13 w14 := t13
  have S13 : w13.heap.size + 0 ≤ w14.heap.size := by have := T13.size; omega
  have q7 := r7
  obtain ⟨u70, u71, u72, u73, _, _, _, _, rfl, -, z70, z71, z72, z73⟩ := q7
  have q70x := z70
  obtain ⟨u70x2, rfl, -, -, z70x2⟩ := q70x
  obtain ⟨A70x2, C70x2, _, _, rfl, -⟩ := z70x2.open_
  obtain ⟨A71, C71, _, _, rfl, -⟩ := z71.open_
  obtain ⟨A72, C72, _, _, rfl, -⟩ := z72.open_
  obtain ⟨A73, C73, _, _, rfl, -⟩ := z73.open_
  have L7 := Rp.lt r7
  have G7 : ∀ b ∈ f7, w13.heap.size ≤ b := fun b hb => by have := F7.ge b hb; omega
  have c2_14_0 := ((Only.refl [] _).alloc (.cells #[.int .i64 (scrS aS aSeed).1.puzzle.points, .string (scrS aS aSeed).1.puzzle.names, .slice A70x2 (scrS aS aSeed).1.puzzle.moves.length C70x2, .slice A71 (scrS aS aSeed).1.state.length C71, .slice A72 (scrS aS aSeed).1.history.length C72, .slice A73 (scrS aS aSeed).1.future.length C73] 31)).cell (by simp) (((Blk.keep (Blk.keep (Blk.keep (Blk.only (Blk.keep (Blk.only (Blk.keep (Blk.keep (Blk.keep (Blk.keep HB2.out T4) T5) T6) T7) T8 (fun hm => by have := G3 _ hm; have := LB2; omega)) T9) T10 (fun hm => by have := G4 _ hm; have := LB2; omega)) T11) T12) T13)).cell 0 rfl)
  have c2_14_1 := ((Only.refl [] _).alloc (.cells #[.int .i64 (scrS aS aSeed).1.puzzle.points, .string (scrS aS aSeed).1.puzzle.names, .slice A70x2 (scrS aS aSeed).1.puzzle.moves.length C70x2, .slice A71 (scrS aS aSeed).1.state.length C71, .slice A72 (scrS aS aSeed).1.history.length C72, .slice A73 (scrS aS aSeed).1.future.length C73] 31)).cell (by simp) (((Blk.keep (Blk.keep (Blk.keep (Blk.only (Blk.keep (Blk.only (Blk.keep (Blk.keep (Blk.keep (Blk.keep HB2.out T4) T5) T6) T7) T8 (fun hm => by have := G3 _ hm; have := LB2; omega)) T9) T10 (fun hm => by have := G4 _ hm; have := LB2; omega)) T11) T12) T13)).cell 1 rfl)
  have c2_14_2 := ((Only.refl [] _).alloc (.cells #[.int .i64 (scrS aS aSeed).1.puzzle.points, .string (scrS aS aSeed).1.puzzle.names, .slice A70x2 (scrS aS aSeed).1.puzzle.moves.length C70x2, .slice A71 (scrS aS aSeed).1.state.length C71, .slice A72 (scrS aS aSeed).1.history.length C72, .slice A73 (scrS aS aSeed).1.future.length C73] 31)).cell (by simp) (((Blk.keep (Blk.keep (Blk.keep (Blk.only (Blk.keep (Blk.only (Blk.keep (Blk.keep (Blk.keep (Blk.keep HB2.out T4) T5) T6) T7) T8 (fun hm => by have := G3 _ hm; have := LB2; omega)) T9) T10 (fun hm => by have := G4 _ hm; have := LB2; omega)) T11) T12) T13)).cell 2 rfl)
  have c2_14_3 := ((Only.refl [] _).alloc (.cells #[.int .i64 (scrS aS aSeed).1.puzzle.points, .string (scrS aS aSeed).1.puzzle.names, .slice A70x2 (scrS aS aSeed).1.puzzle.moves.length C70x2, .slice A71 (scrS aS aSeed).1.state.length C71, .slice A72 (scrS aS aSeed).1.history.length C72, .slice A73 (scrS aS aSeed).1.future.length C73] 31)).cell (by simp) (((Blk.keep (Blk.keep (Blk.keep (Blk.only (Blk.keep (Blk.only (Blk.keep (Blk.keep (Blk.keep (Blk.keep HB2.out T4) T5) T6) T7) T8 (fun hm => by have := G3 _ hm; have := LB2; omega)) T9) T10 (fun hm => by have := G4 _ hm; have := LB2; omega)) T11) T12) T13)).cell 3 rfl)
  have c2_14_4 := ((Only.refl [] _).alloc (.cells #[.int .i64 (scrS aS aSeed).1.puzzle.points, .string (scrS aS aSeed).1.puzzle.names, .slice A70x2 (scrS aS aSeed).1.puzzle.moves.length C70x2, .slice A71 (scrS aS aSeed).1.state.length C71, .slice A72 (scrS aS aSeed).1.history.length C72, .slice A73 (scrS aS aSeed).1.future.length C73] 31)).cell (by simp) (((Blk.keep (Blk.keep (Blk.keep (Blk.only (Blk.keep (Blk.only (Blk.keep (Blk.keep (Blk.keep (Blk.keep HB2.out T4) T5) T6) T7) T8 (fun hm => by have := G3 _ hm; have := LB2; omega)) T9) T10 (fun hm => by have := G4 _ hm; have := LB2; omega)) T11) T12) T13)).cell 4 rfl)
  have c2_14_5 := ((Only.refl [] _).alloc (.cells #[.int .i64 (scrS aS aSeed).1.puzzle.points, .string (scrS aS aSeed).1.puzzle.names, .slice A70x2 (scrS aS aSeed).1.puzzle.moves.length C70x2, .slice A71 (scrS aS aSeed).1.state.length C71, .slice A72 (scrS aS aSeed).1.history.length C72, .slice A73 (scrS aS aSeed).1.future.length C73] 31)).cell (by simp) (((Blk.keep (Blk.keep (Blk.keep (Blk.only (Blk.keep (Blk.only (Blk.keep (Blk.keep (Blk.keep (Blk.keep HB2.out T4) T5) T6) T7) T8 (fun hm => by have := G3 _ hm; have := LB2; omega)) T9) T10 (fun hm => by have := G4 _ hm; have := LB2; omega)) T11) T12) T13)).cell 5 rfl)
  have e14 : eqV (scrS aS aSeed).1 (scrS aS aSeed).1 = true := eqV_yes rfl
  go_wp2_with fail
  with_reducible refine (eqSession_any [.int .i64 (scrS aS aSeed).1.puzzle.points, .string (scrS aS aSeed).1.puzzle.names, .slice A70x2 (scrS aS aSeed).1.puzzle.moves.length C70x2, .slice A71 (scrS aS aSeed).1.state.length C71, .slice A72 (scrS aS aSeed).1.history.length C72, .slice A73 (scrS aS aSeed).1.future.length C73] [.int .i64 (scrS aS aSeed).1.puzzle.points, .string (scrS aS aSeed).1.puzzle.names, .slice A20x2 (scrS aS aSeed).1.puzzle.moves.length C20x2, .slice A21 (scrS aS aSeed).1.state.length C21, .slice A22 (scrS aS aSeed).1.history.length C22, .slice A23 (scrS aS aSeed).1.future.length C23] (scrS aS aSeed).1 (scrS aS aSeed).1 _ _ _ (Rp.keep r7 ((Only.refl [] _).alloc (.cells #[.int .i64 (scrS aS aSeed).1.puzzle.points, .string (scrS aS aSeed).1.puzzle.names, .slice A70x2 (scrS aS aSeed).1.puzzle.moves.length C70x2, .slice A71 (scrS aS aSeed).1.state.length C71, .slice A72 (scrS aS aSeed).1.history.length C72, .slice A73 (scrS aS aSeed).1.future.length C73] 31))) (Rp.keep (Rp.keep (Rp.keep (Rp.keep (Rp.only (Rp.keep (Rp.only (Rp.keep (Rp.keep (Rp.keep (Rp.keep (Rp.keep r2 T3) T4) T5) T6) T7) T8 (fun b hb hm => by have := L2 b hb; have := G3 b hm; omega)) T9) T10 (fun b hb hm => by have := L2 b hb; have := G4 b hm; omega)) T11) T12) T13) ((Only.refl [] _).alloc (.cells #[.int .i64 (scrS aS aSeed).1.puzzle.points, .string (scrS aS aSeed).1.puzzle.names, .slice A70x2 (scrS aS aSeed).1.puzzle.moves.length C70x2, .slice A71 (scrS aS aSeed).1.state.length C71, .slice A72 (scrS aS aSeed).1.history.length C72, .slice A73 (scrS aS aSeed).1.future.length C73] 31)))).mono ?_
  rintro e w15 ⟨rfl, t14⟩
  have T14 : Only [] w14 w15 := ((Only.refl [] _).alloc (.cells #[.int .i64 (scrS aS aSeed).1.puzzle.points, .string (scrS aS aSeed).1.puzzle.names, .slice A70x2 (scrS aS aSeed).1.puzzle.moves.length C70x2, .slice A71 (scrS aS aSeed).1.state.length C71, .slice A72 (scrS aS aSeed).1.history.length C72, .slice A73 (scrS aS aSeed).1.future.length C73] 31)).trans t14
  have S14 : w14.heap.size + 1 ≤ w15.heap.size := by have := t14.size; simp at this; omega
  have B7 : Blk w15 w14.heap.size [.int .i64 (scrS aS aSeed).1.puzzle.points, .string (scrS aS aSeed).1.puzzle.names, .slice A70x2 (scrS aS aSeed).1.puzzle.moves.length C70x2, .slice A71 (scrS aS aSeed).1.state.length C71, .slice A72 (scrS aS aSeed).1.history.length C72, .slice A73 (scrS aS aSeed).1.future.length C73] := (Blk.keep (Blk.new_at (by simp)) t14)
  have LB7 : w14.heap.size < w15.heap.size := B7.lt
  have HB7 := Lib.hid B7; clear B7
  clear c2_14_0 c2_14_1 c2_14_2 c2_14_3 c2_14_4 c2_14_5
  have c4_15_0 := ((Blk.keep (Blk.keep (Blk.keep (Blk.keep (Blk.only (Blk.keep (Blk.only (Blk.keep (Blk.keep HB4.out T6) T7) T8 (fun hm => by have := L3 _ hm; omega)) T9) T10 (fun hm => by have := L4 _ hm; omega)) T11) T12) T13) T14)).cell 0 rfl
  have c4_15_1 := ((Blk.keep (Blk.keep (Blk.keep (Blk.keep (Blk.only (Blk.keep (Blk.only (Blk.keep (Blk.keep HB4.out T6) T7) T8 (fun hm => by have := L3 _ hm; omega)) T9) T10 (fun hm => by have := L4 _ hm; omega)) T11) T12) T13) T14)).cell 1 rfl
  have c4_15_2 := ((Blk.keep (Blk.keep (Blk.keep (Blk.keep (Blk.only (Blk.keep (Blk.only (Blk.keep (Blk.keep HB4.out T6) T7) T8 (fun hm => by have := L3 _ hm; omega)) T9) T10 (fun hm => by have := L4 _ hm; omega)) T11) T12) T13) T14)).cell 2 rfl
  have c4_15_3 := ((Blk.keep (Blk.keep (Blk.keep (Blk.keep (Blk.only (Blk.keep (Blk.only (Blk.keep (Blk.keep HB4.out T6) T7) T8 (fun hm => by have := L3 _ hm; omega)) T9) T10 (fun hm => by have := L4 _ hm; omega)) T11) T12) T13) T14)).cell 3 rfl
  have c4_15_4 := ((Blk.keep (Blk.keep (Blk.keep (Blk.keep (Blk.only (Blk.keep (Blk.only (Blk.keep (Blk.keep HB4.out T6) T7) T8 (fun hm => by have := L3 _ hm; omega)) T9) T10 (fun hm => by have := L4 _ hm; omega)) T11) T12) T13) T14)).cell 4 rfl
  have c4_15_5 := ((Blk.keep (Blk.keep (Blk.keep (Blk.keep (Blk.only (Blk.keep (Blk.only (Blk.keep (Blk.keep HB4.out T6) T7) T8 (fun hm => by have := L3 _ hm; omega)) T9) T10 (fun hm => by have := L4 _ hm; omega)) T11) T12) T13) T14)).cell 5 rfl
  have h15 : heldV (1) (Mk.mark (1) (scrS aS aSeed).1) = 1 + (Mk.cnt (scrS aS aSeed).1 : Nat) := heldV_mark (1) (scrS aS aSeed).1
  have m15 : (1 : Int) + (Mk.cnt (Mk.mark (1) (scrS aS aSeed).1) : Nat) ≤ 4611686018427387904 := by rw [MkL.cnt]; omega
  go_wp2_with fail
  with_reducible refine (heldSession_any [.int .i64 (scrS aS aSeed).1.puzzle.points, .string (scrS aS aSeed).1.puzzle.names, .slice A40x2 (scrS aS aSeed).1.puzzle.moves.length C40x2, .slice A41 (scrS aS aSeed).1.state.length C41, .slice A42 (scrS aS aSeed).1.history.length C42, .slice A43 (scrS aS aSeed).1.future.length C43] (Mk.mark (1) (scrS aS aSeed).1) _ (1) _ (Rp.keep (Rp.keep (Rp.keep (Rp.keep r4 T11) T12) T13) T14) (by omega) m15).mono ?_
  rintro e w16 ⟨rfl, t15⟩
  have T15 : Only [] w15 w16 := t15
  have S15 : w15.heap.size + 0 ≤ w16.heap.size := by have := T15.size; omega
  clear c4_15_0 c4_15_1 c4_15_2 c4_15_3 c4_15_4 c4_15_5
  go_wp2
  go_ret
  refine ⟨rfl, ?_⟩
  exact (Only.keepThen (Only.keepThen (Only.keepThen (Only.keepThen (Only.keepThen (Only.then_ (Only.keepThen (Only.then_ (Only.keepThen (Only.keepThen (Only.keepThen (Only.keepThen (Only.keepThen (Only.keepThen (Only.keepThen T0 T1) T2) T3) T4) T5) T6) T7) T8 (fun b hb hl => by have := G3 b hb; omega)) T9) T10 (fun b hb hl => by have := G4 b hb; omega)) T11) T12) T13) T14) T15)
end Go.Proofs.YtnagknkllkdkaaaGreat
