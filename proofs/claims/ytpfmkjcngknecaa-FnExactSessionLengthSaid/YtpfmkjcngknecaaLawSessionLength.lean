/- The law on SessionLength: its walk. (Printed by gen_exact.py.) -/
import Derived.Test.YtpfmkjcngknecaaSLen
import Derived.Test.YtpfmkjcngknecaaExact
import Derived.Deep.RegionHeld3
import Derived.Deep.DeepCutAuto
namespace Go.Proofs.Ytpfmkjcngknecaa
open Go.RowKit
set_option maxRecDepth 10000

set_option maxHeartbeats 4000000 in
theorem FnExactSessionLength_any (w : World) (caS : List Value) (aS : Session) (faS : List Nat) (raS : Rp.rep w caS aS faS) (aMetric : Int) (iaMetric : I64 aMetric) :
    Calls Try.prog 5 #[.agg caS.toArray, .int .i64 aMetric] w fun e w' => e = .returned (.bool true) ∧ Only [] w w' := by
  have qaS := raS
  obtain ⟨uaS0, uaS1, uaS2, uaS3, _, _, _, _, rfl, -, zaS0, zaS1, zaS2, zaS3⟩ := qaS
  have qaS0x := zaS0
  obtain ⟨uaS0x2, rfl, -, -, zaS0x2⟩ := qaS0x
  obtain ⟨AaS0x2, CaS0x2, _, _, rfl, -⟩ := zaS0x2.open_
  obtain ⟨AaS1, CaS1, _, _, rfl, -⟩ := zaS1.open_
  obtain ⟨AaS2, CaS2, _, _, rfl, -⟩ := zaS2.open_
  obtain ⟨AaS3, CaS3, _, _, rfl, -⟩ := zaS3.open_
  have LaS := Rp.lt raS
  have ibaMetric := iaMetric; unfold I64 at ibaMetric; obtain ⟨ilaMetric, ihaMetric⟩ := ibaMetric
  rcases szV_cases (1048576) aS with ⟨esaS, msaS⟩ | ⟨esaS, psaS, msaS⟩
  · go_enter Try.func5, Try.ntmps5
    go_wp2_with (with_reducible refine (szSession_any [.int .i64 aS.puzzle.points, .string aS.puzzle.names, .slice AaS0x2 aS.puzzle.moves.length CaS0x2, .slice AaS1 aS.state.length CaS1, .slice AaS2 aS.history.length CaS2, .slice AaS3 aS.future.length CaS3] aS _ (1048576) _ (Rp.keep raS ((Only.refl [] _).alloc (.cells #[.int .i64 aS.puzzle.points, .string aS.puzzle.names, .slice AaS0x2 aS.puzzle.moves.length CaS0x2, .slice AaS1 aS.state.length CaS1, .slice AaS2 aS.history.length CaS2, .slice AaS3 aS.future.length CaS3] 27))) (by omega) (by omega)).mono ?_; rintro e w1 ⟨rfl, t0⟩)
    go_ret
    exact ⟨rfl, (by with_reducible repeat (first | exact Only.refl _ _ | assumption | refine Only.drewN ?_ _ | refine Only.drew ?_ | refine Only.alloc ?_ _ | refine Only.setCell ?_ (by intro hh; exfalso; simp at hh; try omega) _ | refine Only.trans ?_ (by assumption)))⟩
  have smaS : Sm.sm aS := SzSm.of_ _ (by omega)
  have csaS : Mk.cnt aS ≤ 1048576 := Nat.le_trans (CntSz.le aS) (by omega)
  go_enter Try.func5, Try.ntmps5
  go_wp2_with fail
  with_reducible refine (szSession_any [.int .i64 aS.puzzle.points, .string aS.puzzle.names, .slice AaS0x2 aS.puzzle.moves.length CaS0x2, .slice AaS1 aS.state.length CaS1, .slice AaS2 aS.history.length CaS2, .slice AaS3 aS.future.length CaS3] aS _ (1048576) _ (Rp.keep raS ((Only.refl [] _).alloc (.cells #[.int .i64 aS.puzzle.points, .string aS.puzzle.names, .slice AaS0x2 aS.puzzle.moves.length CaS0x2, .slice AaS1 aS.state.length CaS1, .slice AaS2 aS.history.length CaS2, .slice AaS3 aS.future.length CaS3] 27))) (by omega) (by omega)).mono ?_
  rintro e w1 ⟨rfl, t0⟩
  rw [esaS]
  have T0 : Only [] w w1 := ((Only.refl [] _).alloc (.cells #[.int .i64 aS.puzzle.points, .string aS.puzzle.names, .slice AaS0x2 aS.puzzle.moves.length CaS0x2, .slice AaS1 aS.state.length CaS1, .slice AaS2 aS.history.length CaS2, .slice AaS3 aS.future.length CaS3] 27)).trans t0
  have S0 : w.heap.size + 1 ≤ w1.heap.size := by have := t0.size; simp at this; omega
  have BaS : Blk w1 w.heap.size [.int .i64 aS.puzzle.points, .string aS.puzzle.names, .slice AaS0x2 aS.puzzle.moves.length CaS0x2, .slice AaS1 aS.state.length CaS1, .slice AaS2 aS.history.length CaS2, .slice AaS3 aS.future.length CaS3] := (Blk.keep (Blk.new_at (by simp)) t0)
  have LBaS : w.heap.size < w1.heap.size := BaS.lt
  have HBaS := Lib.hid BaS; clear BaS
  have caS_1_0 := (HBaS.out).cell 0 rfl
  have caS_1_1 := (HBaS.out).cell 1 rfl
  have caS_1_2 := (HBaS.out).cell 2 rfl
  have caS_1_3 := (HBaS.out).cell 3 rfl
  have caS_1_4 := (HBaS.out).cell 4 rfl
  have caS_1_5 := (HBaS.out).cell 5 rfl
  go_wp2_with fail
  with_reducible refine (toSession_any [.int .i64 aS.puzzle.points, .string aS.puzzle.names, .slice AaS0x2 aS.puzzle.moves.length CaS0x2, .slice AaS1 aS.state.length CaS1, .slice AaS2 aS.history.length CaS2, .slice AaS3 aS.future.length CaS3] aS _ _ (Rp.keep raS T0) smaS).mono ?_
  rintro e w2 ⟨u1, f1, rfl, r1, F1, t1⟩
  have T1 : Only [] w1 w2 := t1
  have S1 : w1.heap.size + 0 ≤ w2.heap.size := by have := T1.size; omega
  clear caS_1_0 caS_1_1 caS_1_2 caS_1_3 caS_1_4 caS_1_5
  have q1 := r1
  obtain ⟨u10, u11, u12, u13, _, _, _, _, rfl, -, z10, z11, z12, z13⟩ := q1
  have q10x := z10
  obtain ⟨u10x2, rfl, -, -, z10x2⟩ := q10x
  obtain ⟨A10x2, C10x2, _, _, rfl, -⟩ := z10x2.open_
  obtain ⟨A11, C11, _, _, rfl, -⟩ := z11.open_
  obtain ⟨A12, C12, _, _, rfl, -⟩ := z12.open_
  obtain ⟨A13, C13, _, _, rfl, -⟩ := z13.open_
  have L1 := Rp.lt r1
  have G1 : ∀ b ∈ f1, w1.heap.size ≤ b := fun b hb => by have := F1.ge b hb; omega
  go_wp2_with fail
  with_reducible refine (specSessionLength_any [.int .i64 aS.puzzle.points, .string aS.puzzle.names, .slice A10x2 aS.puzzle.moves.length C10x2, .slice A11 aS.state.length C11, .slice A12 aS.history.length C12, .slice A13 aS.future.length C13] aS _ aMetric _ r1).mono ?_
  rintro e w3 ⟨rfl, t2⟩
  have T2 : Only [] w2 w3 := t2
  have S2 : w2.heap.size + 0 ≤ w3.heap.size := by have := T2.size; omega
  have caS_3_0 := ((Blk.keep (Blk.keep HBaS.out T1) T2)).cell 0 rfl
  have caS_3_1 := ((Blk.keep (Blk.keep HBaS.out T1) T2)).cell 1 rfl
  have caS_3_2 := ((Blk.keep (Blk.keep HBaS.out T1) T2)).cell 2 rfl
  have caS_3_3 := ((Blk.keep (Blk.keep HBaS.out T1) T2)).cell 3 rfl
  have caS_3_4 := ((Blk.keep (Blk.keep HBaS.out T1) T2)).cell 4 rfl
  have caS_3_5 := ((Blk.keep (Blk.keep HBaS.out T1) T2)).cell 5 rfl
  go_wp2_with fail
  with_reducible refine (toSession_any [.int .i64 aS.puzzle.points, .string aS.puzzle.names, .slice AaS0x2 aS.puzzle.moves.length CaS0x2, .slice AaS1 aS.state.length CaS1, .slice AaS2 aS.history.length CaS2, .slice AaS3 aS.future.length CaS3] aS _ _ (Rp.keep (Rp.keep (Rp.keep raS T0) T1) T2) smaS).mono ?_
  rintro e w4 ⟨u2, f2, rfl, r2, F2, t3⟩
  have T3 : Only [] w3 w4 := t3
  have S3 : w3.heap.size + 0 ≤ w4.heap.size := by have := T3.size; omega
  clear caS_3_0 caS_3_1 caS_3_2 caS_3_3 caS_3_4 caS_3_5
  have q2 := r2
  obtain ⟨u20, u21, u22, u23, _, _, _, _, rfl, -, z20, z21, z22, z23⟩ := q2
  have q20x := z20
  obtain ⟨u20x2, rfl, -, -, z20x2⟩ := q20x
  obtain ⟨A20x2, C20x2, _, _, rfl, -⟩ := z20x2.open_
  obtain ⟨A21, C21, _, _, rfl, -⟩ := z21.open_
  obtain ⟨A22, C22, _, _, rfl, -⟩ := z22.open_
  obtain ⟨A23, C23, _, _, rfl, -⟩ := z23.open_
  have L2 := Rp.lt r2
  have G2 : ∀ b ∈ f2, w3.heap.size ≤ b := fun b hb => by have := F2.ge b hb; omega
  go_wp2_with fail
  with_reducible refine (implSessionLength_any [.int .i64 aS.puzzle.points, .string aS.puzzle.names, .slice A20x2 aS.puzzle.moves.length C20x2, .slice A21 aS.state.length C21, .slice A22 aS.history.length C22, .slice A23 aS.future.length C23] aS _ aMetric _ (Rp.keep r2 ((Only.refl [] _).alloc (.cells #[.int .i64 aS.puzzle.points, .string aS.puzzle.names, .slice A20x2 aS.puzzle.moves.length C20x2, .slice A21 aS.state.length C21, .slice A22 aS.history.length C22, .slice A23 aS.future.length C23] 32)))).mono ?_
  rintro e w5 ⟨rfl, t4⟩
  have T4 : Only [] w4 w5 := ((Only.refl [] _).alloc (.cells #[.int .i64 aS.puzzle.points, .string aS.puzzle.names, .slice A20x2 aS.puzzle.moves.length C20x2, .slice A21 aS.state.length C21, .slice A22 aS.history.length C22, .slice A23 aS.future.length C23] 32)).trans t4
  have S4 : w4.heap.size + 1 ≤ w5.heap.size := by have := t4.size; simp at this; omega
  have B2 : Blk w5 w4.heap.size [.int .i64 aS.puzzle.points, .string aS.puzzle.names, .slice A20x2 aS.puzzle.moves.length C20x2, .slice A21 aS.state.length C21, .slice A22 aS.history.length C22, .slice A23 aS.future.length C23] := (Blk.keep (Blk.new_at (by simp)) t4)
  have LB2 : w4.heap.size < w5.heap.size := B2.lt
  have HB2 := Lib.hid B2; clear B2
  go_upto_region 10 with fail
  have e6 : eqV aS aS = true := eqV_yes rfl
  go_region_held3 (fun w' => Only [] w5 w' ∧ w'.cell? ⟨w4.heap.size, 0, none⟩ = some (.int .i64 aS.puzzle.points) ∧ w'.cell? ⟨w4.heap.size, 1, none⟩ = some (.string aS.puzzle.names) ∧ w'.cell? ⟨w4.heap.size, 2, none⟩ = some (.slice A20x2 aS.puzzle.moves.length C20x2) ∧ w'.cell? ⟨w4.heap.size, 3, none⟩ = some (.slice A21 aS.state.length C21) ∧ w'.cell? ⟨w4.heap.size, 4, none⟩ = some (.slice A22 aS.history.length C22) ∧ w'.cell? ⟨w4.heap.size, 5, none⟩ = some (.slice A23 aS.future.length C23) ∧ w'.cell? ⟨w.heap.size, 0, none⟩ = some (.int .i64 aS.puzzle.points) ∧ w'.cell? ⟨w.heap.size, 1, none⟩ = some (.string aS.puzzle.names) ∧ w'.cell? ⟨w.heap.size, 2, none⟩ = some (.slice AaS0x2 aS.puzzle.moves.length CaS0x2) ∧ w'.cell? ⟨w.heap.size, 3, none⟩ = some (.slice AaS1 aS.state.length CaS1) ∧ w'.cell? ⟨w.heap.size, 4, none⟩ = some (.slice AaS2 aS.history.length CaS2) ∧ w'.cell? ⟨w.heap.size, 5, none⟩ = some (.slice AaS3 aS.future.length CaS3)) ((refine and_of ?_ (fun h__ => ⟨(Blk.keep HB2.out h__).cell 0 rfl, (Blk.keep HB2.out h__).cell 1 rfl, (Blk.keep HB2.out h__).cell 2 rfl, (Blk.keep HB2.out h__).cell 3 rfl, (Blk.keep HB2.out h__).cell 4 rfl, (Blk.keep HB2.out h__).cell 5 rfl, (Blk.keep (Blk.keep (Blk.keep (Blk.keep (Blk.keep HBaS.out T1) T2) T3) T4) h__).cell 0 rfl, (Blk.keep (Blk.keep (Blk.keep (Blk.keep (Blk.keep HBaS.out T1) T2) T3) T4) h__).cell 1 rfl, (Blk.keep (Blk.keep (Blk.keep (Blk.keep (Blk.keep HBaS.out T1) T2) T3) T4) h__).cell 2 rfl, (Blk.keep (Blk.keep (Blk.keep (Blk.keep (Blk.keep HBaS.out T1) T2) T3) T4) h__).cell 3 rfl, (Blk.keep (Blk.keep (Blk.keep (Blk.keep (Blk.keep HBaS.out T1) T2) T3) T4) h__).cell 4 rfl, (Blk.keep (Blk.keep (Blk.keep (Blk.keep (Blk.keep HBaS.out T1) T2) T3) T4) h__).cell 5 rfl⟩); first | exact (Only.refl _ _).drew | exact Only.trans (And.left (by assumption)) (by assumption))) (first
    | (go_at_call 12; (with_reducible refine (toSession_any [.int .i64 aS.puzzle.points, .string aS.puzzle.names, .slice AaS0x2 aS.puzzle.moves.length CaS0x2, .slice AaS1 aS.state.length CaS1, .slice AaS2 aS.history.length CaS2, .slice AaS3 aS.future.length CaS3] aS _ _ (Rp.keep (Rp.keep (Rp.keep (Rp.keep (Rp.keep (Rp.keep raS T0) T1) T2) T3) T4) (And.left (by assumption))) smaS).mono ?_); rintro e w6 ⟨u3, f3, rfl, r3, F3, t5⟩)
    | (go_at_call 14; (with_reducible refine (eqSession_any [.int .i64 aS.puzzle.points, .string aS.puzzle.names, .slice A20x2 aS.puzzle.moves.length C20x2, .slice A21 aS.state.length C21, .slice A22 aS.history.length C22, .slice A23 aS.future.length C23] u3 aS aS _ _ _ (Rp.keep (Rp.keep r2 T4) (And.left (by assumption))) (Rp.keep r3 (by first | exact Only.refl _ _ | assumption | exact Only.trans (by assumption) (by assumption)))).mono ?_); rintro e w7 ⟨rfl, t6⟩)
    | fail "no arm")
  have T5 : Only [] w5 w6 := ((Only.refl _ _).drew).trans t5
  have S5 : w5.heap.size + 0 ≤ w6.heap.size := by have := T5.size; omega
  have L3 := Rp.lt r3
  have G3 : ∀ b ∈ f3, w5.heap.size ≤ b := fun b hb => by have := F3.ge b hb; first | omega | (simp at this; omega)
  have T6 : Only [] w6 w7 := t6
  have S6 : w6.heap.size + 0 ≤ w7.heap.size := by have := T6.size; omega
  go_wp2
  go_ret
  refine ⟨rfl, ?_⟩
  exact (Only.keepThen (Only.keepThen (Only.keepThen (Only.keepThen (Only.keepThen (Only.keepThen T0 T1) T2) T3) T4) T5) T6)
end Go.Proofs.Ytpfmkjcngknecaa
