/- The law on PlayWord: its walk. (Printed by gen_exact.py.) -/
import Derived.Test.YtpfmkjcngknecaaPlay
import Derived.Test.YtpfmkjcngknecaaExact
import Derived.Deep.RegionHeld3
import Derived.Deep.DeepCutAuto
namespace Go.Proofs.Ytpfmkjcngknecaa
open Go.RowKit
set_option maxRecDepth 10000

theorem cnt_push (l : List (List Int)) (y : List Int) : Mk.cnt (pushW l y) ≤ Mk.cnt l + y.length := by
  have h : cntL (l ++ [y]) = cntL l + y.length := by rw [cntL_append]; simp [cntL, Mk.cnt, cntL_ints]
  unfold pushW
  split
  · show cntL ((l ++ [y]).drop 1) ≤ _
    rw [← List.take_append_drop 1 (l ++ [y]), cntL_append] at h
    have : Mk.cnt l = cntL l := rfl
    omega
  · show cntL (l ++ [y]) ≤ _
    rw [h]; exact Nat.le_refl _
theorem cnt_appW {x : Puzzle} {s l : List Int} (h : stateB x s = true) : Mk.cnt (appW x s l) ≤ 20 := by
  show cntL (appW x s l) ≤ 20
  rw [cntL_ints]
  unfold appW
  rw [PM.comp_len]
  have := (stateB_pn h)
  have h2 := this.2.2.2.1
  omega
theorem playRes_cnt (x : Session) (l : List Int) : Mk.cnt (playRes x l) ≤ Mk.cnt x + 220 := by
  unfold playRes
  split
  · rename_i h
    split
    · rename_i h2
      obtain ⟨hst, hml, -⟩ := validSe_facts h
      obtain ⟨hl, -⟩ := validW_ltrs hml h2
      have h3 := cnt_push x.history l
      have h4 := cnt_appW (l := l) hst
      simp only [Mk.cnt, playW, cntL] at h3 h4 ⊢
      omega
    · omega
  · simp [noSess, Mk.cnt, cntL]
set_option maxHeartbeats 4000000 in
theorem FnExactPlayWord_any (w : World) (caS : List Value) (aS : Session) (faS : List Nat) (raS : Rp.rep w caS aS faS) (vaW : Value) (aW : List Int) (faW : List Nat) (raW : Rd w vaW aW faW) :
    Calls Try.prog 7 #[.agg caS.toArray, vaW] w fun e w' => e = .returned (.bool true) ∧ Only [] w w' := by
  have qaS := raS
  obtain ⟨uaS0, uaS1, uaS2, uaS3, _, _, _, _, rfl, -, zaS0, zaS1, zaS2, zaS3⟩ := qaS
  have qaS0x := zaS0
  obtain ⟨uaS0x2, rfl, -, -, zaS0x2⟩ := qaS0x
  obtain ⟨AaS0x2, CaS0x2, _, _, rfl, -⟩ := zaS0x2.open_
  obtain ⟨AaS1, CaS1, _, _, rfl, -⟩ := zaS1.open_
  obtain ⟨AaS2, CaS2, _, _, rfl, -⟩ := zaS2.open_
  obtain ⟨AaS3, CaS3, _, _, rfl, -⟩ := zaS3.open_
  have LaS := Rp.lt raS
  obtain ⟨AaW, CaW, _, _, rfl, -⟩ := raW.open_
  have LaW := Rp.lt raW
  have hbaW : aW.length ≤ 9223372036854775807 := by obtain ⟨_, _, _, _, hq, -, hs⟩ := raW.open_; have := hs.bound; exact this
  by_cases lenaW : 1048576 < aW.length
  · go_enter Try.func7, Try.ntmps7
    go_wp2
    go_ret
    exact ⟨rfl, (by with_reducible repeat (first | exact Only.refl _ _ | assumption | refine Only.drewN ?_ _ | refine Only.drew ?_ | refine Only.alloc ?_ _ | refine Only.setCell ?_ (by intro hh; exfalso; simp at hh; try omega) _ | refine Only.trans ?_ (by assumption)))⟩
  have smaW : Sm.sm aW := ⟨by omega, fun _ _ => trivial⟩
  have csaW : Mk.cnt aW ≤ 1048576 := by simp only [Mk.cnt, cntL_ints]; omega
  rcases szV_cases (1048576) aS with ⟨esaS, msaS⟩ | ⟨esaS, psaS, msaS⟩
  · go_enter Try.func7, Try.ntmps7
    go_wp2_with (with_reducible refine (szSession_any [.int .i64 aS.puzzle.points, .string aS.puzzle.names, .slice AaS0x2 aS.puzzle.moves.length CaS0x2, .slice AaS1 aS.state.length CaS1, .slice AaS2 aS.history.length CaS2, .slice AaS3 aS.future.length CaS3] aS _ (1048576) _ (Rp.keep raS ((Only.refl [] _).alloc (.cells #[.int .i64 aS.puzzle.points, .string aS.puzzle.names, .slice AaS0x2 aS.puzzle.moves.length CaS0x2, .slice AaS1 aS.state.length CaS1, .slice AaS2 aS.history.length CaS2, .slice AaS3 aS.future.length CaS3] 27))) (by omega) (by omega)).mono ?_; rintro e w1 ⟨rfl, t0⟩)
    go_ret
    exact ⟨rfl, (by with_reducible repeat (first | exact Only.refl _ _ | assumption | refine Only.drewN ?_ _ | refine Only.drew ?_ | refine Only.alloc ?_ _ | refine Only.setCell ?_ (by intro hh; exfalso; simp at hh; try omega) _ | refine Only.trans ?_ (by assumption)))⟩
  have smaS : Sm.sm aS := SzSm.of_ _ (by omega)
  have csaS : Mk.cnt aS ≤ 1048576 := Nat.le_trans (CntSz.le aS) (by omega)
  have hcnt := playRes_cnt aS aW
  go_enter Try.func7, Try.ntmps7
  go_wp2_with fail
  with_reducible refine (szSession_any [.int .i64 aS.puzzle.points, .string aS.puzzle.names, .slice AaS0x2 aS.puzzle.moves.length CaS0x2, .slice AaS1 aS.state.length CaS1, .slice AaS2 aS.history.length CaS2, .slice AaS3 aS.future.length CaS3] aS _ (1048576) _ (Rp.keep raS ((Only.refl [] _).alloc (.cells #[.int .i64 aS.puzzle.points, .string aS.puzzle.names, .slice AaS0x2 aS.puzzle.moves.length CaS0x2, .slice AaS1 aS.state.length CaS1, .slice AaS2 aS.history.length CaS2, .slice AaS3 aS.future.length CaS3] 27))) (by omega) (by omega)).mono ?_
  rintro e w1 ⟨rfl, t0⟩
  rw [esaS]
  have T0 : Only [] w w1 := ((Only.refl [] _).alloc (.cells #[.int .i64 aS.puzzle.points, .string aS.puzzle.names, .slice AaS0x2 aS.puzzle.moves.length CaS0x2, .slice AaS1 aS.state.length CaS1, .slice AaS2 aS.history.length CaS2, .slice AaS3 aS.future.length CaS3] 27)).trans t0
  have S0 : w.heap.size + 1 ≤ w1.heap.size := by have := t0.size; simp at this; omega
  have BaS : Blk w1 w.heap.size [.int .i64 aS.puzzle.points, .string aS.puzzle.names, .slice AaS0x2 aS.puzzle.moves.length CaS0x2, .slice AaS1 aS.state.length CaS1, .slice AaS2 aS.history.length CaS2, .slice AaS3 aS.future.length CaS3] := (Blk.keep (Blk.new_at (by simp)) t0)
  have LBaS : w.heap.size < w1.heap.size := BaS.lt
  have HBaS := Lib.hid BaS; clear BaS
  have caS_1_0 := (HBaS.out).cell 0 rfl
  have caS_1_1 := (HBaS.out).cell 1 rfl
  have caS_1_2 := (HBaS.out).cell 2 rfl
  have caS_1_3 := (HBaS.out).cell 3 rfl
  have caS_1_4 := (HBaS.out).cell 4 rfl
  have caS_1_5 := (HBaS.out).cell 5 rfl
  go_wp2_with fail
  with_reducible refine (toSession_any [.int .i64 aS.puzzle.points, .string aS.puzzle.names, .slice AaS0x2 aS.puzzle.moves.length CaS0x2, .slice AaS1 aS.state.length CaS1, .slice AaS2 aS.history.length CaS2, .slice AaS3 aS.future.length CaS3] aS _ _ (Rp.keep raS T0) smaS).mono ?_
  rintro e w2 ⟨u1, f1, rfl, r1, F1, t1⟩
  have T1 : Only [] w1 w2 := t1
  have S1 : w1.heap.size + 0 ≤ w2.heap.size := by have := T1.size; omega
  clear caS_1_0 caS_1_1 caS_1_2 caS_1_3 caS_1_4 caS_1_5
  have q1 := r1
  obtain ⟨u10, u11, u12, u13, _, _, _, _, rfl, -, z10, z11, z12, z13⟩ := q1
  have q10x := z10
  obtain ⟨u10x2, rfl, -, -, z10x2⟩ := q10x
  obtain ⟨A10x2, C10x2, _, _, rfl, -⟩ := z10x2.open_
  obtain ⟨A11, C11, _, _, rfl, -⟩ := z11.open_
  obtain ⟨A12, C12, _, _, rfl, -⟩ := z12.open_
  obtain ⟨A13, C13, _, _, rfl, -⟩ := z13.open_
  have L1 := Rp.lt r1
  have G1 : ∀ b ∈ f1, w1.heap.size ≤ b := fun b hb => by have := F1.ge b hb; omega
  go_wp2_with fail
  with_reducible refine (toInt64S_sm (.slice AaW aW.length CaW) aW _ _ (Rp.keep (Rp.keep raW T0) T1) smaW).mono ?_
  rintro e w3 ⟨v2, f2, rfl, r2, F2, t2⟩
  have T2 : Only [] w2 w3 := t2
  have S2 : w2.heap.size + 0 ≤ w3.heap.size := by have := T2.size; omega
  have L2 := Rp.lt r2
  have G2 : ∀ b ∈ f2, w2.heap.size ≤ b := fun b hb => by have := F2.ge b hb; omega
  go_wp2_with fail
  with_reducible refine (specPlayWord_any [.int .i64 aS.puzzle.points, .string aS.puzzle.names, .slice A10x2 aS.puzzle.moves.length C10x2, .slice A11 aS.state.length C11, .slice A12 aS.history.length C12, .slice A13 aS.future.length C13] aS _ v2 aW _ _ (Rp.keep r1 T2) r2).mono ?_
  rintro e w4 ⟨u3, f3, rfl, r3, F3, t3⟩
  have T3 : Only [] w3 w4 := t3
  have S3 : w3.heap.size + 0 ≤ w4.heap.size := by have := T3.size; omega
  have q3 := r3
  obtain ⟨u30, u31, u32, u33, _, _, _, _, rfl, -, z30, z31, z32, z33⟩ := q3
  have q30x := z30
  obtain ⟨u30x2, rfl, -, -, z30x2⟩ := q30x
  obtain ⟨A30x2, C30x2, _, _, rfl, -⟩ := z30x2.open_
  obtain ⟨A31, C31, _, _, rfl, -⟩ := z31.open_
  obtain ⟨A32, C32, _, _, rfl, -⟩ := z32.open_
  obtain ⟨A33, C33, _, _, rfl, -⟩ := z33.open_
  have L3 := Rp.lt r3
  have G3 : ∀ b ∈ f3, w3.heap.size ≤ b := fun b hb => by have := F3.ge b hb; omega
  have caS_4_0 := ((Only.refl [] _).alloc (.cells #[.int .i64 (playRes aS aW).puzzle.points, .string (playRes aS aW).puzzle.names, .slice A30x2 (playRes aS aW).puzzle.moves.length C30x2, .slice A31 (playRes aS aW).state.length C31, .slice A32 (playRes aS aW).history.length C32, .slice A33 (playRes aS aW).future.length C33] 32)).cell (by simp) (((Blk.keep (Blk.keep (Blk.keep HBaS.out T1) T2) T3)).cell 0 rfl)
  have caS_4_1 := ((Only.refl [] _).alloc (.cells #[.int .i64 (playRes aS aW).puzzle.points, .string (playRes aS aW).puzzle.names, .slice A30x2 (playRes aS aW).puzzle.moves.length C30x2, .slice A31 (playRes aS aW).state.length C31, .slice A32 (playRes aS aW).history.length C32, .slice A33 (playRes aS aW).future.length C33] 32)).cell (by simp) (((Blk.keep (Blk.keep (Blk.keep HBaS.out T1) T2) T3)).cell 1 rfl)
  have caS_4_2 := ((Only.refl [] _).alloc (.cells #[.int .i64 (playRes aS aW).puzzle.points, .string (playRes aS aW).puzzle.names, .slice A30x2 (playRes aS aW).puzzle.moves.length C30x2, .slice A31 (playRes aS aW).state.length C31, .slice A32 (playRes aS aW).history.length C32, .slice A33 (playRes aS aW).future.length C33] 32)).cell (by simp) (((Blk.keep (Blk.keep (Blk.keep HBaS.out T1) T2) T3)).cell 2 rfl)
  have caS_4_3 := ((Only.refl [] _).alloc (.cells #[.int .i64 (playRes aS aW).puzzle.points, .string (playRes aS aW).puzzle.names, .slice A30x2 (playRes aS aW).puzzle.moves.length C30x2, .slice A31 (playRes aS aW).state.length C31, .slice A32 (playRes aS aW).history.length C32, .slice A33 (playRes aS aW).future.length C33] 32)).cell (by simp) (((Blk.keep (Blk.keep (Blk.keep HBaS.out T1) T2) T3)).cell 3 rfl)
  have caS_4_4 := ((Only.refl [] _).alloc (.cells #[.int .i64 (playRes aS aW).puzzle.points, .string (playRes aS aW).puzzle.names, .slice A30x2 (playRes aS aW).puzzle.moves.length C30x2, .slice A31 (playRes aS aW).state.length C31, .slice A32 (playRes aS aW).history.length C32, .slice A33 (playRes aS aW).future.length C33] 32)).cell (by simp) (((Blk.keep (Blk.keep (Blk.keep HBaS.out T1) T2) T3)).cell 4 rfl)
  have caS_4_5 := ((Only.refl [] _).alloc (.cells #[.int .i64 (playRes aS aW).puzzle.points, .string (playRes aS aW).puzzle.names, .slice A30x2 (playRes aS aW).puzzle.moves.length C30x2, .slice A31 (playRes aS aW).state.length C31, .slice A32 (playRes aS aW).history.length C32, .slice A33 (playRes aS aW).future.length C33] 32)).cell (by simp) (((Blk.keep (Blk.keep (Blk.keep HBaS.out T1) T2) T3)).cell 5 rfl)
  go_wp2_with fail
  with_reducible refine (toSession_any [.int .i64 aS.puzzle.points, .string aS.puzzle.names, .slice AaS0x2 aS.puzzle.moves.length CaS0x2, .slice AaS1 aS.state.length CaS1, .slice AaS2 aS.history.length CaS2, .slice AaS3 aS.future.length CaS3] aS _ _ (Rp.keep (Rp.keep (Rp.keep (Rp.keep (Rp.keep raS T0) T1) T2) T3) ((Only.refl [] _).alloc (.cells #[.int .i64 (playRes aS aW).puzzle.points, .string (playRes aS aW).puzzle.names, .slice A30x2 (playRes aS aW).puzzle.moves.length C30x2, .slice A31 (playRes aS aW).state.length C31, .slice A32 (playRes aS aW).history.length C32, .slice A33 (playRes aS aW).future.length C33] 32))) smaS).mono ?_
  rintro e w5 ⟨u4, f4, rfl, r4, F4, t4⟩
  have T4 : Only [] w4 w5 := ((Only.refl [] _).alloc (.cells #[.int .i64 (playRes aS aW).puzzle.points, .string (playRes aS aW).puzzle.names, .slice A30x2 (playRes aS aW).puzzle.moves.length C30x2, .slice A31 (playRes aS aW).state.length C31, .slice A32 (playRes aS aW).history.length C32, .slice A33 (playRes aS aW).future.length C33] 32)).trans t4
  have S4 : w4.heap.size + 1 ≤ w5.heap.size := by have := t4.size; simp at this; omega
  have B3 : Blk w5 w4.heap.size [.int .i64 (playRes aS aW).puzzle.points, .string (playRes aS aW).puzzle.names, .slice A30x2 (playRes aS aW).puzzle.moves.length C30x2, .slice A31 (playRes aS aW).state.length C31, .slice A32 (playRes aS aW).history.length C32, .slice A33 (playRes aS aW).future.length C33] := (Blk.keep (Blk.new_at (by simp)) t4)
  have LB3 : w4.heap.size < w5.heap.size := B3.lt
  have HB3 := Lib.hid B3; clear B3
  clear caS_4_0 caS_4_1 caS_4_2 caS_4_3 caS_4_4 caS_4_5
  have q4 := r4
  obtain ⟨u40, u41, u42, u43, _, _, _, _, rfl, -, z40, z41, z42, z43⟩ := q4
  have q40x := z40
  obtain ⟨u40x2, rfl, -, -, z40x2⟩ := q40x
  obtain ⟨A40x2, C40x2, _, _, rfl, -⟩ := z40x2.open_
  obtain ⟨A41, C41, _, _, rfl, -⟩ := z41.open_
  obtain ⟨A42, C42, _, _, rfl, -⟩ := z42.open_
  obtain ⟨A43, C43, _, _, rfl, -⟩ := z43.open_
  have L4 := Rp.lt r4
  have G4 : ∀ b ∈ f4, w4.heap.size + 1 ≤ b := fun b hb => by have := F4.ge b hb; simp at this; omega
  go_wp2_with fail
  with_reducible refine (toInt64S_sm (.slice AaW aW.length CaW) aW _ _ (Rp.keep (Rp.keep (Rp.keep (Rp.keep (Rp.keep (Rp.keep raW T0) T1) T2) T3) T4) ((Only.refl [] _).alloc (.cells #[.int .i64 aS.puzzle.points, .string aS.puzzle.names, .slice A40x2 aS.puzzle.moves.length C40x2, .slice A41 aS.state.length C41, .slice A42 aS.history.length C42, .slice A43 aS.future.length C43] 32))) smaW).mono ?_
  rintro e w6 ⟨v5, f5, rfl, r5, F5, t5⟩
  have T5 : Only [] w5 w6 := ((Only.refl [] _).alloc (.cells #[.int .i64 aS.puzzle.points, .string aS.puzzle.names, .slice A40x2 aS.puzzle.moves.length C40x2, .slice A41 aS.state.length C41, .slice A42 aS.history.length C42, .slice A43 aS.future.length C43] 32)).trans t5
  have S5 : w5.heap.size + 1 ≤ w6.heap.size := by have := t5.size; simp at this; omega
  have B4 : Blk w6 w5.heap.size [.int .i64 aS.puzzle.points, .string aS.puzzle.names, .slice A40x2 aS.puzzle.moves.length C40x2, .slice A41 aS.state.length C41, .slice A42 aS.history.length C42, .slice A43 aS.future.length C43] := (Blk.keep (Blk.new_at (by simp)) t5)
  have LB4 : w5.heap.size < w6.heap.size := B4.lt
  have HB4 := Lib.hid B4; clear B4
  have L5 := Rp.lt r5
  have G5 : ∀ b ∈ f5, w5.heap.size + 1 ≤ b := fun b hb => by have := F5.ge b hb; simp at this; omega
  have c4_6_0 := (HB4.out).cell 0 rfl
  have c4_6_1 := (HB4.out).cell 1 rfl
  have c4_6_2 := (HB4.out).cell 2 rfl
  have c4_6_3 := (HB4.out).cell 3 rfl
  have c4_6_4 := (HB4.out).cell 4 rfl
  have c4_6_5 := (HB4.out).cell 5 rfl
  go_wp2_with fail
  with_reducible refine (implPlayWord_any [.int .i64 aS.puzzle.points, .string aS.puzzle.names, .slice A40x2 aS.puzzle.moves.length C40x2, .slice A41 aS.state.length C41, .slice A42 aS.history.length C42, .slice A43 aS.future.length C43] aS _ v5 aW _ _ (Rp.keep r4 T5) r5).mono ?_
  rintro e w7 ⟨u6, f6, rfl, r6, F6, t6⟩
  have T6 : Only [] w6 w7 := t6
  have S6 : w6.heap.size + 0 ≤ w7.heap.size := by have := T6.size; omega
  clear c4_6_0 c4_6_1 c4_6_2 c4_6_3 c4_6_4 c4_6_5
  have q6 := r6
  obtain ⟨u60, u61, u62, u63, _, _, _, _, rfl, -, z60, z61, z62, z63⟩ := q6
  have q60x := z60
  obtain ⟨u60x2, rfl, -, -, z60x2⟩ := q60x
  obtain ⟨A60x2, C60x2, _, _, rfl, -⟩ := z60x2.open_
  obtain ⟨A61, C61, _, _, rfl, -⟩ := z61.open_
  obtain ⟨A62, C62, _, _, rfl, -⟩ := z62.open_
  obtain ⟨A63, C63, _, _, rfl, -⟩ := z63.open_
  have L6 := Rp.lt r6
  have G6 : ∀ b ∈ f6, w6.heap.size ≤ b := fun b hb => by have := F6.ge b hb; omega
  have c3_7_0 := ((Only.refl [] _).alloc (.cells #[.int .i64 (playRes aS aW).puzzle.points, .string (playRes aS aW).puzzle.names, .slice A60x2 (playRes aS aW).puzzle.moves.length C60x2, .slice A61 (playRes aS aW).state.length C61, .slice A62 (playRes aS aW).history.length C62, .slice A63 (playRes aS aW).future.length C63] 32)).cell (by simp) (((Blk.keep (Blk.keep HB3.out T5) T6)).cell 0 rfl)
  have c3_7_1 := ((Only.refl [] _).alloc (.cells #[.int .i64 (playRes aS aW).puzzle.points, .string (playRes aS aW).puzzle.names, .slice A60x2 (playRes aS aW).puzzle.moves.length C60x2, .slice A61 (playRes aS aW).state.length C61, .slice A62 (playRes aS aW).history.length C62, .slice A63 (playRes aS aW).future.length C63] 32)).cell (by simp) (((Blk.keep (Blk.keep HB3.out T5) T6)).cell 1 rfl)
  have c3_7_2 := ((Only.refl [] _).alloc (.cells #[.int .i64 (playRes aS aW).puzzle.points, .string (playRes aS aW).puzzle.names, .slice A60x2 (playRes aS aW).puzzle.moves.length C60x2, .slice A61 (playRes aS aW).state.length C61, .slice A62 (playRes aS aW).history.length C62, .slice A63 (playRes aS aW).future.length C63] 32)).cell (by simp) (((Blk.keep (Blk.keep HB3.out T5) T6)).cell 2 rfl)
  have c3_7_3 := ((Only.refl [] _).alloc (.cells #[.int .i64 (playRes aS aW).puzzle.points, .string (playRes aS aW).puzzle.names, .slice A60x2 (playRes aS aW).puzzle.moves.length C60x2, .slice A61 (playRes aS aW).state.length C61, .slice A62 (playRes aS aW).history.length C62, .slice A63 (playRes aS aW).future.length C63] 32)).cell (by simp) (((Blk.keep (Blk.keep HB3.out T5) T6)).cell 3 rfl)
  have c3_7_4 := ((Only.refl [] _).alloc (.cells #[.int .i64 (playRes aS aW).puzzle.points, .string (playRes aS aW).puzzle.names, .slice A60x2 (playRes aS aW).puzzle.moves.length C60x2, .slice A61 (playRes aS aW).state.length C61, .slice A62 (playRes aS aW).history.length C62, .slice A63 (playRes aS aW).future.length C63] 32)).cell (by simp) (((Blk.keep (Blk.keep HB3.out T5) T6)).cell 4 rfl)
  have c3_7_5 := ((Only.refl [] _).alloc (.cells #[.int .i64 (playRes aS aW).puzzle.points, .string (playRes aS aW).puzzle.names, .slice A60x2 (playRes aS aW).puzzle.moves.length C60x2, .slice A61 (playRes aS aW).state.length C61, .slice A62 (playRes aS aW).history.length C62, .slice A63 (playRes aS aW).future.length C63] 32)).cell (by simp) (((Blk.keep (Blk.keep HB3.out T5) T6)).cell 5 rfl)
  have e7 : eqV (playRes aS aW) (playRes aS aW) = true := eqV_yes rfl
  go_wp2_with fail
  with_reducible refine (eqSession_any [.int .i64 (playRes aS aW).puzzle.points, .string (playRes aS aW).puzzle.names, .slice A60x2 (playRes aS aW).puzzle.moves.length C60x2, .slice A61 (playRes aS aW).state.length C61, .slice A62 (playRes aS aW).history.length C62, .slice A63 (playRes aS aW).future.length C63] [.int .i64 (playRes aS aW).puzzle.points, .string (playRes aS aW).puzzle.names, .slice A30x2 (playRes aS aW).puzzle.moves.length C30x2, .slice A31 (playRes aS aW).state.length C31, .slice A32 (playRes aS aW).history.length C32, .slice A33 (playRes aS aW).future.length C33] (playRes aS aW) (playRes aS aW) _ _ _ (Rp.keep r6 ((Only.refl [] _).alloc (.cells #[.int .i64 (playRes aS aW).puzzle.points, .string (playRes aS aW).puzzle.names, .slice A60x2 (playRes aS aW).puzzle.moves.length C60x2, .slice A61 (playRes aS aW).state.length C61, .slice A62 (playRes aS aW).history.length C62, .slice A63 (playRes aS aW).future.length C63] 32))) (Rp.keep (Rp.keep (Rp.keep (Rp.keep r3 T4) T5) T6) ((Only.refl [] _).alloc (.cells #[.int .i64 (playRes aS aW).puzzle.points, .string (playRes aS aW).puzzle.names, .slice A60x2 (playRes aS aW).puzzle.moves.length C60x2, .slice A61 (playRes aS aW).state.length C61, .slice A62 (playRes aS aW).history.length C62, .slice A63 (playRes aS aW).future.length C63] 32)))).mono ?_
  rintro e w8 ⟨rfl, t7⟩
  have T7 : Only [] w7 w8 := ((Only.refl [] _).alloc (.cells #[.int .i64 (playRes aS aW).puzzle.points, .string (playRes aS aW).puzzle.names, .slice A60x2 (playRes aS aW).puzzle.moves.length C60x2, .slice A61 (playRes aS aW).state.length C61, .slice A62 (playRes aS aW).history.length C62, .slice A63 (playRes aS aW).future.length C63] 32)).trans t7
  have S7 : w7.heap.size + 1 ≤ w8.heap.size := by have := t7.size; simp at this; omega
  have B6 : Blk w8 w7.heap.size [.int .i64 (playRes aS aW).puzzle.points, .string (playRes aS aW).puzzle.names, .slice A60x2 (playRes aS aW).puzzle.moves.length C60x2, .slice A61 (playRes aS aW).state.length C61, .slice A62 (playRes aS aW).history.length C62, .slice A63 (playRes aS aW).future.length C63] := (Blk.keep (Blk.new_at (by simp)) t7)
  have LB6 : w7.heap.size < w8.heap.size := B6.lt
  have HB6 := Lib.hid B6; clear B6
  clear c3_7_0 c3_7_1 c3_7_2 c3_7_3 c3_7_4 c3_7_5
  go_upto_region 13 with fail
  have e9 : eqV aS aS = true := eqV_yes rfl
  go_region_held3 (fun w' => Only [] w8 w' ∧ w'.cell? ⟨w5.heap.size, 0, none⟩ = some (.int .i64 aS.puzzle.points) ∧ w'.cell? ⟨w5.heap.size, 1, none⟩ = some (.string aS.puzzle.names) ∧ w'.cell? ⟨w5.heap.size, 2, none⟩ = some (.slice A40x2 aS.puzzle.moves.length C40x2) ∧ w'.cell? ⟨w5.heap.size, 3, none⟩ = some (.slice A41 aS.state.length C41) ∧ w'.cell? ⟨w5.heap.size, 4, none⟩ = some (.slice A42 aS.history.length C42) ∧ w'.cell? ⟨w5.heap.size, 5, none⟩ = some (.slice A43 aS.future.length C43) ∧ w'.cell? ⟨w.heap.size, 0, none⟩ = some (.int .i64 aS.puzzle.points) ∧ w'.cell? ⟨w.heap.size, 1, none⟩ = some (.string aS.puzzle.names) ∧ w'.cell? ⟨w.heap.size, 2, none⟩ = some (.slice AaS0x2 aS.puzzle.moves.length CaS0x2) ∧ w'.cell? ⟨w.heap.size, 3, none⟩ = some (.slice AaS1 aS.state.length CaS1) ∧ w'.cell? ⟨w.heap.size, 4, none⟩ = some (.slice AaS2 aS.history.length CaS2) ∧ w'.cell? ⟨w.heap.size, 5, none⟩ = some (.slice AaS3 aS.future.length CaS3)) ((refine and_of ?_ (fun h__ => ⟨(Blk.keep (Blk.keep (Blk.keep HB4.out T6) T7) h__).cell 0 rfl, (Blk.keep (Blk.keep (Blk.keep HB4.out T6) T7) h__).cell 1 rfl, (Blk.keep (Blk.keep (Blk.keep HB4.out T6) T7) h__).cell 2 rfl, (Blk.keep (Blk.keep (Blk.keep HB4.out T6) T7) h__).cell 3 rfl, (Blk.keep (Blk.keep (Blk.keep HB4.out T6) T7) h__).cell 4 rfl, (Blk.keep (Blk.keep (Blk.keep HB4.out T6) T7) h__).cell 5 rfl, (Blk.keep (Blk.keep (Blk.keep (Blk.keep (Blk.keep (Blk.keep (Blk.keep (Blk.keep HBaS.out T1) T2) T3) T4) T5) T6) T7) h__).cell 0 rfl, (Blk.keep (Blk.keep (Blk.keep (Blk.keep (Blk.keep (Blk.keep (Blk.keep (Blk.keep HBaS.out T1) T2) T3) T4) T5) T6) T7) h__).cell 1 rfl, (Blk.keep (Blk.keep (Blk.keep (Blk.keep (Blk.keep (Blk.keep (Blk.keep (Blk.keep HBaS.out T1) T2) T3) T4) T5) T6) T7) h__).cell 2 rfl, (Blk.keep (Blk.keep (Blk.keep (Blk.keep (Blk.keep (Blk.keep (Blk.keep (Blk.keep HBaS.out T1) T2) T3) T4) T5) T6) T7) h__).cell 3 rfl, (Blk.keep (Blk.keep (Blk.keep (Blk.keep (Blk.keep (Blk.keep (Blk.keep (Blk.keep HBaS.out T1) T2) T3) T4) T5) T6) T7) h__).cell 4 rfl, (Blk.keep (Blk.keep (Blk.keep (Blk.keep (Blk.keep (Blk.keep (Blk.keep (Blk.keep HBaS.out T1) T2) T3) T4) T5) T6) T7) h__).cell 5 rfl⟩); first | exact (Only.refl _ _).drew | exact Only.trans (And.left (by assumption)) (by assumption))) (first
    | (go_at_call 12; (with_reducible refine (toSession_any [.int .i64 aS.puzzle.points, .string aS.puzzle.names, .slice AaS0x2 aS.puzzle.moves.length CaS0x2, .slice AaS1 aS.state.length CaS1, .slice AaS2 aS.history.length CaS2, .slice AaS3 aS.future.length CaS3] aS _ _ (Rp.keep (Rp.keep (Rp.keep (Rp.keep (Rp.keep (Rp.keep (Rp.keep (Rp.keep (Rp.keep raS T0) T1) T2) T3) T4) T5) T6) T7) (And.left (by assumption))) smaS).mono ?_); rintro e w9 ⟨u7, f7, rfl, r7, F7, t8⟩)
    | (go_at_call 14; (with_reducible refine (eqSession_any [.int .i64 aS.puzzle.points, .string aS.puzzle.names, .slice A40x2 aS.puzzle.moves.length C40x2, .slice A41 aS.state.length C41, .slice A42 aS.history.length C42, .slice A43 aS.future.length C43] u7 aS aS _ _ _ (Rp.keep (Rp.keep (Rp.keep (Rp.keep r4 T5) T6) T7) (And.left (by assumption))) (Rp.keep r7 (by first | exact Only.refl _ _ | assumption | exact Only.trans (by assumption) (by assumption)))).mono ?_); rintro e w10 ⟨rfl, t9⟩)
    | fail "no arm")
  have T8 : Only [] w8 w9 := ((Only.refl _ _).drew).trans t8
  have S8 : w8.heap.size + 0 ≤ w9.heap.size := by have := T8.size; omega
  have L7 := Rp.lt r7
  have G7 : ∀ b ∈ f7, w8.heap.size ≤ b := fun b hb => by have := F7.ge b hb; first | omega | (simp at this; omega)
  have T9 : Only [] w9 w10 := t9
  have S9 : w9.heap.size + 0 ≤ w10.heap.size := by have := T9.size; omega
  go_wp2_with fail
  with_reducible refine (toInt64S_sm (.slice AaW aW.length CaW) aW _ _ (Rp.keep (Rp.keep (Rp.keep (Rp.keep (Rp.keep (Rp.keep (Rp.keep (Rp.keep (Rp.keep (Rp.keep raW T0) T1) T2) T3) T4) T5) T6) T7) T8) T9) smaW).mono ?_
  rintro e w11 ⟨v8, f8, rfl, r8, F8, t10⟩
  have T10 : Only [] w10 w11 := t10
  have S10 : w10.heap.size + 0 ≤ w11.heap.size := by have := T10.size; omega
  have L8 := Rp.lt r8
  have G8 : ∀ b ∈ f8, w10.heap.size ≤ b := fun b hb => by have := F8.ge b hb; omega
  have e11 : eqV aW aW = true := eqV_yes rfl
  go_wp2_with fail
  with_reducible refine (eqInt64S_rd v5 v8 aW aW _ _ _ (Rp.keep (Rp.keep (Rp.keep (Rp.keep (Rp.keep r5 T6) T7) T8) T9) T10) r8).mono ?_
  rintro e w12 ⟨rfl, d11⟩
  have t11 := d11.only []
  have T11 : Only [] w11 w12 := t11
  have S11 : w11.heap.size + 0 ≤ w12.heap.size := by have := T11.size; omega
  have c4_12_0 := ((Blk.keep (Blk.keep (Blk.keep (Blk.keep (Blk.keep (Blk.keep HB4.out T6) T7) T8) T9) T10) T11)).cell 0 rfl
  have c4_12_1 := ((Blk.keep (Blk.keep (Blk.keep (Blk.keep (Blk.keep (Blk.keep HB4.out T6) T7) T8) T9) T10) T11)).cell 1 rfl
  have c4_12_2 := ((Blk.keep (Blk.keep (Blk.keep (Blk.keep (Blk.keep (Blk.keep HB4.out T6) T7) T8) T9) T10) T11)).cell 2 rfl
  have c4_12_3 := ((Blk.keep (Blk.keep (Blk.keep (Blk.keep (Blk.keep (Blk.keep HB4.out T6) T7) T8) T9) T10) T11)).cell 3 rfl
  have c4_12_4 := ((Blk.keep (Blk.keep (Blk.keep (Blk.keep (Blk.keep (Blk.keep HB4.out T6) T7) T8) T9) T10) T11)).cell 4 rfl
  have c4_12_5 := ((Blk.keep (Blk.keep (Blk.keep (Blk.keep (Blk.keep (Blk.keep HB4.out T6) T7) T8) T9) T10) T11)).cell 5 rfl
  have m12 : (1 : Int) + (Mk.cnt aS : Nat) ≤ 4611686018427387904 := by omega
  go_wp2_with fail
  with_reducible refine (markSession_any [.int .i64 aS.puzzle.points, .string aS.puzzle.names, .slice A40x2 aS.puzzle.moves.length C40x2, .slice A41 aS.state.length C41, .slice A42 aS.history.length C42, .slice A43 aS.future.length C43] aS f4 (1) _ (Rp.keep (Rp.keep (Rp.keep (Rp.keep (Rp.keep (Rp.keep (Rp.keep r4 T5) T6) T7) T8) T9) T10) T11) F4.nd (Own.keep (Own.keep (Own.keep (Own.keep (Own.keep (Own.keep (Own.keep F4.own T5) T6) T7) T8) T9) T10) T11) (by omega) m12).mono ?_
  rintro e w13 ⟨rfl, rr12, oo12, t12⟩
  have T12 : Only f4 w12 w13 := t12
  have S12 : w12.heap.size + 0 ≤ w13.heap.size := by have := T12.size; omega
  clear c4_12_0 c4_12_1 c4_12_2 c4_12_3 c4_12_4 c4_12_5
  clear r4
  have r4 := rr12
  have O4 := oo12
  have m13 : (1 + (Mk.cnt aS : Nat) : Int) + (Mk.cnt aW : Nat) ≤ 4611686018427387904 := by omega
  go_wp2_with fail
  with_reducible refine (markInt64S_rd v5 aW f5 (1 + (Mk.cnt aS : Nat)) _ (Rp.only (Rp.keep (Rp.keep (Rp.keep (Rp.keep (Rp.keep (Rp.keep r5 T6) T7) T8) T9) T10) T11) T12 (fun b hb hm => by have := G5 b hb; have := L4 b hm; omega)) (Own.only (Own.keep (Own.keep (Own.keep (Own.keep (Own.keep (Own.keep F5.own T6) T7) T8) T9) T10) T11) T12 (fun b hb hm => by have := G5 b hb; have := L4 b hm; omega)) (by omega) m13).mono ?_
  rintro e w14 ⟨rfl, rr13, oo13, t13⟩
  have T13 : Only f5 w13 w14 := t13
  have S13 : w13.heap.size + 0 ≤ w14.heap.size := by have := T13.size; omega
  clear r5
  have r5 := rr13
  have O5 := oo13
  have c6_14_0 := ((Blk.only (Blk.only (Blk.keep (Blk.keep (Blk.keep (Blk.keep HB6.out T8) T9) T10) T11) T12 (fun hm => by have := L4 _ hm; omega)) T13 (fun hm => by have := L5 _ hm; omega))).cell 0 rfl
  have c6_14_1 := ((Blk.only (Blk.only (Blk.keep (Blk.keep (Blk.keep (Blk.keep HB6.out T8) T9) T10) T11) T12 (fun hm => by have := L4 _ hm; omega)) T13 (fun hm => by have := L5 _ hm; omega))).cell 1 rfl
  have c6_14_2 := ((Blk.only (Blk.only (Blk.keep (Blk.keep (Blk.keep (Blk.keep HB6.out T8) T9) T10) T11) T12 (fun hm => by have := L4 _ hm; omega)) T13 (fun hm => by have := L5 _ hm; omega))).cell 2 rfl
  have c6_14_3 := ((Blk.only (Blk.only (Blk.keep (Blk.keep (Blk.keep (Blk.keep HB6.out T8) T9) T10) T11) T12 (fun hm => by have := L4 _ hm; omega)) T13 (fun hm => by have := L5 _ hm; omega))).cell 3 rfl
  have c6_14_4 := ((Blk.only (Blk.only (Blk.keep (Blk.keep (Blk.keep (Blk.keep HB6.out T8) T9) T10) T11) T12 (fun hm => by have := L4 _ hm; omega)) T13 (fun hm => by have := L5 _ hm; omega))).cell 4 rfl
  have c6_14_5 := ((Blk.only (Blk.only (Blk.keep (Blk.keep (Blk.keep (Blk.keep HB6.out T8) T9) T10) T11) T12 (fun hm => by have := L4 _ hm; omega)) T13 (fun hm => by have := L5 _ hm; omega))).cell 5 rfl
  have c3_14_0 := ((Blk.only (Blk.only (Blk.keep (Blk.keep (Blk.keep (Blk.keep (Blk.keep (Blk.keep (Blk.keep HB3.out T5) T6) T7) T8) T9) T10) T11) T12 (fun hm => by have := G4 _ hm; have := LB3; omega)) T13 (fun hm => by have := G5 _ hm; have := LB3; omega))).cell 0 rfl
  have c3_14_1 := ((Blk.only (Blk.only (Blk.keep (Blk.keep (Blk.keep (Blk.keep (Blk.keep (Blk.keep (Blk.keep HB3.out T5) T6) T7) T8) T9) T10) T11) T12 (fun hm => by have := G4 _ hm; have := LB3; omega)) T13 (fun hm => by have := G5 _ hm; have := LB3; omega))).cell 1 rfl
  have c3_14_2 := ((Blk.only (Blk.only (Blk.keep (Blk.keep (Blk.keep (Blk.keep (Blk.keep (Blk.keep (Blk.keep HB3.out T5) T6) T7) T8) T9) T10) T11) T12 (fun hm => by have := G4 _ hm; have := LB3; omega)) T13 (fun hm => by have := G5 _ hm; have := LB3; omega))).cell 2 rfl
  have c3_14_3 := ((Blk.only (Blk.only (Blk.keep (Blk.keep (Blk.keep (Blk.keep (Blk.keep (Blk.keep (Blk.keep HB3.out T5) T6) T7) T8) T9) T10) T11) T12 (fun hm => by have := G4 _ hm; have := LB3; omega)) T13 (fun hm => by have := G5 _ hm; have := LB3; omega))).cell 3 rfl
  have c3_14_4 := ((Blk.only (Blk.only (Blk.keep (Blk.keep (Blk.keep (Blk.keep (Blk.keep (Blk.keep (Blk.keep HB3.out T5) T6) T7) T8) T9) T10) T11) T12 (fun hm => by have := G4 _ hm; have := LB3; omega)) T13 (fun hm => by have := G5 _ hm; have := LB3; omega))).cell 4 rfl
  have c3_14_5 := ((Blk.only (Blk.only (Blk.keep (Blk.keep (Blk.keep (Blk.keep (Blk.keep (Blk.keep (Blk.keep HB3.out T5) T6) T7) T8) T9) T10) T11) T12 (fun hm => by have := G4 _ hm; have := LB3; omega)) T13 (fun hm => by have := G5 _ hm; have := LB3; omega))).cell 5 rfl
  have e14 : eqV (playRes aS aW) (playRes aS aW) = true := eqV_yes rfl
  go_wp2_with fail
  with_reducible refine (eqSession_any [.int .i64 (playRes aS aW).puzzle.points, .string (playRes aS aW).puzzle.names, .slice A60x2 (playRes aS aW).puzzle.moves.length C60x2, .slice A61 (playRes aS aW).state.length C61, .slice A62 (playRes aS aW).history.length C62, .slice A63 (playRes aS aW).future.length C63] [.int .i64 (playRes aS aW).puzzle.points, .string (playRes aS aW).puzzle.names, .slice A30x2 (playRes aS aW).puzzle.moves.length C30x2, .slice A31 (playRes aS aW).state.length C31, .slice A32 (playRes aS aW).history.length C32, .slice A33 (playRes aS aW).future.length C33] (playRes aS aW) (playRes aS aW) _ _ _ (Rp.only (Rp.only (Rp.keep (Rp.keep (Rp.keep (Rp.keep (Rp.keep r6 T7) T8) T9) T10) T11) T12 (fun b hb hm => by have := G6 b hb; have := L4 b hm; omega)) T13 (fun b hb hm => by have := G6 b hb; have := L5 b hm; omega)) (Rp.only (Rp.only (Rp.keep (Rp.keep (Rp.keep (Rp.keep (Rp.keep (Rp.keep (Rp.keep (Rp.keep r3 T4) T5) T6) T7) T8) T9) T10) T11) T12 (fun b hb hm => by have := L3 b hb; have := G4 b hm; omega)) T13 (fun b hb hm => by have := L3 b hb; have := G5 b hm; omega))).mono ?_
  rintro e w15 ⟨rfl, t14⟩
  have T14 : Only [] w14 w15 := t14
  have S14 : w14.heap.size + 0 ≤ w15.heap.size := by have := T14.size; omega
  clear c6_14_0 c6_14_1 c6_14_2 c6_14_3 c6_14_4 c6_14_5 c3_14_0 c3_14_1 c3_14_2 c3_14_3 c3_14_4 c3_14_5
  have c6_15_0 := ((Blk.keep (Blk.only (Blk.only (Blk.keep (Blk.keep (Blk.keep (Blk.keep HB6.out T8) T9) T10) T11) T12 (fun hm => by have := L4 _ hm; omega)) T13 (fun hm => by have := L5 _ hm; omega)) T14)).cell 0 rfl
  have c6_15_1 := ((Blk.keep (Blk.only (Blk.only (Blk.keep (Blk.keep (Blk.keep (Blk.keep HB6.out T8) T9) T10) T11) T12 (fun hm => by have := L4 _ hm; omega)) T13 (fun hm => by have := L5 _ hm; omega)) T14)).cell 1 rfl
  have c6_15_2 := ((Blk.keep (Blk.only (Blk.only (Blk.keep (Blk.keep (Blk.keep (Blk.keep HB6.out T8) T9) T10) T11) T12 (fun hm => by have := L4 _ hm; omega)) T13 (fun hm => by have := L5 _ hm; omega)) T14)).cell 2 rfl
  have c6_15_3 := ((Blk.keep (Blk.only (Blk.only (Blk.keep (Blk.keep (Blk.keep (Blk.keep HB6.out T8) T9) T10) T11) T12 (fun hm => by have := L4 _ hm; omega)) T13 (fun hm => by have := L5 _ hm; omega)) T14)).cell 3 rfl
  have c6_15_4 := ((Blk.keep (Blk.only (Blk.only (Blk.keep (Blk.keep (Blk.keep (Blk.keep HB6.out T8) T9) T10) T11) T12 (fun hm => by have := L4 _ hm; omega)) T13 (fun hm => by have := L5 _ hm; omega)) T14)).cell 4 rfl
  have c6_15_5 := ((Blk.keep (Blk.only (Blk.only (Blk.keep (Blk.keep (Blk.keep (Blk.keep HB6.out T8) T9) T10) T11) T12 (fun hm => by have := L4 _ hm; omega)) T13 (fun hm => by have := L5 _ hm; omega)) T14)).cell 5 rfl
  have m15 : (1 : Int) + (Mk.cnt (playRes aS aW) : Nat) ≤ 4611686018427387904 := by omega
  go_wp2_with fail
  with_reducible refine (markSession_any [.int .i64 (playRes aS aW).puzzle.points, .string (playRes aS aW).puzzle.names, .slice A60x2 (playRes aS aW).puzzle.moves.length C60x2, .slice A61 (playRes aS aW).state.length C61, .slice A62 (playRes aS aW).history.length C62, .slice A63 (playRes aS aW).future.length C63] (playRes aS aW) f6 (1) _ (Rp.keep (Rp.only (Rp.only (Rp.keep (Rp.keep (Rp.keep (Rp.keep (Rp.keep r6 T7) T8) T9) T10) T11) T12 (fun b hb hm => by have := G6 b hb; have := L4 b hm; omega)) T13 (fun b hb hm => by have := G6 b hb; have := L5 b hm; omega)) T14) F6.nd (Own.keep (Own.only (Own.only (Own.keep (Own.keep (Own.keep (Own.keep (Own.keep F6.own T7) T8) T9) T10) T11) T12 (fun b hb hm => by have := G6 b hb; have := L4 b hm; omega)) T13 (fun b hb hm => by have := G6 b hb; have := L5 b hm; omega)) T14) (by omega) m15).mono ?_
  rintro e w16 ⟨rfl, rr15, oo15, t15⟩
  have T15 : Only f6 w15 w16 := t15
  have S15 : w15.heap.size + 0 ≤ w16.heap.size := by have := T15.size; omega
  clear c6_15_0 c6_15_1 c6_15_2 c6_15_3 c6_15_4 c6_15_5
  clear r6
  have r6 := rr15
  have O6 := oo15
  have c6_16_0 := ((Blk.only (Blk.keep (Blk.only (Blk.only (Blk.keep (Blk.keep (Blk.keep (Blk.keep HB6.out T8) T9) T10) T11) T12 (fun hm => by have := L4 _ hm; omega)) T13 (fun hm => by have := L5 _ hm; omega)) T14) T15 (fun hm => by have := L6 _ hm; omega))).cell 0 rfl
  have c6_16_1 := ((Blk.only (Blk.keep (Blk.only (Blk.only (Blk.keep (Blk.keep (Blk.keep (Blk.keep HB6.out T8) T9) T10) T11) T12 (fun hm => by have := L4 _ hm; omega)) T13 (fun hm => by have := L5 _ hm; omega)) T14) T15 (fun hm => by have := L6 _ hm; omega))).cell 1 rfl
  have c6_16_2 := ((Blk.only (Blk.keep (Blk.only (Blk.only (Blk.keep (Blk.keep (Blk.keep (Blk.keep HB6.out T8) T9) T10) T11) T12 (fun hm => by have := L4 _ hm; omega)) T13 (fun hm => by have := L5 _ hm; omega)) T14) T15 (fun hm => by have := L6 _ hm; omega))).cell 2 rfl
  have c6_16_3 := ((Blk.only (Blk.keep (Blk.only (Blk.only (Blk.keep (Blk.keep (Blk.keep (Blk.keep HB6.out T8) T9) T10) T11) T12 (fun hm => by have := L4 _ hm; omega)) T13 (fun hm => by have := L5 _ hm; omega)) T14) T15 (fun hm => by have := L6 _ hm; omega))).cell 3 rfl
  have c6_16_4 := ((Blk.only (Blk.keep (Blk.only (Blk.only (Blk.keep (Blk.keep (Blk.keep (Blk.keep HB6.out T8) T9) T10) T11) T12 (fun hm => by have := L4 _ hm; omega)) T13 (fun hm => by have := L5 _ hm; omega)) T14) T15 (fun hm => by have := L6 _ hm; omega))).cell 4 rfl
  have c6_16_5 := ((Blk.only (Blk.keep (Blk.only (Blk.only (Blk.keep (Blk.keep (Blk.keep (Blk.keep HB6.out T8) T9) T10) T11) T12 (fun hm => by have := L4 _ hm; omega)) T13 (fun hm => by have := L5 _ hm; omega)) T14) T15 (fun hm => by have := L6 _ hm; omega))).cell 5 rfl
  have h16 : heldV (1) (Mk.mark (1) (playRes aS aW)) = 1 + (Mk.cnt (playRes aS aW) : Nat) := heldV_mark (1) (playRes aS aW)
  have m16 : (1 : Int) + (Mk.cnt (Mk.mark (1) (playRes aS aW)) : Nat) ≤ 4611686018427387904 := by rw [MkL.cnt]; omega
  go_wp2_with fail
  with_reducible refine (heldSession_any [.int .i64 (playRes aS aW).puzzle.points, .string (playRes aS aW).puzzle.names, .slice A60x2 (playRes aS aW).puzzle.moves.length C60x2, .slice A61 (playRes aS aW).state.length C61, .slice A62 (playRes aS aW).history.length C62, .slice A63 (playRes aS aW).future.length C63] (Mk.mark (1) (playRes aS aW)) _ (1) _ r6 (by omega) m16).mono ?_
  rintro e w17 ⟨rfl, t16⟩
  have T16 : Only [] w16 w17 := t16
  have S16 : w16.heap.size + 0 ≤ w17.heap.size := by have := T16.size; omega
  clear c6_16_0 c6_16_1 c6_16_2 c6_16_3 c6_16_4 c6_16_5
  have caS_17_0 := ((Blk.keep (Blk.only (Blk.keep (Blk.only (Blk.only (Blk.keep (Blk.keep (Blk.keep (Blk.keep (Blk.keep (Blk.keep (Blk.keep (Blk.keep (Blk.keep (Blk.keep (Blk.keep HBaS.out T1) T2) T3) T4) T5) T6) T7) T8) T9) T10) T11) T12 (fun hm => by have := G4 _ hm; have := LBaS; omega)) T13 (fun hm => by have := G5 _ hm; have := LBaS; omega)) T14) T15 (fun hm => by have := G6 _ hm; have := LBaS; omega)) T16)).cell 0 rfl
  have caS_17_1 := ((Blk.keep (Blk.only (Blk.keep (Blk.only (Blk.only (Blk.keep (Blk.keep (Blk.keep (Blk.keep (Blk.keep (Blk.keep (Blk.keep (Blk.keep (Blk.keep (Blk.keep (Blk.keep HBaS.out T1) T2) T3) T4) T5) T6) T7) T8) T9) T10) T11) T12 (fun hm => by have := G4 _ hm; have := LBaS; omega)) T13 (fun hm => by have := G5 _ hm; have := LBaS; omega)) T14) T15 (fun hm => by have := G6 _ hm; have := LBaS; omega)) T16)).cell 1 rfl
  have caS_17_2 := ((Blk.keep (Blk.only (Blk.keep (Blk.only (Blk.only (Blk.keep (Blk.keep (Blk.keep (Blk.keep (Blk.keep (Blk.keep (Blk.keep (Blk.keep (Blk.keep (Blk.keep (Blk.keep HBaS.out T1) T2) T3) T4) T5) T6) T7) T8) T9) T10) T11) T12 (fun hm => by have := G4 _ hm; have := LBaS; omega)) T13 (fun hm => by have := G5 _ hm; have := LBaS; omega)) T14) T15 (fun hm => by have := G6 _ hm; have := LBaS; omega)) T16)).cell 2 rfl
  have caS_17_3 := ((Blk.keep (Blk.only (Blk.keep (Blk.only (Blk.only (Blk.keep (Blk.keep (Blk.keep (Blk.keep (Blk.keep (Blk.keep (Blk.keep (Blk.keep (Blk.keep (Blk.keep (Blk.keep HBaS.out T1) T2) T3) T4) T5) T6) T7) T8) T9) T10) T11) T12 (fun hm => by have := G4 _ hm; have := LBaS; omega)) T13 (fun hm => by have := G5 _ hm; have := LBaS; omega)) T14) T15 (fun hm => by have := G6 _ hm; have := LBaS; omega)) T16)).cell 3 rfl
  have caS_17_4 := ((Blk.keep (Blk.only (Blk.keep (Blk.only (Blk.only (Blk.keep (Blk.keep (Blk.keep (Blk.keep (Blk.keep (Blk.keep (Blk.keep (Blk.keep (Blk.keep (Blk.keep (Blk.keep HBaS.out T1) T2) T3) T4) T5) T6) T7) T8) T9) T10) T11) T12 (fun hm => by have := G4 _ hm; have := LBaS; omega)) T13 (fun hm => by have := G5 _ hm; have := LBaS; omega)) T14) T15 (fun hm => by have := G6 _ hm; have := LBaS; omega)) T16)).cell 4 rfl
  have caS_17_5 := ((Blk.keep (Blk.only (Blk.keep (Blk.only (Blk.only (Blk.keep (Blk.keep (Blk.keep (Blk.keep (Blk.keep (Blk.keep (Blk.keep (Blk.keep (Blk.keep (Blk.keep (Blk.keep HBaS.out T1) T2) T3) T4) T5) T6) T7) T8) T9) T10) T11) T12 (fun hm => by have := G4 _ hm; have := LBaS; omega)) T13 (fun hm => by have := G5 _ hm; have := LBaS; omega)) T14) T15 (fun hm => by have := G6 _ hm; have := LBaS; omega)) T16)).cell 5 rfl
  go_wp2_with fail
  with_reducible refine (toSession_any [.int .i64 aS.puzzle.points, .string aS.puzzle.names, .slice AaS0x2 aS.puzzle.moves.length CaS0x2, .slice AaS1 aS.state.length CaS1, .slice AaS2 aS.history.length CaS2, .slice AaS3 aS.future.length CaS3] aS _ _ (Rp.keep (Rp.only (Rp.keep (Rp.only (Rp.only (Rp.keep (Rp.keep (Rp.keep (Rp.keep (Rp.keep (Rp.keep (Rp.keep (Rp.keep (Rp.keep (Rp.keep (Rp.keep (Rp.keep raS T0) T1) T2) T3) T4) T5) T6) T7) T8) T9) T10) T11) T12 (fun b hb hm => by have := LaS b hb; have := G4 b hm; omega)) T13 (fun b hb hm => by have := LaS b hb; have := G5 b hm; omega)) T14) T15 (fun b hb hm => by have := LaS b hb; have := G6 b hm; omega)) T16) smaS).mono ?_
  rintro e w18 ⟨u9, f9, rfl, r9, F9, t17⟩
  have T17 : Only [] w17 w18 := t17
  have S17 : w17.heap.size + 0 ≤ w18.heap.size := by have := T17.size; omega
  clear caS_17_0 caS_17_1 caS_17_2 caS_17_3 caS_17_4 caS_17_5
  have q9 := r9
  obtain ⟨u90, u91, u92, u93, _, _, _, _, rfl, -, z90, z91, z92, z93⟩ := q9
  have q90x := z90
  obtain ⟨u90x2, rfl, -, -, z90x2⟩ := q90x
  obtain ⟨A90x2, C90x2, _, _, rfl, -⟩ := z90x2.open_
  obtain ⟨A91, C91, _, _, rfl, -⟩ := z91.open_
  obtain ⟨A92, C92, _, _, rfl, -⟩ := z92.open_
  obtain ⟨A93, C93, _, _, rfl, -⟩ := z93.open_
  have L9 := Rp.lt r9
  have G9 : ∀ b ∈ f9, w17.heap.size ≤ b := fun b hb => by have := F9.ge b hb; omega
  go_wp2_with fail
  with_reducible refine (toInt64S_sm (.slice AaW aW.length CaW) aW _ _ (Rp.keep (Rp.keep (Rp.only (Rp.keep (Rp.only (Rp.only (Rp.keep (Rp.keep (Rp.keep (Rp.keep (Rp.keep (Rp.keep (Rp.keep (Rp.keep (Rp.keep (Rp.keep (Rp.keep (Rp.keep raW T0) T1) T2) T3) T4) T5) T6) T7) T8) T9) T10) T11) T12 (fun b hb hm => by have := LaW b hb; have := G4 b hm; omega)) T13 (fun b hb hm => by have := LaW b hb; have := G5 b hm; omega)) T14) T15 (fun b hb hm => by have := LaW b hb; have := G6 b hm; omega)) T16) T17) smaW).mono ?_
  rintro e w19 ⟨v10, f10, rfl, r10, F10, t18⟩
  have T18 : Only [] w18 w19 := t18
  have S18 : w18.heap.size + 0 ≤ w19.heap.size := by have := T18.size; omega
  have L10 := Rp.lt r10
  have G10 : ∀ b ∈ f10, w18.heap.size ≤ b := fun b hb => by have := F10.ge b hb; omega
  go_wp2_with fail
  with_reducible refine (implPlayWord_any [.int .i64 aS.puzzle.points, .string aS.puzzle.names, .slice A90x2 aS.puzzle.moves.length C90x2, .slice A91 aS.state.length C91, .slice A92 aS.history.length C92, .slice A93 aS.future.length C93] aS _ v10 aW _ _ (Rp.keep r9 T18) r10).mono ?_
  rintro e w20 ⟨u11, f11, rfl, r11, F11, t19⟩
  have T19 : Only [] w19 w20 := t19
  have S19 : w19.heap.size + 0 ≤ w20.heap.size := by have := T19.size; omega
  have q11 := r11
  obtain ⟨u110, u111, u112, u113, _, _, _, _, rfl, -, z110, z111, z112, z113⟩ := q11
  have q110x := z110
  obtain ⟨u110x2, rfl, -, -, z110x2⟩ := q110x
  obtain ⟨A110x2, C110x2, _, _, rfl, -⟩ := z110x2.open_
  obtain ⟨A111, C111, _, _, rfl, -⟩ := z111.open_
  obtain ⟨A112, C112, _, _, rfl, -⟩ := z112.open_
  obtain ⟨A113, C113, _, _, rfl, -⟩ := z113.open_
  have L11 := Rp.lt r11
  have G11 : ∀ b ∈ f11, w19.heap.size ≤ b := fun b hb => by have := F11.ge b hb; omega
  have c3_20_0 := ((Only.refl [] _).alloc (.cells #[.int .i64 (playRes aS aW).puzzle.points, .string (playRes aS aW).puzzle.names, .slice A110x2 (playRes aS aW).puzzle.moves.length C110x2, .slice A111 (playRes aS aW).state.length C111, .slice A112 (playRes aS aW).history.length C112, .slice A113 (playRes aS aW).future.length C113] 32)).cell (by simp) (((Blk.keep (Blk.keep (Blk.keep (Blk.keep (Blk.only (Blk.keep (Blk.only (Blk.only (Blk.keep (Blk.keep (Blk.keep (Blk.keep (Blk.keep (Blk.keep (Blk.keep HB3.out T5) T6) T7) T8) T9) T10) T11) T12 (fun hm => by have := G4 _ hm; have := LB3; omega)) T13 (fun hm => by have := G5 _ hm; have := LB3; omega)) T14) T15 (fun hm => by have := G6 _ hm; have := LB3; omega)) T16) T17) T18) T19)).cell 0 rfl)
  have c3_20_1 := ((Only.refl [] _).alloc (.cells #[.int .i64 (playRes aS aW).puzzle.points, .string (playRes aS aW).puzzle.names, .slice A110x2 (playRes aS aW).puzzle.moves.length C110x2, .slice A111 (playRes aS aW).state.length C111, .slice A112 (playRes aS aW).history.length C112, .slice A113 (playRes aS aW).future.length C113] 32)).cell (by simp) (((Blk.keep (Blk.keep (Blk.keep (Blk.keep (Blk.only (Blk.keep (Blk.only (Blk.only (Blk.keep (Blk.keep (Blk.keep (Blk.keep (Blk.keep (Blk.keep (Blk.keep HB3.out T5) T6) T7) T8) T9) T10) T11) T12 (fun hm => by have := G4 _ hm; have := LB3; omega)) T13 (fun hm => by have := G5 _ hm; have := LB3; omega)) T14) T15 (fun hm => by have := G6 _ hm; have := LB3; omega)) T16) T17) T18) T19)).cell 1 rfl)
  have c3_20_2 := ((Only.refl [] _).alloc (.cells #[.int .i64 (playRes aS aW).puzzle.points, .string (playRes aS aW).puzzle.names, .slice A110x2 (playRes aS aW).puzzle.moves.length C110x2, .slice A111 (playRes aS aW).state.length C111, .slice A112 (playRes aS aW).history.length C112, .slice A113 (playRes aS aW).future.length C113] 32)).cell (by simp) (((Blk.keep (Blk.keep (Blk.keep (Blk.keep (Blk.only (Blk.keep (Blk.only (Blk.only (Blk.keep (Blk.keep (Blk.keep (Blk.keep (Blk.keep (Blk.keep (Blk.keep HB3.out T5) T6) T7) T8) T9) T10) T11) T12 (fun hm => by have := G4 _ hm; have := LB3; omega)) T13 (fun hm => by have := G5 _ hm; have := LB3; omega)) T14) T15 (fun hm => by have := G6 _ hm; have := LB3; omega)) T16) T17) T18) T19)).cell 2 rfl)
  have c3_20_3 := ((Only.refl [] _).alloc (.cells #[.int .i64 (playRes aS aW).puzzle.points, .string (playRes aS aW).puzzle.names, .slice A110x2 (playRes aS aW).puzzle.moves.length C110x2, .slice A111 (playRes aS aW).state.length C111, .slice A112 (playRes aS aW).history.length C112, .slice A113 (playRes aS aW).future.length C113] 32)).cell (by simp) (((Blk.keep (Blk.keep (Blk.keep (Blk.keep (Blk.only (Blk.keep (Blk.only (Blk.only (Blk.keep (Blk.keep (Blk.keep (Blk.keep (Blk.keep (Blk.keep (Blk.keep HB3.out T5) T6) T7) T8) T9) T10) T11) T12 (fun hm => by have := G4 _ hm; have := LB3; omega)) T13 (fun hm => by have := G5 _ hm; have := LB3; omega)) T14) T15 (fun hm => by have := G6 _ hm; have := LB3; omega)) T16) T17) T18) T19)).cell 3 rfl)
  have c3_20_4 := ((Only.refl [] _).alloc (.cells #[.int .i64 (playRes aS aW).puzzle.points, .string (playRes aS aW).puzzle.names, .slice A110x2 (playRes aS aW).puzzle.moves.length C110x2, .slice A111 (playRes aS aW).state.length C111, .slice A112 (playRes aS aW).history.length C112, .slice A113 (playRes aS aW).future.length C113] 32)).cell (by simp) (((Blk.keep (Blk.keep (Blk.keep (Blk.keep (Blk.only (Blk.keep (Blk.only (Blk.only (Blk.keep (Blk.keep (Blk.keep (Blk.keep (Blk.keep (Blk.keep (Blk.keep HB3.out T5) T6) T7) T8) T9) T10) T11) T12 (fun hm => by have := G4 _ hm; have := LB3; omega)) T13 (fun hm => by have := G5 _ hm; have := LB3; omega)) T14) T15 (fun hm => by have := G6 _ hm; have := LB3; omega)) T16) T17) T18) T19)).cell 4 rfl)
  have c3_20_5 := ((Only.refl [] _).alloc (.cells #[.int .i64 (playRes aS aW).puzzle.points, .string (playRes aS aW).puzzle.names, .slice A110x2 (playRes aS aW).puzzle.moves.length C110x2, .slice A111 (playRes aS aW).state.length C111, .slice A112 (playRes aS aW).history.length C112, .slice A113 (playRes aS aW).future.length C113] 32)).cell (by simp) (((Blk.keep (Blk.keep (Blk.keep (Blk.keep (Blk.only (Blk.keep (Blk.only (Blk.only (Blk.keep (Blk.keep (Blk.keep (Blk.keep (Blk.keep (Blk.keep (Blk.keep HB3.out T5) T6) T7) T8) T9) T10) T11) T12 (fun hm => by have := G4 _ hm; have := LB3; omega)) T13 (fun hm => by have := G5 _ hm; have := LB3; omega)) T14) T15 (fun hm => by have := G6 _ hm; have := LB3; omega)) T16) T17) T18) T19)).cell 5 rfl)
  have e20 : eqV (playRes aS aW) (playRes aS aW) = true := eqV_yes rfl
  go_wp2_with fail
  with_reducible refine (eqSession_any [.int .i64 (playRes aS aW).puzzle.points, .string (playRes aS aW).puzzle.names, .slice A110x2 (playRes aS aW).puzzle.moves.length C110x2, .slice A111 (playRes aS aW).state.length C111, .slice A112 (playRes aS aW).history.length C112, .slice A113 (playRes aS aW).future.length C113] [.int .i64 (playRes aS aW).puzzle.points, .string (playRes aS aW).puzzle.names, .slice A30x2 (playRes aS aW).puzzle.moves.length C30x2, .slice A31 (playRes aS aW).state.length C31, .slice A32 (playRes aS aW).history.length C32, .slice A33 (playRes aS aW).future.length C33] (playRes aS aW) (playRes aS aW) _ _ _ (Rp.keep r11 ((Only.refl [] _).alloc (.cells #[.int .i64 (playRes aS aW).puzzle.points, .string (playRes aS aW).puzzle.names, .slice A110x2 (playRes aS aW).puzzle.moves.length C110x2, .slice A111 (playRes aS aW).state.length C111, .slice A112 (playRes aS aW).history.length C112, .slice A113 (playRes aS aW).future.length C113] 32))) (Rp.keep (Rp.keep (Rp.keep (Rp.keep (Rp.keep (Rp.only (Rp.keep (Rp.only (Rp.only (Rp.keep (Rp.keep (Rp.keep (Rp.keep (Rp.keep (Rp.keep (Rp.keep (Rp.keep r3 T4) T5) T6) T7) T8) T9) T10) T11) T12 (fun b hb hm => by have := L3 b hb; have := G4 b hm; omega)) T13 (fun b hb hm => by have := L3 b hb; have := G5 b hm; omega)) T14) T15 (fun b hb hm => by have := L3 b hb; have := G6 b hm; omega)) T16) T17) T18) T19) ((Only.refl [] _).alloc (.cells #[.int .i64 (playRes aS aW).puzzle.points, .string (playRes aS aW).puzzle.names, .slice A110x2 (playRes aS aW).puzzle.moves.length C110x2, .slice A111 (playRes aS aW).state.length C111, .slice A112 (playRes aS aW).history.length C112, .slice A113 (playRes aS aW).future.length C113] 32)))).mono ?_
  rintro e w21 ⟨rfl, t20⟩
  have T20 : Only [] w20 w21 := ((Only.refl [] _).alloc (.cells #[.int .i64 (playRes aS aW).puzzle.points, .string (playRes aS aW).puzzle.names, .slice A110x2 (playRes aS aW).puzzle.moves.length C110x2, .slice A111 (playRes aS aW).state.length C111, .slice A112 (playRes aS aW).history.length C112, .slice A113 (playRes aS aW).future.length C113] 32)).trans t20
  have S20 : w20.heap.size + 1 ≤ w21.heap.size := by have := t20.size; simp at this; omega
  have B11 : Blk w21 w20.heap.size [.int .i64 (playRes aS aW).puzzle.points, .string (playRes aS aW).puzzle.names, .slice A110x2 (playRes aS aW).puzzle.moves.length C110x2, .slice A111 (playRes aS aW).state.length C111, .slice A112 (playRes aS aW).history.length C112, .slice A113 (playRes aS aW).future.length C113] := (Blk.keep (Blk.new_at (by simp)) t20)
  have LB11 : w20.heap.size < w21.heap.size := B11.lt
  have HB11 := Lib.hid B11; clear B11
  clear c3_20_0 c3_20_1 c3_20_2 c3_20_3 c3_20_4 c3_20_5
  have c6_21_0 := ((Blk.keep (Blk.keep (Blk.keep (Blk.keep (Blk.keep (Blk.only (Blk.keep (Blk.only (Blk.only (Blk.keep (Blk.keep (Blk.keep (Blk.keep HB6.out T8) T9) T10) T11) T12 (fun hm => by have := L4 _ hm; omega)) T13 (fun hm => by have := L5 _ hm; omega)) T14) T15 (fun hm => by have := L6 _ hm; omega)) T16) T17) T18) T19) T20)).cell 0 rfl
  have c6_21_1 := ((Blk.keep (Blk.keep (Blk.keep (Blk.keep (Blk.keep (Blk.only (Blk.keep (Blk.only (Blk.only (Blk.keep (Blk.keep (Blk.keep (Blk.keep HB6.out T8) T9) T10) T11) T12 (fun hm => by have := L4 _ hm; omega)) T13 (fun hm => by have := L5 _ hm; omega)) T14) T15 (fun hm => by have := L6 _ hm; omega)) T16) T17) T18) T19) T20)).cell 1 rfl
  have c6_21_2 := ((Blk.keep (Blk.keep (Blk.keep (Blk.keep (Blk.keep (Blk.only (Blk.keep (Blk.only (Blk.only (Blk.keep (Blk.keep (Blk.keep (Blk.keep HB6.out T8) T9) T10) T11) T12 (fun hm => by have := L4 _ hm; omega)) T13 (fun hm => by have := L5 _ hm; omega)) T14) T15 (fun hm => by have := L6 _ hm; omega)) T16) T17) T18) T19) T20)).cell 2 rfl
  have c6_21_3 := ((Blk.keep (Blk.keep (Blk.keep (Blk.keep (Blk.keep (Blk.only (Blk.keep (Blk.only (Blk.only (Blk.keep (Blk.keep (Blk.keep (Blk.keep HB6.out T8) T9) T10) T11) T12 (fun hm => by have := L4 _ hm; omega)) T13 (fun hm => by have := L5 _ hm; omega)) T14) T15 (fun hm => by have := L6 _ hm; omega)) T16) T17) T18) T19) T20)).cell 3 rfl
  have c6_21_4 := ((Blk.keep (Blk.keep (Blk.keep (Blk.keep (Blk.keep (Blk.only (Blk.keep (Blk.only (Blk.only (Blk.keep (Blk.keep (Blk.keep (Blk.keep HB6.out T8) T9) T10) T11) T12 (fun hm => by have := L4 _ hm; omega)) T13 (fun hm => by have := L5 _ hm; omega)) T14) T15 (fun hm => by have := L6 _ hm; omega)) T16) T17) T18) T19) T20)).cell 4 rfl
  have c6_21_5 := ((Blk.keep (Blk.keep (Blk.keep (Blk.keep (Blk.keep (Blk.only (Blk.keep (Blk.only (Blk.only (Blk.keep (Blk.keep (Blk.keep (Blk.keep HB6.out T8) T9) T10) T11) T12 (fun hm => by have := L4 _ hm; omega)) T13 (fun hm => by have := L5 _ hm; omega)) T14) T15 (fun hm => by have := L6 _ hm; omega)) T16) T17) T18) T19) T20)).cell 5 rfl
  have h21 : heldV (1) (Mk.mark (1) (playRes aS aW)) = 1 + (Mk.cnt (playRes aS aW) : Nat) := heldV_mark (1) (playRes aS aW)
  have m21 : (1 : Int) + (Mk.cnt (Mk.mark (1) (playRes aS aW)) : Nat) ≤ 4611686018427387904 := by rw [MkL.cnt]; omega
  go_wp2_with fail
  with_reducible refine (heldSession_any [.int .i64 (playRes aS aW).puzzle.points, .string (playRes aS aW).puzzle.names, .slice A60x2 (playRes aS aW).puzzle.moves.length C60x2, .slice A61 (playRes aS aW).state.length C61, .slice A62 (playRes aS aW).history.length C62, .slice A63 (playRes aS aW).future.length C63] (Mk.mark (1) (playRes aS aW)) _ (1) _ (Rp.keep (Rp.keep (Rp.keep (Rp.keep (Rp.keep r6 T16) T17) T18) T19) T20) (by omega) m21).mono ?_
  rintro e w22 ⟨rfl, t21⟩
  have T21 : Only [] w21 w22 := t21
  have S21 : w21.heap.size + 0 ≤ w22.heap.size := by have := T21.size; omega
  clear c6_21_0 c6_21_1 c6_21_2 c6_21_3 c6_21_4 c6_21_5
  go_wp2
  go_ret
  refine ⟨rfl, ?_⟩
  exact (Only.keepThen (Only.keepThen (Only.keepThen (Only.keepThen (Only.keepThen (Only.keepThen (Only.then_ (Only.keepThen (Only.then_ (Only.then_ (Only.keepThen (Only.keepThen (Only.keepThen (Only.keepThen (Only.keepThen (Only.keepThen (Only.keepThen (Only.keepThen (Only.keepThen (Only.keepThen (Only.keepThen T0 T1) T2) T3) T4) T5) T6) T7) T8) T9) T10) T11) T12 (fun b hb hl => by have := G4 b hb; omega)) T13 (fun b hb hl => by have := G5 b hb; omega)) T14) T15 (fun b hb hl => by have := G6 b hb; omega)) T16) T17) T18) T19) T20) T21)
end Go.Proofs.Ytpfmkjcngknecaa
