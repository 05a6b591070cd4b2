/- The law on DescentWord: its walk. (Printed by gen_exact.py.) -/
import Derived.Test.YtmilmbgnkpkmnaaImplWord
import Derived.Test.YtmilmbgnkpkmnaaExact
import Derived.Deep.RegionHeld3
import Derived.Deep.DeepCutAuto
namespace Go.Proofs.Ytmilmbgnkpkmnaa
open Go.RowKit
set_option maxRecDepth 10000

theorem dW_len {x : Puzzle} {t : Table} : ∀ (n : Nat) (q w : List Int), dW x t n q = some w → w.length ≤ n
  | 0, q, w, h => by
    unfold dW at h; split at h
    · injection h with h; subst h; simp
    · cases h
  | n + 1, q, w, h => by
    unfold dW at h; split at h
    · injection h with h; subst h; simp
    · split at h
      · cases h
      · rw [Option.map_eq_some_iff] at h
        obtain ⟨a, ha, rfl⟩ := h
        have := dW_len n _ a ha
        simp; exact this
theorem dWord_cnt (x : Puzzle) (t : Table) (p : List Int) : Mk.cnt ((dWord x t p).getD []) ≤ 200 := by
  show cntL ((dWord x t p).getD []) ≤ 200
  rw [cntL_ints]
  unfold dWord
  split
  · cases h : dW x t 200 p with
    | none => simp
    | some w => exact dW_len 200 p w h
  · simp
set_option maxHeartbeats 4000000 in
theorem FnExactDescentWord_any (w : World) (caP : List Value) (aP : Puzzle) (faP : List Nat) (raP : Rp.rep w caP aP faP) (caT : List Value) (aT : Table) (faT : List Nat) (raT : Rp.rep w caT aT faT) (vaPattern : Value) (aPattern : List Int) (faPattern : List Nat) (raPattern : Rd w vaPattern aPattern faPattern) :
    Calls Try.prog 8 #[.agg caP.toArray, .agg caT.toArray, vaPattern] w fun e w' => e = .returned (.bool true) ∧ Only [] w w' := by
  have qaP := raP
  obtain ⟨uaP2, rfl, -, -, zaP2⟩ := qaP
  obtain ⟨AaP2, CaP2, _, _, rfl, -⟩ := zaP2.open_
  have LaP := Rp.lt raP
  have qaT := raT
  obtain ⟨uaT0, uaT1, uaT2, _, _, _, rfl, -, zaT0, zaT1, zaT2⟩ := qaT
  obtain ⟨AaT0, CaT0, _, _, rfl, -⟩ := zaT0.open_
  obtain ⟨AaT1, CaT1, _, _, rfl, -⟩ := zaT1.open_
  obtain ⟨AaT2, CaT2, _, _, rfl, -⟩ := zaT2.open_
  have LaT := Rp.lt raT
  obtain ⟨AaPattern, CaPattern, _, _, rfl, -⟩ := raPattern.open_
  have LaPattern := Rp.lt raPattern
  have hbaPattern : aPattern.length ≤ 9223372036854775807 := by obtain ⟨_, _, _, _, hq, -, hs⟩ := raPattern.open_; have := hs.bound; exact this
  by_cases lenaPattern : 1048576 < aPattern.length
  · go_enter Try.func8, Try.ntmps8
    go_wp2
    go_ret
    exact ⟨rfl, (by with_reducible repeat (first | exact Only.refl _ _ | assumption | refine Only.drewN ?_ _ | refine Only.drew ?_ | refine Only.alloc ?_ _ | refine Only.setCell ?_ (by intro hh; exfalso; simp at hh; try omega) _ | refine Only.trans ?_ (by assumption)))⟩
  have smaPattern : Sm.sm aPattern := ⟨by omega, fun _ _ => trivial⟩
  have csaPattern : Mk.cnt aPattern ≤ 1048576 := by simp only [Mk.cnt, cntL_ints]; omega
  rcases szV_cases (1048576) aP with ⟨esaP, msaP⟩ | ⟨esaP, psaP, msaP⟩
  · go_enter Try.func8, Try.ntmps8
    go_wp2_with (with_reducible refine (szPuzzle_any [.int .i64 aP.points, .string aP.names, .slice AaP2 aP.moves.length CaP2] aP _ (1048576) _ (Rp.keep raP (((Only.refl [] _).alloc (.cells #[.int .i64 aP.points, .string aP.names, .slice AaP2 aP.moves.length CaP2] 24)).alloc (.cells #[.slice AaT0 aT.tracked.length CaT0, .slice AaT1 aT.patterns.length CaT1, .slice AaT2 aT.distances.length CaT2] 39))) (by omega) (by omega)).mono ?_; rintro e w1 ⟨rfl, t0⟩)
    go_ret
    exact ⟨rfl, (by with_reducible repeat (first | exact Only.refl _ _ | assumption | refine Only.drewN ?_ _ | refine Only.drew ?_ | refine Only.alloc ?_ _ | refine Only.setCell ?_ (by intro hh; exfalso; simp at hh; try omega) _ | refine Only.trans ?_ (by assumption)))⟩
  have smaP : Sm.sm aP := SzSm.of_ _ (by omega)
  have csaP : Mk.cnt aP ≤ 1048576 := Nat.le_trans (CntSz.le aP) (by omega)
  rcases szV_cases (1048576 - (Sz.sz aP : Nat)) aT with ⟨esaT, msaT⟩ | ⟨esaT, psaT, msaT⟩
  · go_enter Try.func8, Try.ntmps8
    go_wp2_with fail
    with_reducible refine (szPuzzle_any [.int .i64 aP.points, .string aP.names, .slice AaP2 aP.moves.length CaP2] aP _ (1048576) _ (Rp.keep raP (((Only.refl [] _).alloc (.cells #[.int .i64 aP.points, .string aP.names, .slice AaP2 aP.moves.length CaP2] 24)).alloc (.cells #[.slice AaT0 aT.tracked.length CaT0, .slice AaT1 aT.patterns.length CaT1, .slice AaT2 aT.distances.length CaT2] 39))) (by omega) (by omega)).mono ?_
    rintro e w1 ⟨rfl, t0⟩
    rw [esaP]
    have T0 : Only [] w w1 := (((Only.refl [] _).alloc (.cells #[.int .i64 aP.points, .string aP.names, .slice AaP2 aP.moves.length CaP2] 24)).alloc (.cells #[.slice AaT0 aT.tracked.length CaT0, .slice AaT1 aT.patterns.length CaT1, .slice AaT2 aT.distances.length CaT2] 39)).trans t0
    have S0 : w.heap.size + 2 ≤ w1.heap.size := by have := t0.size; simp at this; omega
    have BaP : Blk w1 w.heap.size [.int .i64 aP.points, .string aP.names, .slice AaP2 aP.moves.length CaP2] := (Blk.keep (Blk.keep (Blk.new_at (by simp)) ((Only.refl _ _).alloc _)) t0)
    have LBaP : w.heap.size < w1.heap.size := BaP.lt
    have HBaP := Lib.hid BaP; clear BaP
    have BaT : Blk w1 (w.heap.size + 1) [.slice AaT0 aT.tracked.length CaT0, .slice AaT1 aT.patterns.length CaT1, .slice AaT2 aT.distances.length CaT2] := (Blk.keep (Blk.new_at (by simp)) t0)
    have LBaT : (w.heap.size + 1) < w1.heap.size := BaT.lt
    have HBaT := Lib.hid BaT; clear BaT
    have caT_1_0 := (HBaT.out).cell 0 rfl
    have caT_1_1 := (HBaT.out).cell 1 rfl
    have caT_1_2 := (HBaT.out).cell 2 rfl
    go_wp2_with (with_reducible refine (szTable_any [.slice AaT0 aT.tracked.length CaT0, .slice AaT1 aT.patterns.length CaT1, .slice AaT2 aT.distances.length CaT2] aT _ (1048576 - (Sz.sz aP : Nat)) _ (Rp.keep raT T0) (by omega) (by omega)).mono ?_; rintro e w2 ⟨rfl, t1⟩)
    go_ret
    exact ⟨rfl, (by with_reducible repeat (first | exact Only.refl _ _ | assumption | refine Only.drewN ?_ _ | refine Only.drew ?_ | refine Only.alloc ?_ _ | refine Only.setCell ?_ (by intro hh; exfalso; simp at hh; try omega) _ | refine Only.trans ?_ (by assumption)))⟩
  have smaT : Sm.sm aT := SzSm.of_ _ (by omega)
  have csaT : Mk.cnt aT ≤ 1048576 := Nat.le_trans (CntSz.le aT) (by omega)
  have hcnt := dWord_cnt aP aT aPattern
  go_enter Try.func8, Try.ntmps8
  go_wp2_with fail
  with_reducible refine (szPuzzle_any [.int .i64 aP.points, .string aP.names, .slice AaP2 aP.moves.length CaP2] aP _ (1048576) _ (Rp.keep raP (((Only.refl [] _).alloc (.cells #[.int .i64 aP.points, .string aP.names, .slice AaP2 aP.moves.length CaP2] 24)).alloc (.cells #[.slice AaT0 aT.tracked.length CaT0, .slice AaT1 aT.patterns.length CaT1, .slice AaT2 aT.distances.length CaT2] 39))) (by omega) (by omega)).mono ?_
  rintro e w1 ⟨rfl, t0⟩
  rw [esaP]
  have T0 : Only [] w w1 := (((Only.refl [] _).alloc (.cells #[.int .i64 aP.points, .string aP.names, .slice AaP2 aP.moves.length CaP2] 24)).alloc (.cells #[.slice AaT0 aT.tracked.length CaT0, .slice AaT1 aT.patterns.length CaT1, .slice AaT2 aT.distances.length CaT2] 39)).trans t0
  have S0 : w.heap.size + 2 ≤ w1.heap.size := by have := t0.size; simp at this; omega
  have BaP : Blk w1 w.heap.size [.int .i64 aP.points, .string aP.names, .slice AaP2 aP.moves.length CaP2] := (Blk.keep (Blk.keep (Blk.new_at (by simp)) ((Only.refl _ _).alloc _)) t0)
  have LBaP : w.heap.size < w1.heap.size := BaP.lt
  have HBaP := Lib.hid BaP; clear BaP
  have BaT : Blk w1 (w.heap.size + 1) [.slice AaT0 aT.tracked.length CaT0, .slice AaT1 aT.patterns.length CaT1, .slice AaT2 aT.distances.length CaT2] := (Blk.keep (Blk.new_at (by simp)) t0)
  have LBaT : (w.heap.size + 1) < w1.heap.size := BaT.lt
  have HBaT := Lib.hid BaT; clear BaT
  have caT_1_0 := (HBaT.out).cell 0 rfl
  have caT_1_1 := (HBaT.out).cell 1 rfl
  have caT_1_2 := (HBaT.out).cell 2 rfl
  go_wp2_with fail
  with_reducible refine (szTable_any [.slice AaT0 aT.tracked.length CaT0, .slice AaT1 aT.patterns.length CaT1, .slice AaT2 aT.distances.length CaT2] aT _ (1048576 - (Sz.sz aP : Nat)) _ (Rp.keep raT T0) (by omega) (by omega)).mono ?_
  rintro e w2 ⟨rfl, t1⟩
  rw [esaT]
  have T1 : Only [] w1 w2 := t1
  have S1 : w1.heap.size + 0 ≤ w2.heap.size := by have := T1.size; omega
  clear caT_1_0 caT_1_1 caT_1_2
  go_upto_region 10 with fail
  go_region_held3 (fun w' => Only [] w2 w' ∧ w'.cell? ⟨w.heap.size, 0, none⟩ = some (.int .i64 aP.points) ∧ w'.cell? ⟨w.heap.size, 1, none⟩ = some (.string aP.names) ∧ w'.cell? ⟨w.heap.size, 2, none⟩ = some (.slice AaP2 aP.moves.length CaP2) ∧ w'.cell? ⟨(w.heap.size + 1), 0, none⟩ = some (.slice AaT0 aT.tracked.length CaT0) ∧ w'.cell? ⟨(w.heap.size + 1), 1, none⟩ = some (.slice AaT1 aT.patterns.length CaT1) ∧ w'.cell? ⟨(w.heap.size + 1), 2, none⟩ = some (.slice AaT2 aT.distances.length CaT2)) ((refine and_of ?_ (fun h__ => ⟨(Blk.keep (Blk.keep HBaP.out T1) h__).cell 0 rfl, (Blk.keep (Blk.keep HBaP.out T1) h__).cell 1 rfl, (Blk.keep (Blk.keep HBaP.out T1) h__).cell 2 rfl, (Blk.keep (Blk.keep HBaT.out T1) h__).cell 0 rfl, (Blk.keep (Blk.keep HBaT.out T1) h__).cell 1 rfl, (Blk.keep (Blk.keep HBaT.out T1) h__).cell 2 rfl⟩); first | exact (Only.refl _ _).drew | exact Only.trans (And.left (by assumption)) (by assumption))) (first
    | (go_at_call 12; (with_reducible refine (toPuzzle_any [.int .i64 aP.points, .string aP.names, .slice AaP2 aP.moves.length CaP2] aP _ _ (Rp.keep (Rp.keep (Rp.keep raP T0) T1) (And.left (by assumption))) smaP).mono ?_); rintro e w3 ⟨u1, f1, rfl, r1, F1, t2⟩)
    | (go_at_call 21; (with_reducible refine (toTable_any [.slice AaT0 aT.tracked.length CaT0, .slice AaT1 aT.patterns.length CaT1, .slice AaT2 aT.distances.length CaT2] aT _ _ (Rp.keep (Rp.keep (Rp.keep raT T0) T1) (And.left (by assumption))) smaT).mono ?_); rintro e w4 ⟨u2, f2, rfl, r2, F2, t3⟩)
    | (go_at_call 22; (with_reducible refine (toInt64S_sm (.slice AaPattern aPattern.length CaPattern) aPattern _ _ (Rp.keep (Rp.keep (Rp.keep raPattern T0) T1) (And.left (by assumption))) smaPattern).mono ?_); rintro e w5 ⟨v3, f3, rfl, r3, F3, t4⟩)
    | (go_at_call 39; (with_reducible refine (specDescentWord_any u1 u2 aP aT v3 aPattern _ _ _ _ (Rp.keep r1 (by first | exact Only.refl _ _ | assumption | exact Only.trans (by assumption) (by assumption))) (Rp.keep r2 (by first | exact Only.refl _ _ | assumption | exact Only.trans (by assumption) (by assumption))) (Rp.keep r3 (by first | exact Only.refl _ _ | assumption | exact Only.trans (by assumption) (by assumption)))).mono ?_); rintro e w6 ⟨v4, f4, rfl, r4, F4, t5⟩)
    | fail "no arm")
  have T2 : Only [] w2 w3 := ((Only.refl _ _).drew).trans t2
  have S2 : w2.heap.size + 0 ≤ w3.heap.size := by have := T2.size; omega
  have L1 := Rp.lt r1
  have G1 : ∀ b ∈ f1, w2.heap.size ≤ b := fun b hb => by have := F1.ge b hb; first | omega | (simp at this; omega)
  have T3 : Only [] w3 w4 := t3
  have S3 : w3.heap.size + 0 ≤ w4.heap.size := by have := T3.size; omega
  have L2 := Rp.lt r2
  have G2 : ∀ b ∈ f2, w3.heap.size ≤ b := fun b hb => by have := F2.ge b hb; first | omega | (simp at this; omega)
  have T4 : Only [] w4 w5 := t4
  have S4 : w4.heap.size + 0 ≤ w5.heap.size := by have := T4.size; omega
  have L3 := Rp.lt r3
  have G3 : ∀ b ∈ f3, w4.heap.size ≤ b := fun b hb => by have := F3.ge b hb; first | omega | (simp at this; omega)
  have T5 : Only [] w5 w6 := t5
  have S5 : w5.heap.size + 0 ≤ w6.heap.size := by have := T5.size; omega
  have L4 := Rp.lt r4
  have G4 : ∀ b ∈ f4, w5.heap.size ≤ b := fun b hb => by have := F4.ge b hb; first | omega | (simp at this; omega)
  have caP_6_0 := ((Blk.keep (Blk.keep (Blk.keep (Blk.keep (Blk.keep HBaP.out T1) T2) T3) T4) T5)).cell 0 rfl
  have caP_6_1 := ((Blk.keep (Blk.keep (Blk.keep (Blk.keep (Blk.keep HBaP.out T1) T2) T3) T4) T5)).cell 1 rfl
  have caP_6_2 := ((Blk.keep (Blk.keep (Blk.keep (Blk.keep (Blk.keep HBaP.out T1) T2) T3) T4) T5)).cell 2 rfl
  go_wp2_with fail
  with_reducible refine (toPuzzle_any [.int .i64 aP.points, .string aP.names, .slice AaP2 aP.moves.length CaP2] aP _ _ (Rp.keep (Rp.keep (Rp.keep (Rp.keep (Rp.keep (Rp.keep raP T0) T1) T2) T3) T4) T5) smaP).mono ?_
  rintro e w7 ⟨u5, f5, rfl, r5, F5, t6⟩
  have T6 : Only [] w6 w7 := t6
  have S6 : w6.heap.size + 0 ≤ w7.heap.size := by have := T6.size; omega
  clear caP_6_0 caP_6_1 caP_6_2
  have q5 := r5
  obtain ⟨u52, rfl, -, -, z52⟩ := q5
  obtain ⟨A52, C52, _, _, rfl, -⟩ := z52.open_
  have L5 := Rp.lt r5
  have G5 : ∀ b ∈ f5, w6.heap.size ≤ b := fun b hb => by have := F5.ge b hb; omega
  have caT_7_0 := ((Only.refl [] _).alloc (.cells #[.int .i64 aP.points, .string aP.names, .slice A52 aP.moves.length C52] 26)).cell (by simp) (((Blk.keep (Blk.keep (Blk.keep (Blk.keep (Blk.keep (Blk.keep HBaT.out T1) T2) T3) T4) T5) T6)).cell 0 rfl)
  have caT_7_1 := ((Only.refl [] _).alloc (.cells #[.int .i64 aP.points, .string aP.names, .slice A52 aP.moves.length C52] 26)).cell (by simp) (((Blk.keep (Blk.keep (Blk.keep (Blk.keep (Blk.keep (Blk.keep HBaT.out T1) T2) T3) T4) T5) T6)).cell 1 rfl)
  have caT_7_2 := ((Only.refl [] _).alloc (.cells #[.int .i64 aP.points, .string aP.names, .slice A52 aP.moves.length C52] 26)).cell (by simp) (((Blk.keep (Blk.keep (Blk.keep (Blk.keep (Blk.keep (Blk.keep HBaT.out T1) T2) T3) T4) T5) T6)).cell 2 rfl)
  go_wp2_with fail
  with_reducible refine (toTable_any [.slice AaT0 aT.tracked.length CaT0, .slice AaT1 aT.patterns.length CaT1, .slice AaT2 aT.distances.length CaT2] aT _ _ (Rp.keep (Rp.keep (Rp.keep (Rp.keep (Rp.keep (Rp.keep (Rp.keep (Rp.keep raT T0) T1) T2) T3) T4) T5) T6) ((Only.refl [] _).alloc (.cells #[.int .i64 aP.points, .string aP.names, .slice A52 aP.moves.length C52] 26))) smaT).mono ?_
  rintro e w8 ⟨u6, f6, rfl, r6, F6, t7⟩
  have T7 : Only [] w7 w8 := ((Only.refl [] _).alloc (.cells #[.int .i64 aP.points, .string aP.names, .slice A52 aP.moves.length C52] 26)).trans t7
  have S7 : w7.heap.size + 1 ≤ w8.heap.size := by have := t7.size; simp at this; omega
  have B5 : Blk w8 w7.heap.size [.int .i64 aP.points, .string aP.names, .slice A52 aP.moves.length C52] := (Blk.keep (Blk.new_at (by simp)) t7)
  have LB5 : w7.heap.size < w8.heap.size := B5.lt
  have HB5 := Lib.hid B5; clear B5
  clear caT_7_0 caT_7_1 caT_7_2
  have q6 := r6
  obtain ⟨u60, u61, u62, _, _, _, rfl, -, z60, z61, z62⟩ := q6
  obtain ⟨A60, C60, _, _, rfl, -⟩ := z60.open_
  obtain ⟨A61, C61, _, _, rfl, -⟩ := z61.open_
  obtain ⟨A62, C62, _, _, rfl, -⟩ := z62.open_
  have L6 := Rp.lt r6
  have G6 : ∀ b ∈ f6, w7.heap.size + 1 ≤ b := fun b hb => by have := F6.ge b hb; simp at this; omega
  go_wp2_with fail
  with_reducible refine (toInt64S_sm (.slice AaPattern aPattern.length CaPattern) aPattern _ _ (Rp.keep (Rp.keep (Rp.keep (Rp.keep (Rp.keep (Rp.keep (Rp.keep (Rp.keep (Rp.keep raPattern T0) T1) T2) T3) T4) T5) T6) T7) ((Only.refl [] _).alloc (.cells #[.slice A60 aT.tracked.length C60, .slice A61 aT.patterns.length C61, .slice A62 aT.distances.length C62] 42))) smaPattern).mono ?_
  rintro e w9 ⟨v7, f7, rfl, r7, F7, t8⟩
  have T8 : Only [] w8 w9 := ((Only.refl [] _).alloc (.cells #[.slice A60 aT.tracked.length C60, .slice A61 aT.patterns.length C61, .slice A62 aT.distances.length C62] 42)).trans t8
  have S8 : w8.heap.size + 1 ≤ w9.heap.size := by have := t8.size; simp at this; omega
  have B6 : Blk w9 w8.heap.size [.slice A60 aT.tracked.length C60, .slice A61 aT.patterns.length C61, .slice A62 aT.distances.length C62] := (Blk.keep (Blk.new_at (by simp)) t8)
  have LB6 : w8.heap.size < w9.heap.size := B6.lt
  have HB6 := Lib.hid B6; clear B6
  have L7 := Rp.lt r7
  have G7 : ∀ b ∈ f7, w8.heap.size + 1 ≤ b := fun b hb => by have := F7.ge b hb; simp at this; omega
  have c5_9_0 := ((Blk.keep HB5.out T8)).cell 0 rfl
  have c5_9_1 := ((Blk.keep HB5.out T8)).cell 1 rfl
  have c5_9_2 := ((Blk.keep HB5.out T8)).cell 2 rfl
  have c6_9_0 := (HB6.out).cell 0 rfl
  have c6_9_1 := (HB6.out).cell 1 rfl
  have c6_9_2 := (HB6.out).cell 2 rfl
  go_wp2_with fail
  with_reducible refine (implDescentWord_any [.int .i64 aP.points, .string aP.names, .slice A52 aP.moves.length C52] [.slice A60 aT.tracked.length C60, .slice A61 aT.patterns.length C61, .slice A62 aT.distances.length C62] aP aT v7 aPattern _ _ _ _ (Rp.keep (Rp.keep r5 T7) T8) (Rp.keep r6 T8) r7).mono ?_
  rintro e w10 ⟨v8, f8, rfl, r8, F8, t9⟩
  have T9 : Only [] w9 w10 := t9
  have S9 : w9.heap.size + 0 ≤ w10.heap.size := by have := T9.size; omega
  clear c5_9_0 c5_9_1 c5_9_2 c6_9_0 c6_9_1 c6_9_2
  have L8 := Rp.lt r8
  have G8 : ∀ b ∈ f8, w9.heap.size ≤ b := fun b hb => by have := F8.ge b hb; omega
  have e10 : eqV ((dWord aP aT aPattern).getD []) ((dWord aP aT aPattern).getD []) = true := eqV_yes rfl
  go_wp2_with fail
  with_reducible refine (eqInt64S_rd v8 v4 ((dWord aP aT aPattern).getD []) ((dWord aP aT aPattern).getD []) _ _ _ r8 (Rp.keep (Rp.keep (Rp.keep (Rp.keep r4 T6) T7) T8) T9)).mono ?_
  rintro e w11 ⟨rfl, d10⟩
  have t10 := d10.only []
  have T10 : Only [] w10 w11 := t10
  have S10 : w10.heap.size + 0 ≤ w11.heap.size := by have := T10.size; omega
  go_upto_region 17 with fail
  have e12 : eqV aP aP = true := eqV_yes rfl
  go_region_held3 (fun w' => Only [] w11 w' ∧ w'.cell? ⟨w7.heap.size, 0, none⟩ = some (.int .i64 aP.points) ∧ w'.cell? ⟨w7.heap.size, 1, none⟩ = some (.string aP.names) ∧ w'.cell? ⟨w7.heap.size, 2, none⟩ = some (.slice A52 aP.moves.length C52) ∧ w'.cell? ⟨w.heap.size, 0, none⟩ = some (.int .i64 aP.points) ∧ w'.cell? ⟨w.heap.size, 1, none⟩ = some (.string aP.names) ∧ w'.cell? ⟨w.heap.size, 2, none⟩ = some (.slice AaP2 aP.moves.length CaP2)) ((refine and_of ?_ (fun h__ => ⟨(Blk.keep (Blk.keep (Blk.keep (Blk.keep HB5.out T8) T9) T10) h__).cell 0 rfl, (Blk.keep (Blk.keep (Blk.keep (Blk.keep HB5.out T8) T9) T10) h__).cell 1 rfl, (Blk.keep (Blk.keep (Blk.keep (Blk.keep HB5.out T8) T9) T10) h__).cell 2 rfl, (Blk.keep (Blk.keep (Blk.keep (Blk.keep (Blk.keep (Blk.keep (Blk.keep (Blk.keep (Blk.keep (Blk.keep (Blk.keep HBaP.out T1) T2) T3) T4) T5) T6) T7) T8) T9) T10) h__).cell 0 rfl, (Blk.keep (Blk.keep (Blk.keep (Blk.keep (Blk.keep (Blk.keep (Blk.keep (Blk.keep (Blk.keep (Blk.keep (Blk.keep HBaP.out T1) T2) T3) T4) T5) T6) T7) T8) T9) T10) h__).cell 1 rfl, (Blk.keep (Blk.keep (Blk.keep (Blk.keep (Blk.keep (Blk.keep (Blk.keep (Blk.keep (Blk.keep (Blk.keep (Blk.keep HBaP.out T1) T2) T3) T4) T5) T6) T7) T8) T9) T10) h__).cell 2 rfl⟩); first | exact (Only.refl _ _).drew | exact Only.trans (And.left (by assumption)) (by assumption))) (first
    | (go_at_call 12; (with_reducible refine (toPuzzle_any [.int .i64 aP.points, .string aP.names, .slice AaP2 aP.moves.length CaP2] aP _ _ (Rp.keep (Rp.keep (Rp.keep (Rp.keep (Rp.keep (Rp.keep (Rp.keep (Rp.keep (Rp.keep (Rp.keep (Rp.keep (Rp.keep raP T0) T1) T2) T3) T4) T5) T6) T7) T8) T9) T10) (And.left (by assumption))) smaP).mono ?_); rintro e w12 ⟨u9, f9, rfl, r9, F9, t11⟩)
    | (go_at_call 15; (with_reducible refine (eqPuzzle_any [.int .i64 aP.points, .string aP.names, .slice A52 aP.moves.length C52] u9 aP aP _ _ _ (Rp.keep (Rp.keep (Rp.keep (Rp.keep (Rp.keep r5 T7) T8) T9) T10) (And.left (by assumption))) (Rp.keep r9 (by first | exact Only.refl _ _ | assumption | exact Only.trans (by assumption) (by assumption)))).mono ?_); rintro e w13 ⟨rfl, t12⟩)
    | fail "no arm")
  have T11 : Only [] w11 w12 := ((Only.refl _ _).drew).trans t11
  have S11 : w11.heap.size + 0 ≤ w12.heap.size := by have := T11.size; omega
  have L9 := Rp.lt r9
  have G9 : ∀ b ∈ f9, w11.heap.size ≤ b := fun b hb => by have := F9.ge b hb; first | omega | (simp at this; omega)
  have T12 : Only [] w12 w13 := t12
  have S12 : w12.heap.size + 0 ≤ w13.heap.size := by have := T12.size; omega
  go_upto_region 19 with fail
  have e14 : eqV aT aT = true := eqV_yes rfl
  go_region_held3 (fun w' => Only [] w13 w' ∧ w'.cell? ⟨w8.heap.size, 0, none⟩ = some (.slice A60 aT.tracked.length C60) ∧ w'.cell? ⟨w8.heap.size, 1, none⟩ = some (.slice A61 aT.patterns.length C61) ∧ w'.cell? ⟨w8.heap.size, 2, none⟩ = some (.slice A62 aT.distances.length C62) ∧ w'.cell? ⟨(w.heap.size + 1), 0, none⟩ = some (.slice AaT0 aT.tracked.length CaT0) ∧ w'.cell? ⟨(w.heap.size + 1), 1, none⟩ = some (.slice AaT1 aT.patterns.length CaT1) ∧ w'.cell? ⟨(w.heap.size + 1), 2, none⟩ = some (.slice AaT2 aT.distances.length CaT2)) ((refine and_of ?_ (fun h__ => ⟨(Blk.keep (Blk.keep (Blk.keep (Blk.keep (Blk.keep HB6.out T9) T10) T11) T12) h__).cell 0 rfl, (Blk.keep (Blk.keep (Blk.keep (Blk.keep (Blk.keep HB6.out T9) T10) T11) T12) h__).cell 1 rfl, (Blk.keep (Blk.keep (Blk.keep (Blk.keep (Blk.keep HB6.out T9) T10) T11) T12) h__).cell 2 rfl, (Blk.keep (Blk.keep (Blk.keep (Blk.keep (Blk.keep (Blk.keep (Blk.keep (Blk.keep (Blk.keep (Blk.keep (Blk.keep (Blk.keep (Blk.keep HBaT.out T1) T2) T3) T4) T5) T6) T7) T8) T9) T10) T11) T12) h__).cell 0 rfl, (Blk.keep (Blk.keep (Blk.keep (Blk.keep (Blk.keep (Blk.keep (Blk.keep (Blk.keep (Blk.keep (Blk.keep (Blk.keep (Blk.keep (Blk.keep HBaT.out T1) T2) T3) T4) T5) T6) T7) T8) T9) T10) T11) T12) h__).cell 1 rfl, (Blk.keep (Blk.keep (Blk.keep (Blk.keep (Blk.keep (Blk.keep (Blk.keep (Blk.keep (Blk.keep (Blk.keep (Blk.keep (Blk.keep (Blk.keep HBaT.out T1) T2) T3) T4) T5) T6) T7) T8) T9) T10) T11) T12) h__).cell 2 rfl⟩); first | exact (Only.refl _ _).drew | exact Only.trans (And.left (by assumption)) (by assumption))) (first
    | (go_at_call 21; (with_reducible refine (toTable_any [.slice AaT0 aT.tracked.length CaT0, .slice AaT1 aT.patterns.length CaT1, .slice AaT2 aT.distances.length CaT2] aT _ _ (Rp.keep (Rp.keep (Rp.keep (Rp.keep (Rp.keep (Rp.keep (Rp.keep (Rp.keep (Rp.keep (Rp.keep (Rp.keep (Rp.keep (Rp.keep (Rp.keep raT T0) T1) T2) T3) T4) T5) T6) T7) T8) T9) T10) T11) T12) (And.left (by assumption))) smaT).mono ?_); rintro e w14 ⟨u10, f10, rfl, r10, F10, t13⟩)
    | (go_at_call 24; (with_reducible refine (eqTable_any [.slice A60 aT.tracked.length C60, .slice A61 aT.patterns.length C61, .slice A62 aT.distances.length C62] u10 aT aT _ _ _ (Rp.keep (Rp.keep (Rp.keep (Rp.keep (Rp.keep (Rp.keep r6 T8) T9) T10) T11) T12) (And.left (by assumption))) (Rp.keep r10 (by first | exact Only.refl _ _ | assumption | exact Only.trans (by assumption) (by assumption)))).mono ?_); rintro e w15 ⟨rfl, t14⟩)
    | fail "no arm")
  have T13 : Only [] w13 w14 := ((Only.refl _ _).drew).trans t13
  have S13 : w13.heap.size + 0 ≤ w14.heap.size := by have := T13.size; omega
  have L10 := Rp.lt r10
  have G10 : ∀ b ∈ f10, w13.heap.size ≤ b := fun b hb => by have := F10.ge b hb; first | omega | (simp at this; omega)
  have T14 : Only [] w14 w15 := t14
  have S14 : w14.heap.size + 0 ≤ w15.heap.size := by have := T14.size; omega
  go_wp2_with fail
  with_reducible refine (toInt64S_sm (.slice AaPattern aPattern.length CaPattern) aPattern _ _ (Rp.keep (Rp.keep (Rp.keep (Rp.keep (Rp.keep (Rp.keep (Rp.keep (Rp.keep (Rp.keep (Rp.keep (Rp.keep (Rp.keep (Rp.keep (Rp.keep (Rp.keep raPattern T0) T1) T2) T3) T4) T5) T6) T7) T8) T9) T10) T11) T12) T13) T14) smaPattern).mono ?_
  rintro e w16 ⟨v11, f11, rfl, r11, F11, t15⟩
  have T15 : Only [] w15 w16 := t15
  have S15 : w15.heap.size + 0 ≤ w16.heap.size := by have := T15.size; omega
  have L11 := Rp.lt r11
  have G11 : ∀ b ∈ f11, w15.heap.size ≤ b := fun b hb => by have := F11.ge b hb; omega
  have e16 : eqV aPattern aPattern = true := eqV_yes rfl
  go_wp2_with fail
  with_reducible refine (eqInt64S_rd v7 v11 aPattern aPattern _ _ _ (Rp.keep (Rp.keep (Rp.keep (Rp.keep (Rp.keep (Rp.keep (Rp.keep r7 T9) T10) T11) T12) T13) T14) T15) r11).mono ?_
  rintro e w17 ⟨rfl, d16⟩
  have t16 := d16.only []
  have T16 : Only [] w16 w17 := t16
  have S16 : w16.heap.size + 0 ≤ w17.heap.size := by have := T16.size; omega
  have c5_17_0 := ((Blk.keep (Blk.keep (Blk.keep (Blk.keep (Blk.keep (Blk.keep (Blk.keep (Blk.keep (Blk.keep HB5.out T8) T9) T10) T11) T12) T13) T14) T15) T16)).cell 0 rfl
  have c5_17_1 := ((Blk.keep (Blk.keep (Blk.keep (Blk.keep (Blk.keep (Blk.keep (Blk.keep (Blk.keep (Blk.keep HB5.out T8) T9) T10) T11) T12) T13) T14) T15) T16)).cell 1 rfl
  have c5_17_2 := ((Blk.keep (Blk.keep (Blk.keep (Blk.keep (Blk.keep (Blk.keep (Blk.keep (Blk.keep (Blk.keep HB5.out T8) T9) T10) T11) T12) T13) T14) T15) T16)).cell 2 rfl
  have m17 : (1 : Int) + (Mk.cnt aP : Nat) ≤ 4611686018427387904 := by omega
  go_wp2_with fail
  with_reducible refine (markPuzzle_any [.int .i64 aP.points, .string aP.names, .slice A52 aP.moves.length C52] aP f5 (1) _ (Rp.keep (Rp.keep (Rp.keep (Rp.keep (Rp.keep (Rp.keep (Rp.keep (Rp.keep (Rp.keep (Rp.keep r5 T7) T8) T9) T10) T11) T12) T13) T14) T15) T16) F5.nd (Own.keep (Own.keep (Own.keep (Own.keep (Own.keep (Own.keep (Own.keep (Own.keep (Own.keep (Own.keep F5.own T7) T8) T9) T10) T11) T12) T13) T14) T15) T16) (by omega) m17).mono ?_
  rintro e w18 ⟨rfl, rr17, oo17, t17⟩
  have T17 : Only f5 w17 w18 := t17
  have S17 : w17.heap.size + 0 ≤ w18.heap.size := by have := T17.size; omega
  clear c5_17_0 c5_17_1 c5_17_2
  clear r5
  have r5 := rr17
  have O5 := oo17
  have c6_18_0 := ((Blk.only (Blk.keep (Blk.keep (Blk.keep (Blk.keep (Blk.keep (Blk.keep (Blk.keep (Blk.keep HB6.out T9) T10) T11) T12) T13) T14) T15) T16) T17 (fun hm => by have := L5 _ hm; omega))).cell 0 rfl
  have c6_18_1 := ((Blk.only (Blk.keep (Blk.keep (Blk.keep (Blk.keep (Blk.keep (Blk.keep (Blk.keep (Blk.keep HB6.out T9) T10) T11) T12) T13) T14) T15) T16) T17 (fun hm => by have := L5 _ hm; omega))).cell 1 rfl
  have c6_18_2 := ((Blk.only (Blk.keep (Blk.keep (Blk.keep (Blk.keep (Blk.keep (Blk.keep (Blk.keep (Blk.keep HB6.out T9) T10) T11) T12) T13) T14) T15) T16) T17 (fun hm => by have := L5 _ hm; omega))).cell 2 rfl
  have m18 : (1 + (Mk.cnt aP : Nat) : Int) + (Mk.cnt aT : Nat) ≤ 4611686018427387904 := by omega
  go_wp2_with fail
  with_reducible refine (markTable_any [.slice A60 aT.tracked.length C60, .slice A61 aT.patterns.length C61, .slice A62 aT.distances.length C62] aT f6 (1 + (Mk.cnt aP : Nat)) _ (Rp.only (Rp.keep (Rp.keep (Rp.keep (Rp.keep (Rp.keep (Rp.keep (Rp.keep (Rp.keep (Rp.keep r6 T8) T9) T10) T11) T12) T13) T14) T15) T16) T17 (fun b hb hm => by have := G6 b hb; have := L5 b hm; omega)) F6.nd (Own.only (Own.keep (Own.keep (Own.keep (Own.keep (Own.keep (Own.keep (Own.keep (Own.keep (Own.keep F6.own T8) T9) T10) T11) T12) T13) T14) T15) T16) T17 (fun b hb hm => by have := G6 b hb; have := L5 b hm; omega)) (by omega) m18).mono ?_
  rintro e w19 ⟨rfl, rr18, oo18, t18⟩
  have T18 : Only f6 w18 w19 := t18
  have S18 : w18.heap.size + 0 ≤ w19.heap.size := by have := T18.size; omega
  clear c6_18_0 c6_18_1 c6_18_2
  clear r6
  have r6 := rr18
  have O6 := oo18
  have m19 : (1 + (Mk.cnt aP : Nat) + (Mk.cnt aT : Nat) : Int) + (Mk.cnt aPattern : Nat) ≤ 4611686018427387904 := by omega
  go_wp2_with fail
  with_reducible refine (markInt64S_rd v7 aPattern f7 (1 + (Mk.cnt aP : Nat) + (Mk.cnt aT : Nat)) _ (Rp.only (Rp.only (Rp.keep (Rp.keep (Rp.keep (Rp.keep (Rp.keep (Rp.keep (Rp.keep (Rp.keep r7 T9) T10) T11) T12) T13) T14) T15) T16) T17 (fun b hb hm => by have := G7 b hb; have := L5 b hm; omega)) T18 (fun b hb hm => by have := G7 b hb; have := L6 b hm; omega)) (Own.only (Own.only (Own.keep (Own.keep (Own.keep (Own.keep (Own.keep (Own.keep (Own.keep (Own.keep F7.own T9) T10) T11) T12) T13) T14) T15) T16) T17 (fun b hb hm => by have := G7 b hb; have := L5 b hm; omega)) T18 (fun b hb hm => by have := G7 b hb; have := L6 b hm; omega)) (by omega) m19).mono ?_
  rintro e w20 ⟨rfl, rr19, oo19, t19⟩
  have T19 : Only f7 w19 w20 := t19
  have S19 : w19.heap.size + 0 ≤ w20.heap.size := by have := T19.size; omega
  clear r7
  have r7 := rr19
  have O7 := oo19
  have e20 : eqV ((dWord aP aT aPattern).getD []) ((dWord aP aT aPattern).getD []) = true := eqV_yes rfl
  go_wp2_with fail
  with_reducible refine (eqInt64S_rd v8 v4 ((dWord aP aT aPattern).getD []) ((dWord aP aT aPattern).getD []) _ _ _ (Rp.only (Rp.only (Rp.only (Rp.keep (Rp.keep (Rp.keep (Rp.keep (Rp.keep (Rp.keep (Rp.keep r8 T10) T11) T12) T13) T14) T15) T16) T17 (fun b hb hm => by have := G8 b hb; have := L5 b hm; omega)) T18 (fun b hb hm => by have := G8 b hb; have := L6 b hm; omega)) T19 (fun b hb hm => by have := G8 b hb; have := L7 b hm; omega)) (Rp.only (Rp.only (Rp.only (Rp.keep (Rp.keep (Rp.keep (Rp.keep (Rp.keep (Rp.keep (Rp.keep (Rp.keep (Rp.keep (Rp.keep (Rp.keep r4 T6) T7) T8) T9) T10) T11) T12) T13) T14) T15) T16) T17 (fun b hb hm => by have := L4 b hb; have := G5 b hm; omega)) T18 (fun b hb hm => by have := L4 b hb; have := G6 b hm; omega)) T19 (fun b hb hm => by have := L4 b hb; have := G7 b hm; omega))).mono ?_
  rintro e w21 ⟨rfl, d20⟩
  have t20 := d20.only []
  have T20 : Only [] w20 w21 := t20
  have S20 : w20.heap.size + 0 ≤ w21.heap.size := by have := T20.size; omega
  have m21 : (1 : Int) + (Mk.cnt ((dWord aP aT aPattern).getD []) : Nat) ≤ 4611686018427387904 := by omega
  go_wp2_with fail
  with_reducible refine (markInt64S_rd v8 ((dWord aP aT aPattern).getD []) f8 (1) _ (Rp.keep (Rp.only (Rp.only (Rp.only (Rp.keep (Rp.keep (Rp.keep (Rp.keep (Rp.keep (Rp.keep (Rp.keep r8 T10) T11) T12) T13) T14) T15) T16) T17 (fun b hb hm => by have := G8 b hb; have := L5 b hm; omega)) T18 (fun b hb hm => by have := G8 b hb; have := L6 b hm; omega)) T19 (fun b hb hm => by have := G8 b hb; have := L7 b hm; omega)) T20) (Own.keep (Own.only (Own.only (Own.only (Own.keep (Own.keep (Own.keep (Own.keep (Own.keep (Own.keep (Own.keep F8.own T10) T11) T12) T13) T14) T15) T16) T17 (fun b hb hm => by have := G8 b hb; have := L5 b hm; omega)) T18 (fun b hb hm => by have := G8 b hb; have := L6 b hm; omega)) T19 (fun b hb hm => by have := G8 b hb; have := L7 b hm; omega)) T20) (by omega) m21).mono ?_
  rintro e w22 ⟨rfl, rr21, oo21, t21⟩
  have T21 : Only f8 w21 w22 := t21
  have S21 : w21.heap.size + 0 ≤ w22.heap.size := by have := T21.size; omega
  clear r8
  have r8 := rr21
  have O8 := oo21
  have h22 : heldV (1) (Mk.mark (1) ((dWord aP aT aPattern).getD [])) = 1 + (Mk.cnt ((dWord aP aT aPattern).getD []) : Nat) := heldV_mark (1) ((dWord aP aT aPattern).getD [])
  have m22 : (1 : Int) + (Mk.cnt (Mk.mark (1) ((dWord aP aT aPattern).getD [])) : Nat) ≤ 4611686018427387904 := by rw [MkL.cnt]; omega
  go_wp2_with fail
  with_reducible refine (heldInt64S_rd v8 (Mk.mark (1) ((dWord aP aT aPattern).getD [])) _ (1) _ r8 (by omega) m22).mono ?_
  rintro e w23 ⟨rfl, d22⟩
  have t22 := d22.only []
  have T22 : Only [] w22 w23 := t22
  have S22 : w22.heap.size + 0 ≤ w23.heap.size := by have := T22.size; omega
  go_upto_region 37 with fail
  go_region_held3 (fun w' => Only [] w23 w' ∧ w'.cell? ⟨w.heap.size, 0, none⟩ = some (.int .i64 aP.points) ∧ w'.cell? ⟨w.heap.size, 1, none⟩ = some (.string aP.names) ∧ w'.cell? ⟨w.heap.size, 2, none⟩ = some (.slice AaP2 aP.moves.length CaP2) ∧ w'.cell? ⟨(w.heap.size + 1), 0, none⟩ = some (.slice AaT0 aT.tracked.length CaT0) ∧ w'.cell? ⟨(w.heap.size + 1), 1, none⟩ = some (.slice AaT1 aT.patterns.length CaT1) ∧ w'.cell? ⟨(w.heap.size + 1), 2, none⟩ = some (.slice AaT2 aT.distances.length CaT2)) ((refine and_of ?_ (fun h__ => ⟨(Blk.keep (Blk.keep (Blk.only (Blk.keep (Blk.only (Blk.only (Blk.only (Blk.keep (Blk.keep (Blk.keep (Blk.keep (Blk.keep (Blk.keep (Blk.keep (Blk.keep (Blk.keep (Blk.keep (Blk.keep (Blk.keep (Blk.keep (Blk.keep (Blk.keep (Blk.keep HBaP.out T1) T2) T3) T4) T5) T6) T7) T8) T9) T10) T11) T12) T13) T14) T15) T16) T17 (fun hm => by have := G5 _ hm; have := LBaP; omega)) T18 (fun hm => by have := G6 _ hm; have := LBaP; omega)) T19 (fun hm => by have := G7 _ hm; have := LBaP; omega)) T20) T21 (fun hm => by have := G8 _ hm; have := LBaP; omega)) T22) h__).cell 0 rfl, (Blk.keep (Blk.keep (Blk.only (Blk.keep (Blk.only (Blk.only (Blk.only (Blk.keep (Blk.keep (Blk.keep (Blk.keep (Blk.keep (Blk.keep (Blk.keep (Blk.keep (Blk.keep (Blk.keep (Blk.keep (Blk.keep (Blk.keep (Blk.keep (Blk.keep (Blk.keep HBaP.out T1) T2) T3) T4) T5) T6) T7) T8) T9) T10) T11) T12) T13) T14) T15) T16) T17 (fun hm => by have := G5 _ hm; have := LBaP; omega)) T18 (fun hm => by have := G6 _ hm; have := LBaP; omega)) T19 (fun hm => by have := G7 _ hm; have := LBaP; omega)) T20) T21 (fun hm => by have := G8 _ hm; have := LBaP; omega)) T22) h__).cell 1 rfl, (Blk.keep (Blk.keep (Blk.only (Blk.keep (Blk.only (Blk.only (Blk.only (Blk.keep (Blk.keep (Blk.keep (Blk.keep (Blk.keep (Blk.keep (Blk.keep (Blk.keep (Blk.keep (Blk.keep (Blk.keep (Blk.keep (Blk.keep (Blk.keep (Blk.keep (Blk.keep HBaP.out T1) T2) T3) T4) T5) T6) T7) T8) T9) T10) T11) T12) T13) T14) T15) T16) T17 (fun hm => by have := G5 _ hm; have := LBaP; omega)) T18 (fun hm => by have := G6 _ hm; have := LBaP; omega)) T19 (fun hm => by have := G7 _ hm; have := LBaP; omega)) T20) T21 (fun hm => by have := G8 _ hm; have := LBaP; omega)) T22) h__).cell 2 rfl, (Blk.keep (Blk.keep (Blk.only (Blk.keep (Blk.only (Blk.only (Blk.only (Blk.keep (Blk.keep (Blk.keep (Blk.keep (Blk.keep (Blk.keep (Blk.keep (Blk.keep (Blk.keep (Blk.keep (Blk.keep (Blk.keep (Blk.keep (Blk.keep (Blk.keep (Blk.keep HBaT.out T1) T2) T3) T4) T5) T6) T7) T8) T9) T10) T11) T12) T13) T14) T15) T16) T17 (fun hm => by have := G5 _ hm; have := LBaT; omega)) T18 (fun hm => by have := G6 _ hm; have := LBaT; omega)) T19 (fun hm => by have := G7 _ hm; have := LBaT; omega)) T20) T21 (fun hm => by have := G8 _ hm; have := LBaT; omega)) T22) h__).cell 0 rfl, (Blk.keep (Blk.keep (Blk.only (Blk.keep (Blk.only (Blk.only (Blk.only (Blk.keep (Blk.keep (Blk.keep (Blk.keep (Blk.keep (Blk.keep (Blk.keep (Blk.keep (Blk.keep (Blk.keep (Blk.keep (Blk.keep (Blk.keep (Blk.keep (Blk.keep (Blk.keep HBaT.out T1) T2) T3) T4) T5) T6) T7) T8) T9) T10) T11) T12) T13) T14) T15) T16) T17 (fun hm => by have := G5 _ hm; have := LBaT; omega)) T18 (fun hm => by have := G6 _ hm; have := LBaT; omega)) T19 (fun hm => by have := G7 _ hm; have := LBaT; omega)) T20) T21 (fun hm => by have := G8 _ hm; have := LBaT; omega)) T22) h__).cell 1 rfl, (Blk.keep (Blk.keep (Blk.only (Blk.keep (Blk.only (Blk.only (Blk.only (Blk.keep (Blk.keep (Blk.keep (Blk.keep (Blk.keep (Blk.keep (Blk.keep (Blk.keep (Blk.keep (Blk.keep (Blk.keep (Blk.keep (Blk.keep (Blk.keep (Blk.keep (Blk.keep HBaT.out T1) T2) T3) T4) T5) T6) T7) T8) T9) T10) T11) T12) T13) T14) T15) T16) T17 (fun hm => by have := G5 _ hm; have := LBaT; omega)) T18 (fun hm => by have := G6 _ hm; have := LBaT; omega)) T19 (fun hm => by have := G7 _ hm; have := LBaT; omega)) T20) T21 (fun hm => by have := G8 _ hm; have := LBaT; omega)) T22) h__).cell 2 rfl⟩); first | exact (Only.refl _ _).drew | exact Only.trans (And.left (by assumption)) (by assumption))) (first
    | (go_at_call 12; (with_reducible refine (toPuzzle_any [.int .i64 aP.points, .string aP.names, .slice AaP2 aP.moves.length CaP2] aP _ _ (Rp.keep (Rp.keep (Rp.only (Rp.keep (Rp.only (Rp.only (Rp.only (Rp.keep (Rp.keep (Rp.keep (Rp.keep (Rp.keep (Rp.keep (Rp.keep (Rp.keep (Rp.keep (Rp.keep (Rp.keep (Rp.keep (Rp.keep (Rp.keep (Rp.keep (Rp.keep (Rp.keep raP T0) T1) T2) T3) T4) T5) T6) T7) T8) T9) T10) T11) T12) T13) T14) T15) T16) T17 (fun b hb hm => by have := LaP b hb; have := G5 b hm; omega)) T18 (fun b hb hm => by have := LaP b hb; have := G6 b hm; omega)) T19 (fun b hb hm => by have := LaP b hb; have := G7 b hm; omega)) T20) T21 (fun b hb hm => by have := LaP b hb; have := G8 b hm; omega)) T22) (And.left (by assumption))) smaP).mono ?_); rintro e w24 ⟨u12, f12, rfl, r12, F12, t23⟩)
    | (go_at_call 21; (with_reducible refine (toTable_any [.slice AaT0 aT.tracked.length CaT0, .slice AaT1 aT.patterns.length CaT1, .slice AaT2 aT.distances.length CaT2] aT _ _ (Rp.keep (Rp.keep (Rp.only (Rp.keep (Rp.only (Rp.only (Rp.only (Rp.keep (Rp.keep (Rp.keep (Rp.keep (Rp.keep (Rp.keep (Rp.keep (Rp.keep (Rp.keep (Rp.keep (Rp.keep (Rp.keep (Rp.keep (Rp.keep (Rp.keep (Rp.keep (Rp.keep raT T0) T1) T2) T3) T4) T5) T6) T7) T8) T9) T10) T11) T12) T13) T14) T15) T16) T17 (fun b hb hm => by have := LaT b hb; have := G5 b hm; omega)) T18 (fun b hb hm => by have := LaT b hb; have := G6 b hm; omega)) T19 (fun b hb hm => by have := LaT b hb; have := G7 b hm; omega)) T20) T21 (fun b hb hm => by have := LaT b hb; have := G8 b hm; omega)) T22) (And.left (by assumption))) smaT).mono ?_); rintro e w25 ⟨u13, f13, rfl, r13, F13, t24⟩)
    | (go_at_call 22; (with_reducible refine (toInt64S_sm (.slice AaPattern aPattern.length CaPattern) aPattern _ _ (Rp.keep (Rp.keep (Rp.only (Rp.keep (Rp.only (Rp.only (Rp.only (Rp.keep (Rp.keep (Rp.keep (Rp.keep (Rp.keep (Rp.keep (Rp.keep (Rp.keep (Rp.keep (Rp.keep (Rp.keep (Rp.keep (Rp.keep (Rp.keep (Rp.keep (Rp.keep (Rp.keep raPattern T0) T1) T2) T3) T4) T5) T6) T7) T8) T9) T10) T11) T12) T13) T14) T15) T16) T17 (fun b hb hm => by have := LaPattern b hb; have := G5 b hm; omega)) T18 (fun b hb hm => by have := LaPattern b hb; have := G6 b hm; omega)) T19 (fun b hb hm => by have := LaPattern b hb; have := G7 b hm; omega)) T20) T21 (fun b hb hm => by have := LaPattern b hb; have := G8 b hm; omega)) T22) (And.left (by assumption))) smaPattern).mono ?_); rintro e w26 ⟨v14, f14, rfl, r14, F14, t25⟩)
    | (go_at_call 40; (with_reducible refine (implDescentWord_any u12 u13 aP aT v14 aPattern _ _ _ _ (Rp.keep r12 (by first | exact Only.refl _ _ | assumption | exact Only.trans (by assumption) (by assumption))) (Rp.keep r13 (by first | exact Only.refl _ _ | assumption | exact Only.trans (by assumption) (by assumption))) (Rp.keep r14 (by first | exact Only.refl _ _ | assumption | exact Only.trans (by assumption) (by assumption)))).mono ?_); rintro e w27 ⟨v15, f15, rfl, r15, F15, t26⟩)
    | fail "no arm")
  have T23 : Only [] w23 w24 := ((Only.refl _ _).drew).trans t23
  have S23 : w23.heap.size + 0 ≤ w24.heap.size := by have := T23.size; omega
  have L12 := Rp.lt r12
  have G12 : ∀ b ∈ f12, w23.heap.size ≤ b := fun b hb => by have := F12.ge b hb; first | omega | (simp at this; omega)
  have T24 : Only [] w24 w25 := t24
  have S24 : w24.heap.size + 0 ≤ w25.heap.size := by have := T24.size; omega
  have L13 := Rp.lt r13
  have G13 : ∀ b ∈ f13, w24.heap.size ≤ b := fun b hb => by have := F13.ge b hb; first | omega | (simp at this; omega)
  have T25 : Only [] w25 w26 := t25
  have S25 : w25.heap.size + 0 ≤ w26.heap.size := by have := T25.size; omega
  have L14 := Rp.lt r14
  have G14 : ∀ b ∈ f14, w25.heap.size ≤ b := fun b hb => by have := F14.ge b hb; first | omega | (simp at this; omega)
  have T26 : Only [] w26 w27 := t26
  have S26 : w26.heap.size + 0 ≤ w27.heap.size := by have := T26.size; omega
  have L15 := Rp.lt r15
  have G15 : ∀ b ∈ f15, w26.heap.size ≤ b := fun b hb => by have := F15.ge b hb; first | omega | (simp at this; omega)
  have e27 : eqV ((dWord aP aT aPattern).getD []) ((dWord aP aT aPattern).getD []) = true := eqV_yes rfl
  go_wp2_with fail
  with_reducible refine (eqInt64S_rd v15 v4 ((dWord aP aT aPattern).getD []) ((dWord aP aT aPattern).getD []) _ _ _ r15 (Rp.keep (Rp.keep (Rp.keep (Rp.keep (Rp.keep (Rp.only (Rp.keep (Rp.only (Rp.only (Rp.only (Rp.keep (Rp.keep (Rp.keep (Rp.keep (Rp.keep (Rp.keep (Rp.keep (Rp.keep (Rp.keep (Rp.keep (Rp.keep r4 T6) T7) T8) T9) T10) T11) T12) T13) T14) T15) T16) T17 (fun b hb hm => by have := L4 b hb; have := G5 b hm; omega)) T18 (fun b hb hm => by have := L4 b hb; have := G6 b hm; omega)) T19 (fun b hb hm => by have := L4 b hb; have := G7 b hm; omega)) T20) T21 (fun b hb hm => by have := L4 b hb; have := G8 b hm; omega)) T22) T23) T24) T25) T26)).mono ?_
  rintro e w28 ⟨rfl, d27⟩
  have t27 := d27.only []
  have T27 : Only [] w27 w28 := t27
  have S27 : w27.heap.size + 0 ≤ w28.heap.size := by have := T27.size; omega
  have h28 : heldV (1) (Mk.mark (1) ((dWord aP aT aPattern).getD [])) = 1 + (Mk.cnt ((dWord aP aT aPattern).getD []) : Nat) := heldV_mark (1) ((dWord aP aT aPattern).getD [])
  have m28 : (1 : Int) + (Mk.cnt (Mk.mark (1) ((dWord aP aT aPattern).getD [])) : Nat) ≤ 4611686018427387904 := by rw [MkL.cnt]; omega
  go_wp2_with fail
  with_reducible refine (heldInt64S_rd v8 (Mk.mark (1) ((dWord aP aT aPattern).getD [])) _ (1) _ (Rp.keep (Rp.keep (Rp.keep (Rp.keep (Rp.keep (Rp.keep r8 T22) T23) T24) T25) T26) T27) (by omega) m28).mono ?_
  rintro e w29 ⟨rfl, d28⟩
  have t28 := d28.only []
  have T28 : Only [] w28 w29 := t28
  have S28 : w28.heap.size + 0 ≤ w29.heap.size := by have := T28.size; omega
  go_wp2
  go_ret
  refine ⟨rfl, ?_⟩
  exact (Only.keepThen (Only.keepThen (Only.keepThen (Only.keepThen (Only.keepThen (Only.keepThen (Only.keepThen (Only.then_ (Only.keepThen (Only.then_ (Only.then_ (Only.then_ (Only.keepThen (Only.keepThen (Only.keepThen (Only.keepThen (Only.keepThen (Only.keepThen (Only.keepThen (Only.keepThen (Only.keepThen (Only.keepThen (Only.keepThen (Only.keepThen (Only.keepThen (Only.keepThen (Only.keepThen (Only.keepThen T0 T1) T2) T3) T4) T5) T6) T7) T8) T9) T10) T11) T12) T13) T14) T15) T16) T17 (fun b hb hl => by have := G5 b hb; omega)) T18 (fun b hb hl => by have := G6 b hb; omega)) T19 (fun b hb hl => by have := G7 b hb; omega)) T20) T21 (fun b hb hl => by have := G8 b hb; omega)) T22) T23) T24) T25) T26) T27) T28)
end Go.Proofs.Ytmilmbgnkpkmnaa
