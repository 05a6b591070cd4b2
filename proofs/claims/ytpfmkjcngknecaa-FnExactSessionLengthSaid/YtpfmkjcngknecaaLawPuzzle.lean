/- Puzzle: plain data, how it lies in memory, the laws' own helpers on it. (Printed by gen_struct.py.) -/
import Derived.Test.YtpfmkjcngknecaaLawTableS
namespace Go.Proofs.Ytpfmkjcngknecaa
open Go.RowKit
set_option maxRecDepth 10000

structure Puzzle where
  points : Int
  names : ByteArray
  moves : List (List Int)

instance : Rp Puzzle where
  size := 3
  rep w cs x fp := ∃ v2, cs = [Value.int .i64 x.points] ++ [Value.string x.names] ++ [v2] ∧ I64 x.points ∧ x.names.size ≤ maxLen ∧ Rd w v2 x.moves fp
  len h := by
    obtain ⟨v2, rfl, p0, p1, h2⟩ := h
    rfl
  frame h hf := by
    obtain ⟨v2, hcs, p0, p1, h2⟩ := h
    exact ⟨v2, hcs, p0, p1, Rp.frame h2 fun b hb => hf b (by simp [hb])⟩
  lt h := by
    obtain ⟨v2, hcs, p0, p1, h2⟩ := h
    intro b hb
    exact Rp.lt h2 b hb

instance : Mk Puzzle where
  mark k x := ⟨x.points, x.names, Mk.mark (k) x.moves⟩
  cnt x := Mk.cnt x.moves
instance : Sz Puzzle where
  sz x := x.names.size + Sz.sz x.moves
instance : Sm Puzzle where
  sm x := Sm.sm x.moves
instance : SzSm Puzzle := ⟨fun x h => by
  have h' : x.names.size + Sz.sz x.moves ≤ 2097152 := h
  exact SzSm.of_ x.moves (by omega)⟩
instance : CntSz Puzzle := ⟨fun x => by
  have h' : Mk.cnt x.moves ≤ x.names.size + Sz.sz x.moves := by have := CntSz.le x.moves; omega
  exact h'⟩
instance : MkL Puzzle := ⟨fun k x => by simp [Mk.mark, markL_idem], fun k x => by simp [Mk.mark, Mk.cnt, markL_cnt]⟩
theorem Puzzle.eq_iff {x y : Puzzle} : x = y ↔ x.points = y.points ∧ x.names = y.names ∧ x.moves = y.moves := by
  cases x; cases y; simp

set_option maxHeartbeats 1000000 in
theorem eqPuzzle_any (cs cs' : List Value) (x y : Puzzle) (fp fp' : List Nat) (w : World) (h : Rp.rep w cs x fp) (h' : Rp.rep w cs' y fp') :
    Calls Try.prog 26 #[.agg cs.toArray, .agg cs'.toArray] w fun e w' => e = .returned (.bool (eqV x y)) ∧ Only [] w w' := by
  obtain ⟨v2, rfl, p0, p1, h2⟩ := h
  obtain ⟨v2', rfl, p0', p1', h2'⟩ := h'
  by_cases q0 : x.points ≠ y.points
  · have b0 : (x.points != y.points) = true := by simpa using q0
    go_enter Try.func26, Try.ntmps26
    go_wp2_with (first | (go_at_call 27; (with_reducible refine (eqInt64SS_rd v2 v2' x.moves y.moves _ _ _ (Rp.keep h2 (by with_reducible repeat (first | exact Only.refl _ _ | assumption | refine Only.drewN ?_ _ | refine Only.drew ?_ | refine Only.alloc ?_ _ | refine Only.setCell ?_ (by intro hh; exfalso; simp at hh; try omega) _ | refine Only.trans ?_ (by assumption)))) (Rp.keep h2' (by with_reducible repeat (first | exact Only.refl _ _ | assumption | refine Only.drewN ?_ _ | refine Only.drew ?_ | refine Only.alloc ?_ _ | refine Only.setCell ?_ (by intro hh; exfalso; simp at hh; try omega) _ | refine Only.trans ?_ (by assumption))))).mono ?_); rintro e w2 ⟨rfl, n2, rfl⟩))
    go_ret
    exact ⟨ret_bool (eqV_no (fun he => q0 (Puzzle.eq_iff.1 he).1)).symm, (by with_reducible repeat (first | exact Only.refl _ _ | assumption | refine Only.drewN ?_ _ | refine Only.drew ?_ | refine Only.alloc ?_ _ | refine Only.setCell ?_ (by intro hh; exfalso; simp at hh; try omega) _ | refine Only.trans ?_ (by assumption)))⟩
  have q0 : x.points = y.points := Classical.not_not.1 q0
  have b0 : (x.points != y.points) = false := by simpa using q0
  have Q0 := Lib.hid q0
  clear q0
  by_cases q1 : x.names ≠ y.names
  · have b1 := str_ne q1
    go_enter Try.func26, Try.ntmps26
    go_wp2_with (first | (go_at_call 27; (with_reducible refine (eqInt64SS_rd v2 v2' x.moves y.moves _ _ _ (Rp.keep h2 (by with_reducible repeat (first | exact Only.refl _ _ | assumption | refine Only.drewN ?_ _ | refine Only.drew ?_ | refine Only.alloc ?_ _ | refine Only.setCell ?_ (by intro hh; exfalso; simp at hh; try omega) _ | refine Only.trans ?_ (by assumption)))) (Rp.keep h2' (by with_reducible repeat (first | exact Only.refl _ _ | assumption | refine Only.drewN ?_ _ | refine Only.drew ?_ | refine Only.alloc ?_ _ | refine Only.setCell ?_ (by intro hh; exfalso; simp at hh; try omega) _ | refine Only.trans ?_ (by assumption))))).mono ?_); rintro e w2 ⟨rfl, n2, rfl⟩))
    go_ret
    exact ⟨ret_bool (eqV_no (fun he => q1 (Puzzle.eq_iff.1 he).2.1)).symm, (by with_reducible repeat (first | exact Only.refl _ _ | assumption | refine Only.drewN ?_ _ | refine Only.drew ?_ | refine Only.alloc ?_ _ | refine Only.setCell ?_ (by intro hh; exfalso; simp at hh; try omega) _ | refine Only.trans ?_ (by assumption)))⟩
  have q1 : x.names = y.names := Classical.not_not.1 q1
  have b1 := str_eq q1
  have Q1 := Lib.hid q1
  clear q1
  rcases q2 : eqV x.moves y.moves
  · go_enter Try.func26, Try.ntmps26
    go_wp2_with (first | (go_at_call 27; (with_reducible refine (eqInt64SS_rd v2 v2' x.moves y.moves _ _ _ (Rp.keep h2 (by with_reducible repeat (first | exact Only.refl _ _ | assumption | refine Only.drewN ?_ _ | refine Only.drew ?_ | refine Only.alloc ?_ _ | refine Only.setCell ?_ (by intro hh; exfalso; simp at hh; try omega) _ | refine Only.trans ?_ (by assumption)))) (Rp.keep h2' (by with_reducible repeat (first | exact Only.refl _ _ | assumption | refine Only.drewN ?_ _ | refine Only.drew ?_ | refine Only.alloc ?_ _ | refine Only.setCell ?_ (by intro hh; exfalso; simp at hh; try omega) _ | refine Only.trans ?_ (by assumption))))).mono ?_); rintro e w2 ⟨rfl, n2, rfl⟩))
    go_ret
    exact ⟨ret_bool (eqV_no (fun he => (eqV_iff'.1 q2) (Puzzle.eq_iff.1 he).2.2)).symm, (by with_reducible repeat (first | exact Only.refl _ _ | assumption | refine Only.drewN ?_ _ | refine Only.drew ?_ | refine Only.alloc ?_ _ | refine Only.setCell ?_ (by intro hh; exfalso; simp at hh; try omega) _ | refine Only.trans ?_ (by assumption)))⟩
  go_enter Try.func26, Try.ntmps26
  go_wp2_with (first | (go_at_call 27; (with_reducible refine (eqInt64SS_rd v2 v2' x.moves y.moves _ _ _ (Rp.keep h2 (by with_reducible repeat (first | exact Only.refl _ _ | assumption | refine Only.drewN ?_ _ | refine Only.drew ?_ | refine Only.alloc ?_ _ | refine Only.setCell ?_ (by intro hh; exfalso; simp at hh; try omega) _ | refine Only.trans ?_ (by assumption)))) (Rp.keep h2' (by with_reducible repeat (first | exact Only.refl _ _ | assumption | refine Only.drewN ?_ _ | refine Only.drew ?_ | refine Only.alloc ?_ _ | refine Only.setCell ?_ (by intro hh; exfalso; simp at hh; try omega) _ | refine Only.trans ?_ (by assumption))))).mono ?_); rintro e w2 ⟨rfl, n2, rfl⟩))
  go_ret
  exact ⟨ret_bool (eqV_yes (Puzzle.eq_iff.2 ⟨Q0.out, Q1.out, eqV_iff.1 q2⟩)).symm, (by with_reducible repeat (first | exact Only.refl _ _ | assumption | refine Only.drewN ?_ _ | refine Only.drew ?_ | refine Only.alloc ?_ _ | refine Only.setCell ?_ (by intro hh; exfalso; simp at hh; try omega) _ | refine Only.trans ?_ (by assumption)))⟩

set_option maxHeartbeats 1000000 in
theorem heldPuzzle_any (cs : List Value) (x : Puzzle) (fp : List Nat) (k : Int) (w : World) (h : Rp.rep w cs x fp) (h0 : 0 ≤ k) (hc : k + (Mk.cnt x : Nat) ≤ 4611686018427387904) :
    Calls Try.prog 72 #[.agg cs.toArray, .int .i64 k] w fun e w' => e = .returned (.int .i64 (heldV k x)) ∧ Only [] w w' := by
  obtain ⟨v2, rfl, p0, p1, h2⟩ := h
  have hcc : Mk.cnt x = Mk.cnt x.moves := rfl
  have Hcc := Lib.hid hcc; clear hcc
  have hb2 : k + (Mk.cnt x.moves : Nat) ≤ 4611686018427387904 := by have := Hcc.out; omega
  have hiff : x = Mk.mark k x ↔ x.moves = Mk.mark (k) x.moves := by
    rw [Puzzle.eq_iff]; simp [Mk.mark]
  have Hiff := Lib.hid hiff; clear hiff
  rcases heldV_pos (k) x.moves with ⟨e2, m2⟩ | ⟨e2, m2⟩
  · have M2 := Lib.hid m2; clear m2
    go_enter Try.func72, Try.ntmps72
    go_wp2_with (first | (go_at_call 63; (with_reducible refine (heldInt64SS_rd v2 x.moves _ (k) _ (Rp.keep h2 (by with_reducible repeat (first | exact Only.refl _ _ | assumption | refine Only.drewN ?_ _ | refine Only.drew ?_ | refine Only.alloc ?_ _ | refine Only.setCell ?_ (by intro hh; exfalso; simp at hh; try omega) _ | refine Only.trans ?_ (by assumption)))) (by omega) hb2).mono ?_); rintro e w2 ⟨rfl, n2, rfl⟩))
    go_ret
    exact ⟨ret_int (heldV_no (fun he => M2.out (Hiff.out.1 he))).symm, (by with_reducible repeat (first | exact Only.refl _ _ | assumption | refine Only.drewN ?_ _ | refine Only.drew ?_ | refine Only.alloc ?_ _ | refine Only.setCell ?_ (by intro hh; exfalso; simp at hh; try omega) _ | refine Only.trans ?_ (by assumption)))⟩
  have M2 := Lib.hid m2; clear m2
  go_enter Try.func72, Try.ntmps72
  go_wp2_with (first | (go_at_call 63; (with_reducible refine (heldInt64SS_rd v2 x.moves _ (k) _ (Rp.keep h2 (by with_reducible repeat (first | exact Only.refl _ _ | assumption | refine Only.drewN ?_ _ | refine Only.drew ?_ | refine Only.alloc ?_ _ | refine Only.setCell ?_ (by intro hh; exfalso; simp at hh; try omega) _ | refine Only.trans ?_ (by assumption)))) (by omega) hb2).mono ?_); rintro e w2 ⟨rfl, n2, rfl⟩))
  go_ret
  exact ⟨ret_int (by rw [heldV_yes (Hiff.out.2 M2.out)]; have := Hcc.out; omega), (by with_reducible repeat (first | exact Only.refl _ _ | assumption | refine Only.drewN ?_ _ | refine Only.drew ?_ | refine Only.alloc ?_ _ | refine Only.setCell ?_ (by intro hh; exfalso; simp at hh; try omega) _ | refine Only.trans ?_ (by assumption)))⟩

set_option maxHeartbeats 1000000 in
theorem szPuzzle_any (cs : List Value) (x : Puzzle) (fp : List Nat) (k : Int) (w : World) (h : Rp.rep w cs x fp) (h0 : 0 ≤ k) (h1 : k ≤ 2147483648) :
    Calls Try.prog 19 #[.agg cs.toArray, .int .i64 k] w fun e w' => e = .returned (.int .i64 (szV k x)) ∧ Only [] w w' := by
  obtain ⟨v2, rfl, p0, p1, h2⟩ := h
  have hcc : Sz.sz x = x.names.size + Sz.sz x.moves := rfl
  have Hcc := Lib.hid hcc; clear hcc
  have hm1 := p1
  unfold maxLen at hm1
  by_cases e1 : k - (x.names.size : Nat) < 0
  · go_enter Try.func19, Try.ntmps19
    go_wp2_with (first | (go_at_call 20; (with_reducible refine (szInt64SS_rd v2 x.moves _ (k - (x.names.size : Nat)) _ (Rp.keep h2 (by with_reducible repeat (first | exact Only.refl _ _ | assumption | refine Only.drewN ?_ _ | refine Only.drew ?_ | refine Only.alloc ?_ _ | refine Only.setCell ?_ (by intro hh; exfalso; simp at hh; try omega) _ | refine Only.trans ?_ (by assumption)))) (by omega) (by omega)).mono ?_); rintro e w2 ⟨rfl, n2, rfl⟩))
    go_ret
    exact ⟨ret_int (szV_no (by have := Hcc.out; omega)).symm, (by with_reducible repeat (first | exact Only.refl _ _ | assumption | refine Only.drewN ?_ _ | refine Only.drew ?_ | refine Only.alloc ?_ _ | refine Only.setCell ?_ (by intro hh; exfalso; simp at hh; try omega) _ | refine Only.trans ?_ (by assumption)))⟩
  rcases szV_cases (k - (x.names.size : Nat)) x.moves with ⟨e2, m2⟩ | ⟨e2, r2, m2⟩
  · go_enter Try.func19, Try.ntmps19
    go_wp2_with (first | (go_at_call 20; (with_reducible refine (szInt64SS_rd v2 x.moves _ (k - (x.names.size : Nat)) _ (Rp.keep h2 (by with_reducible repeat (first | exact Only.refl _ _ | assumption | refine Only.drewN ?_ _ | refine Only.drew ?_ | refine Only.alloc ?_ _ | refine Only.setCell ?_ (by intro hh; exfalso; simp at hh; try omega) _ | refine Only.trans ?_ (by assumption)))) (by omega) (by omega)).mono ?_); rintro e w2 ⟨rfl, n2, rfl⟩))
    go_ret
    exact ⟨ret_int (szV_no (by have := Hcc.out; omega)).symm, (by with_reducible repeat (first | exact Only.refl _ _ | assumption | refine Only.drewN ?_ _ | refine Only.drew ?_ | refine Only.alloc ?_ _ | refine Only.setCell ?_ (by intro hh; exfalso; simp at hh; try omega) _ | refine Only.trans ?_ (by assumption)))⟩
  go_enter Try.func19, Try.ntmps19
  go_wp2_with (first | (go_at_call 20; (with_reducible refine (szInt64SS_rd v2 x.moves _ (k - (x.names.size : Nat)) _ (Rp.keep h2 (by with_reducible repeat (first | exact Only.refl _ _ | assumption | refine Only.drewN ?_ _ | refine Only.drew ?_ | refine Only.alloc ?_ _ | refine Only.setCell ?_ (by intro hh; exfalso; simp at hh; try omega) _ | refine Only.trans ?_ (by assumption)))) (by omega) (by omega)).mono ?_); rintro e w2 ⟨rfl, n2, rfl⟩))
  go_ret
  exact ⟨ret_int (by rw [szV_yes (by have := Hcc.out; omega)]; have := Hcc.out; omega), (by with_reducible repeat (first | exact Only.refl _ _ | assumption | refine Only.drewN ?_ _ | refine Only.drew ?_ | refine Only.alloc ?_ _ | refine Only.setCell ?_ (by intro hh; exfalso; simp at hh; try omega) _ | refine Only.trans ?_ (by assumption)))⟩

set_option maxHeartbeats 1000000 in
theorem markPuzzle_any (cs : List Value) (x : Puzzle) (fp : List Nat) (k : Int) (w : World) (h : Rp.rep w cs x fp) (hnd : fp.Nodup) (ho : Own w fp) (h0 : 0 ≤ k) (hc : k + (Mk.cnt x : Nat) ≤ 4611686018427387904) :
    Calls Try.prog 28 #[.agg cs.toArray, .int .i64 k] w fun e w' => e = .returned (.int .i64 (k + (Mk.cnt x : Nat))) ∧ Rp.rep w' cs (Mk.mark k x) fp ∧ Own w' fp ∧ Only fp w w' := by
  obtain ⟨v2, rfl, p0, p1, h2⟩ := h
  have hcc : Mk.cnt x = Mk.cnt x.moves := rfl
  have Hcc := Lib.hid hcc; clear hcc
  have hb2 : k + (Mk.cnt x.moves : Nat) ≤ 4611686018427387904 := by have := Hcc.out; omega
  have n2 := hnd
  have l2 := Rp.lt h2
  go_enter Try.func28, Try.ntmps28
  go_wp2_with (first | (go_at_call 29; (with_reducible refine (markInt64SS_rd v2 x.moves fp (k) _ (Rp.keep h2 (by with_reducible repeat (first | exact Only.refl _ _ | assumption | refine Only.drewN ?_ _ | refine Only.drew ?_ | refine Only.alloc ?_ _ | refine Only.setCell ?_ (by intro hh; exfalso; simp at hh; try omega) _ | refine Only.trans ?_ (by assumption)))) n2 (ho.keep (by with_reducible repeat (first | exact Only.refl _ _ | assumption | refine Only.drewN ?_ _ | refine Only.drew ?_ | refine Only.alloc ?_ _ | refine Only.setCell ?_ (by intro hh; exfalso; simp at hh; try omega) _ | refine Only.trans ?_ (by assumption)))) (by omega) hb2).mono ?_); rintro e w2 ⟨rfl, r2, o2, t2⟩; have s2 : w.heap.size < w2.heap.size := (Nat.lt_of_lt_of_le (by simp) t2.size); have q2 := t2.cells_eq w.heap.size (by simp) (fun hm => absurd (l2 _ hm) (by omega))))
  go_ret
  have hk0 : Only [] w (w.alloc (.cells ([Value.int .i64 x.points] ++ [Value.string x.names] ++ [v2]).toArray 30)) := (by with_reducible repeat (first | exact Only.refl _ _ | assumption | refine Only.drewN ?_ _ | refine Only.drew ?_ | refine Only.alloc ?_ _ | refine Only.setCell ?_ (by intro hh; exfalso; simp at hh; try omega) _ | refine Only.trans ?_ (by assumption)))
  exact ⟨ret_int (by have := Hcc.out; omega), ⟨v2, rfl, p0, p1, r2⟩, o2, (hk0.weaken _).trans t2⟩

set_option maxHeartbeats 1000000 in
theorem toPuzzle_any (cs : List Value) (x : Puzzle) (fp : List Nat) (w : World) (h : Rp.rep w cs x fp) (hsm : Sm.sm x) :
    Calls Try.prog 22 #[.agg cs.toArray] w fun e w' => ∃ cs' fp', e = .returned (.agg cs'.toArray) ∧ Rp.rep w' cs' x fp' ∧ Fresh w.heap.size w' fp' ∧ Only [] w w' := by
  obtain ⟨v2, rfl, p0, p1, h2⟩ := h
  have g2 : Sm.sm x.moves := hsm
  go_enter Try.func22, Try.ntmps22
  go_wp2_with (first | (go_at_call 23; (with_reducible refine (toInt64SS_sm v2 x.moves _ _ (Rp.keep h2 (by with_reducible repeat (first | exact Only.refl _ _ | assumption | refine Only.drewN ?_ _ | refine Only.drew ?_ | refine Only.alloc ?_ _ | refine Only.setCell ?_ (by intro hh; exfalso; simp at hh; try omega) _ | refine Only.trans ?_ (by assumption)))) g2).mono ?_); rintro e w2 ⟨u2, fz2, rfl, r2, F2, t2⟩; have k2 := r2.open_; obtain ⟨A2, C2, _, _, rfl, -⟩ := k2; have s2 : w.heap.size + 1 + 1 < w2.heap.size := (by have := t2.size; simp at this; omega); have y20 := t2.cells_eq w.heap.size (by simp; try omega) (by simp); have z20 := t2.frozen_eq w.heap.size (by simp; try omega) (by simp); have y21 := t2.cells_eq (w.heap.size + 1) (by simp; try omega) (by simp); have z21 := t2.frozen_eq (w.heap.size + 1) (by simp; try omega) (by simp); have y22 := t2.cells_eq (w.heap.size + 1 + 1) (by simp; try omega) (by simp); have z22 := t2.frozen_eq (w.heap.size + 1 + 1) (by simp; try omega) (by simp)))
  have T2 := t2.size
  simp at T2
  refine bodyPost_ret (v := .agg #[.int .i64 x.points, .string x.names, .slice A2 x.moves.length C2]) (by simp [results, Try.results22, go_sem, y21]) rfl ⟨[.int .i64 x.points, .string x.names, .slice A2 x.moves.length C2], _, rfl, ⟨.slice A2 x.moves.length C2, rfl, p0, p1, Rp.only (fp' := [w.heap.size + 1, w.heap.size + 1 + 1]) r2 (by with_reducible repeat (first | exact Only.refl _ _ | assumption | refine Only.drewN ?_ _ | refine Only.drew ?_ | refine Only.alloc ?_ _ | refine Only.setCell ?_ (by intro _; simp) _ | refine Only.trans ?_ (Only.weaken (by assumption) _))) (fun b hb hm => by have := F2.ge b hb; simp at hm this; omega)⟩, Fresh.mono (F2.only (fp' := [w.heap.size + 1, w.heap.size + 1 + 1]) (by with_reducible repeat (first | exact Only.refl _ _ | assumption | refine Only.drewN ?_ _ | refine Only.drew ?_ | refine Only.alloc ?_ _ | refine Only.setCell ?_ (by intro _; simp) _ | refine Only.trans ?_ (Only.weaken (by assumption) _))) (fun b hb hm => by have := F2.ge b hb; simp at hm this; omega)) (by simp; try omega), (by with_reducible repeat (first | exact Only.refl _ _ | assumption | refine Only.drewN ?_ _ | refine Only.drew ?_ | refine Only.alloc ?_ _ | refine Only.setCell ?_ (by intro hh; exfalso; simp at hh; try omega) _ | refine Only.trans ?_ (by assumption)))⟩

end Go.Proofs.Ytpfmkjcngknecaa
