/- Equality of puzzles and of sessions: the reference's and the program's functions. (Printed by mksame.py.) Words on sessions, played, taken back and played again: plain laws (laws 50, 55). -/
import Derived.Test.YtajkhdbdkjhilaaGreatRowSessionsG9
import Derived.Test.YtajkhdbdkjhilaaGreatRowSessionsG13
import Derived.Test.YtajkhdbdkjhilaaGreatRowSessionsG12
import Derived.Test.YtajkhdbdkjhilaaGreatRowSessionsG15
namespace Go.Proofs.YtajkhdbdkjhilaaGreat
open Go.RowKit
set_option maxRecDepth 10000

noncomputable def samePz (x y : Puzzle) : Bool := validPz x && (validPz y && (decide (x.points = y.points) && (decide (x.names = y.names) && eqV x.moves y.moves)))
noncomputable def sameSe (x y : Session) : Bool := validSe x && (validSe y && (samePz x.puzzle y.puzzle && (eqV x.state y.state && (eqV x.history y.history && eqV x.future y.future))))

set_option maxHeartbeats 4000000 in
theorem implSamePuzzle_any (cs cs' : List Value) (x y : Puzzle) (fp fp' : List Nat) (w : World) (h : Rp.rep w cs x fp) (h' : Rp.rep w cs' y fp') :
    Calls Tryz.prog 39 #[.agg cs.toArray, .agg cs'.toArray] w fun e w' => e = .returned (.bool (samePz x y)) ∧ Only [] w w' := by
  have h0 := h
  obtain ⟨v2, rfl, p0, p1, h2⟩ := h
  obtain ⟨A2, C2, _, _, rfl, -, -⟩ := h2.open_
  have h0' := h'
  obtain ⟨v2', rfl, p0', p1', h2'⟩ := h'
  obtain ⟨B2, D2, _, _, rfl, -, -⟩ := h2'.open_
  rcases c0 : validPz x
  · have hf : samePz x y = false := by unfold samePz; rw [c0]; rfl
    have Hf := Lib.hid hf
    clear hf
    go_enter Tryz.func39, Tryz.ntmps39
    go_wp2_with (first
      | (go_at_call 55; (with_reducible refine (implIsValidPuzzle_any [.int .i64 x.points, .string x.names, .slice A2 x.moves.length C2] x _ _ (Rp.keep h0 (by with_reducible repeat (first | exact Only.refl _ _ | assumption | refine Only.drewN ?_ _ | refine Only.drew ?_ | refine Only.alloc ?_ _ | refine Only.setCell ?_ (by intro hh; exfalso; simp at hh; try omega) _ | refine Only.trans ?_ (by assumption))))).mono ?_); rintro en w1 ⟨rfl, t1⟩; have s1 : w.heap.size + 2 ≤ w1.heap.size := (by have := t1.size; simp at this; omega); have y1 := t1.cells_eq w.heap.size (by simp; try omega) (by simp); have z1 := t1.cells_eq (w.heap.size + 1) (by simp) (by simp))
      | (go_at_call 55; (with_reducible refine (implIsValidPuzzle_any [.int .i64 y.points, .string y.names, .slice B2 y.moves.length D2] y _ _ (Rp.keep h0' (by with_reducible repeat (first | exact Only.refl _ _ | assumption | refine Only.drewN ?_ _ | refine Only.drew ?_ | refine Only.alloc ?_ _ | refine Only.setCell ?_ (by intro hh; exfalso; simp at hh; try omega) _ | refine Only.trans ?_ (by assumption))))).mono ?_); rintro en w2 ⟨rfl, t2⟩; have s2 : w.heap.size + 2 ≤ w2.heap.size := Nat.le_trans s1 t2.size; have y2 := t2.cells_eq w.heap.size (by omega) (by simp); have z2 := t2.cells_eq (w.heap.size + 1) (by omega) (by simp))
      | (go_at_call 41; (with_reducible refine (samePartition_rd _ _ x.moves y.moves _ _ _ (Rp.keep h2 (by with_reducible repeat (first | exact Only.refl _ _ | assumption | refine Only.drewN ?_ _ | refine Only.drew ?_ | refine Only.alloc ?_ _ | refine Only.setCell ?_ (by intro hh; exfalso; simp at hh; try omega) _ | refine Only.trans ?_ (by assumption)))) (Rp.keep h2' (by with_reducible repeat (first | exact Only.refl _ _ | assumption | refine Only.drewN ?_ _ | refine Only.drew ?_ | refine Only.alloc ?_ _ | refine Only.setCell ?_ (by intro hh; exfalso; simp at hh; try omega) _ | refine Only.trans ?_ (by assumption))))).mono ?_); rintro en w5 ⟨rfl, t5⟩)
      | fail "no arm")
    go_ret
    exact ⟨ret_bool Hf.out.symm, (by with_reducible repeat (first | exact Only.refl _ _ | assumption | refine Only.drewN ?_ _ | refine Only.drew ?_ | refine Only.alloc ?_ _ | refine Only.setCell ?_ (by intro hh; exfalso; simp at hh; try omega) _ | refine Only.trans ?_ (by assumption)))⟩
  rcases c1 : validPz y
  · have hf : samePz x y = false := by unfold samePz; rw [c0, c1]; rfl
    have Hf := Lib.hid hf
    clear hf
    go_enter Tryz.func39, Tryz.ntmps39
    go_wp2_with (first
      | (go_at_call 55; (with_reducible refine (implIsValidPuzzle_any [.int .i64 x.points, .string x.names, .slice A2 x.moves.length C2] x _ _ (Rp.keep h0 (by with_reducible repeat (first | exact Only.refl _ _ | assumption | refine Only.drewN ?_ _ | refine Only.drew ?_ | refine Only.alloc ?_ _ | refine Only.setCell ?_ (by intro hh; exfalso; simp at hh; try omega) _ | refine Only.trans ?_ (by assumption))))).mono ?_); rintro en w1 ⟨rfl, t1⟩; have s1 : w.heap.size + 2 ≤ w1.heap.size := (by have := t1.size; simp at this; omega); have y1 := t1.cells_eq w.heap.size (by simp; try omega) (by simp); have z1 := t1.cells_eq (w.heap.size + 1) (by simp) (by simp))
      | (go_at_call 55; (with_reducible refine (implIsValidPuzzle_any [.int .i64 y.points, .string y.names, .slice B2 y.moves.length D2] y _ _ (Rp.keep h0' (by with_reducible repeat (first | exact Only.refl _ _ | assumption | refine Only.drewN ?_ _ | refine Only.drew ?_ | refine Only.alloc ?_ _ | refine Only.setCell ?_ (by intro hh; exfalso; simp at hh; try omega) _ | refine Only.trans ?_ (by assumption))))).mono ?_); rintro en w2 ⟨rfl, t2⟩; have s2 : w.heap.size + 2 ≤ w2.heap.size := Nat.le_trans s1 t2.size; have y2 := t2.cells_eq w.heap.size (by omega) (by simp); have z2 := t2.cells_eq (w.heap.size + 1) (by omega) (by simp))
      | (go_at_call 41; (with_reducible refine (samePartition_rd _ _ x.moves y.moves _ _ _ (Rp.keep h2 (by with_reducible repeat (first | exact Only.refl _ _ | assumption | refine Only.drewN ?_ _ | refine Only.drew ?_ | refine Only.alloc ?_ _ | refine Only.setCell ?_ (by intro hh; exfalso; simp at hh; try omega) _ | refine Only.trans ?_ (by assumption)))) (Rp.keep h2' (by with_reducible repeat (first | exact Only.refl _ _ | assumption | refine Only.drewN ?_ _ | refine Only.drew ?_ | refine Only.alloc ?_ _ | refine Only.setCell ?_ (by intro hh; exfalso; simp at hh; try omega) _ | refine Only.trans ?_ (by assumption))))).mono ?_); rintro en w5 ⟨rfl, t5⟩)
      | fail "no arm")
    go_ret
    exact ⟨ret_bool Hf.out.symm, (by with_reducible repeat (first | exact Only.refl _ _ | assumption | refine Only.drewN ?_ _ | refine Only.drew ?_ | refine Only.alloc ?_ _ | refine Only.setCell ?_ (by intro hh; exfalso; simp at hh; try omega) _ | refine Only.trans ?_ (by assumption)))⟩
  by_cases c2 : x.points = y.points
  rotate_left
  · have hf : samePz x y = false := by unfold samePz; rw [c0, c1, decide_eq_false c2]; rfl
    have d2 : (x.points == y.points) = false := by simp [c2]
    have Hf := Lib.hid hf
    clear hf
    go_enter Tryz.func39, Tryz.ntmps39
    go_wp2_with (first
      | (go_at_call 55; (with_reducible refine (implIsValidPuzzle_any [.int .i64 x.points, .string x.names, .slice A2 x.moves.length C2] x _ _ (Rp.keep h0 (by with_reducible repeat (first | exact Only.refl _ _ | assumption | refine Only.drewN ?_ _ | refine Only.drew ?_ | refine Only.alloc ?_ _ | refine Only.setCell ?_ (by intro hh; exfalso; simp at hh; try omega) _ | refine Only.trans ?_ (by assumption))))).mono ?_); rintro en w1 ⟨rfl, t1⟩; have s1 : w.heap.size + 2 ≤ w1.heap.size := (by have := t1.size; simp at this; omega); have y1 := t1.cells_eq w.heap.size (by simp; try omega) (by simp); have z1 := t1.cells_eq (w.heap.size + 1) (by simp) (by simp))
      | (go_at_call 55; (with_reducible refine (implIsValidPuzzle_any [.int .i64 y.points, .string y.names, .slice B2 y.moves.length D2] y _ _ (Rp.keep h0' (by with_reducible repeat (first | exact Only.refl _ _ | assumption | refine Only.drewN ?_ _ | refine Only.drew ?_ | refine Only.alloc ?_ _ | refine Only.setCell ?_ (by intro hh; exfalso; simp at hh; try omega) _ | refine Only.trans ?_ (by assumption))))).mono ?_); rintro en w2 ⟨rfl, t2⟩; have s2 : w.heap.size + 2 ≤ w2.heap.size := Nat.le_trans s1 t2.size; have y2 := t2.cells_eq w.heap.size (by omega) (by simp); have z2 := t2.cells_eq (w.heap.size + 1) (by omega) (by simp))
      | (go_at_call 41; (with_reducible refine (samePartition_rd _ _ x.moves y.moves _ _ _ (Rp.keep h2 (by with_reducible repeat (first | exact Only.refl _ _ | assumption | refine Only.drewN ?_ _ | refine Only.drew ?_ | refine Only.alloc ?_ _ | refine Only.setCell ?_ (by intro hh; exfalso; simp at hh; try omega) _ | refine Only.trans ?_ (by assumption)))) (Rp.keep h2' (by with_reducible repeat (first | exact Only.refl _ _ | assumption | refine Only.drewN ?_ _ | refine Only.drew ?_ | refine Only.alloc ?_ _ | refine Only.setCell ?_ (by intro hh; exfalso; simp at hh; try omega) _ | refine Only.trans ?_ (by assumption))))).mono ?_); rintro en w5 ⟨rfl, t5⟩)
      | fail "no arm")
    go_ret
    exact ⟨ret_bool Hf.out.symm, (by with_reducible repeat (first | exact Only.refl _ _ | assumption | refine Only.drewN ?_ _ | refine Only.drew ?_ | refine Only.alloc ?_ _ | refine Only.setCell ?_ (by intro hh; exfalso; simp at hh; try omega) _ | refine Only.trans ?_ (by assumption)))⟩
  have d2 : (x.points == y.points) = true := by simp [c2]
  have H2 := Lib.hid (decide_eq_true c2)
  clear c2
  by_cases c3 : x.names = y.names
  rotate_left
  · have hf : samePz x y = false := by unfold samePz; rw [c0, c1, H2.out, decide_eq_false c3]; rfl
    have d3 : (x.names.toList == y.names.toList) = false := str_ne c3
    have Hf := Lib.hid hf
    clear hf
    go_enter Tryz.func39, Tryz.ntmps39
    go_wp2_with (first
      | (go_at_call 55; (with_reducible refine (implIsValidPuzzle_any [.int .i64 x.points, .string x.names, .slice A2 x.moves.length C2] x _ _ (Rp.keep h0 (by with_reducible repeat (first | exact Only.refl _ _ | assumption | refine Only.drewN ?_ _ | refine Only.drew ?_ | refine Only.alloc ?_ _ | refine Only.setCell ?_ (by intro hh; exfalso; simp at hh; try omega) _ | refine Only.trans ?_ (by assumption))))).mono ?_); rintro en w1 ⟨rfl, t1⟩; have s1 : w.heap.size + 2 ≤ w1.heap.size := (by have := t1.size; simp at this; omega); have y1 := t1.cells_eq w.heap.size (by simp; try omega) (by simp); have z1 := t1.cells_eq (w.heap.size + 1) (by simp) (by simp))
      | (go_at_call 55; (with_reducible refine (implIsValidPuzzle_any [.int .i64 y.points, .string y.names, .slice B2 y.moves.length D2] y _ _ (Rp.keep h0' (by with_reducible repeat (first | exact Only.refl _ _ | assumption | refine Only.drewN ?_ _ | refine Only.drew ?_ | refine Only.alloc ?_ _ | refine Only.setCell ?_ (by intro hh; exfalso; simp at hh; try omega) _ | refine Only.trans ?_ (by assumption))))).mono ?_); rintro en w2 ⟨rfl, t2⟩; have s2 : w.heap.size + 2 ≤ w2.heap.size := Nat.le_trans s1 t2.size; have y2 := t2.cells_eq w.heap.size (by omega) (by simp); have z2 := t2.cells_eq (w.heap.size + 1) (by omega) (by simp))
      | (go_at_call 41; (with_reducible refine (samePartition_rd _ _ x.moves y.moves _ _ _ (Rp.keep h2 (by with_reducible repeat (first | exact Only.refl _ _ | assumption | refine Only.drewN ?_ _ | refine Only.drew ?_ | refine Only.alloc ?_ _ | refine Only.setCell ?_ (by intro hh; exfalso; simp at hh; try omega) _ | refine Only.trans ?_ (by assumption)))) (Rp.keep h2' (by with_reducible repeat (first | exact Only.refl _ _ | assumption | refine Only.drewN ?_ _ | refine Only.drew ?_ | refine Only.alloc ?_ _ | refine Only.setCell ?_ (by intro hh; exfalso; simp at hh; try omega) _ | refine Only.trans ?_ (by assumption))))).mono ?_); rintro en w5 ⟨rfl, t5⟩)
      | fail "no arm")
    go_ret
    exact ⟨ret_bool Hf.out.symm, (by with_reducible repeat (first | exact Only.refl _ _ | assumption | refine Only.drewN ?_ _ | refine Only.drew ?_ | refine Only.alloc ?_ _ | refine Only.setCell ?_ (by intro hh; exfalso; simp at hh; try omega) _ | refine Only.trans ?_ (by assumption)))⟩
  have d3 : (x.names.toList == y.names.toList) = true := str_eq c3
  have H3 := Lib.hid (decide_eq_true c3)
  clear c3
  have hf : samePz x y = eqV x.moves y.moves := by unfold samePz; rw [c0, c1, H2.out, H3.out]; rfl
  have Hf := Lib.hid hf
  clear hf
  go_enter Tryz.func39, Tryz.ntmps39
  go_wp2_with (first
    | (go_at_call 55; (with_reducible refine (implIsValidPuzzle_any [.int .i64 x.points, .string x.names, .slice A2 x.moves.length C2] x _ _ (Rp.keep h0 (by with_reducible repeat (first | exact Only.refl _ _ | assumption | refine Only.drewN ?_ _ | refine Only.drew ?_ | refine Only.alloc ?_ _ | refine Only.setCell ?_ (by intro hh; exfalso; simp at hh; try omega) _ | refine Only.trans ?_ (by assumption))))).mono ?_); rintro en w1 ⟨rfl, t1⟩; have s1 : w.heap.size + 2 ≤ w1.heap.size := (by have := t1.size; simp at this; omega); have y1 := t1.cells_eq w.heap.size (by simp; try omega) (by simp); have z1 := t1.cells_eq (w.heap.size + 1) (by simp) (by simp))
    | (go_at_call 55; (with_reducible refine (implIsValidPuzzle_any [.int .i64 y.points, .string y.names, .slice B2 y.moves.length D2] y _ _ (Rp.keep h0' (by with_reducible repeat (first | exact Only.refl _ _ | assumption | refine Only.drewN ?_ _ | refine Only.drew ?_ | refine Only.alloc ?_ _ | refine Only.setCell ?_ (by intro hh; exfalso; simp at hh; try omega) _ | refine Only.trans ?_ (by assumption))))).mono ?_); rintro en w2 ⟨rfl, t2⟩; have s2 : w.heap.size + 2 ≤ w2.heap.size := Nat.le_trans s1 t2.size; have y2 := t2.cells_eq w.heap.size (by omega) (by simp); have z2 := t2.cells_eq (w.heap.size + 1) (by omega) (by simp))
    | (go_at_call 41; (with_reducible refine (samePartition_rd _ _ x.moves y.moves _ _ _ (Rp.keep h2 (by with_reducible repeat (first | exact Only.refl _ _ | assumption | refine Only.drewN ?_ _ | refine Only.drew ?_ | refine Only.alloc ?_ _ | refine Only.setCell ?_ (by intro hh; exfalso; simp at hh; try omega) _ | refine Only.trans ?_ (by assumption)))) (Rp.keep h2' (by with_reducible repeat (first | exact Only.refl _ _ | assumption | refine Only.drewN ?_ _ | refine Only.drew ?_ | refine Only.alloc ?_ _ | refine Only.setCell ?_ (by intro hh; exfalso; simp at hh; try omega) _ | refine Only.trans ?_ (by assumption))))).mono ?_); rintro en w5 ⟨rfl, t5⟩)
    | fail "no arm")
  go_ret
  exact ⟨ret_bool Hf.out.symm, (by with_reducible repeat (first | exact Only.refl _ _ | assumption | refine Only.drewN ?_ _ | refine Only.drew ?_ | refine Only.alloc ?_ _ | refine Only.setCell ?_ (by intro hh; exfalso; simp at hh; try omega) _ | refine Only.trans ?_ (by assumption)))⟩

set_option maxHeartbeats 4000000 in
theorem implSameSession_any (cs cs' : List Value) (x y : Session) (fp fp' : List Nat) (w : World) (h : Rp.rep w cs x fp) (h' : Rp.rep w cs' y fp') :
    Calls Tryz.prog 11 #[.agg cs.toArray, .agg cs'.toArray] w fun e w' => e = .returned (.bool (sameSe x y)) ∧ Only [] w w' := by
  have h0 := h
  obtain ⟨c0, v1, v2, v3, f0, f1, f2, f3, rfl, rfl, k0, k1, k2, k3⟩ := h
  have q0 := k0
  obtain ⟨u2, rfl, -, -, h2⟩ := q0
  obtain ⟨A2, C2, _, _, rfl, -, -⟩ := h2.open_
  obtain ⟨A3, C3, _, _, rfl, -, -⟩ := k1.open_
  obtain ⟨A4, C4, _, _, rfl, -, -⟩ := k2.open_
  obtain ⟨A5, C5, _, _, rfl, -, -⟩ := k3.open_
  have h0' := h'
  obtain ⟨c0', v1', v2', v3', f0', f1', f2', f3', rfl, rfl, k0', k1', k2', k3'⟩ := h'
  have q0' := k0'
  obtain ⟨u2', rfl, -, -, h2'⟩ := q0'
  obtain ⟨B2, D2, _, _, rfl, -, -⟩ := h2'.open_
  obtain ⟨B3, D3, _, _, rfl, -, -⟩ := k1'.open_
  obtain ⟨B4, D4, _, _, rfl, -, -⟩ := k2'.open_
  obtain ⟨B5, D5, _, _, rfl, -, -⟩ := k3'.open_
  rcases c0 : validSe x
  · have hf : sameSe x y = false := by unfold sameSe; rw [c0]; rfl
    have Hf := Lib.hid hf
    clear hf
    go_enter Tryz.func11, Tryz.ntmps11
    go_wp2_with (first
      | (go_at_call 9; (with_reducible refine (implIsValidSession_any [.int .i64 x.puzzle.points, .string x.puzzle.names, .slice A2 x.puzzle.moves.length C2, .slice A3 x.state.length C3, .slice A4 x.history.length C4, .slice A5 x.future.length C5] x _ _ (Rp.keep h0 (by with_reducible repeat (first | exact Only.refl _ _ | assumption | refine Only.drewN ?_ _ | refine Only.drew ?_ | refine Only.alloc ?_ _ | refine Only.setCell ?_ (by intro hh; exfalso; simp at hh; try omega) _ | refine Only.trans ?_ (by assumption))))).mono ?_); rintro en w1 ⟨rfl, t1⟩; have s1 : w.heap.size + 2 ≤ w1.heap.size := (by have := t1.size; simp at this; omega); have y1 := t1.cells_eq w.heap.size (by simp; try omega) (by simp); have z1 := t1.cells_eq (w.heap.size + 1) (by simp) (by simp))
      | (go_at_call 9; (with_reducible refine (implIsValidSession_any [.int .i64 y.puzzle.points, .string y.puzzle.names, .slice B2 y.puzzle.moves.length D2, .slice B3 y.state.length D3, .slice B4 y.history.length D4, .slice B5 y.future.length D5] y _ _ (Rp.keep h0' (by with_reducible repeat (first | exact Only.refl _ _ | assumption | refine Only.drewN ?_ _ | refine Only.drew ?_ | refine Only.alloc ?_ _ | refine Only.setCell ?_ (by intro hh; exfalso; simp at hh; try omega) _ | refine Only.trans ?_ (by assumption))))).mono ?_); rintro en w2 ⟨rfl, t2⟩; have s2 : w.heap.size + 2 ≤ w2.heap.size := Nat.le_trans s1 t2.size; have y2 := t2.cells_eq w.heap.size (by omega) (by simp); have z2 := t2.cells_eq (w.heap.size + 1) (by omega) (by simp))
      | (go_at_call 39; (with_reducible refine (implSamePuzzle_any [.int .i64 x.puzzle.points, .string x.puzzle.names, .slice A2 x.puzzle.moves.length C2] [.int .i64 y.puzzle.points, .string y.puzzle.names, .slice B2 y.puzzle.moves.length D2] x.puzzle y.puzzle _ _ _ (Rp.keep k0 (by with_reducible repeat (first | exact Only.refl _ _ | assumption | refine Only.drewN ?_ _ | refine Only.drew ?_ | refine Only.alloc ?_ _ | refine Only.setCell ?_ (by intro hh; exfalso; simp at hh; try omega) _ | refine Only.trans ?_ (by assumption)))) (Rp.keep k0' (by with_reducible repeat (first | exact Only.refl _ _ | assumption | refine Only.drewN ?_ _ | refine Only.drew ?_ | refine Only.alloc ?_ _ | refine Only.setCell ?_ (by intro hh; exfalso; simp at hh; try omega) _ | refine Only.trans ?_ (by assumption))))).mono ?_); rintro en w3 ⟨rfl, t3⟩; have s3 : w.heap.size + 2 ≤ w3.heap.size := Nat.le_trans s2 t3.size; have y3 := t3.cells_eq w.heap.size (by omega) (by simp); have z3 := t3.cells_eq (w.heap.size + 1) (by omega) (by simp))
      | (go_at_call 40; (with_reducible refine (Equal_rd _ _ x.state y.state _ _ _ (Rp.keep k1 (by with_reducible repeat (first | exact Only.refl _ _ | assumption | refine Only.drewN ?_ _ | refine Only.drew ?_ | refine Only.alloc ?_ _ | refine Only.setCell ?_ (by intro hh; exfalso; simp at hh; try omega) _ | refine Only.trans ?_ (by assumption)))) (Rp.keep k1' (by with_reducible repeat (first | exact Only.refl _ _ | assumption | refine Only.drewN ?_ _ | refine Only.drew ?_ | refine Only.alloc ?_ _ | refine Only.setCell ?_ (by intro hh; exfalso; simp at hh; try omega) _ | refine Only.trans ?_ (by assumption))))).mono ?_); rintro en w4 ⟨rfl, d4⟩; have t4 := d4.only []; have s4 : w.heap.size + 2 ≤ w4.heap.size := Nat.le_trans s3 t4.size; have y4 := t4.cells_eq w.heap.size (by omega) (by simp); have z4 := t4.cells_eq (w.heap.size + 1) (by omega) (by simp))
      | (go_at_call 41; (with_reducible refine (samePartition_rd _ _ x.history y.history _ _ _ (Rp.keep k2 (by with_reducible repeat (first | exact Only.refl _ _ | assumption | refine Only.drewN ?_ _ | refine Only.drew ?_ | refine Only.alloc ?_ _ | refine Only.setCell ?_ (by intro hh; exfalso; simp at hh; try omega) _ | refine Only.trans ?_ (by assumption)))) (Rp.keep k2' (by with_reducible repeat (first | exact Only.refl _ _ | assumption | refine Only.drewN ?_ _ | refine Only.drew ?_ | refine Only.alloc ?_ _ | refine Only.setCell ?_ (by intro hh; exfalso; simp at hh; try omega) _ | refine Only.trans ?_ (by assumption))))).mono ?_); rintro en w5 ⟨rfl, t5⟩; have s5 : w.heap.size + 2 ≤ w5.heap.size := Nat.le_trans s4 t5.size; have y5 := t5.cells_eq w.heap.size (by omega) (by simp); have z5 := t5.cells_eq (w.heap.size + 1) (by omega) (by simp))
      | (go_at_call 41; (with_reducible refine (samePartition_rd _ _ x.future y.future _ _ _ (Rp.keep k3 (by with_reducible repeat (first | exact Only.refl _ _ | assumption | refine Only.drewN ?_ _ | refine Only.drew ?_ | refine Only.alloc ?_ _ | refine Only.setCell ?_ (by intro hh; exfalso; simp at hh; try omega) _ | refine Only.trans ?_ (by assumption)))) (Rp.keep k3' (by with_reducible repeat (first | exact Only.refl _ _ | assumption | refine Only.drewN ?_ _ | refine Only.drew ?_ | refine Only.alloc ?_ _ | refine Only.setCell ?_ (by intro hh; exfalso; simp at hh; try omega) _ | refine Only.trans ?_ (by assumption))))).mono ?_); rintro en w6 ⟨rfl, t6⟩; have s6 : w.heap.size + 2 ≤ w6.heap.size := Nat.le_trans s5 t6.size; have y6 := t6.cells_eq w.heap.size (by omega) (by simp); have z6 := t6.cells_eq (w.heap.size + 1) (by omega) (by simp))
      | fail "no arm")
    go_ret
    exact ⟨ret_bool Hf.out.symm, (by with_reducible repeat (first | exact Only.refl _ _ | assumption | refine Only.drewN ?_ _ | refine Only.drew ?_ | refine Only.alloc ?_ _ | refine Only.setCell ?_ (by intro hh; exfalso; simp at hh; try omega) _ | refine Only.trans ?_ (by assumption)))⟩
  rcases c1 : validSe y
  · have hf : sameSe x y = false := by unfold sameSe; rw [c0, c1]; rfl
    have Hf := Lib.hid hf
    clear hf
    go_enter Tryz.func11, Tryz.ntmps11
    go_wp2_with (first
      | (go_at_call 9; (with_reducible refine (implIsValidSession_any [.int .i64 x.puzzle.points, .string x.puzzle.names, .slice A2 x.puzzle.moves.length C2, .slice A3 x.state.length C3, .slice A4 x.history.length C4, .slice A5 x.future.length C5] x _ _ (Rp.keep h0 (by with_reducible repeat (first | exact Only.refl _ _ | assumption | refine Only.drewN ?_ _ | refine Only.drew ?_ | refine Only.alloc ?_ _ | refine Only.setCell ?_ (by intro hh; exfalso; simp at hh; try omega) _ | refine Only.trans ?_ (by assumption))))).mono ?_); rintro en w1 ⟨rfl, t1⟩; have s1 : w.heap.size + 2 ≤ w1.heap.size := (by have := t1.size; simp at this; omega); have y1 := t1.cells_eq w.heap.size (by simp; try omega) (by simp); have z1 := t1.cells_eq (w.heap.size + 1) (by simp) (by simp))
      | (go_at_call 9; (with_reducible refine (implIsValidSession_any [.int .i64 y.puzzle.points, .string y.puzzle.names, .slice B2 y.puzzle.moves.length D2, .slice B3 y.state.length D3, .slice B4 y.history.length D4, .slice B5 y.future.length D5] y _ _ (Rp.keep h0' (by with_reducible repeat (first | exact Only.refl _ _ | assumption | refine Only.drewN ?_ _ | refine Only.drew ?_ | refine Only.alloc ?_ _ | refine Only.setCell ?_ (by intro hh; exfalso; simp at hh; try omega) _ | refine Only.trans ?_ (by assumption))))).mono ?_); rintro en w2 ⟨rfl, t2⟩; have s2 : w.heap.size + 2 ≤ w2.heap.size := Nat.le_trans s1 t2.size; have y2 := t2.cells_eq w.heap.size (by omega) (by simp); have z2 := t2.cells_eq (w.heap.size + 1) (by omega) (by simp))
      | (go_at_call 39; (with_reducible refine (implSamePuzzle_any [.int .i64 x.puzzle.points, .string x.puzzle.names, .slice A2 x.puzzle.moves.length C2] [.int .i64 y.puzzle.points, .string y.puzzle.names, .slice B2 y.puzzle.moves.length D2] x.puzzle y.puzzle _ _ _ (Rp.keep k0 (by with_reducible repeat (first | exact Only.refl _ _ | assumption | refine Only.drewN ?_ _ | refine Only.drew ?_ | refine Only.alloc ?_ _ | refine Only.setCell ?_ (by intro hh; exfalso; simp at hh; try omega) _ | refine Only.trans ?_ (by assumption)))) (Rp.keep k0' (by with_reducible repeat (first | exact Only.refl _ _ | assumption | refine Only.drewN ?_ _ | refine Only.drew ?_ | refine Only.alloc ?_ _ | refine Only.setCell ?_ (by intro hh; exfalso; simp at hh; try omega) _ | refine Only.trans ?_ (by assumption))))).mono ?_); rintro en w3 ⟨rfl, t3⟩; have s3 : w.heap.size + 2 ≤ w3.heap.size := Nat.le_trans s2 t3.size; have y3 := t3.cells_eq w.heap.size (by omega) (by simp); have z3 := t3.cells_eq (w.heap.size + 1) (by omega) (by simp))
      | (go_at_call 40; (with_reducible refine (Equal_rd _ _ x.state y.state _ _ _ (Rp.keep k1 (by with_reducible repeat (first | exact Only.refl _ _ | assumption | refine Only.drewN ?_ _ | refine Only.drew ?_ | refine Only.alloc ?_ _ | refine Only.setCell ?_ (by intro hh; exfalso; simp at hh; try omega) _ | refine Only.trans ?_ (by assumption)))) (Rp.keep k1' (by with_reducible repeat (first | exact Only.refl _ _ | assumption | refine Only.drewN ?_ _ | refine Only.drew ?_ | refine Only.alloc ?_ _ | refine Only.setCell ?_ (by intro hh; exfalso; simp at hh; try omega) _ | refine Only.trans ?_ (by assumption))))).mono ?_); rintro en w4 ⟨rfl, d4⟩; have t4 := d4.only []; have s4 : w.heap.size + 2 ≤ w4.heap.size := Nat.le_trans s3 t4.size; have y4 := t4.cells_eq w.heap.size (by omega) (by simp); have z4 := t4.cells_eq (w.heap.size + 1) (by omega) (by simp))
      | (go_at_call 41; (with_reducible refine (samePartition_rd _ _ x.history y.history _ _ _ (Rp.keep k2 (by with_reducible repeat (first | exact Only.refl _ _ | assumption | refine Only.drewN ?_ _ | refine Only.drew ?_ | refine Only.alloc ?_ _ | refine Only.setCell ?_ (by intro hh; exfalso; simp at hh; try omega) _ | refine Only.trans ?_ (by assumption)))) (Rp.keep k2' (by with_reducible repeat (first | exact Only.refl _ _ | assumption | refine Only.drewN ?_ _ | refine Only.drew ?_ | refine Only.alloc ?_ _ | refine Only.setCell ?_ (by intro hh; exfalso; simp at hh; try omega) _ | refine Only.trans ?_ (by assumption))))).mono ?_); rintro en w5 ⟨rfl, t5⟩; have s5 : w.heap.size + 2 ≤ w5.heap.size := Nat.le_trans s4 t5.size; have y5 := t5.cells_eq w.heap.size (by omega) (by simp); have z5 := t5.cells_eq (w.heap.size + 1) (by omega) (by simp))
      | (go_at_call 41; (with_reducible refine (samePartition_rd _ _ x.future y.future _ _ _ (Rp.keep k3 (by with_reducible repeat (first | exact Only.refl _ _ | assumption | refine Only.drewN ?_ _ | refine Only.drew ?_ | refine Only.alloc ?_ _ | refine Only.setCell ?_ (by intro hh; exfalso; simp at hh; try omega) _ | refine Only.trans ?_ (by assumption)))) (Rp.keep k3' (by with_reducible repeat (first | exact Only.refl _ _ | assumption | refine Only.drewN ?_ _ | refine Only.drew ?_ | refine Only.alloc ?_ _ | refine Only.setCell ?_ (by intro hh; exfalso; simp at hh; try omega) _ | refine Only.trans ?_ (by assumption))))).mono ?_); rintro en w6 ⟨rfl, t6⟩; have s6 : w.heap.size + 2 ≤ w6.heap.size := Nat.le_trans s5 t6.size; have y6 := t6.cells_eq w.heap.size (by omega) (by simp); have z6 := t6.cells_eq (w.heap.size + 1) (by omega) (by simp))
      | fail "no arm")
    go_ret
    exact ⟨ret_bool Hf.out.symm, (by with_reducible repeat (first | exact Only.refl _ _ | assumption | refine Only.drewN ?_ _ | refine Only.drew ?_ | refine Only.alloc ?_ _ | refine Only.setCell ?_ (by intro hh; exfalso; simp at hh; try omega) _ | refine Only.trans ?_ (by assumption)))⟩
  rcases c2 : samePz x.puzzle y.puzzle
  · have hf : sameSe x y = false := by unfold sameSe; rw [c0, c1, c2]; rfl
    have Hf := Lib.hid hf
    clear hf
    go_enter Tryz.func11, Tryz.ntmps11
    go_wp2_with (first
      | (go_at_call 9; (with_reducible refine (implIsValidSession_any [.int .i64 x.puzzle.points, .string x.puzzle.names, .slice A2 x.puzzle.moves.length C2, .slice A3 x.state.length C3, .slice A4 x.history.length C4, .slice A5 x.future.length C5] x _ _ (Rp.keep h0 (by with_reducible repeat (first | exact Only.refl _ _ | assumption | refine Only.drewN ?_ _ | refine Only.drew ?_ | refine Only.alloc ?_ _ | refine Only.setCell ?_ (by intro hh; exfalso; simp at hh; try omega) _ | refine Only.trans ?_ (by assumption))))).mono ?_); rintro en w1 ⟨rfl, t1⟩; have s1 : w.heap.size + 2 ≤ w1.heap.size := (by have := t1.size; simp at this; omega); have y1 := t1.cells_eq w.heap.size (by simp; try omega) (by simp); have z1 := t1.cells_eq (w.heap.size + 1) (by simp) (by simp))
      | (go_at_call 9; (with_reducible refine (implIsValidSession_any [.int .i64 y.puzzle.points, .string y.puzzle.names, .slice B2 y.puzzle.moves.length D2, .slice B3 y.state.length D3, .slice B4 y.history.length D4, .slice B5 y.future.length D5] y _ _ (Rp.keep h0' (by with_reducible repeat (first | exact Only.refl _ _ | assumption | refine Only.drewN ?_ _ | refine Only.drew ?_ | refine Only.alloc ?_ _ | refine Only.setCell ?_ (by intro hh; exfalso; simp at hh; try omega) _ | refine Only.trans ?_ (by assumption))))).mono ?_); rintro en w2 ⟨rfl, t2⟩; have s2 : w.heap.size + 2 ≤ w2.heap.size := Nat.le_trans s1 t2.size; have y2 := t2.cells_eq w.heap.size (by omega) (by simp); have z2 := t2.cells_eq (w.heap.size + 1) (by omega) (by simp))
      | (go_at_call 39; (with_reducible refine (implSamePuzzle_any [.int .i64 x.puzzle.points, .string x.puzzle.names, .slice A2 x.puzzle.moves.length C2] [.int .i64 y.puzzle.points, .string y.puzzle.names, .slice B2 y.puzzle.moves.length D2] x.puzzle y.puzzle _ _ _ (Rp.keep k0 (by with_reducible repeat (first | exact Only.refl _ _ | assumption | refine Only.drewN ?_ _ | refine Only.drew ?_ | refine Only.alloc ?_ _ | refine Only.setCell ?_ (by intro hh; exfalso; simp at hh; try omega) _ | refine Only.trans ?_ (by assumption)))) (Rp.keep k0' (by with_reducible repeat (first | exact Only.refl _ _ | assumption | refine Only.drewN ?_ _ | refine Only.drew ?_ | refine Only.alloc ?_ _ | refine Only.setCell ?_ (by intro hh; exfalso; simp at hh; try omega) _ | refine Only.trans ?_ (by assumption))))).mono ?_); rintro en w3 ⟨rfl, t3⟩; have s3 : w.heap.size + 2 ≤ w3.heap.size := Nat.le_trans s2 t3.size; have y3 := t3.cells_eq w.heap.size (by omega) (by simp); have z3 := t3.cells_eq (w.heap.size + 1) (by omega) (by simp))
      | (go_at_call 40; (with_reducible refine (Equal_rd _ _ x.state y.state _ _ _ (Rp.keep k1 (by with_reducible repeat (first | exact Only.refl _ _ | assumption | refine Only.drewN ?_ _ | refine Only.drew ?_ | refine Only.alloc ?_ _ | refine Only.setCell ?_ (by intro hh; exfalso; simp at hh; try omega) _ | refine Only.trans ?_ (by assumption)))) (Rp.keep k1' (by with_reducible repeat (first | exact Only.refl _ _ | assumption | refine Only.drewN ?_ _ | refine Only.drew ?_ | refine Only.alloc ?_ _ | refine Only.setCell ?_ (by intro hh; exfalso; simp at hh; try omega) _ | refine Only.trans ?_ (by assumption))))).mono ?_); rintro en w4 ⟨rfl, d4⟩; have t4 := d4.only []; have s4 : w.heap.size + 2 ≤ w4.heap.size := Nat.le_trans s3 t4.size; have y4 := t4.cells_eq w.heap.size (by omega) (by simp); have z4 := t4.cells_eq (w.heap.size + 1) (by omega) (by simp))
      | (go_at_call 41; (with_reducible refine (samePartition_rd _ _ x.history y.history _ _ _ (Rp.keep k2 (by with_reducible repeat (first | exact Only.refl _ _ | assumption | refine Only.drewN ?_ _ | refine Only.drew ?_ | refine Only.alloc ?_ _ | refine Only.setCell ?_ (by intro hh; exfalso; simp at hh; try omega) _ | refine Only.trans ?_ (by assumption)))) (Rp.keep k2' (by with_reducible repeat (first | exact Only.refl _ _ | assumption | refine Only.drewN ?_ _ | refine Only.drew ?_ | refine Only.alloc ?_ _ | refine Only.setCell ?_ (by intro hh; exfalso; simp at hh; try omega) _ | refine Only.trans ?_ (by assumption))))).mono ?_); rintro en w5 ⟨rfl, t5⟩; have s5 : w.heap.size + 2 ≤ w5.heap.size := Nat.le_trans s4 t5.size; have y5 := t5.cells_eq w.heap.size (by omega) (by simp); have z5 := t5.cells_eq (w.heap.size + 1) (by omega) (by simp))
      | (go_at_call 41; (with_reducible refine (samePartition_rd _ _ x.future y.future _ _ _ (Rp.keep k3 (by with_reducible repeat (first | exact Only.refl _ _ | assumption | refine Only.drewN ?_ _ | refine Only.drew ?_ | refine Only.alloc ?_ _ | refine Only.setCell ?_ (by intro hh; exfalso; simp at hh; try omega) _ | refine Only.trans ?_ (by assumption)))) (Rp.keep k3' (by with_reducible repeat (first | exact Only.refl _ _ | assumption | refine Only.drewN ?_ _ | refine Only.drew ?_ | refine Only.alloc ?_ _ | refine Only.setCell ?_ (by intro hh; exfalso; simp at hh; try omega) _ | refine Only.trans ?_ (by assumption))))).mono ?_); rintro en w6 ⟨rfl, t6⟩; have s6 : w.heap.size + 2 ≤ w6.heap.size := Nat.le_trans s5 t6.size; have y6 := t6.cells_eq w.heap.size (by omega) (by simp); have z6 := t6.cells_eq (w.heap.size + 1) (by omega) (by simp))
      | fail "no arm")
    go_ret
    exact ⟨ret_bool Hf.out.symm, (by with_reducible repeat (first | exact Only.refl _ _ | assumption | refine Only.drewN ?_ _ | refine Only.drew ?_ | refine Only.alloc ?_ _ | refine Only.setCell ?_ (by intro hh; exfalso; simp at hh; try omega) _ | refine Only.trans ?_ (by assumption)))⟩
  rcases c3 : eqV x.state y.state
  · have hf : sameSe x y = false := by unfold sameSe; rw [c0, c1, c2, c3]; rfl
    have Hf := Lib.hid hf
    clear hf
    go_enter Tryz.func11, Tryz.ntmps11
    go_wp2_with (first
      | (go_at_call 9; (with_reducible refine (implIsValidSession_any [.int .i64 x.puzzle.points, .string x.puzzle.names, .slice A2 x.puzzle.moves.length C2, .slice A3 x.state.length C3, .slice A4 x.history.length C4, .slice A5 x.future.length C5] x _ _ (Rp.keep h0 (by with_reducible repeat (first | exact Only.refl _ _ | assumption | refine Only.drewN ?_ _ | refine Only.drew ?_ | refine Only.alloc ?_ _ | refine Only.setCell ?_ (by intro hh; exfalso; simp at hh; try omega) _ | refine Only.trans ?_ (by assumption))))).mono ?_); rintro en w1 ⟨rfl, t1⟩; have s1 : w.heap.size + 2 ≤ w1.heap.size := (by have := t1.size; simp at this; omega); have y1 := t1.cells_eq w.heap.size (by simp; try omega) (by simp); have z1 := t1.cells_eq (w.heap.size + 1) (by simp) (by simp))
      | (go_at_call 9; (with_reducible refine (implIsValidSession_any [.int .i64 y.puzzle.points, .string y.puzzle.names, .slice B2 y.puzzle.moves.length D2, .slice B3 y.state.length D3, .slice B4 y.history.length D4, .slice B5 y.future.length D5] y _ _ (Rp.keep h0' (by with_reducible repeat (first | exact Only.refl _ _ | assumption | refine Only.drewN ?_ _ | refine Only.drew ?_ | refine Only.alloc ?_ _ | refine Only.setCell ?_ (by intro hh; exfalso; simp at hh; try omega) _ | refine Only.trans ?_ (by assumption))))).mono ?_); rintro en w2 ⟨rfl, t2⟩; have s2 : w.heap.size + 2 ≤ w2.heap.size := Nat.le_trans s1 t2.size; have y2 := t2.cells_eq w.heap.size (by omega) (by simp); have z2 := t2.cells_eq (w.heap.size + 1) (by omega) (by simp))
      | (go_at_call 39; (with_reducible refine (implSamePuzzle_any [.int .i64 x.puzzle.points, .string x.puzzle.names, .slice A2 x.puzzle.moves.length C2] [.int .i64 y.puzzle.points, .string y.puzzle.names, .slice B2 y.puzzle.moves.length D2] x.puzzle y.puzzle _ _ _ (Rp.keep k0 (by with_reducible repeat (first | exact Only.refl _ _ | assumption | refine Only.drewN ?_ _ | refine Only.drew ?_ | refine Only.alloc ?_ _ | refine Only.setCell ?_ (by intro hh; exfalso; simp at hh; try omega) _ | refine Only.trans ?_ (by assumption)))) (Rp.keep k0' (by with_reducible repeat (first | exact Only.refl _ _ | assumption | refine Only.drewN ?_ _ | refine Only.drew ?_ | refine Only.alloc ?_ _ | refine Only.setCell ?_ (by intro hh; exfalso; simp at hh; try omega) _ | refine Only.trans ?_ (by assumption))))).mono ?_); rintro en w3 ⟨rfl, t3⟩; have s3 : w.heap.size + 2 ≤ w3.heap.size := Nat.le_trans s2 t3.size; have y3 := t3.cells_eq w.heap.size (by omega) (by simp); have z3 := t3.cells_eq (w.heap.size + 1) (by omega) (by simp))
      | (go_at_call 40; (with_reducible refine (Equal_rd _ _ x.state y.state _ _ _ (Rp.keep k1 (by with_reducible repeat (first | exact Only.refl _ _ | assumption | refine Only.drewN ?_ _ | refine Only.drew ?_ | refine Only.alloc ?_ _ | refine Only.setCell ?_ (by intro hh; exfalso; simp at hh; try omega) _ | refine Only.trans ?_ (by assumption)))) (Rp.keep k1' (by with_reducible repeat (first | exact Only.refl _ _ | assumption | refine Only.drewN ?_ _ | refine Only.drew ?_ | refine Only.alloc ?_ _ | refine Only.setCell ?_ (by intro hh; exfalso; simp at hh; try omega) _ | refine Only.trans ?_ (by assumption))))).mono ?_); rintro en w4 ⟨rfl, d4⟩; have t4 := d4.only []; have s4 : w.heap.size + 2 ≤ w4.heap.size := Nat.le_trans s3 t4.size; have y4 := t4.cells_eq w.heap.size (by omega) (by simp); have z4 := t4.cells_eq (w.heap.size + 1) (by omega) (by simp))
      | (go_at_call 41; (with_reducible refine (samePartition_rd _ _ x.history y.history _ _ _ (Rp.keep k2 (by with_reducible repeat (first | exact Only.refl _ _ | assumption | refine Only.drewN ?_ _ | refine Only.drew ?_ | refine Only.alloc ?_ _ | refine Only.setCell ?_ (by intro hh; exfalso; simp at hh; try omega) _ | refine Only.trans ?_ (by assumption)))) (Rp.keep k2' (by with_reducible repeat (first | exact Only.refl _ _ | assumption | refine Only.drewN ?_ _ | refine Only.drew ?_ | refine Only.alloc ?_ _ | refine Only.setCell ?_ (by intro hh; exfalso; simp at hh; try omega) _ | refine Only.trans ?_ (by assumption))))).mono ?_); rintro en w5 ⟨rfl, t5⟩; have s5 : w.heap.size + 2 ≤ w5.heap.size := Nat.le_trans s4 t5.size; have y5 := t5.cells_eq w.heap.size (by omega) (by simp); have z5 := t5.cells_eq (w.heap.size + 1) (by omega) (by simp))
      | (go_at_call 41; (with_reducible refine (samePartition_rd _ _ x.future y.future _ _ _ (Rp.keep k3 (by with_reducible repeat (first | exact Only.refl _ _ | assumption | refine Only.drewN ?_ _ | refine Only.drew ?_ | refine Only.alloc ?_ _ | refine Only.setCell ?_ (by intro hh; exfalso; simp at hh; try omega) _ | refine Only.trans ?_ (by assumption)))) (Rp.keep k3' (by with_reducible repeat (first | exact Only.refl _ _ | assumption | refine Only.drewN ?_ _ | refine Only.drew ?_ | refine Only.alloc ?_ _ | refine Only.setCell ?_ (by intro hh; exfalso; simp at hh; try omega) _ | refine Only.trans ?_ (by assumption))))).mono ?_); rintro en w6 ⟨rfl, t6⟩; have s6 : w.heap.size + 2 ≤ w6.heap.size := Nat.le_trans s5 t6.size; have y6 := t6.cells_eq w.heap.size (by omega) (by simp); have z6 := t6.cells_eq (w.heap.size + 1) (by omega) (by simp))
      | fail "no arm")
    go_ret
    exact ⟨ret_bool Hf.out.symm, (by with_reducible repeat (first | exact Only.refl _ _ | assumption | refine Only.drewN ?_ _ | refine Only.drew ?_ | refine Only.alloc ?_ _ | refine Only.setCell ?_ (by intro hh; exfalso; simp at hh; try omega) _ | refine Only.trans ?_ (by assumption)))⟩
  rcases c4 : eqV x.history y.history
  · have hf : sameSe x y = false := by unfold sameSe; rw [c0, c1, c2, c3, c4]; rfl
    have Hf := Lib.hid hf
    clear hf
    go_enter Tryz.func11, Tryz.ntmps11
    go_wp2_with (first
      | (go_at_call 9; (with_reducible refine (implIsValidSession_any [.int .i64 x.puzzle.points, .string x.puzzle.names, .slice A2 x.puzzle.moves.length C2, .slice A3 x.state.length C3, .slice A4 x.history.length C4, .slice A5 x.future.length C5] x _ _ (Rp.keep h0 (by with_reducible repeat (first | exact Only.refl _ _ | assumption | refine Only.drewN ?_ _ | refine Only.drew ?_ | refine Only.alloc ?_ _ | refine Only.setCell ?_ (by intro hh; exfalso; simp at hh; try omega) _ | refine Only.trans ?_ (by assumption))))).mono ?_); rintro en w1 ⟨rfl, t1⟩; have s1 : w.heap.size + 2 ≤ w1.heap.size := (by have := t1.size; simp at this; omega); have y1 := t1.cells_eq w.heap.size (by simp; try omega) (by simp); have z1 := t1.cells_eq (w.heap.size + 1) (by simp) (by simp))
      | (go_at_call 9; (with_reducible refine (implIsValidSession_any [.int .i64 y.puzzle.points, .string y.puzzle.names, .slice B2 y.puzzle.moves.length D2, .slice B3 y.state.length D3, .slice B4 y.history.length D4, .slice B5 y.future.length D5] y _ _ (Rp.keep h0' (by with_reducible repeat (first | exact Only.refl _ _ | assumption | refine Only.drewN ?_ _ | refine Only.drew ?_ | refine Only.alloc ?_ _ | refine Only.setCell ?_ (by intro hh; exfalso; simp at hh; try omega) _ | refine Only.trans ?_ (by assumption))))).mono ?_); rintro en w2 ⟨rfl, t2⟩; have s2 : w.heap.size + 2 ≤ w2.heap.size := Nat.le_trans s1 t2.size; have y2 := t2.cells_eq w.heap.size (by omega) (by simp); have z2 := t2.cells_eq (w.heap.size + 1) (by omega) (by simp))
      | (go_at_call 39; (with_reducible refine (implSamePuzzle_any [.int .i64 x.puzzle.points, .string x.puzzle.names, .slice A2 x.puzzle.moves.length C2] [.int .i64 y.puzzle.points, .string y.puzzle.names, .slice B2 y.puzzle.moves.length D2] x.puzzle y.puzzle _ _ _ (Rp.keep k0 (by with_reducible repeat (first | exact Only.refl _ _ | assumption | refine Only.drewN ?_ _ | refine Only.drew ?_ | refine Only.alloc ?_ _ | refine Only.setCell ?_ (by intro hh; exfalso; simp at hh; try omega) _ | refine Only.trans ?_ (by assumption)))) (Rp.keep k0' (by with_reducible repeat (first | exact Only.refl _ _ | assumption | refine Only.drewN ?_ _ | refine Only.drew ?_ | refine Only.alloc ?_ _ | refine Only.setCell ?_ (by intro hh; exfalso; simp at hh; try omega) _ | refine Only.trans ?_ (by assumption))))).mono ?_); rintro en w3 ⟨rfl, t3⟩; have s3 : w.heap.size + 2 ≤ w3.heap.size := Nat.le_trans s2 t3.size; have y3 := t3.cells_eq w.heap.size (by omega) (by simp); have z3 := t3.cells_eq (w.heap.size + 1) (by omega) (by simp))
      | (go_at_call 40; (with_reducible refine (Equal_rd _ _ x.state y.state _ _ _ (Rp.keep k1 (by with_reducible repeat (first | exact Only.refl _ _ | assumption | refine Only.drewN ?_ _ | refine Only.drew ?_ | refine Only.alloc ?_ _ | refine Only.setCell ?_ (by intro hh; exfalso; simp at hh; try omega) _ | refine Only.trans ?_ (by assumption)))) (Rp.keep k1' (by with_reducible repeat (first | exact Only.refl _ _ | assumption | refine Only.drewN ?_ _ | refine Only.drew ?_ | refine Only.alloc ?_ _ | refine Only.setCell ?_ (by intro hh; exfalso; simp at hh; try omega) _ | refine Only.trans ?_ (by assumption))))).mono ?_); rintro en w4 ⟨rfl, d4⟩; have t4 := d4.only []; have s4 : w.heap.size + 2 ≤ w4.heap.size := Nat.le_trans s3 t4.size; have y4 := t4.cells_eq w.heap.size (by omega) (by simp); have z4 := t4.cells_eq (w.heap.size + 1) (by omega) (by simp))
      | (go_at_call 41; (with_reducible refine (samePartition_rd _ _ x.history y.history _ _ _ (Rp.keep k2 (by with_reducible repeat (first | exact Only.refl _ _ | assumption | refine Only.drewN ?_ _ | refine Only.drew ?_ | refine Only.alloc ?_ _ | refine Only.setCell ?_ (by intro hh; exfalso; simp at hh; try omega) _ | refine Only.trans ?_ (by assumption)))) (Rp.keep k2' (by with_reducible repeat (first | exact Only.refl _ _ | assumption | refine Only.drewN ?_ _ | refine Only.drew ?_ | refine Only.alloc ?_ _ | refine Only.setCell ?_ (by intro hh; exfalso; simp at hh; try omega) _ | refine Only.trans ?_ (by assumption))))).mono ?_); rintro en w5 ⟨rfl, t5⟩; have s5 : w.heap.size + 2 ≤ w5.heap.size := Nat.le_trans s4 t5.size; have y5 := t5.cells_eq w.heap.size (by omega) (by simp); have z5 := t5.cells_eq (w.heap.size + 1) (by omega) (by simp))
      | (go_at_call 41; (with_reducible refine (samePartition_rd _ _ x.future y.future _ _ _ (Rp.keep k3 (by with_reducible repeat (first | exact Only.refl _ _ | assumption | refine Only.drewN ?_ _ | refine Only.drew ?_ | refine Only.alloc ?_ _ | refine Only.setCell ?_ (by intro hh; exfalso; simp at hh; try omega) _ | refine Only.trans ?_ (by assumption)))) (Rp.keep k3' (by with_reducible repeat (first | exact Only.refl _ _ | assumption | refine Only.drewN ?_ _ | refine Only.drew ?_ | refine Only.alloc ?_ _ | refine Only.setCell ?_ (by intro hh; exfalso; simp at hh; try omega) _ | refine Only.trans ?_ (by assumption))))).mono ?_); rintro en w6 ⟨rfl, t6⟩; have s6 : w.heap.size + 2 ≤ w6.heap.size := Nat.le_trans s5 t6.size; have y6 := t6.cells_eq w.heap.size (by omega) (by simp); have z6 := t6.cells_eq (w.heap.size + 1) (by omega) (by simp))
      | fail "no arm")
    go_ret
    exact ⟨ret_bool Hf.out.symm, (by with_reducible repeat (first | exact Only.refl _ _ | assumption | refine Only.drewN ?_ _ | refine Only.drew ?_ | refine Only.alloc ?_ _ | refine Only.setCell ?_ (by intro hh; exfalso; simp at hh; try omega) _ | refine Only.trans ?_ (by assumption)))⟩
  have hf : sameSe x y = eqV x.future y.future := by unfold sameSe; rw [c0, c1, c2, c3, c4]; rfl
  have Hf := Lib.hid hf
  clear hf
  go_enter Tryz.func11, Tryz.ntmps11
  go_wp2_with (first
    | (go_at_call 9; (with_reducible refine (implIsValidSession_any [.int .i64 x.puzzle.points, .string x.puzzle.names, .slice A2 x.puzzle.moves.length C2, .slice A3 x.state.length C3, .slice A4 x.history.length C4, .slice A5 x.future.length C5] x _ _ (Rp.keep h0 (by with_reducible repeat (first | exact Only.refl _ _ | assumption | refine Only.drewN ?_ _ | refine Only.drew ?_ | refine Only.alloc ?_ _ | refine Only.setCell ?_ (by intro hh; exfalso; simp at hh; try omega) _ | refine Only.trans ?_ (by assumption))))).mono ?_); rintro en w1 ⟨rfl, t1⟩; have s1 : w.heap.size + 2 ≤ w1.heap.size := (by have := t1.size; simp at this; omega); have y1 := t1.cells_eq w.heap.size (by simp; try omega) (by simp); have z1 := t1.cells_eq (w.heap.size + 1) (by simp) (by simp))
    | (go_at_call 9; (with_reducible refine (implIsValidSession_any [.int .i64 y.puzzle.points, .string y.puzzle.names, .slice B2 y.puzzle.moves.length D2, .slice B3 y.state.length D3, .slice B4 y.history.length D4, .slice B5 y.future.length D5] y _ _ (Rp.keep h0' (by with_reducible repeat (first | exact Only.refl _ _ | assumption | refine Only.drewN ?_ _ | refine Only.drew ?_ | refine Only.alloc ?_ _ | refine Only.setCell ?_ (by intro hh; exfalso; simp at hh; try omega) _ | refine Only.trans ?_ (by assumption))))).mono ?_); rintro en w2 ⟨rfl, t2⟩; have s2 : w.heap.size + 2 ≤ w2.heap.size := Nat.le_trans s1 t2.size; have y2 := t2.cells_eq w.heap.size (by omega) (by simp); have z2 := t2.cells_eq (w.heap.size + 1) (by omega) (by simp))
    | (go_at_call 39; (with_reducible refine (implSamePuzzle_any [.int .i64 x.puzzle.points, .string x.puzzle.names, .slice A2 x.puzzle.moves.length C2] [.int .i64 y.puzzle.points, .string y.puzzle.names, .slice B2 y.puzzle.moves.length D2] x.puzzle y.puzzle _ _ _ (Rp.keep k0 (by with_reducible repeat (first | exact Only.refl _ _ | assumption | refine Only.drewN ?_ _ | refine Only.drew ?_ | refine Only.alloc ?_ _ | refine Only.setCell ?_ (by intro hh; exfalso; simp at hh; try omega) _ | refine Only.trans ?_ (by assumption)))) (Rp.keep k0' (by with_reducible repeat (first | exact Only.refl _ _ | assumption | refine Only.drewN ?_ _ | refine Only.drew ?_ | refine Only.alloc ?_ _ | refine Only.setCell ?_ (by intro hh; exfalso; simp at hh; try omega) _ | refine Only.trans ?_ (by assumption))))).mono ?_); rintro en w3 ⟨rfl, t3⟩; have s3 : w.heap.size + 2 ≤ w3.heap.size := Nat.le_trans s2 t3.size; have y3 := t3.cells_eq w.heap.size (by omega) (by simp); have z3 := t3.cells_eq (w.heap.size + 1) (by omega) (by simp))
    | (go_at_call 40; (with_reducible refine (Equal_rd _ _ x.state y.state _ _ _ (Rp.keep k1 (by with_reducible repeat (first | exact Only.refl _ _ | assumption | refine Only.drewN ?_ _ | refine Only.drew ?_ | refine Only.alloc ?_ _ | refine Only.setCell ?_ (by intro hh; exfalso; simp at hh; try omega) _ | refine Only.trans ?_ (by assumption)))) (Rp.keep k1' (by with_reducible repeat (first | exact Only.refl _ _ | assumption | refine Only.drewN ?_ _ | refine Only.drew ?_ | refine Only.alloc ?_ _ | refine Only.setCell ?_ (by intro hh; exfalso; simp at hh; try omega) _ | refine Only.trans ?_ (by assumption))))).mono ?_); rintro en w4 ⟨rfl, d4⟩; have t4 := d4.only []; have s4 : w.heap.size + 2 ≤ w4.heap.size := Nat.le_trans s3 t4.size; have y4 := t4.cells_eq w.heap.size (by omega) (by simp); have z4 := t4.cells_eq (w.heap.size + 1) (by omega) (by simp))
    | (go_at_call 41; (with_reducible refine (samePartition_rd _ _ x.history y.history _ _ _ (Rp.keep k2 (by with_reducible repeat (first | exact Only.refl _ _ | assumption | refine Only.drewN ?_ _ | refine Only.drew ?_ | refine Only.alloc ?_ _ | refine Only.setCell ?_ (by intro hh; exfalso; simp at hh; try omega) _ | refine Only.trans ?_ (by assumption)))) (Rp.keep k2' (by with_reducible repeat (first | exact Only.refl _ _ | assumption | refine Only.drewN ?_ _ | refine Only.drew ?_ | refine Only.alloc ?_ _ | refine Only.setCell ?_ (by intro hh; exfalso; simp at hh; try omega) _ | refine Only.trans ?_ (by assumption))))).mono ?_); rintro en w5 ⟨rfl, t5⟩; have s5 : w.heap.size + 2 ≤ w5.heap.size := Nat.le_trans s4 t5.size; have y5 := t5.cells_eq w.heap.size (by omega) (by simp); have z5 := t5.cells_eq (w.heap.size + 1) (by omega) (by simp))
    | (go_at_call 41; (with_reducible refine (samePartition_rd _ _ x.future y.future _ _ _ (Rp.keep k3 (by with_reducible repeat (first | exact Only.refl _ _ | assumption | refine Only.drewN ?_ _ | refine Only.drew ?_ | refine Only.alloc ?_ _ | refine Only.setCell ?_ (by intro hh; exfalso; simp at hh; try omega) _ | refine Only.trans ?_ (by assumption)))) (Rp.keep k3' (by with_reducible repeat (first | exact Only.refl _ _ | assumption | refine Only.drewN ?_ _ | refine Only.drew ?_ | refine Only.alloc ?_ _ | refine Only.setCell ?_ (by intro hh; exfalso; simp at hh; try omega) _ | refine Only.trans ?_ (by assumption))))).mono ?_); rintro en w6 ⟨rfl, t6⟩; have s6 : w.heap.size + 2 ≤ w6.heap.size := Nat.le_trans s5 t6.size; have y6 := t6.cells_eq w.heap.size (by omega) (by simp); have z6 := t6.cells_eq (w.heap.size + 1) (by omega) (by simp))
    | fail "no arm")
  go_ret
  exact ⟨ret_bool Hf.out.symm, (by with_reducible repeat (first | exact Only.refl _ _ | assumption | refine Only.drewN ?_ _ | refine Only.drew ?_ | refine Only.alloc ?_ _ | refine Only.setCell ?_ (by intro hh; exfalso; simp at hh; try omega) _ | refine Only.trans ?_ (by assumption)))⟩
end Go.Proofs.YtajkhdbdkjhilaaGreat

namespace Go.Proofs.YtajkhdbdkjhilaaGreat
open Go.RowKit
set_option maxRecDepth 10000

theorem snocInd {P : List Int → Prop} (h0 : P []) (h1 : ∀ l x, P l → P (l ++ [x])) (l : List Int) : P l := by
  have key : ∀ m : List Int, P m.reverse := by
    intro m
    induction m with
    | nil => exact h0
    | cons x m ih => rw [List.reverse_cons]; exact h1 _ _ ih
  have := key l.reverse
  rwa [List.reverse_reverse] at this
section
variable {n : Nat} {gens : List (List Int)}
theorem evW_cat (h : ∀ g ∈ gens, PM.PN n g) (a : List Int) (ha : ∀ l ∈ a, l ∈ ltrs gens.length) : ∀ (b : List Int), (∀ l ∈ b, l ∈ ltrs gens.length) → evW n gens (a ++ b) = PM.comp (evW n gens a) (evW n gens b) := by
  intro b
  refine snocInd (P := fun b => (∀ l ∈ b, l ∈ ltrs gens.length) → evW n gens (a ++ b) = PM.comp (evW n gens a) (evW n gens b)) ?_ ?_ b
  · intro _; rw [List.append_nil, evW_nil, PM.comp_id (evW_pn h a ha)]
  · intro b x ih hb
    have hb1 : ∀ l ∈ b, l ∈ ltrs gens.length := fun l hl => hb l (by simp [hl])
    rw [← List.append_assoc, evW_snoc, ih hb1, evW_snoc, PM.comp_assoc (evW_pn h a ha) (evW_pn h b hb1)]
theorem evW_one (h : ∀ g ∈ gens, PM.PN n g) {x : Int} (hx : x ∈ ltrs gens.length) : evW n gens [x] = mv gens x := by
  have e := evW_snoc n gens [] x
  rw [List.nil_append, evW_nil, PM.id_comp (mv_pn h hx)] at e
  exact e
theorem invW_snoc (a : List Int) (x : Int) : invW (a ++ [x]) = [-x] ++ invW a := by simp [invW]
theorem evW_back (h : ∀ g ∈ gens, PM.PN n g) : ∀ (l : List Int), (∀ x ∈ l, x ∈ ltrs gens.length) → PM.comp (evW n gens l) (evW n gens (invW l)) = PM.pts n := by
  intro l
  refine snocInd (P := fun l => (∀ x ∈ l, x ∈ ltrs gens.length) → PM.comp (evW n gens l) (evW n gens (invW l)) = PM.pts n) ?_ ?_ l
  · intro _; show PM.comp (PM.pts n) (PM.pts n) = _; rw [PM.comp_id (PM.PN.id n)]
  · intro a x ih hl
    have ha : ∀ y ∈ a, y ∈ ltrs gens.length := fun y hy => hl y (by simp [hy])
    have hx : x ∈ ltrs gens.length := hl x (by simp)
    have hnx := ltrs_neg hx
    have hi := invW_ltrs ha
    have pa := evW_pn h a ha
    have px := mv_pn h hx
    have pi := evW_pn h (invW a) hi
    rw [invW_snoc, evW_cat h [-x] (by simpa using hnx) (invW a) hi, evW_one h hnx, mv_opp h hx, evW_snoc, PM.comp_assoc pa px, ← PM.comp_assoc px px.inv, PM.comp_inv px, PM.id_comp pi]
    exact ih ha
/-- the group is closed under words -/
theorem Grp.words (h : ∀ g ∈ gens, PM.PN n g) {s : List Int} (hs : PM.Grp n gens s) : ∀ (l : List Int), (∀ x ∈ l, x ∈ ltrs gens.length) → PM.Grp n gens (PM.comp s (evW n gens l)) := by
  intro l
  refine snocInd (P := fun l => (∀ x ∈ l, x ∈ ltrs gens.length) → PM.Grp n gens (PM.comp s (evW n gens l))) ?_ ?_ l
  · intro _; rw [evW_nil, PM.comp_id (PM.Grp.pn h hs)]; exact hs
  · intro a x ih hl
    have ha : ∀ y ∈ a, y ∈ ltrs gens.length := fun y hy => hl y (by simp [hy])
    have hx : x ∈ ltrs gens.length := hl x (by simp)
    rw [evW_snoc, ← PM.comp_assoc (PM.Grp.pn h hs) (evW_pn h a ha)]
    obtain ⟨hx0, hx1, hx2⟩ := mem_ltrs.1 hx
    rcases Int.lt_or_gt_of_ne hx0 with hneg | hpos
    · obtain ⟨k, hk⟩ : ∃ k : Nat, x = -((k : Int) + 1) := ⟨(-x - 1).toNat, by omega⟩
      rw [mv_neg hk (by omega)]
      exact (ih ha).div (List.getElem_mem _)
    · obtain ⟨k, hk⟩ : ∃ k : Nat, x = (k : Int) + 1 := ⟨(x - 1).toNat, by omega⟩
      rw [mv_pos hk (by omega)]
      exact (ih ha).mul (List.getElem_mem _)
end
theorem reachB_iff {x : Puzzle} {s : List Int} : reachB x s = true ↔ stateB x s = true ∧ PM.Grp x.points.toNat x.moves s := by
  unfold reachB memB
  simp only [Bool.and_eq_true, decide_eq_true_eq]
theorem stateB_of {x : Puzzle} {s : List Int} (h : validPz x = true) (hp : PM.PN x.points.toNat s) : stateB x s = true := by
  have hg := gensB_iff.1 (validPz_gensB h)
  unfold stateB
  rw [Bool.and_eq_true]
  exact ⟨h, (genB_iff hg.1.1 hg.1.2).2 hp⟩
theorem reach_app {x : Puzzle} {s l : List Int} (h : reachB x s = true) (hl : ∀ y ∈ l, y ∈ ltrs x.moves.length) : reachB x (appW x s l) = true := by
  obtain ⟨h1, h2⟩ := reachB_iff.1 h
  obtain ⟨_, _, hm, hp⟩ := stateB_pn h1
  exact reachB_iff.2 ⟨stateB_of (stateB_valid h1) (hp.comp (evW_pn hm l hl)), Grp.words hm h2 l hl⟩
theorem app_back {x : Puzzle} {s l : List Int} (h : stateB x s = true) (hl : ∀ y ∈ l, y ∈ ltrs x.moves.length) : appW x (appW x s l) (invW l) = s := by
  obtain ⟨_, _, hm, hp⟩ := stateB_pn h
  unfold appW
  rw [PM.comp_assoc hp (evW_pn hm l hl), evW_back hm l hl, PM.comp_id hp]
theorem pushW_len {l : List (List Int)} {y : List Int} (h : l.length ≤ 40) : (pushW l y).length ≤ 40 ∧ 0 < (pushW l y).length := by
  unfold pushW
  split
  · rw [List.length_drop, List.length_append, List.length_singleton]; omega
  · rw [List.length_append, List.length_singleton]; omega
theorem pushW_snoc {l : List (List Int)} {y : List Int} (h : l.length ≤ 40) : ∃ l', pushW l y = l' ++ [y] ∧ l'.length ≤ 39 := by
  unfold pushW
  split
  · rename_i h1
    refine ⟨l.drop 1, ?_, by rw [List.length_drop]; omega⟩
    rw [List.drop_append_of_le_length (by omega)]
  · exact ⟨l, rfl, by omega⟩
theorem pushW_mem {l : List (List Int)} {y z : List Int} (h : z ∈ pushW l y) : z ∈ l ∨ z = y := by
  unfold pushW at h
  split at h
  · have := List.mem_of_mem_drop h
    simpa using this
  · simpa using h
theorem lastW_snoc (l : List (List Int)) (y : List Int) : lastW (l ++ [y]) = y := by
  have h := lastW_get (ws := l ++ [y]) (by simp)
  rw [h]; simp
theorem restW_snoc (l : List (List Int)) (y : List Int) : restW (l ++ [y]) = l := by
  unfold restW; simp
theorem pushW_back {l : List (List Int)} {y : List Int} (h : l.length ≤ 39) : pushW l y = l ++ [y] := pushW_short (by omega)
theorem validSe_iff {x : Session} : validSe x = true ↔ reachB x.puzzle x.state = true ∧ wordsB x.puzzle.moves.length x.history = true ∧ wordsB x.puzzle.moves.length x.future = true := by
  unfold validSe; rw [Bool.and_eq_true, Bool.and_eq_true]
theorem sameSe_refl {x : Session} (h : validSe x = true) : sameSe x x = true := by
  have hv : validPz x.puzzle = true := stateB_valid (reachB_state (validSe_iff.1 h).1)
  unfold sameSe samePz eqV
  simp [h, hv]
section
variable {x : Session} {l : List Int} (hx : validSe x = true) (hl : validW x.puzzle.moves.length l = true)
include hx hl
theorem play_letters : ∀ y ∈ l, y ∈ ltrs x.puzzle.moves.length := (validW_ltrs (validSe_facts hx).2.1 hl).2
theorem play_valid : validSe (playW x l) = true := by
  obtain ⟨h1, h2, h3⟩ := validSe_iff.1 hx
  have hlt := play_letters hx hl
  refine validSe_iff.2 ⟨reach_app h1 hlt, ?_, wordsB_yes (by simp [playW]) (by simp [playW])⟩
  obtain ⟨a, b⟩ := wordsB_len h2
  exact wordsB_yes (pushW_len a).1 fun z hz => by
    rcases pushW_mem hz with h | h
    · exact b z h
    · rw [h]; exact hl
omit hl in
theorem play_hist : ∃ l', (playW x l).history = l' ++ [l] ∧ l'.length ≤ 39 := pushW_snoc (wordsB_len (validSe_iff.1 hx).2.1).1
theorem undo_state : (undoW (playW x l)).state = x.state := by
  obtain ⟨l', e, -⟩ := play_hist (l := l) hx
  show appW x.puzzle (appW x.puzzle x.state l) (invW (lastW (playW x l).history)) = x.state
  rw [e, lastW_snoc]
  exact app_back (validSe_facts hx).1 (play_letters hx hl)
theorem undo_form : ∃ l', l'.length ≤ 39 ∧ (playW x l) = ⟨x.puzzle, appW x.puzzle x.state l, l' ++ [l], []⟩ ∧ undoW (playW x l) = ⟨x.puzzle, x.state, l', [l]⟩ := by
  obtain ⟨l', e, h9⟩ := play_hist (l := l) hx
  have hs := undo_state hx hl
  have e0 : (playW x l) = ⟨x.puzzle, appW x.puzzle x.state l, l' ++ [l], []⟩ := by rw [← e]; rfl
  refine ⟨l', h9, e0, ?_⟩
  have e1 : undoW (playW x l) = ⟨x.puzzle, (undoW (playW x l)).state, restW (playW x l).history, pushW [] (lastW (playW x l).history)⟩ := rfl
  rw [e1, hs, e, restW_snoc, lastW_snoc]
  rfl
theorem undo_valid : validSe (undoW (playW x l)) = true := by
  obtain ⟨l', h9, e0, e1⟩ := undo_form hx hl
  have hv := play_valid hx hl
  rw [e0] at hv
  obtain ⟨h1, h2, h3⟩ := validSe_iff.1 hv
  obtain ⟨a, b⟩ := wordsB_len h2
  rw [e1]
  refine validSe_iff.2 ⟨(validSe_iff.1 hx).1, wordsB_yes (by show l'.length ≤ 40; omega) (fun z hz => b z (by simp [show z ∈ l' from hz])), wordsB_yes (by simp) (fun z hz => by
    have : z = l := by simpa using hz
    rw [this]; exact hl)⟩
theorem redo_back : redoW (undoW (playW x l)) = playW x l := by
  obtain ⟨l', h9, e0, e1⟩ := undo_form hx hl
  rw [e1, e0]
  show (⟨x.puzzle, appW x.puzzle x.state (lastW [l]), pushW l' (lastW [l]), restW [l]⟩ : Session) = _
  have : lastW [l] = l := lastW_snoc [] l
  rw [this, pushW_back h9]
  rfl
end
end Go.Proofs.YtajkhdbdkjhilaaGreat
