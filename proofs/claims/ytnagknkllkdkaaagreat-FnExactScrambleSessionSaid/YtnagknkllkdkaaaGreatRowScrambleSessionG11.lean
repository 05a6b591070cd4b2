/- Valid sessions: the reference's and the program's functions. A new session: the reference's and the program's. What the functions on sessions do with words and histories: pushes, evaluation of words, copies. Words evaluated: the reference's and the program's functions. Histories: a word more, a word less; copies of sessions. Copies of sessions: the reference's and the program's; what they are made of. (Printed by mkseops2.py.) PlayWord: the reference's and the program's. Words taken back from a history: what both RedoWord and UndoWord need. (Printed by mkredo.py.) The reference's search: its own memory (law 16). The reference's search: one list more (law 16). The reference's tables: what can be checked, where a letter leads. The reference's tables: letters, what lies behind a letter. (Written by mkspectab.py.) The reference's search from a list on: its state (law 16). Maps from strings to truth values that a call makes. -/
import Derived.Test.YtnagknkllkdkaaaGreatRowScrambleSessionG9
import Derived.Test.YtnagknkllkdkaaaGreatRowScrambleSessionG10
import Derived.Test.YtnagknkllkdkaaaGreatRowScrambleSessionG3
import Derived.Test.YtnagknkllkdkaaaGreatRowScrambleSessionG8
import Derived.Test.YtnagknkllkdkaaaGreatRowScrambleSessionG6
import Derived.StillTailTactics
import Derived.Deep.RegionHeld3
import Derived.Deep.DeepCutAuto
import Derived.Test.YtnagknkllkdkaaaGreatRowScrambleSessionG7
import Derived.BigQuiet
import Derived.Deep.RegionLaw
import Derived.Test.YtnagknkllkdkaaaGreatRowScrambleSessionG2
namespace Go.Proofs.YtnagknkllkdkaaaGreat
open Go.RowKit
set_option maxRecDepth 10000

/-- the histories: at most 40 valid words of g generators -/
def wordsB (g : Int) (ws : List (List Int)) : Bool := decide (ws.length ≤ 40) && ws.all (validW g)
noncomputable def validSe (s : Session) : Bool := reachB s.puzzle s.state && (wordsB s.puzzle.moves.length s.history && wordsB s.puzzle.moves.length s.future)
theorem wordsB_len {g : Int} {ws : List (List Int)} (h : wordsB g ws = true) : ws.length ≤ 40 ∧ ∀ x ∈ ws, validW g x = true := by
  unfold wordsB at h
  rw [Bool.and_eq_true, decide_eq_true_iff, List.all_eq_true] at h; exact h
theorem wordsB_no {g : Int} {ws : List (List Int)} {j : Nat} (hj : j < ws.length) (h : validW g ws[j] = false) : wordsB g ws = false := by
  unfold wordsB
  have : ws.all (validW g) = false := by
    rw [List.all_eq_false]; exact ⟨ws[j], List.getElem_mem _, by simp [h]⟩
  rw [this]; simp
theorem wordsB_yes {g : Int} {ws : List (List Int)} (h : ws.length ≤ 40) (h2 : ∀ x ∈ ws, validW g x = true) : wordsB g ws = true := by
  unfold wordsB
  simp only [h, decide_true, Bool.true_and, List.all_eq_true]
  exact h2
theorem wordsB_long {g : Int} {ws : List (List Int)} (h : 40 < ws.length) : wordsB g ws = false := by
  unfold wordsB
  have : decide (ws.length ≤ 40) = false := by simp; omega
  rw [this]; rfl
theorem allR_step {pr : List Int → Bool} {l : List (List Int)} {j : Nat} (hj : j < l.length) (h : ∀ x ∈ l.take j, pr x = true) (hp : pr l[j] = true) : ∀ x ∈ l.take (j + 1), pr x = true := by
  rw [take_succ_get l j hj]; intro x hx
  rcases List.mem_append.1 hx with hx | hx
  · exact h x hx
  · simp at hx; subst hx; exact hp
set_option maxHeartbeats 1000000 in
theorem areWordsOf_rd (g : Int) (v : Value) (l : List (List Int)) (fp : List Nat) (w : World) (h : Rd w v l fp) (g0 : 0 ≤ g) (g1 : g ≤ 4611686018427387904) :
    Calls Tryz.prog 33 #[.int .i64 g, v] w fun e w' => e = .returned (.bool (wordsB g l)) ∧ Drew w w' := by
  obtain ⟨a, cap, ob, fps, rfl, -, hS⟩ := h.open_
  have hb := hS.bound
  by_cases hlen : 40 < l.length
  · go_enter Tryz.func33, Tryz.ntmps33
    go_wp2
    go_ret
    exact ⟨ret_bool (wordsB_long hlen).symm, Drew.refl _⟩
  go_enter Tryz.func33, Tryz.ntmps33
  go_wp2
  go_loopw [5] (fun i wr => ∃ j : Nat, j ≤ l.length ∧ i = .int .i64 j ∧ (∀ x ∈ l.take j, validW g x = true) ∧ Drew w wr)
    (fun i _ => l.length - (intOf i).toNat)
  case atStart => exact ⟨0, Nat.zero_le _, rfl, by simp, Drew.refl _⟩
  case round =>
    obtain ⟨W2, hnew⟩ : ∃ W, W = wr := ⟨_, rfl⟩
    subst hnew
    obtain ⟨j, hj, rfl, hall, hd⟩ := hrel
    have Hall := Lib.hid hall
    clear hall
    by_cases hlt : j < l.length
    · obtain ⟨b, off, u, rfl, -, hcu0, hru0⟩ := hS.atRow j hlt
      have hcu := (hd.only []).cell (by simp) hcu0
      have hru := Rp.keep hru0 (hd.only [])
      have Hru := Lib.hid hru
      clear hcu0 hru0 hru
      rcases hv : validW g l[j]
      · have Hv := Lib.hid hv
        clear hv
        go_wp2_with (first | (go_at_call 57; (with_reducible refine (isWordOf_rd g _ _ _ _ Hru.out g0 g1).mono ?_); rintro en w3 ⟨he, d3⟩; rw [Hv.out] at he; subst he) | fail "no arm")
        go_ret
        exact ⟨ret_bool (wordsB_no hlt Hv.out).symm, hd.trans d3⟩
      · have Hv := Lib.hid hv
        clear hv
        go_wp2_with (first | (go_at_call 57; (with_reducible refine (isWordOf_rd g _ _ _ _ Hru.out g0 g1).mono ?_); rintro en w3 ⟨he, d3⟩; rw [Hv.out] at he; subst he) | fail "no arm")
        go_roundw
        case rel => exact ⟨j + 1, by omega, by go_num, allR_step hlt Hall.out Hv.out, hd.trans d3⟩
        case measure => simp [intOf]; omega
    · go_wp2
      go_ret
      exact ⟨ret_bool (wordsB_yes (by omega) (by have := Hall.out; rwa [List.take_of_length_le (by omega)] at this)).symm, hd⟩
set_option maxHeartbeats 1000000 in
theorem implPIsWord_any (cs : List Value) (x : Puzzle) (fp : List Nat) (v : Value) (s : List Int) (fs : List Nat) (w : World) (h : Rp.rep w cs x fp) (hs : Rd w v s fs) (hm : x.moves.length ≤ 4611686018427387904) :
    Calls Tryz.prog 70 #[.agg cs.toArray, v] w fun e w' => e = .returned (.bool (validW x.moves.length s)) ∧ Only [] w w' := by
  obtain ⟨v2, rfl, p0, p1, h2⟩ := h
  obtain ⟨A2, C2, ob, fps, rfl, -, -⟩ := h2.open_
  go_enter Tryz.func70, Tryz.ntmps70
  go_wp2_with (first
    | (go_at_call 90; (with_reducible refine (lengthRows_rd _ x.moves _ _ (Rp.keep h2 (by with_reducible repeat (first | exact Only.refl _ _ | assumption | refine Only.drewN ?_ _ | refine Only.drew ?_ | refine Only.alloc ?_ _ | refine Only.setCell ?_ (by intro hh; exfalso; simp at hh; try omega) _ | refine Only.trans ?_ (by assumption))))).mono ?_); rintro e w1 ⟨rfl, rfl⟩)
    | (go_at_call 89; (with_reducible refine (IsValidWord_rd x.moves.length _ s _ _ (Rp.keep hs (by with_reducible repeat (first | exact Only.refl _ _ | assumption | refine Only.drewN ?_ _ | refine Only.drew ?_ | refine Only.alloc ?_ _ | refine Only.setCell ?_ (by intro hh; exfalso; simp at hh; try omega) _ | refine Only.trans ?_ (by assumption)))) (by omega) (by omega)).mono ?_); rintro e w2 ⟨rfl, t2⟩)
    | fail "no arm")
  go_ret
  exact ⟨rfl, (by with_reducible repeat (first | exact Only.refl _ _ | assumption | refine Only.drewN ?_ _ | refine Only.drew ?_ | refine Only.alloc ?_ _ | refine Only.setCell ?_ (by intro hh; exfalso; simp at hh; try omega) _ | refine Only.trans ?_ (by assumption)))⟩
set_option maxHeartbeats 1000000 in
theorem areSession_closure (x : Puzzle) (A2 : Option Addr) (C2 : Nat) (f2 : List Nat) (u : Value) (s : List Int) (fs : List Nat) (b : Nat) (w : World) (h : Rp.rep w [.int .i64 x.points, .string x.names, .slice A2 x.moves.length C2] x f2) (hs : Rd w u s fs) (hm : x.moves.length ≤ 4611686018427387904)
    (c0 : w.cell? ⟨b, 0, none⟩ = some (.int .i64 x.points)) (c1 : w.cell? ⟨b, 1, none⟩ = some (.string x.names)) (c2 : w.cell? ⟨b, 2, none⟩ = some (.slice A2 x.moves.length C2)) :
    Calls Tryz.prog 69 #[u, .pointer (some ⟨b, 0, none⟩)] w fun e w' => e = .returned (.bool (!validW x.moves.length s)) ∧ Only [] w w' := by
  go_enter Tryz.func69, Tryz.ntmps69
  go_wp2_with (first
    | (go_at_call 70; (with_reducible refine (implPIsWord_any [.int .i64 x.points, .string x.names, .slice A2 x.moves.length C2] x _ _ s _ _ (Rp.keep h (by with_reducible repeat (first | exact Only.refl _ _ | assumption | refine Only.drewN ?_ _ | refine Only.drew ?_ | refine Only.alloc ?_ _ | refine Only.setCell ?_ (by intro hh; exfalso; simp at hh; try omega) _ | refine Only.trans ?_ (by assumption)))) (Rp.keep hs (by with_reducible repeat (first | exact Only.refl _ _ | assumption | refine Only.drewN ?_ _ | refine Only.drew ?_ | refine Only.alloc ?_ _ | refine Only.setCell ?_ (by intro hh; exfalso; simp at hh; try omega) _ | refine Only.trans ?_ (by assumption)))) hm).mono ?_); rintro e w2 ⟨rfl, t2⟩)
    | fail "no arm")
  go_ret
  exact ⟨rfl, (by with_reducible repeat (first | exact Only.refl _ _ | assumption | refine Only.drewN ?_ _ | refine Only.drew ?_ | refine Only.alloc ?_ _ | refine Only.setCell ?_ (by intro hh; exfalso; simp at hh; try omega) _ | refine Only.trans ?_ (by assumption)))⟩
set_option maxHeartbeats 1000000 in
theorem areSessionWords_any (cs : List Value) (x : Puzzle) (fp : List Nat) (v : Value) (l : List (List Int)) (fs : List Nat) (w : World) (h : Rp.rep w cs x fp) (hs : Rd w v l fs) (hm : x.moves.length ≤ 4611686018427387904) :
    Calls Tryz.prog 43 #[.agg cs.toArray, v] w fun e w' => e = .returned (.bool (wordsB x.moves.length l)) ∧ Only [] w w' := by
  have h0 := h
  obtain ⟨v2, rfl, p0, p1, h2⟩ := h
  obtain ⟨A2, C2, ob, fps, rfl, -, -⟩ := h2.open_
  obtain ⟨a, cap, ob', fps', rfl, -, hS⟩ := hs.open_
  have hb := hS.bound
  by_cases hlen : l.length ≤ 40
  · have hend : (!(l.any fun y => !validW x.moves.length y)) = wordsB x.moves.length l := by
      unfold wordsB
      rw [List.not_any_eq_all_not, decide_eq_true hlen, Bool.true_and]; simp
    have He := Lib.hid hend
    clear hend
    have hB : Blk (w.alloc (.cells #[.int .i64 x.points, .string x.names, .slice A2 x.moves.length C2] 29)) w.heap.size [.int .i64 x.points, .string x.names, .slice A2 x.moves.length C2] := Blk.new w _ _
    have Hc := Lib.hid (ContainsFunc_rows 69 #[.pointer (some ⟨w.heap.size, 0, none⟩)] (fun y => !validW x.moves.length y) Tryz.call69 (.slice a l.length cap) l _ (w.alloc (.cells #[.int .i64 x.points, .string x.names, .slice A2 x.moves.length C2] 29)) (Rp.keep hs (by with_reducible repeat (first | exact Only.refl _ _ | assumption | refine Only.drewN ?_ _ | refine Only.drew ?_ | refine Only.alloc ?_ _ | refine Only.setCell ?_ (by intro hh; exfalso; simp at hh; try omega) _ | refine Only.trans ?_ (by assumption))))
      (fun y _ u f' w' hw hu => areSession_closure x A2 C2 _ u y f' w.heap.size w' (Rp.keep h0 (((Only.refl _ _).alloc _).trans hw)) hu hm ((hB.keep hw).cell 0 rfl) ((hB.keep hw).cell 1 rfl) ((hB.keep hw).cell 2 rfl)))
    clear hB
    go_enter Tryz.func43, Tryz.ntmps43
    go_wp2_with (first
      | (go_at_call 68; (with_reducible refine (Hc.out).mono ?_); rintro e w1 ⟨rfl, hk⟩)
      | fail "no arm")
    go_ret
    exact ⟨ret_bool He.out, (by with_reducible repeat (first | exact Only.refl _ _ | assumption | refine Only.drewN ?_ _ | refine Only.drew ?_ | refine Only.alloc ?_ _ | refine Only.setCell ?_ (by intro hh; exfalso; simp at hh; try omega) _ | refine Only.trans ?_ (by assumption)))⟩
  · go_enter Tryz.func43, Tryz.ntmps43
    go_wp2
    go_ret
    exact ⟨ret_bool (wordsB_long (by omega)).symm, (by with_reducible repeat (first | exact Only.refl _ _ | assumption | refine Only.drewN ?_ _ | refine Only.drew ?_ | refine Only.alloc ?_ _ | refine Only.setCell ?_ (by intro hh; exfalso; simp at hh; try omega) _ | refine Only.trans ?_ (by assumption)))⟩
set_option maxHeartbeats 2000000 in
theorem specIsValidSession_any (cs : List Value) (x : Session) (fp : List Nat) (w : World) (h : Rp.rep w cs x fp) :
    Calls Tryz.prog 14 #[.agg cs.toArray] w fun e w' => e = .returned (.bool (validSe x)) ∧ Only [] w w' := by
  have h0 := h
  obtain ⟨c0, v1, v2, v3, f0, f1, f2, f3, rfl, rfl, k0, k1, k2, k3⟩ := h
  have q0 := k0
  obtain ⟨u2, rfl, p0, p1, h2⟩ := q0
  obtain ⟨A2, C2, ob, fps, rfl, -, hsm⟩ := h2.open_
  have hb := hsm.len
  have hb2 := hsm.cap
  unfold maxLen at hb2
  obtain ⟨A3, C3, _, _, rfl, -, -⟩ := k1.open_
  obtain ⟨A4, C4, _, _, rfl, -, -⟩ := k2.open_
  obtain ⟨A5, C5, _, _, rfl, -, -⟩ := k3.open_
  rcases hq1 : reachB x.puzzle x.state
  · have Hf := Lib.hid (by unfold validSe; rw [hq1]; rfl : validSe x = false)
    go_enter Tryz.func14, Tryz.ntmps14
    go_wp2_with (first
      | (go_at_call 32; (with_reducible refine (specIsReachable_any [.int .i64 x.puzzle.points, .string x.puzzle.names, .slice A2 x.puzzle.moves.length C2] x.puzzle _ _ x.state _ _ (Rp.keep k0 (by with_reducible repeat (first | exact Only.refl _ _ | assumption | refine Only.drewN ?_ _ | refine Only.drew ?_ | refine Only.alloc ?_ _ | refine Only.setCell ?_ (by intro hh; exfalso; simp at hh; try omega) _ | refine Only.trans ?_ (by assumption)))) (Rp.keep k1 (by with_reducible repeat (first | exact Only.refl _ _ | assumption | refine Only.drewN ?_ _ | refine Only.drew ?_ | refine Only.alloc ?_ _ | refine Only.setCell ?_ (by intro hh; exfalso; simp at hh; try omega) _ | refine Only.trans ?_ (by assumption))))).mono ?_); rintro e w1 ⟨rfl, t1⟩; have y1 := t1.cells_eq w.heap.size (by simp) (by simp))
      | fail "no arm")
    go_ret
    exact ⟨ret_bool Hf.out.symm, (by with_reducible repeat (first | exact Only.refl _ _ | assumption | refine Only.drewN ?_ _ | refine Only.drew ?_ | refine Only.alloc ?_ _ | refine Only.setCell ?_ (by intro hh; exfalso; simp at hh; try omega) _ | refine Only.trans ?_ (by assumption)))⟩
  have hml := (stateB_pn (reachB_state hq1)).2.1
  rcases hq2 : wordsB x.puzzle.moves.length x.history
  · have Hf := Lib.hid (by unfold validSe; rw [hq1, hq2]; rfl : validSe x = false)
    go_enter Tryz.func14, Tryz.ntmps14
    go_wp2_with (first
      | (go_at_call 32; (with_reducible refine (specIsReachable_any [.int .i64 x.puzzle.points, .string x.puzzle.names, .slice A2 x.puzzle.moves.length C2] x.puzzle _ _ x.state _ _ (Rp.keep k0 (by with_reducible repeat (first | exact Only.refl _ _ | assumption | refine Only.drewN ?_ _ | refine Only.drew ?_ | refine Only.alloc ?_ _ | refine Only.setCell ?_ (by intro hh; exfalso; simp at hh; try omega) _ | refine Only.trans ?_ (by assumption)))) (Rp.keep k1 (by with_reducible repeat (first | exact Only.refl _ _ | assumption | refine Only.drewN ?_ _ | refine Only.drew ?_ | refine Only.alloc ?_ _ | refine Only.setCell ?_ (by intro hh; exfalso; simp at hh; try omega) _ | refine Only.trans ?_ (by assumption))))).mono ?_); rintro e w1 ⟨rfl, t1⟩; have y1 := t1.cells_eq w.heap.size (by simp) (by simp))
      | (go_at_call 33; (with_reducible refine (areWordsOf_rd x.puzzle.moves.length _ x.history _ _ (Rp.keep k2 (by with_reducible repeat (first | exact Only.refl _ _ | assumption | refine Only.drewN ?_ _ | refine Only.drew ?_ | refine Only.alloc ?_ _ | refine Only.setCell ?_ (by intro hh; exfalso; simp at hh; try omega) _ | refine Only.trans ?_ (by assumption)))) (by omega) (by omega)).mono ?_); rintro e w2 ⟨rfl, d2⟩; have t2 := d2.only []; have y2 := t2.cells_eq w.heap.size (by have := t1.size; simp at this; omega) (by simp))
      | fail "no arm")
    go_ret
    exact ⟨ret_bool Hf.out.symm, (by with_reducible repeat (first | exact Only.refl _ _ | assumption | refine Only.drewN ?_ _ | refine Only.drew ?_ | refine Only.alloc ?_ _ | refine Only.setCell ?_ (by intro hh; exfalso; simp at hh; try omega) _ | refine Only.trans ?_ (by assumption)))⟩
  · have Hf := Lib.hid (by unfold validSe; rw [hq1, hq2]; rfl : validSe x = wordsB x.puzzle.moves.length x.future)
    go_enter Tryz.func14, Tryz.ntmps14
    go_wp2_with (first
      | (go_at_call 32; (with_reducible refine (specIsReachable_any [.int .i64 x.puzzle.points, .string x.puzzle.names, .slice A2 x.puzzle.moves.length C2] x.puzzle _ _ x.state _ _ (Rp.keep k0 (by with_reducible repeat (first | exact Only.refl _ _ | assumption | refine Only.drewN ?_ _ | refine Only.drew ?_ | refine Only.alloc ?_ _ | refine Only.setCell ?_ (by intro hh; exfalso; simp at hh; try omega) _ | refine Only.trans ?_ (by assumption)))) (Rp.keep k1 (by with_reducible repeat (first | exact Only.refl _ _ | assumption | refine Only.drewN ?_ _ | refine Only.drew ?_ | refine Only.alloc ?_ _ | refine Only.setCell ?_ (by intro hh; exfalso; simp at hh; try omega) _ | refine Only.trans ?_ (by assumption))))).mono ?_); rintro e w1 ⟨rfl, t1⟩; have y1 := t1.cells_eq w.heap.size (by simp) (by simp))
      | (go_at_call 33; (with_reducible refine (areWordsOf_rd x.puzzle.moves.length _ x.history _ _ (Rp.keep k2 (by with_reducible repeat (first | exact Only.refl _ _ | assumption | refine Only.drewN ?_ _ | refine Only.drew ?_ | refine Only.alloc ?_ _ | refine Only.setCell ?_ (by intro hh; exfalso; simp at hh; try omega) _ | refine Only.trans ?_ (by assumption)))) (by omega) (by omega)).mono ?_); rintro e w2 ⟨rfl, d2⟩; have t2 := d2.only []; have y2 := t2.cells_eq w.heap.size (by have := t1.size; simp at this; omega) (by simp))
      | (go_at_call 33; (with_reducible refine (areWordsOf_rd x.puzzle.moves.length _ x.future _ _ (Rp.keep k3 (by with_reducible repeat (first | exact Only.refl _ _ | assumption | refine Only.drewN ?_ _ | refine Only.drew ?_ | refine Only.alloc ?_ _ | refine Only.setCell ?_ (by intro hh; exfalso; simp at hh; try omega) _ | refine Only.trans ?_ (by assumption)))) (by omega) (by omega)).mono ?_); rintro e w3 ⟨rfl, d3⟩; have t3 := d3.only [])
      | fail "no arm")
    go_ret
    exact ⟨ret_bool Hf.out.symm, (by with_reducible repeat (first | exact Only.refl _ _ | assumption | refine Only.drewN ?_ _ | refine Only.drew ?_ | refine Only.alloc ?_ _ | refine Only.setCell ?_ (by intro hh; exfalso; simp at hh; try omega) _ | refine Only.trans ?_ (by assumption)))⟩
set_option maxHeartbeats 2000000 in
theorem implIsValidSession_any (cs : List Value) (x : Session) (fp : List Nat) (w : World) (h : Rp.rep w cs x fp) :
    Calls Tryz.prog 20 #[.agg cs.toArray] w fun e w' => e = .returned (.bool (validSe x)) ∧ Only [] w w' := by
  have h0 := h
  obtain ⟨c0, v1, v2, v3, f0, f1, f2, f3, rfl, rfl, k0, k1, k2, k3⟩ := h
  have q0 := k0
  obtain ⟨u2, rfl, p0, p1, h2⟩ := q0
  obtain ⟨A2, C2, ob, fps, rfl, -, hsm⟩ := h2.open_
  have hb := hsm.len
  have hb2 := hsm.cap
  unfold maxLen at hb2
  obtain ⟨A3, C3, _, _, rfl, -, -⟩ := k1.open_
  obtain ⟨A4, C4, _, _, rfl, -, -⟩ := k2.open_
  obtain ⟨A5, C5, _, _, rfl, -, -⟩ := k3.open_
  rcases hq1 : reachB x.puzzle x.state
  · have Hf := Lib.hid (by unfold validSe; rw [hq1]; rfl : validSe x = false)
    go_enter Tryz.func20, Tryz.ntmps20
    go_wp2_with (first
      | (go_at_call 42; (with_reducible refine (implIsReachable_any [.int .i64 x.puzzle.points, .string x.puzzle.names, .slice A2 x.puzzle.moves.length C2] x.puzzle _ _ x.state _ _ (Rp.keep k0 (by with_reducible repeat (first | exact Only.refl _ _ | assumption | refine Only.drewN ?_ _ | refine Only.drew ?_ | refine Only.alloc ?_ _ | refine Only.setCell ?_ (by intro hh; exfalso; simp at hh; try omega) _ | refine Only.trans ?_ (by assumption)))) (Rp.keep k1 (by with_reducible repeat (first | exact Only.refl _ _ | assumption | refine Only.drewN ?_ _ | refine Only.drew ?_ | refine Only.alloc ?_ _ | refine Only.setCell ?_ (by intro hh; exfalso; simp at hh; try omega) _ | refine Only.trans ?_ (by assumption))))).mono ?_); rintro e w1 ⟨rfl, t1⟩; have y1 := t1.cells_eq w.heap.size (by simp) (by simp))
      | fail "no arm")
    go_ret
    exact ⟨ret_bool Hf.out.symm, (by with_reducible repeat (first | exact Only.refl _ _ | assumption | refine Only.drewN ?_ _ | refine Only.drew ?_ | refine Only.alloc ?_ _ | refine Only.setCell ?_ (by intro hh; exfalso; simp at hh; try omega) _ | refine Only.trans ?_ (by assumption)))⟩
  have hml := (stateB_pn (reachB_state hq1)).2.1
  rcases hq2 : wordsB x.puzzle.moves.length x.history
  · have Hf := Lib.hid (by unfold validSe; rw [hq1, hq2]; rfl : validSe x = false)
    go_enter Tryz.func20, Tryz.ntmps20
    go_wp2_with (first
      | (go_at_call 42; (with_reducible refine (implIsReachable_any [.int .i64 x.puzzle.points, .string x.puzzle.names, .slice A2 x.puzzle.moves.length C2] x.puzzle _ _ x.state _ _ (Rp.keep k0 (by with_reducible repeat (first | exact Only.refl _ _ | assumption | refine Only.drewN ?_ _ | refine Only.drew ?_ | refine Only.alloc ?_ _ | refine Only.setCell ?_ (by intro hh; exfalso; simp at hh; try omega) _ | refine Only.trans ?_ (by assumption)))) (Rp.keep k1 (by with_reducible repeat (first | exact Only.refl _ _ | assumption | refine Only.drewN ?_ _ | refine Only.drew ?_ | refine Only.alloc ?_ _ | refine Only.setCell ?_ (by intro hh; exfalso; simp at hh; try omega) _ | refine Only.trans ?_ (by assumption))))).mono ?_); rintro e w1 ⟨rfl, t1⟩; have y1 := t1.cells_eq w.heap.size (by simp) (by simp))
      | (go_at_call 43; (with_reducible refine (areSessionWords_any [.int .i64 x.puzzle.points, .string x.puzzle.names, .slice A2 x.puzzle.moves.length C2] x.puzzle _ _ x.history _ _ (Rp.keep k0 (by with_reducible repeat (first | exact Only.refl _ _ | assumption | refine Only.drewN ?_ _ | refine Only.drew ?_ | refine Only.alloc ?_ _ | refine Only.setCell ?_ (by intro hh; exfalso; simp at hh; try omega) _ | refine Only.trans ?_ (by assumption)))) (Rp.keep k2 (by with_reducible repeat (first | exact Only.refl _ _ | assumption | refine Only.drewN ?_ _ | refine Only.drew ?_ | refine Only.alloc ?_ _ | refine Only.setCell ?_ (by intro hh; exfalso; simp at hh; try omega) _ | refine Only.trans ?_ (by assumption)))) (by omega)).mono ?_); rintro e w2 ⟨rfl, t2⟩; have y2 := t2.cells_eq w.heap.size (by have := t1.size; simp at this; omega) (by simp))
      | fail "no arm")
    go_ret
    exact ⟨ret_bool Hf.out.symm, (by with_reducible repeat (first | exact Only.refl _ _ | assumption | refine Only.drewN ?_ _ | refine Only.drew ?_ | refine Only.alloc ?_ _ | refine Only.setCell ?_ (by intro hh; exfalso; simp at hh; try omega) _ | refine Only.trans ?_ (by assumption)))⟩
  · have Hf := Lib.hid (by unfold validSe; rw [hq1, hq2]; rfl : validSe x = wordsB x.puzzle.moves.length x.future)
    go_enter Tryz.func20, Tryz.ntmps20
    go_wp2_with (first
      | (go_at_call 42; (with_reducible refine (implIsReachable_any [.int .i64 x.puzzle.points, .string x.puzzle.names, .slice A2 x.puzzle.moves.length C2] x.puzzle _ _ x.state _ _ (Rp.keep k0 (by with_reducible repeat (first | exact Only.refl _ _ | assumption | refine Only.drewN ?_ _ | refine Only.drew ?_ | refine Only.alloc ?_ _ | refine Only.setCell ?_ (by intro hh; exfalso; simp at hh; try omega) _ | refine Only.trans ?_ (by assumption)))) (Rp.keep k1 (by with_reducible repeat (first | exact Only.refl _ _ | assumption | refine Only.drewN ?_ _ | refine Only.drew ?_ | refine Only.alloc ?_ _ | refine Only.setCell ?_ (by intro hh; exfalso; simp at hh; try omega) _ | refine Only.trans ?_ (by assumption))))).mono ?_); rintro e w1 ⟨rfl, t1⟩; have y1 := t1.cells_eq w.heap.size (by simp) (by simp))
      | (go_at_call 43; (with_reducible refine (areSessionWords_any [.int .i64 x.puzzle.points, .string x.puzzle.names, .slice A2 x.puzzle.moves.length C2] x.puzzle _ _ x.history _ _ (Rp.keep k0 (by with_reducible repeat (first | exact Only.refl _ _ | assumption | refine Only.drewN ?_ _ | refine Only.drew ?_ | refine Only.alloc ?_ _ | refine Only.setCell ?_ (by intro hh; exfalso; simp at hh; try omega) _ | refine Only.trans ?_ (by assumption)))) (Rp.keep k2 (by with_reducible repeat (first | exact Only.refl _ _ | assumption | refine Only.drewN ?_ _ | refine Only.drew ?_ | refine Only.alloc ?_ _ | refine Only.setCell ?_ (by intro hh; exfalso; simp at hh; try omega) _ | refine Only.trans ?_ (by assumption)))) (by omega)).mono ?_); rintro e w2 ⟨rfl, t2⟩; have y2 := t2.cells_eq w.heap.size (by have := t1.size; simp at this; omega) (by simp))
      | (go_at_call 43; (with_reducible refine (areSessionWords_any [.int .i64 x.puzzle.points, .string x.puzzle.names, .slice A2 x.puzzle.moves.length C2] x.puzzle _ _ x.future _ _ (Rp.keep k0 (by with_reducible repeat (first | exact Only.refl _ _ | assumption | refine Only.drewN ?_ _ | refine Only.drew ?_ | refine Only.alloc ?_ _ | refine Only.setCell ?_ (by intro hh; exfalso; simp at hh; try omega) _ | refine Only.trans ?_ (by assumption)))) (Rp.keep k3 (by with_reducible repeat (first | exact Only.refl _ _ | assumption | refine Only.drewN ?_ _ | refine Only.drew ?_ | refine Only.alloc ?_ _ | refine Only.setCell ?_ (by intro hh; exfalso; simp at hh; try omega) _ | refine Only.trans ?_ (by assumption)))) (by omega)).mono ?_); rintro e w3 ⟨rfl, t3⟩)
      | fail "no arm")
    go_ret
    exact ⟨ret_bool Hf.out.symm, (by with_reducible repeat (first | exact Only.refl _ _ | assumption | refine Only.drewN ?_ _ | refine Only.drew ?_ | refine Only.alloc ?_ _ | refine Only.setCell ?_ (by intro hh; exfalso; simp at hh; try omega) _ | refine Only.trans ?_ (by assumption)))⟩
end Go.Proofs.YtnagknkllkdkaaaGreat

namespace Go.Proofs.YtnagknkllkdkaaaGreat
open Go.RowKit
set_option maxRecDepth 10000

theorem Only.own1 {w W0 w' : World} {g : Nat} (h0 : Only [] w W0) (h : Only [g] W0 w') (hg : w.heap.size ≤ g) : Only [] w w' :=
  h0.then_ h (fun b hb hl => by simp at hb; omega)
set_option maxHeartbeats 1000000 in
theorem copyPuzzle_any (cs : List Value) (x : Puzzle) (fp : List Nat) (w : World) (h : Rp.rep w cs x fp) (hl : x.moves.length ≤ 2097152) (hl2 : ∀ y ∈ x.moves, y.length ≤ 2097152) :
    Calls Tryz.prog 16 #[.agg cs.toArray] w fun e w' => ∃ cs' fp', e = .returned (.agg cs'.toArray) ∧ Rp.rep w' cs' x fp' ∧ Fresh w.heap.size w' fp' ∧ Only [] w w' := by
  obtain ⟨v2, rfl, p0, p1, h2⟩ := h
  obtain ⟨A2, C2, _, _, rfl, -⟩ := h2.open_
  have hW0 : Only [] w ((w.alloc (.cells #[.int .i64 x.points, .string x.names, .slice A2 x.moves.length C2] 29)).alloc (.cells #[.int .i64 0, .string ⟨#[]⟩, .slice none 0 0] 29)) := ((Only.refl _ _).alloc _).alloc _
  have hB : Blk ((w.alloc (.cells #[.int .i64 x.points, .string x.names, .slice A2 x.moves.length C2] 29)).alloc (.cells #[.int .i64 0, .string ⟨#[]⟩, .slice none 0 0] 29)) w.heap.size [.int .i64 x.points, .string x.names, .slice A2 x.moves.length C2] := Blk.keep (Blk.new_at rfl) ((Only.refl _ _).alloc _)
  have HB := Lib.hid hB; clear hB
  go_enter Tryz.func16, Tryz.ntmps16
  go_wp2
  go_region_held3 (fun w' => Only [w.heap.size + 1] ((w.alloc (.cells #[.int .i64 x.points, .string x.names, .slice A2 x.moves.length C2] 29)).alloc (.cells #[.int .i64 0, .string ⟨#[]⟩, .slice none 0 0] 29)) w' ∧ w'.cell? ⟨w.heap.size, 0, none⟩ = some (.int .i64 x.points) ∧ w'.cell? ⟨w.heap.size, 1, none⟩ = some (.string x.names) ∧ w'.cell? ⟨w.heap.size, 2, none⟩ = some (.slice A2 x.moves.length C2)) ((refine and_of ?_ (fun h__ => ⟨(Blk.only HB.out h__ (by simp)).cell 0 rfl, (Blk.only HB.out h__ (by simp)).cell 1 rfl, (Blk.only HB.out h__ (by simp)).cell 2 rfl⟩); first | exact (Only.refl _ _).drew | exact Only.keepThen (And.left (by assumption)) (by assumption) | exact Only.setCell (Only.setCell (Only.setCell (And.left (by assumption)) (by intro _; simp) _) (by intro _; simp) _) (by intro _; simp) _)) (first
    | (go_at_call 41; (with_reducible refine (copyLists_rd _ x.moves _ _ (Rp.keep h2 (Only.own1 hW0 (And.left (by assumption)) (Nat.le_succ _))) hl hl2).mono ?_); rintro e w1 ⟨u1, f1, rfl, r1, F1, t1⟩; obtain ⟨A1, C1, _, _, rfl, -⟩ := r1.open_; have y1 := t1.cells_eq (w.heap.size + 1) (by simp) (by simp); have z1 := t1.frozen_eq (w.heap.size + 1) (by simp) (by simp); have s1 : w.heap.size + 1 < w1.heap.size := (by have := t1.size; simp at this; omega))
    | fail "no arm")
  go_wp2
  have HG : ∀ b' ∈ f1, w.heap.size + 2 ≤ b' := fun b' hb => by have := F1.ge b' hb; simp at this; omega
  refine bodyPost_ret (v := .agg #[.int .i64 x.points, .string x.names, .slice A1 x.moves.length C1]) (by simp [results, Tryz.results16, go_sem, y1]) rfl ⟨[.int .i64 x.points, .string x.names, .slice A1 x.moves.length C1], f1, rfl, ⟨_, rfl, p0, p1, Rp.only (fp' := [w.heap.size + 1]) r1 (by with_reducible repeat (first | exact Only.refl _ _ | assumption | refine Only.drewN ?_ _ | refine Only.drew ?_ | refine Only.alloc ?_ _ | refine Only.setCell ?_ (by intro _; simp) _ | refine Only.trans ?_ (Only.weaken (by assumption) _))) (fun b' hb hm => by have := HG b' hb; simp at hm; omega)⟩, Fresh.mono (F1.only (fp' := [w.heap.size + 1]) (by with_reducible repeat (first | exact Only.refl _ _ | assumption | refine Only.drewN ?_ _ | refine Only.drew ?_ | refine Only.alloc ?_ _ | refine Only.setCell ?_ (by intro _; simp) _ | refine Only.trans ?_ (Only.weaken (by assumption) _))) (fun b' hb hm => by have := HG b' hb; simp at hm; omega)) (by simp; omega), (by with_reducible repeat (first | exact Only.refl _ _ | assumption | refine Only.drewN ?_ _ | refine Only.drew ?_ | refine Only.alloc ?_ _ | refine Only.setCell ?_ (by intro hh; exfalso; simp at hh; try omega) _ | refine Only.trans ?_ (by assumption)))⟩
set_option maxHeartbeats 1000000 in
theorem clonePuzzle_any (cs : List Value) (x : Puzzle) (fp : List Nat) (w : World) (h : Rp.rep w cs x fp) (hl : x.moves.length ≤ 2097152) (hl2 : ∀ y ∈ x.moves, y.length ≤ 2097152) :
    Calls Tryz.prog 53 #[.agg cs.toArray] w fun e w' => ∃ cs' fp', e = .returned (.agg cs'.toArray) ∧ Rp.rep w' cs' x fp' ∧ Fresh w.heap.size w' fp' ∧ Only [] w w' := by
  obtain ⟨v2, rfl, p0, p1, h2⟩ := h
  obtain ⟨A2, C2, _, _, rfl, -⟩ := h2.open_
  have hW0 : Only [] w ((w.alloc (.cells #[.int .i64 x.points, .string x.names, .slice A2 x.moves.length C2] 29)).alloc (.cells #[.int .i64 0, .string ⟨#[]⟩, .slice none 0 0] 29)) := ((Only.refl _ _).alloc _).alloc _
  have hB : Blk ((w.alloc (.cells #[.int .i64 x.points, .string x.names, .slice A2 x.moves.length C2] 29)).alloc (.cells #[.int .i64 0, .string ⟨#[]⟩, .slice none 0 0] 29)) w.heap.size [.int .i64 x.points, .string x.names, .slice A2 x.moves.length C2] := Blk.keep (Blk.new_at rfl) ((Only.refl _ _).alloc _)
  have HB := Lib.hid hB; clear hB
  go_enter Tryz.func53, Tryz.ntmps53
  go_wp2
  go_region_held3 (fun w' => Only [w.heap.size + 1] ((w.alloc (.cells #[.int .i64 x.points, .string x.names, .slice A2 x.moves.length C2] 29)).alloc (.cells #[.int .i64 0, .string ⟨#[]⟩, .slice none 0 0] 29)) w' ∧ w'.cell? ⟨w.heap.size, 0, none⟩ = some (.int .i64 x.points) ∧ w'.cell? ⟨w.heap.size, 1, none⟩ = some (.string x.names) ∧ w'.cell? ⟨w.heap.size, 2, none⟩ = some (.slice A2 x.moves.length C2)) ((refine and_of ?_ (fun h__ => ⟨(Blk.only HB.out h__ (by simp)).cell 0 rfl, (Blk.only HB.out h__ (by simp)).cell 1 rfl, (Blk.only HB.out h__ (by simp)).cell 2 rfl⟩); first | exact (Only.refl _ _).drew | exact Only.keepThen (And.left (by assumption)) (by assumption) | exact Only.setCell (Only.setCell (Only.setCell (And.left (by assumption)) (by intro _; simp) _) (by intro _; simp) _) (by intro _; simp) _)) (first
    | (go_at_call 78; (with_reducible refine (cloneLists_rd _ x.moves _ _ (Rp.keep h2 (Only.own1 hW0 (And.left (by assumption)) (Nat.le_succ _))) hl hl2).mono ?_); rintro e w1 ⟨u1, f1, rfl, r1, F1, t1⟩; obtain ⟨A1, C1, _, _, rfl, -⟩ := r1.open_; have y1 := t1.cells_eq (w.heap.size + 1) (by simp) (by simp); have z1 := t1.frozen_eq (w.heap.size + 1) (by simp) (by simp); have s1 : w.heap.size + 1 < w1.heap.size := (by have := t1.size; simp at this; omega))
    | fail "no arm")
  go_wp2
  have HG : ∀ b' ∈ f1, w.heap.size + 2 ≤ b' := fun b' hb => by have := F1.ge b' hb; simp at this; omega
  refine bodyPost_ret (v := .agg #[.int .i64 x.points, .string x.names, .slice A1 x.moves.length C1]) (by simp [results, Tryz.results53, go_sem, y1]) rfl ⟨[.int .i64 x.points, .string x.names, .slice A1 x.moves.length C1], f1, rfl, ⟨_, rfl, p0, p1, Rp.only (fp' := [w.heap.size + 1]) r1 (by with_reducible repeat (first | exact Only.refl _ _ | assumption | refine Only.drewN ?_ _ | refine Only.drew ?_ | refine Only.alloc ?_ _ | refine Only.setCell ?_ (by intro _; simp) _ | refine Only.trans ?_ (Only.weaken (by assumption) _))) (fun b' hb hm => by have := HG b' hb; simp at hm; omega)⟩, Fresh.mono (F1.only (fp' := [w.heap.size + 1]) (by with_reducible repeat (first | exact Only.refl _ _ | assumption | refine Only.drewN ?_ _ | refine Only.drew ?_ | refine Only.alloc ?_ _ | refine Only.setCell ?_ (by intro _; simp) _ | refine Only.trans ?_ (Only.weaken (by assumption) _))) (fun b' hb hm => by have := HG b' hb; simp at hm; omega)) (by simp; omega), (by with_reducible repeat (first | exact Only.refl _ _ | assumption | refine Only.drewN ?_ _ | refine Only.drew ?_ | refine Only.alloc ?_ _ | refine Only.setCell ?_ (by intro hh; exfalso; simp at hh; try omega) _ | refine Only.trans ?_ (by assumption)))⟩
set_option maxHeartbeats 1000000 in
theorem newSession_any (cs : List Value) (x : Puzzle) (fp : List Nat) (v : Value) (s : List Int) (fs : List Nat) (w : World) (h : Rp.rep w cs x fp) (hv : Rd w v s fs) (hl : x.moves.length ≤ 2097152) (hl2 : ∀ y ∈ x.moves, y.length ≤ 2097152) (hs : s.length ≤ 1000000) :
    Calls Tryz.prog 22 #[.agg cs.toArray, v] w fun e w' => ∃ cs' fp', e = .returned (.agg cs'.toArray) ∧ Rp.rep w' cs' (⟨x, s, [], []⟩ : Session) fp' ∧ Fresh w.heap.size w' fp' ∧ Only [] w w' := by
  have h0 := h
  obtain ⟨v2, rfl, p0, p1, h2⟩ := h
  obtain ⟨A2, C2, _, _, rfl, -⟩ := h2.open_
  go_enter Tryz.func22, Tryz.ntmps22
  go_wp2_with (first
    | (go_at_call 53; (with_reducible refine (clonePuzzle_any [.int .i64 x.points, .string x.names, .slice A2 x.moves.length C2] x _ _ (Rp.keep h0 (by with_reducible repeat (first | exact Only.refl _ _ | assumption | refine Only.drewN ?_ _ | refine Only.drew ?_ | refine Only.alloc ?_ _ | refine Only.setCell ?_ (by intro hh; exfalso; simp at hh; try omega) _ | refine Only.trans ?_ (by assumption)))) hl hl2).mono ?_); rintro e w1 ⟨u1, f1, rfl, r1, F1, t1⟩; have q1 := r1; obtain ⟨v1, rfl, -, -, k1⟩ := q1; obtain ⟨A1, C1, _, _, rfl, -⟩ := k1.open_; have y1 := t1.cells_eq (w.heap.size + 1) (by simp) (by simp); have z1 := t1.frozen_eq (w.heap.size + 1) (by simp) (by simp); have s1 : w.heap.size + 1 < w1.heap.size := (by have := t1.size; simp at this; omega))
    | (go_at_call 54; (with_reducible refine (Clone_rd v s _ _ (Rp.keep hv (by with_reducible repeat (first | exact Only.refl _ _ | assumption | refine Only.drewN ?_ _ | refine Only.drew ?_ | refine Only.alloc ?_ _ | refine Only.setCell ?_ (by intro hh; exfalso; simp at hh; try omega) _ | refine Only.trans ?_ (by assumption)))) (by omega)).mono ?_); rintro e w2 ⟨u2, f2, rfl, r2, F2, t2⟩; obtain ⟨A2', C2', _, _, rfl, -⟩ := r2.open_; have y2 := t2.cells_eq (w.heap.size + 1) s1 (by simp); have z2 := t2.frozen_eq (w.heap.size + 1) s1 (by simp); have s2 : w.heap.size + 1 < w2.heap.size := Nat.lt_of_lt_of_le s1 t2.size))
  have G1 : ∀ b' ∈ f1, w.heap.size + 2 ≤ b' := fun b' hb => by have := F1.ge b' hb; simp at this; omega
  have G2 : ∀ b' ∈ f2, w.heap.size + 2 ≤ b' := fun b' hb => by have := F2.ge b' hb; omega
  have hW : Only [w.heap.size + 1] w2 ((((((w2.setCell ⟨w.heap.size + 1, 0, none⟩ (.int .i64 x.points)).setCell ⟨w.heap.size + 1, 1, none⟩ (.string x.names)).setCell ⟨w.heap.size + 1, 2, none⟩ (.slice A1 x.moves.length C1)).setCell ⟨w.heap.size + 1, 3, none⟩ (.slice A2' s.length C2')).setCell ⟨w.heap.size + 1, 4, none⟩ (.slice none 0 0)).setCell ⟨w.heap.size + 1, 5, none⟩ (.slice none 0 0)) := (by with_reducible repeat (first | exact Only.refl _ _ | assumption | refine Only.drewN ?_ _ | refine Only.drew ?_ | refine Only.alloc ?_ _ | refine Only.setCell ?_ (by intro _; simp) _ | refine Only.trans ?_ (Only.weaken (by assumption) _)))
  have n1 := Rp.only (Rp.keep r1 t2) hW (fun b' hb hm => by have := G1 b' hb; simp at hm; omega)
  have n2 := Rp.only r2 hW (fun b' hb hm => by have := G2 b' hb; simp at hm; omega)
  have n3 := (Fresh.append (F1.keep t2) F2 t1.size (fun b' hb => F1.lt b' hb)).only hW (fun b' hb hm => by
    simp at hm
    rcases List.mem_append.1 hb with hb | hb
    · have := G1 b' hb; omega
    · have := G2 b' hb; omega)
  refine bodyPost_ret (v := .agg #[.int .i64 x.points, .string x.names, .slice A1 x.moves.length C1, .slice A2' s.length C2', .slice none 0 0, .slice none 0 0]) (by simp [results, Tryz.results22, go_sem, y2, y1, s1, s2]) rfl ⟨[.int .i64 x.points, .string x.names, .slice A1 x.moves.length C1, .slice A2' s.length C2', .slice none 0 0, .slice none 0 0], f1 ++ (f2 ++ ([] ++ [])), rfl, ⟨_, _, _, _, f1, f2, [], [], rfl, rfl, n1, n2, nil_rd _, nil_rd _⟩, by simpa using Fresh.mono n3 (by simp; omega), (by with_reducible repeat (first | exact Only.refl _ _ | assumption | refine Only.drewN ?_ _ | refine Only.drew ?_ | refine Only.alloc ?_ _ | refine Only.setCell ?_ (by intro hh; exfalso; simp at hh; try omega) _ | refine Only.trans ?_ (by assumption)))⟩
def noSess : Session := ⟨⟨0, ⟨#[]⟩, []⟩, [], [], []⟩
theorem noSess_rep (w : World) : Rp.rep w [.int .i64 0, .string ⟨#[]⟩, .slice none 0 0, .slice none 0 0, .slice none 0 0, .slice none 0 0] noSess [] :=
  ⟨[.int .i64 0, .string ⟨#[]⟩, .slice none 0 0], _, _, _, [], [], [], [], rfl, rfl, ⟨_, rfl, ⟨by simp [noSess], by simp [noSess]⟩, by simp [noSess, maxLen, ByteArray.size], nil_rd w⟩, nil_rd w, nil_rd w, nil_rd w⟩
end Go.Proofs.YtnagknkllkdkaaaGreat

namespace Go.Proofs.YtnagknkllkdkaaaGreat
open Go.RowKit
set_option maxRecDepth 10000
section
variable {α : Type} [Rp α] {w w' : World} {a : Option Addr} {cap : Nat} {xs : List α} {ob : List Nat} {fps : List (List Nat)}
/-- the first k elements -/
theorem SeqA.take (h : SeqA w a cap xs ob fps) (k : Nat) : SeqA w a cap (xs.take k) ob (fps.take k) := by
  have hnf := h.nf
  refine ⟨by have := h.len; simp; omega, h.cap, by simp [hnf], fun j hj => ?_, h.lt, h.one⟩
  have hj' : j < xs.length := by simp at hj; omega
  obtain ⟨b, off, cs, h1, h2, h3, h4⟩ := h.at_ j hj'
  refine ⟨b, off, cs, h1, h2, h3, ?_⟩
  simpa using h4
end
end Go.Proofs.YtnagknkllkdkaaaGreat

namespace Go.Proofs.YtnagknkllkdkaaaGreat
open Go.RowKit
set_option maxRecDepth 10000
end Go.Proofs.YtnagknkllkdkaaaGreat

namespace Go.Proofs.YtnagknkllkdkaaaGreat
open Go.RowKit
set_option maxRecDepth 10000
theorem flatten_take : ∀ (fs : List (List Nat)) (k : Nat), (fs.take k).flatten.Sublist fs.flatten
  | [], _ => by simp
  | _ :: _, 0 => by simp
  | f :: fs, k + 1 => by simpa using List.Sublist.append (List.Sublist.refl f) (flatten_take fs k)
theorem Fresh.sublist {B : Nat} {w : World} {fp fp' : List Nat} (h : Fresh B w fp) (hs : fp'.Sublist fp) : Fresh B w fp' :=
  ⟨h.nd.sublist hs, fun b hb => h.ge b (hs.subset hb), h.own.sub fun _ hb => hs.subset hb⟩
section
variable {α : Type} [Rp α] {B : Nat} {e : TypeId} {w : World} {v : Value} {l : List α} {fs : List (List Nat)}
end
end Go.Proofs.YtnagknkllkdkaaaGreat

namespace Go.Proofs.YtnagknkllkdkaaaGreat
open Go.RowKit
set_option maxRecDepth 10000

/-- a session of the call's own, in parts -/
structure SeP (eI : TypeId) (B : Nat) (w : World) (x : Session) (vm vs vh vf : Value) (fm fs : List Nat) (hs us : List (List Nat)) : Prop where
  nm : I64 x.puzzle.points ∧ x.puzzle.names.size ≤ maxLen
  mv : Rd w vm x.puzzle.moves fm
  st : Rd w vs x.state fs
  hi : Acc B eI w vh x.history hs
  fu : Acc B eI w vf x.future us
  fr : Fresh B w (fm ++ (fs ++ ((vh.ownBlock.toList ++ hs.flatten) ++ (vf.ownBlock.toList ++ us.flatten))))
section
variable {eI : TypeId} {B : Nat} {w w' : World} {x : Session} {vm vs vh vf : Value} {fm fs : List Nat} {hs us : List (List Nat)}
theorem SeP.only (h : SeP eI B w x vm vs vh vf fm fs hs us) {fp : List Nat} (ho : Only fp w w') (hd : ∀ b ∈ fp, b < B ∨ w.heap.size ≤ b) : SeP eI B w' x vm vs vh vf fm fs hs us := by
  have key : ∀ b ∈ fm ++ (fs ++ ((vh.ownBlock.toList ++ hs.flatten) ++ (vf.ownBlock.toList ++ us.flatten))), b ∉ fp := fun b hb hm => by
    have h1 := h.fr.ge b hb
    have h2 := h.fr.lt b hb
    rcases hd b hm with h3 | h3 <;> omega
  have k1 : ∀ b ∈ fm, b ∉ fp := fun b hb => key b (List.mem_append_left _ hb)
  have k2 : ∀ b ∈ fs, b ∉ fp := fun b hb => key b (List.mem_append_right _ (List.mem_append_left _ hb))
  have k3 : ∀ b ∈ vh.ownBlock.toList ++ hs.flatten, b ∉ fp := fun b hb => key b (List.mem_append_right _ (List.mem_append_right _ (List.mem_append_left _ hb)))
  have k4 : ∀ b ∈ vf.ownBlock.toList ++ us.flatten, b ∉ fp := fun b hb => key b (List.mem_append_right _ (List.mem_append_right _ (List.mem_append_right _ hb)))
  exact ⟨h.nm, Rp.only h.mv ho k1, Rp.only h.st ho k2, h.hi.only ho (fun b hb => k3 b (List.mem_append_right _ hb)) (fun g hg => k3 g (List.mem_append_left _ (by simp [hg]))), h.fu.only ho (fun b hb => k4 b (List.mem_append_right _ hb)) (fun g hg => k4 g (List.mem_append_left _ (by simp [hg]))), h.fr.only ho key⟩
theorem Acc.mono {α : Type} [Rp α] {B B' : Nat} {e : TypeId} {w : World} {v : Value} {l : List α} {fs : List (List Nat)} (h : Acc B e w v l fs) (hB : B' ≤ B) : Acc B' e w v l fs := by
  obtain ⟨css, ho, hr⟩ := h.own
  refine ⟨⟨css, ⟨ho.1, ?_⟩, hr⟩, h.fl, h.apart⟩
  rcases ho.2 with h1 | ⟨g, cp, cur, h1, h2, h3⟩
  · exact .inl h1
  · exact .inr ⟨g, cp, cur, h1, Nat.le_trans hB h2, h3⟩
theorem SeP.mono (h : SeP eI B w x vm vs vh vf fm fs hs us) {B' : Nat} (hB : B' ≤ B) : SeP eI B' w x vm vs vh vf fm fs hs us :=
  ⟨h.nm, h.mv, h.st, h.hi.mono hB, h.fu.mono hB, h.fr.mono hB⟩
/-- parts made one behind the other -/
theorem SeP.made {w1 w2 w3 w4 : World} (nm : I64 x.puzzle.points ∧ x.puzzle.names.size ≤ maxLen) {B1 : Nat} (r1 : Rd w1 vm x.puzzle.moves fm) (F1 : Fresh B1 w1 fm) (r2 : Rd w2 vs x.state fs) (F2 : Fresh w1.heap.size w2 fs) (r3 : Acc w2.heap.size eI w3 vh x.history hs) (F3 : Fresh w2.heap.size w3 hs.flatten)
    (r4 : Acc w3.heap.size eI w4 vf x.future us) (F4 : Fresh w3.heap.size w4 us.flatten) (t2 : Only [] w1 w2) (t3 : Only [] w2 w3) (t4 : Only [] w3 w4) (hB : B ≤ B1) (hB1 : B1 ≤ w1.heap.size) : SeP eI B w4 x vm vs vh vf fm fs hs us := by
  have s2 := t2.size
  have s3 := t3.size
  have s4 := t4.size
  refine ⟨nm, Rp.keep (Rp.keep (Rp.keep r1 t2) t3) t4, Rp.keep (Rp.keep r2 t3) t4, (r3.keep t4).mono (by omega), r4.mono (by omega), ?_⟩
  have f4 := r4.fresh F4
  have f3 := (r3.fresh F3)
  have f34 := Fresh.append (f3.keep t4) f4 s3 fun b hb => f3.lt b hb
  have f234 := Fresh.append ((F2.keep t3).keep t4) f34 s2 fun b hb => F2.lt b hb
  exact (Fresh.append (((F1.keep t2).keep t3).keep t4) f234 hB1 fun b hb => F1.lt b hb).mono hB
theorem SeP.keep (h : SeP eI B w x vm vs vh vf fm fs hs us) (ho : Only [] w w') : SeP eI B w' x vm vs vh vf fm fs hs us := h.only ho (by simp)
theorem SeP.rep (h : SeP eI B w x vm vs vh vf fm fs hs us) : Rp.rep w [.int .i64 x.puzzle.points, .string x.puzzle.names, vm, vs, vh, vf] x (fm ++ (fs ++ ((vh.ownBlock.toList ++ hs.flatten) ++ (vf.ownBlock.toList ++ us.flatten)))) :=
  ⟨[.int .i64 x.puzzle.points, .string x.puzzle.names, vm], vs, vh, vf, fm, fs, _, _, rfl, rfl, ⟨vm, rfl, h.nm.1, h.nm.2, h.mv⟩, h.st, h.hi.rd (by decide), h.fu.rd (by decide)⟩
end
theorem validSe_facts {x : Session} (h : validSe x = true) : stateB x.puzzle x.state = true ∧ x.puzzle.moves.length ≤ 8 ∧ (∀ y ∈ x.puzzle.moves, y.length ≤ 2097152) ∧ x.state.length ≤ 20 ∧ x.history.length ≤ 40 ∧ (∀ y ∈ x.history, y.length ≤ 2097152) ∧ x.future.length ≤ 40 ∧ (∀ y ∈ x.future, y.length ≤ 2097152) := by
  unfold validSe at h
  rw [Bool.and_eq_true, Bool.and_eq_true] at h
  obtain ⟨h1, h2, h3⟩ := h
  have hs := reachB_state h1
  obtain ⟨a, b, c, d⟩ := stateB_pn hs
  obtain ⟨l1, l2⟩ := wordsB_len h2
  obtain ⟨l3, l4⟩ := wordsB_len h3
  refine ⟨hs, b, fun y hy => ?_, ?_, l1, fun y hy => ?_, l3, fun y hy => ?_⟩
  · have := (c y hy).1; omega
  · have := d.1; omega
  · have := validW_len (l2 y hy); omega
  · have := validW_len (l4 y hy); omega


end Go.Proofs.YtnagknkllkdkaaaGreat

namespace Go.Proofs.YtnagknkllkdkaaaGreat
open Go.RowKit
set_option maxRecDepth 10000
end Go.Proofs.YtnagknkllkdkaaaGreat

namespace Go.Proofs.YtnagknkllkdkaaaGreat
open Go.RowKit
set_option maxRecDepth 10000

/-- the last word; what is ahead of it -/
def lastW (ws : List (List Int)) : List Int := ws.getD (ws.length - 1) []
def restW (ws : List (List Int)) : List (List Int) := ws.take (ws.length - 1)
theorem lastW_get {ws : List (List Int)} (h : 0 < ws.length) : lastW ws = ws[ws.length - 1] := by
  unfold lastW; rw [List.getD_eq_getElem?_getD, List.getElem?_eq_getElem (by omega)]; rfl
section
variable {B : Nat} {e : TypeId} {w : World} {v : Value} {l : List (List Int)} {fs : List (List Nat)}
/-- the last word of a history of the call's own, and the history without it -/
theorem Acc.last (h : Acc B e w v l fs) (hF : Fresh B w fs.flatten) (hl : 0 < l.length) :
    ∃ g c u fu fr, v = .slice (some ⟨g, 0, none⟩) l.length c ∧ l.length ≤ c ∧ c ≤ maxLen ∧ w.cell? ⟨g, l.length - 1, none⟩ = some u ∧ Rd w u (lastW l) fu ∧ (∀ b ∈ fu, b ∈ fs.flatten) ∧
      SeqA w (some ⟨g, 0, none⟩) c l v.ownBlock.toList fs ∧ Rd w (.slice (some ⟨g, 0, none⟩) (l.length - 1) c) (restW l) fr ∧ Fresh B w fr ∧ fr.Sublist (v.ownBlock.toList ++ fs.flatten) := by
  obtain ⟨css, ho, hcl, hr⟩ := h.own
  obtain ⟨a, cap, hv, -, hI⟩ := own_seq (xs := l) (fps := fs) ho (by decide) hcl h.fl hr
  obtain ⟨b, off, u, e1, e2, hc, hu⟩ := hI.atRow (l.length - 1) (by omega)
  have e3 : off = 0 := by
    rcases ho.2 with ⟨h1, h2⟩ | ⟨g, cp, cur, h1, -⟩
    · omega
    · rw [hv] at h1
      injection h1 with h1 _ _
      rw [e1] at h1
      injection h1 with h1
      injection h1
  subst e1
  subst e3
  rw [Nat.zero_add] at hc
  have hsub : (v.ownBlock.toList ++ (fs.take (l.length - 1)).flatten).Sublist (v.ownBlock.toList ++ fs.flatten) := List.Sublist.append (List.Sublist.refl _) (flatten_take fs _)
  refine ⟨b, cap, u, _, _, hv, hI.len, hI.cap, hc, by rw [lastW_get hl]; exact hu, fun x hx => mem_flatten_get (j := l.length - 1) (by rw [h.fl]; omega) hx, hI, ?_, (h.fresh hF).sublist hsub, hsub⟩
  have := (hI.take (l.length - 1)).rd
  rwa [show (l.take (l.length - 1)).length = l.length - 1 by simp] at this
end
section
variable {B : Nat} {w w' : World} {a b c d m' fpw : List Nat}
theorem Fresh.parts (h : Fresh B w (a ++ (b ++ (c ++ d)))) : (∀ x ∈ a, x ∉ c ∧ x ∉ d) ∧ (∀ x ∈ b, x ∉ c ∧ x ∉ d) ∧ (∀ x ∈ c, x ∉ d) := by
  have n1 := List.nodup_append.1 h.nd
  have n2 := List.nodup_append.1 n1.2.1
  have n3 := List.nodup_append.1 n2.2.1
  refine ⟨fun x hx => ⟨fun hm => n1.2.2 x hx x (by simp [hm]) rfl, fun hm => n1.2.2 x hx x (by simp [hm]) rfl⟩, fun x hx => ⟨fun hm => n2.2.2 x hx x (by simp [hm]) rfl, fun hm => n2.2.2 x hx x (by simp [hm]) rfl⟩, fun x hx hm => n3.2.2 x hx x hm rfl⟩
end

end Go.Proofs.YtnagknkllkdkaaaGreat

namespace Go.Proofs.YtnagknkllkdkaaaGreat
open Go.RowKit
set_option maxRecDepth 10000
/-- a search of the call's own; f: memory that waits to be taken in -/
structure SrO (B : Nat) (w : World) (v1 v2 v3 : Value) (L : List (List Int)) (D si : List Int) (fs : List (List Nat)) (f : List Nat) : Prop where
  acc : Acc B 25 w v1 L fs
  dep : w.ownsRow B 2 1 v2 D.length (D.map (Value.int .i64))
  srt : w.ownsRow B 3 1 v3 si.length (si.map (Value.int .i64))
  fr : Fresh B w (v1.ownBlock.toList ++ ((fs.flatten ++ f) ++ (v2.ownBlock.toList ++ v3.ownBlock.toList)))
section
variable {B : Nat} {w w' : World} {v1 v2 v3 v1' v2' v3' : Value} {L : List (List Int)} {D si D' si' : List Int} {fs : List (List Nat)} {f fp : List Nat}
theorem SrO.nil (B : Nat) (w : World) : SrO B w (.slice none 0 0) (.slice none 0 0) (.slice none 0 0) [] [] [] [] [] :=
  ⟨Acc.nil _ _ _, ⟨by simp, .inl ⟨rfl, rfl⟩⟩, ⟨by simp, .inl ⟨rfl, rfl⟩⟩, by simp [Value.ownBlock]; exact Fresh.nil _ _⟩
theorem SrO.only (h : SrO B w v1 v2 v3 L D si fs f) (ho : Only fp w w') (hd : ∀ b ∈ v1.ownBlock.toList ++ ((fs.flatten ++ f) ++ (v2.ownBlock.toList ++ v3.ownBlock.toList)), b ∉ fp) : SrO B w' v1 v2 v3 L D si fs f :=
  ⟨h.acc.only ho (fun b hb => hd b (by simp [hb])) (fun g hg => hd g (by simp [hg])), owns_only h.dep ho (fun g hg => hd g (by simp [hg])), owns_only h.srt ho (fun g hg => hd g (by simp [hg])), h.fr.only ho hd⟩
theorem SrO.keep (h : SrO B w v1 v2 v3 L D si fs f) (ho : Only [] w w') : SrO B w' v1 v2 v3 L D si fs f := h.only ho (by simp)
theorem SrO.lt (h : SrO B w v1 v2 v3 L D si fs f) : ∀ b ∈ v1.ownBlock.toList ++ ((fs.flatten ++ f) ++ (v2.ownBlock.toList ++ v3.ownBlock.toList)), B ≤ b ∧ b < w.heap.size := fun b hb => ⟨h.fr.ge b hb, h.fr.lt b hb⟩
end
end Go.Proofs.YtnagknkllkdkaaaGreat

namespace Go.Proofs.YtnagknkllkdkaaaGreat
open Go.RowKit
set_option maxRecDepth 10000
/-- a search while a list is taken in: its blocks are none of the two boxes -/
structure St (w0 : World) (V : List Nat) (B : Nat) (w : World) (v1 v2 v3 : Value) (L : List (List Int)) (D si : List Int) (fs : List (List Nat)) (f : List Nat) : Prop where
  so : SrO B w v1 v2 v3 L D si fs f
  ap : ∀ b ∈ v1.ownBlock.toList ++ ((fs.flatten ++ f) ++ (v2.ownBlock.toList ++ v3.ownBlock.toList)), b < w0.heap.size ∨ w0.heap.size + 2 ≤ b
  on : Only V w0 w
  iv : ∀ b ∈ v1.ownBlock.toList ++ (v2.ownBlock.toList ++ v3.ownBlock.toList), b ∈ V ∨ w0.heap.size ≤ b
  sz : w0.heap.size + 2 ≤ w.heap.size
section
variable {w0 : World} {V : List Nat} {B : Nat} {w w' : World} {v1 v2 v3 v1' v2' v3' : Value} {L : List (List Int)} {D si D' si' : List Int} {fs : List (List Nat)} {f fp : List Nat}
theorem St.keep (h : St w0 V B w v1 v2 v3 L D si fs f) (ho : Only [] w w') : St w0 V B w' v1 v2 v3 L D si fs f :=
  ⟨h.so.keep ho, h.ap, h.on.then_ ho (by simp), h.iv, Nat.le_trans h.sz ho.size⟩
theorem St.box (h : St w0 V B w v1 v2 v3 L D si fs f) (ho : Only fp w w') (hf : ∀ b ∈ fp, b = w0.heap.size ∨ b = w0.heap.size + 1) : St w0 V B w' v1 v2 v3 L D si fs f :=
  ⟨h.so.only ho (fun b hb hm => by have := h.ap b hb; have := hf b hm; omega), h.ap, h.on.then_ ho (fun b hb hl => by have := hf b hb; omega), h.iv, Nat.le_trans h.sz ho.size⟩
end

end Go.Proofs.YtnagknkllkdkaaaGreat

namespace Go.Proofs.YtnagknkllkdkaaaGreat
open Go.RowKit
set_option maxRecDepth 10000




end Go.Proofs.YtnagknkllkdkaaaGreat

namespace Go.Proofs.YtnagknkllkdkaaaGreat
open Go.RowKit
set_option maxRecDepth 10000
end Go.Proofs.YtnagknkllkdkaaaGreat

namespace Go.Proofs.YtnagknkllkdkaaaGreat
open Go.RowKit
set_option maxRecDepth 10000
/-- the search under way: w: the call's begin; W: the loops' begin; b: the search's box -/
structure SFi (x : Puzzle) (m : Nat) (w W : World) (b : Nat) (L : List (List Int)) (D : List Int) (wr : World) (A1 A2 A3 : Option Addr) (C1 C2 C3 : Nat) (so : List Nat) (fs : List (List Nat)) : Prop where
  blk : Blk wr b [.slice A1 L.length C1, .slice A2 D.length C2, .slice A3 so.length C3, .bool false]
  sro : SrO (w.heap.size + 2) wr (.slice A1 L.length C1) (.slice A2 D.length C2) (.slice A3 so.length C3) L D (soI so) fs []
  srt : Srt m L so
  dl : D.length = L.length
  ll : L.length ≤ 3000
  pat : ∀ q ∈ L, patB x.points m q = true
  dep : ∀ d ∈ D, 0 ≤ d ∧ d ≤ D.length
  ap : ∀ g ∈ (Value.slice A1 L.length C1).ownBlock.toList ++ ((Value.slice A2 D.length C2).ownBlock.toList ++ (Value.slice A3 so.length C3).ownBlock.toList), g < b ∨ W.heap.size ≤ g
  apf : ∀ g ∈ fs.flatten, g < b ∨ W.heap.size ≤ g
  keep : ∀ g, (g < w.heap.size + 2 ∨ (b < g ∧ g < W.heap.size)) → wr.heap[g]? = W.heap[g]?
  on : Only [] w wr
  sz : W.heap.size ≤ wr.heap.size
  bW : b < W.heap.size
  wb : w.heap.size + 2 ≤ b
theorem SFi.only {x : Puzzle} {m : Nat} {w W : World} {b : Nat} {L : List (List Int)} {D : List Int} {wr wr' : World} {A1 A2 A3 : Option Addr} {C1 C2 C3 : Nat} {so : List Nat} {fs : List (List Nat)} (h : SFi x m w W b L D wr A1 A2 A3 C1 C2 C3 so fs) (ho : Only [] wr wr') : SFi x m w W b L D wr' A1 A2 A3 C1 C2 C3 so fs :=
  ⟨h.blk.keep ho, h.sro.keep ho, h.srt, h.dl, h.ll, h.pat, h.dep, h.ap, h.apf, fun g hg => by
    have hb := h.bW; have hz := h.sz; have hw := h.wb
    rw [ho.block g (by omega) (by simp)]; exact h.keep g hg, h.on.trans ho, Nat.le_trans h.sz ho.size, h.bW, h.wb⟩
/-- one list more, and the search's box anew -/
theorem SFi.step {x : Puzzle} {m : Nat} {w W : World} {b : Nat} {L : List (List Int)} {D : List Int} {wr w2 wf : World} {A1 A2 A3 A1' A2' A3' : Option Addr} {C1 C2 C3 C1' C2' C3' : Nat} {so so' : List Nat} {fs : List (List Nat)} {f : List Nat} {s : List Int} {d : Int} {fpw : List Nat}
    (h : SFi x m w W b L D wr A1 A2 A3 C1 C2 C3 so fs) (hf : ∀ g ∈ f, W.heap.size ≤ g) (hL : L.length < 3000) (hp : patB x.points m s = true) (hd : 0 ≤ d ∧ d ≤ D.length + 1)
    (h1 : SrO (w.heap.size + 2) w2 (.slice A1' (L.length + 1) C1') (.slice A2' (D.length + 1) C2') (.slice A3' (so.length + 1) C3') (L ++ [s]) (D ++ [d]) (soI so') (fs ++ [f]) []) (h2 : Srt m (L ++ [s]) so') (h3 : so'.length = so.length + 1)
    (h4 : Only ((Value.slice A1 L.length C1).ownBlock.toList ++ ((Value.slice A2 D.length C2).ownBlock.toList ++ (Value.slice A3 so.length C3).ownBlock.toList)) wr w2)
    (h5 : ∀ g ∈ (Value.slice A1' (L.length + 1) C1').ownBlock.toList ++ ((Value.slice A2' (D.length + 1) C2').ownBlock.toList ++ (Value.slice A3' (so.length + 1) C3').ownBlock.toList), g ∈ (Value.slice A1 L.length C1).ownBlock.toList ++ ((Value.slice A2 D.length C2).ownBlock.toList ++ (Value.slice A3 so.length C3).ownBlock.toList) ∨ wr.heap.size ≤ g)
    (h6 : Only fpw w2 wf) (hfp : ∀ g ∈ fpw, g = b) (h7 : Blk wf b [.slice A1' (L.length + 1) C1', .slice A2' (D.length + 1) C2', .slice A3' (so.length + 1) C3', .bool false]) :
    SFi x m w W b (L ++ [s]) (D ++ [d]) wf A1' A2' A3' C1' C2' C3' so' (fs ++ [f]) := by
  have hb := h.bW; have hz := h.sz; have hw := h.wb
  have hge := h.sro.fr.ge
  have hap' : ∀ g ∈ (Value.slice A1' (L.length + 1) C1').ownBlock.toList ++ ((Value.slice A2' (D.length + 1) C2').ownBlock.toList ++ (Value.slice A3' (so.length + 1) C3').ownBlock.toList), g < b ∨ W.heap.size ≤ g := fun g hg => by
    rcases h5 g hg with h8 | h8
    · exact h.ap g h8
    · right; omega
  have hapf' : ∀ g ∈ (fs ++ [f]).flatten, g < b ∨ W.heap.size ≤ g := fun g hg => by
    rw [List.flatten_append] at hg
    rcases List.mem_append.1 hg with hg | hg
    · exact h.apf g hg
    · exact .inr (hf g (by simpa using hg))
  have hs2 := h4.size
  have hnin : ∀ g ∈ (Value.slice A1 L.length C1).ownBlock.toList ++ ((Value.slice A2 D.length C2).ownBlock.toList ++ (Value.slice A3 so.length C3).ownBlock.toList), w.heap.size + 2 ≤ g := fun g hg => hge g (by
    simp only [List.mem_append] at hg ⊢
    rcases hg with hg | hg | hg
    · exact .inl hg
    · exact .inr (.inr (.inl hg))
    · exact .inr (.inr (.inr hg)))
  refine ⟨?_, ?_, h2, by simp [h.dl], by simp; omega, ?_, ?_, ?_, hapf', fun g hg => ?_, ?_, ?_, h.bW, h.wb⟩
  · simpa [h3] using h7
  · have := h1.only h6 (fun g hg hm => by
      have e := hfp g hm
      simp only [List.mem_append, List.append_nil] at hg
      rcases hg with hg | hg | hg | hg
      · have := hap' g (by simp only [List.mem_append]; exact .inl hg); omega
      · have := hapf' g hg; omega
      · have := hap' g (by simp only [List.mem_append]; exact .inr (.inl hg)); omega
      · have := hap' g (by simp only [List.mem_append]; exact .inr (.inr hg)); omega)
    simpa [h3] using this
  · intro q hq
    rcases List.mem_append.1 hq with hq | hq
    · exact h.pat q hq
    · simp at hq; subst hq; exact hp
  · intro q hq
    rw [List.length_append, List.length_singleton]
    rcases List.mem_append.1 hq with hq | hq
    · have := h.dep q hq; omega
    · simp at hq; subst hq; omega
  · rw [List.length_append, List.length_append, List.length_singleton, List.length_singleton, h3]; exact hap'
  · rw [h6.block g (by omega) (fun hm => by have := hfp g hm; omega), h4.block g (by omega) (fun hm => by have := hnin g hm; have := h.ap g hm; omega)]
    exact h.keep g hg
  · exact (h.on.then_ h4 (fun g hg hl => by have := hnin g hg; omega)).then_ h6 (fun g hg hl => by have := hfp g hg; omega)
  · exact Nat.le_trans hz (Nat.le_trans hs2 h6.size)
/-- what a search leaves to be read -/
theorem SFi.out {x : Puzzle} {m : Nat} {w W : World} {b : Nat} {L : List (List Int)} {D : List Int} {wr wf : World} {A1 A2 A3 : Option Addr} {C1 C2 C3 : Nat} {so : List Nat} {fs : List (List Nat)} {fpw : List Nat}
    (h : SFi x m w W b L D wr A1 A2 A3 C1 C2 C3 so fs) (ho : Only fpw wr wf) (hf : ∀ g ∈ fpw, g = b ∨ g = w.heap.size + 1) (hm : m ≤ 1000) : ∃ fL fD, Rd wf (.slice A1 L.length C1) L fL ∧ Rd wf (.slice A2 D.length C2) D fD ∧ Only [] w wf ∧ (∀ g ∈ fL ++ fD, w.heap.size ≤ g) ∧ L.length ≤ 3000 ∧ D.length ≤ 3000 ∧ ∀ q ∈ L, q.length ≤ 1000 := by
  have hb := h.bW; have hw := h.wb
  have hge := h.sro.fr.ge
  have h1 := h.sro.only ho (fun g hg hm => by
    have e := hf g hm
    have e2 := hge g hg
    simp only [List.mem_append, List.append_nil] at hg
    rcases hg with hg | hg | hg | hg
    · have := h.ap g (by simp only [List.mem_append]; exact .inl hg); omega
    · have := h.apf g hg; omega
    · have := h.ap g (by simp only [List.mem_append]; exact .inr (.inl hg)); omega
    · have := h.ap g (by simp only [List.mem_append]; exact .inr (.inr hg)); omega)
  have hD : ∀ z ∈ D, I64 z := fun z hz => by have := h.dep z hz; have := h.dl; have := h.ll; unfold I64; omega
  obtain ⟨a2, c2, hv2, -, hI2, -⟩ := own_ints h1.dep hD
  injection hv2 with e1 _ e2; subst e1; subst e2
  refine ⟨_, _, h1.acc.rd (by decide), hI2.rd, h.on.then_ ho (fun g hg hl => by have := hf g hg; omega), fun g hg => ?_, h.ll, by have := h.dl; have := h.ll; omega, fun q hq => by rw [(patB_iff.1 (h.pat q hq)).1]; exact hm⟩
  have := hge g (by
    simp only [List.mem_append] at hg ⊢
    rcases hg with (hg | hg) | hg
    · exact .inl hg
    · exact .inr (.inl (.inl hg))
    · exact .inr (.inr (.inl hg)))
  omega
end Go.Proofs.YtnagknkllkdkaaaGreat

namespace Go.Proofs.YtnagknkllkdkaaaGreat
open Go.RowKit
set_option maxRecDepth 10000
open Go.Maps (Keyed)
/-- block M is a map of at most k entries; g: the truth value at a key -/
def MpB (w : World) (M k : Nat) (g : ByteArray → Bool) : Prop :=
  ∃ D : DataW Unit, w.ownsMap Tryz.prog 9 (plainElem Tryz.prog 4) M k D ∧ ∀ s : ByteArray, s.size ≤ maxLen →
    D.atKey (.string s.data.toList) (.lit (.bool false)) = .lit (.bool (g s))
theorem MpB.lt {w : World} {M k : Nat} {g : ByteArray → Bool} (h : MpB w M k g) : M < w.heap.size := by
  obtain ⟨D, h1, -⟩ := h; exact h1.lt
theorem MpB.frame {w w' : World} {M k : Nat} {g : ByteArray → Bool} (h : MpB w M k g) (hf : w'.heap[M]? = w.heap[M]?) : MpB w' M k g := by
  obtain ⟨D, ⟨es, c, h1, h2⟩, h3⟩ := h
  exact ⟨D, ⟨es, c, by rw [hf]; exact h1, h2⟩, h3⟩
theorem MpB.only {w w' : World} {fp : List Nat} {M k : Nat} {g : ByteArray → Bool} (h : MpB w M k g) (ho : Only fp w w') (hn : M ∉ fp) : MpB w' M k g := h.frame (ho.block M h.lt hn)
theorem MpB.keep {w w' : World} {M k : Nat} {g : ByteArray → Bool} (h : MpB w M k g) (ho : Only [] w w') : MpB w' M k g := h.only ho (by simp)
theorem MpB.made (w : World) {M : Nat} (hM : M = w.heap.size) : MpB (w.alloc (.map #[] 0)) M 0 (fun _ => false) := by
  subst hM
  exact ⟨.map [], World.ownsMap_made _ _ _ _, fun s _ => rfl⟩
theorem MpB.congr {w : World} {M k : Nat} {g g' : ByteArray → Bool} (h : MpB w M k g) (hg : ∀ s, g s = g' s) : MpB w M k g' := by
  have : g = g' := funext hg
  rw [← this]; exact h
section
variable {w : World} {M k : Nat} {g : ByteArray → Bool}
end

end Go.Proofs.YtnagknkllkdkaaaGreat
