/- Valid sessions: the reference's and the program's functions. A new session: the reference's and the program's. What the functions on sessions do with words and histories: pushes, evaluation of words, copies. Words evaluated: the reference's and the program's functions. Histories: a word more, a word less; copies of sessions. -/
import Derived.Test.YtpfmkjcngknecaaRowBuildTablesG11
import Derived.Test.YtpfmkjcngknecaaRowBuildTablesG12
import Derived.Test.YtpfmkjcngknecaaRowBuildTablesG2
import Derived.Test.YtpfmkjcngknecaaRowBuildTablesG4
import Derived.Test.YtpfmkjcngknecaaRowBuildTablesG9
import Derived.StillTailTactics
import Derived.Deep.RegionHeld3
import Derived.Deep.DeepCutAuto
import Derived.Test.YtpfmkjcngknecaaRowBuildTablesG5
import Derived.BigQuiet
namespace Go.Proofs.Ytpfmkjcngknecaa
open Go.RowKit
set_option maxRecDepth 10000

/-- the histories: at most 40 valid words of g generators -/
def wordsB (g : Int) (ws : List (List Int)) : Bool := decide (ws.length ≤ 40) && ws.all (validW g)
noncomputable def validSe (s : Session) : Bool := reachB s.puzzle s.state && (wordsB s.puzzle.moves.length s.history && wordsB s.puzzle.moves.length s.future)
theorem wordsB_len {g : Int} {ws : List (List Int)} (h : wordsB g ws = true) : ws.length ≤ 40 ∧ ∀ x ∈ ws, validW g x = true := by
  unfold wordsB at h
  rw [Bool.and_eq_true, decide_eq_true_iff, List.all_eq_true] at h; exact h
theorem wordsB_no {g : Int} {ws : List (List Int)} {j : Nat} (hj : j < ws.length) (h : validW g ws[j] = false) : wordsB g ws = false := by
  unfold wordsB
  have : ws.all (validW g) = false := by
    rw [List.all_eq_false]; exact ⟨ws[j], List.getElem_mem _, by simp [h]⟩
  rw [this]; simp
theorem wordsB_yes {g : Int} {ws : List (List Int)} (h : ws.length ≤ 40) (h2 : ∀ x ∈ ws, validW g x = true) : wordsB g ws = true := by
  unfold wordsB
  simp only [h, decide_true, Bool.true_and, List.all_eq_true]
  exact h2
theorem wordsB_long {g : Int} {ws : List (List Int)} (h : 40 < ws.length) : wordsB g ws = false := by
  unfold wordsB
  have : decide (ws.length ≤ 40) = false := by simp; omega
  rw [this]; rfl
theorem allR_step {pr : List Int → Bool} {l : List (List Int)} {j : Nat} (hj : j < l.length) (h : ∀ x ∈ l.take j, pr x = true) (hp : pr l[j] = true) : ∀ x ∈ l.take (j + 1), pr x = true := by
  rw [take_succ_get l j hj]; intro x hx
  rcases List.mem_append.1 hx with hx | hx
  · exact h x hx
  · simp at hx; subst hx; exact hp
set_option maxHeartbeats 1000000 in
theorem areWordsOf_rd (g : Int) (v : Value) (l : List (List Int)) (fp : List Nat) (w : World) (h : Rd w v l fp) (g0 : 0 ≤ g) (g1 : g ≤ 4611686018427387904) :
    Calls Try.prog 45 #[.int .i64 g, v] w fun e w' => e = .returned (.bool (wordsB g l)) ∧ Drew w w' := by
  obtain ⟨a, cap, ob, fps, rfl, -, hS⟩ := h.open_
  have hb := hS.bound
  by_cases hlen : 40 < l.length
  · go_enter Try.func45, Try.ntmps45
    go_wp2
    go_ret
    exact ⟨ret_bool (wordsB_long hlen).symm, Drew.refl _⟩
  go_enter Try.func45, Try.ntmps45
  go_wp2
  go_loopw [5] (fun i wr => ∃ j : Nat, j ≤ l.length ∧ i = .int .i64 j ∧ (∀ x ∈ l.take j, validW g x = true) ∧ Drew w wr)
    (fun i _ => l.length - (intOf i).toNat)
  case atStart => exact ⟨0, Nat.zero_le _, rfl, by simp, Drew.refl _⟩
  case round =>
    obtain ⟨W2, hnew⟩ : ∃ W, W = wr := ⟨_, rfl⟩
    subst hnew
    obtain ⟨j, hj, rfl, hall, hd⟩ := hrel
    have Hall := Lib.hid hall
    clear hall
    by_cases hlt : j < l.length
    · obtain ⟨b, off, u, rfl, -, hcu0, hru0⟩ := hS.atRow j hlt
      have hcu := (hd.only []).cell (by simp) hcu0
      have hru := Rp.keep hru0 (hd.only [])
      have Hru := Lib.hid hru
      clear hcu0 hru0 hru
      rcases hv : validW g l[j]
      · have Hv := Lib.hid hv
        clear hv
        go_wp2_with (first | (go_at_call 65; (with_reducible refine (isWordOf_rd g _ _ _ _ Hru.out g0 g1).mono ?_); rintro en w3 ⟨he, d3⟩; rw [Hv.out] at he; subst he) | fail "no arm")
        go_ret
        exact ⟨ret_bool (wordsB_no hlt Hv.out).symm, hd.trans d3⟩
      · have Hv := Lib.hid hv
        clear hv
        go_wp2_with (first | (go_at_call 65; (with_reducible refine (isWordOf_rd g _ _ _ _ Hru.out g0 g1).mono ?_); rintro en w3 ⟨he, d3⟩; rw [Hv.out] at he; subst he) | fail "no arm")
        go_roundw
        case rel => exact ⟨j + 1, by omega, by go_num, allR_step hlt Hall.out Hv.out, hd.trans d3⟩
        case measure => simp [intOf]; omega
    · go_wp2
      go_ret
      exact ⟨ret_bool (wordsB_yes (by omega) (by have := Hall.out; rwa [List.take_of_length_le (by omega)] at this)).symm, hd⟩
set_option maxHeartbeats 1000000 in
theorem implPIsWord_any (cs : List Value) (x : Puzzle) (fp : List Nat) (v : Value) (s : List Int) (fs : List Nat) (w : World) (h : Rp.rep w cs x fp) (hs : Rd w v s fs) (hm : x.moves.length ≤ 4611686018427387904) :
    Calls Try.prog 69 #[.agg cs.toArray, v] w fun e w' => e = .returned (.bool (validW x.moves.length s)) ∧ Only [] w w' := by
  obtain ⟨v2, rfl, p0, p1, h2⟩ := h
  obtain ⟨A2, C2, ob, fps, rfl, -, -⟩ := h2.open_
  go_enter Try.func69, Try.ntmps69
  go_wp2_with (first
    | (go_at_call 59; (with_reducible refine (lengthRows_rd _ x.moves _ _ (Rp.keep h2 (by with_reducible repeat (first | exact Only.refl _ _ | assumption | refine Only.drewN ?_ _ | refine Only.drew ?_ | refine Only.alloc ?_ _ | refine Only.setCell ?_ (by intro hh; exfalso; simp at hh; try omega) _ | refine Only.trans ?_ (by assumption))))).mono ?_); rintro e w1 ⟨rfl, rfl⟩)
    | (go_at_call 103; (with_reducible refine (IsValidWord_rd x.moves.length _ s _ _ (Rp.keep hs (by with_reducible repeat (first | exact Only.refl _ _ | assumption | refine Only.drewN ?_ _ | refine Only.drew ?_ | refine Only.alloc ?_ _ | refine Only.setCell ?_ (by intro hh; exfalso; simp at hh; try omega) _ | refine Only.trans ?_ (by assumption)))) (by omega) (by omega)).mono ?_); rintro e w2 ⟨rfl, t2⟩)
    | fail "no arm")
  go_ret
  exact ⟨rfl, (by with_reducible repeat (first | exact Only.refl _ _ | assumption | refine Only.drewN ?_ _ | refine Only.drew ?_ | refine Only.alloc ?_ _ | refine Only.setCell ?_ (by intro hh; exfalso; simp at hh; try omega) _ | refine Only.trans ?_ (by assumption)))⟩
set_option maxHeartbeats 1000000 in
theorem areSession_closure (x : Puzzle) (A2 : Option Addr) (C2 : Nat) (f2 : List Nat) (u : Value) (s : List Int) (fs : List Nat) (b : Nat) (w : World) (h : Rp.rep w [.int .i64 x.points, .string x.names, .slice A2 x.moves.length C2] x f2) (hs : Rd w u s fs) (hm : x.moves.length ≤ 4611686018427387904)
    (c0 : w.cell? ⟨b, 0, none⟩ = some (.int .i64 x.points)) (c1 : w.cell? ⟨b, 1, none⟩ = some (.string x.names)) (c2 : w.cell? ⟨b, 2, none⟩ = some (.slice A2 x.moves.length C2)) :
    Calls Try.prog 83 #[u, .pointer (some ⟨b, 0, none⟩)] w fun e w' => e = .returned (.bool (!validW x.moves.length s)) ∧ Only [] w w' := by
  go_enter Try.func83, Try.ntmps83
  go_wp2_with (first
    | (go_at_call 69; (with_reducible refine (implPIsWord_any [.int .i64 x.points, .string x.names, .slice A2 x.moves.length C2] x _ _ s _ _ (Rp.keep h (by with_reducible repeat (first | exact Only.refl _ _ | assumption | refine Only.drewN ?_ _ | refine Only.drew ?_ | refine Only.alloc ?_ _ | refine Only.setCell ?_ (by intro hh; exfalso; simp at hh; try omega) _ | refine Only.trans ?_ (by assumption)))) (Rp.keep hs (by with_reducible repeat (first | exact Only.refl _ _ | assumption | refine Only.drewN ?_ _ | refine Only.drew ?_ | refine Only.alloc ?_ _ | refine Only.setCell ?_ (by intro hh; exfalso; simp at hh; try omega) _ | refine Only.trans ?_ (by assumption)))) hm).mono ?_); rintro e w2 ⟨rfl, t2⟩)
    | fail "no arm")
  go_ret
  exact ⟨rfl, (by with_reducible repeat (first | exact Only.refl _ _ | assumption | refine Only.drewN ?_ _ | refine Only.drew ?_ | refine Only.alloc ?_ _ | refine Only.setCell ?_ (by intro hh; exfalso; simp at hh; try omega) _ | refine Only.trans ?_ (by assumption)))⟩
set_option maxHeartbeats 1000000 in
theorem areSessionWords_any (cs : List Value) (x : Puzzle) (fp : List Nat) (v : Value) (l : List (List Int)) (fs : List Nat) (w : World) (h : Rp.rep w cs x fp) (hs : Rd w v l fs) (hm : x.moves.length ≤ 4611686018427387904) :
    Calls Try.prog 47 #[.agg cs.toArray, v] w fun e w' => e = .returned (.bool (wordsB x.moves.length l)) ∧ Only [] w w' := by
  have h0 := h
  obtain ⟨v2, rfl, p0, p1, h2⟩ := h
  obtain ⟨A2, C2, ob, fps, rfl, -, -⟩ := h2.open_
  obtain ⟨a, cap, ob', fps', rfl, -, hS⟩ := hs.open_
  have hb := hS.bound
  by_cases hlen : l.length ≤ 40
  · have hend : (!(l.any fun y => !validW x.moves.length y)) = wordsB x.moves.length l := by
      unfold wordsB
      rw [List.not_any_eq_all_not, decide_eq_true hlen, Bool.true_and]; simp
    have He := Lib.hid hend
    clear hend
    have hB : Blk (w.alloc (.cells #[.int .i64 x.points, .string x.names, .slice A2 x.moves.length C2] 30)) w.heap.size [.int .i64 x.points, .string x.names, .slice A2 x.moves.length C2] := Blk.new w _ _
    have Hc := Lib.hid (ContainsFunc_rows 83 #[.pointer (some ⟨w.heap.size, 0, none⟩)] (fun y => !validW x.moves.length y) Try.call83 (.slice a l.length cap) l _ (w.alloc (.cells #[.int .i64 x.points, .string x.names, .slice A2 x.moves.length C2] 30)) (Rp.keep hs (by with_reducible repeat (first | exact Only.refl _ _ | assumption | refine Only.drewN ?_ _ | refine Only.drew ?_ | refine Only.alloc ?_ _ | refine Only.setCell ?_ (by intro hh; exfalso; simp at hh; try omega) _ | refine Only.trans ?_ (by assumption))))
      (fun y _ u f' w' hw hu => areSession_closure x A2 C2 _ u y f' w.heap.size w' (Rp.keep h0 (((Only.refl _ _).alloc _).trans hw)) hu hm ((hB.keep hw).cell 0 rfl) ((hB.keep hw).cell 1 rfl) ((hB.keep hw).cell 2 rfl)))
    clear hB
    go_enter Try.func47, Try.ntmps47
    go_wp2_with (first
      | (go_at_call 82; (with_reducible refine (Hc.out).mono ?_); rintro e w1 ⟨rfl, hk⟩)
      | fail "no arm")
    go_ret
    exact ⟨ret_bool He.out, (by with_reducible repeat (first | exact Only.refl _ _ | assumption | refine Only.drewN ?_ _ | refine Only.drew ?_ | refine Only.alloc ?_ _ | refine Only.setCell ?_ (by intro hh; exfalso; simp at hh; try omega) _ | refine Only.trans ?_ (by assumption)))⟩
  · go_enter Try.func47, Try.ntmps47
    go_wp2
    go_ret
    exact ⟨ret_bool (wordsB_long (by omega)).symm, (by with_reducible repeat (first | exact Only.refl _ _ | assumption | refine Only.drewN ?_ _ | refine Only.drew ?_ | refine Only.alloc ?_ _ | refine Only.setCell ?_ (by intro hh; exfalso; simp at hh; try omega) _ | refine Only.trans ?_ (by assumption)))⟩
set_option maxHeartbeats 2000000 in
theorem specIsValidSession_any (cs : List Value) (x : Session) (fp : List Nat) (w : World) (h : Rp.rep w cs x fp) :
    Calls Try.prog 11 #[.agg cs.toArray] w fun e w' => e = .returned (.bool (validSe x)) ∧ Only [] w w' := by
  have h0 := h
  obtain ⟨c0, v1, v2, v3, f0, f1, f2, f3, rfl, rfl, k0, k1, k2, k3⟩ := h
  have q0 := k0
  obtain ⟨u2, rfl, p0, p1, h2⟩ := q0
  obtain ⟨A2, C2, ob, fps, rfl, -, hsm⟩ := h2.open_
  have hb := hsm.len
  have hb2 := hsm.cap
  unfold maxLen at hb2
  obtain ⟨A3, C3, _, _, rfl, -, -⟩ := k1.open_
  obtain ⟨A4, C4, _, _, rfl, -, -⟩ := k2.open_
  obtain ⟨A5, C5, _, _, rfl, -, -⟩ := k3.open_
  rcases hq1 : reachB x.puzzle x.state
  · have Hf := Lib.hid (by unfold validSe; rw [hq1]; rfl : validSe x = false)
    go_enter Try.func11, Try.ntmps11
    go_wp2_with (first
      | (go_at_call 44; (with_reducible refine (specIsReachable_any [.int .i64 x.puzzle.points, .string x.puzzle.names, .slice A2 x.puzzle.moves.length C2] x.puzzle _ _ x.state _ _ (Rp.keep k0 (by with_reducible repeat (first | exact Only.refl _ _ | assumption | refine Only.drewN ?_ _ | refine Only.drew ?_ | refine Only.alloc ?_ _ | refine Only.setCell ?_ (by intro hh; exfalso; simp at hh; try omega) _ | refine Only.trans ?_ (by assumption)))) (Rp.keep k1 (by with_reducible repeat (first | exact Only.refl _ _ | assumption | refine Only.drewN ?_ _ | refine Only.drew ?_ | refine Only.alloc ?_ _ | refine Only.setCell ?_ (by intro hh; exfalso; simp at hh; try omega) _ | refine Only.trans ?_ (by assumption))))).mono ?_); rintro e w1 ⟨rfl, t1⟩; have y1 := t1.cells_eq w.heap.size (by simp) (by simp))
      | fail "no arm")
    go_ret
    exact ⟨ret_bool Hf.out.symm, (by with_reducible repeat (first | exact Only.refl _ _ | assumption | refine Only.drewN ?_ _ | refine Only.drew ?_ | refine Only.alloc ?_ _ | refine Only.setCell ?_ (by intro hh; exfalso; simp at hh; try omega) _ | refine Only.trans ?_ (by assumption)))⟩
  have hml := (stateB_pn (reachB_state hq1)).2.1
  rcases hq2 : wordsB x.puzzle.moves.length x.history
  · have Hf := Lib.hid (by unfold validSe; rw [hq1, hq2]; rfl : validSe x = false)
    go_enter Try.func11, Try.ntmps11
    go_wp2_with (first
      | (go_at_call 44; (with_reducible refine (specIsReachable_any [.int .i64 x.puzzle.points, .string x.puzzle.names, .slice A2 x.puzzle.moves.length C2] x.puzzle _ _ x.state _ _ (Rp.keep k0 (by with_reducible repeat (first | exact Only.refl _ _ | assumption | refine Only.drewN ?_ _ | refine Only.drew ?_ | refine Only.alloc ?_ _ | refine Only.setCell ?_ (by intro hh; exfalso; simp at hh; try omega) _ | refine Only.trans ?_ (by assumption)))) (Rp.keep k1 (by with_reducible repeat (first | exact Only.refl _ _ | assumption | refine Only.drewN ?_ _ | refine Only.drew ?_ | refine Only.alloc ?_ _ | refine Only.setCell ?_ (by intro hh; exfalso; simp at hh; try omega) _ | refine Only.trans ?_ (by assumption))))).mono ?_); rintro e w1 ⟨rfl, t1⟩; have y1 := t1.cells_eq w.heap.size (by simp) (by simp))
      | (go_at_call 45; (with_reducible refine (areWordsOf_rd x.puzzle.moves.length _ x.history _ _ (Rp.keep k2 (by with_reducible repeat (first | exact Only.refl _ _ | assumption | refine Only.drewN ?_ _ | refine Only.drew ?_ | refine Only.alloc ?_ _ | refine Only.setCell ?_ (by intro hh; exfalso; simp at hh; try omega) _ | refine Only.trans ?_ (by assumption)))) (by omega) (by omega)).mono ?_); rintro e w2 ⟨rfl, d2⟩; have t2 := d2.only []; have y2 := t2.cells_eq w.heap.size (by have := t1.size; simp at this; omega) (by simp))
      | fail "no arm")
    go_ret
    exact ⟨ret_bool Hf.out.symm, (by with_reducible repeat (first | exact Only.refl _ _ | assumption | refine Only.drewN ?_ _ | refine Only.drew ?_ | refine Only.alloc ?_ _ | refine Only.setCell ?_ (by intro hh; exfalso; simp at hh; try omega) _ | refine Only.trans ?_ (by assumption)))⟩
  · have Hf := Lib.hid (by unfold validSe; rw [hq1, hq2]; rfl : validSe x = wordsB x.puzzle.moves.length x.future)
    go_enter Try.func11, Try.ntmps11
    go_wp2_with (first
      | (go_at_call 44; (with_reducible refine (specIsReachable_any [.int .i64 x.puzzle.points, .string x.puzzle.names, .slice A2 x.puzzle.moves.length C2] x.puzzle _ _ x.state _ _ (Rp.keep k0 (by with_reducible repeat (first | exact Only.refl _ _ | assumption | refine Only.drewN ?_ _ | refine Only.drew ?_ | refine Only.alloc ?_ _ | refine Only.setCell ?_ (by intro hh; exfalso; simp at hh; try omega) _ | refine Only.trans ?_ (by assumption)))) (Rp.keep k1 (by with_reducible repeat (first | exact Only.refl _ _ | assumption | refine Only.drewN ?_ _ | refine Only.drew ?_ | refine Only.alloc ?_ _ | refine Only.setCell ?_ (by intro hh; exfalso; simp at hh; try omega) _ | refine Only.trans ?_ (by assumption))))).mono ?_); rintro e w1 ⟨rfl, t1⟩; have y1 := t1.cells_eq w.heap.size (by simp) (by simp))
      | (go_at_call 45; (with_reducible refine (areWordsOf_rd x.puzzle.moves.length _ x.history _ _ (Rp.keep k2 (by with_reducible repeat (first | exact Only.refl _ _ | assumption | refine Only.drewN ?_ _ | refine Only.drew ?_ | refine Only.alloc ?_ _ | refine Only.setCell ?_ (by intro hh; exfalso; simp at hh; try omega) _ | refine Only.trans ?_ (by assumption)))) (by omega) (by omega)).mono ?_); rintro e w2 ⟨rfl, d2⟩; have t2 := d2.only []; have y2 := t2.cells_eq w.heap.size (by have := t1.size; simp at this; omega) (by simp))
      | (go_at_call 45; (with_reducible refine (areWordsOf_rd x.puzzle.moves.length _ x.future _ _ (Rp.keep k3 (by with_reducible repeat (first | exact Only.refl _ _ | assumption | refine Only.drewN ?_ _ | refine Only.drew ?_ | refine Only.alloc ?_ _ | refine Only.setCell ?_ (by intro hh; exfalso; simp at hh; try omega) _ | refine Only.trans ?_ (by assumption)))) (by omega) (by omega)).mono ?_); rintro e w3 ⟨rfl, d3⟩; have t3 := d3.only [])
      | fail "no arm")
    go_ret
    exact ⟨ret_bool Hf.out.symm, (by with_reducible repeat (first | exact Only.refl _ _ | assumption | refine Only.drewN ?_ _ | refine Only.drew ?_ | refine Only.alloc ?_ _ | refine Only.setCell ?_ (by intro hh; exfalso; simp at hh; try omega) _ | refine Only.trans ?_ (by assumption)))⟩
set_option maxHeartbeats 2000000 in
theorem implIsValidSession_any (cs : List Value) (x : Session) (fp : List Nat) (w : World) (h : Rp.rep w cs x fp) :
    Calls Try.prog 13 #[.agg cs.toArray] w fun e w' => e = .returned (.bool (validSe x)) ∧ Only [] w w' := by
  have h0 := h
  obtain ⟨c0, v1, v2, v3, f0, f1, f2, f3, rfl, rfl, k0, k1, k2, k3⟩ := h
  have q0 := k0
  obtain ⟨u2, rfl, p0, p1, h2⟩ := q0
  obtain ⟨A2, C2, ob, fps, rfl, -, hsm⟩ := h2.open_
  have hb := hsm.len
  have hb2 := hsm.cap
  unfold maxLen at hb2
  obtain ⟨A3, C3, _, _, rfl, -, -⟩ := k1.open_
  obtain ⟨A4, C4, _, _, rfl, -, -⟩ := k2.open_
  obtain ⟨A5, C5, _, _, rfl, -, -⟩ := k3.open_
  rcases hq1 : reachB x.puzzle x.state
  · have Hf := Lib.hid (by unfold validSe; rw [hq1]; rfl : validSe x = false)
    go_enter Try.func13, Try.ntmps13
    go_wp2_with (first
      | (go_at_call 46; (with_reducible refine (implIsReachable_any [.int .i64 x.puzzle.points, .string x.puzzle.names, .slice A2 x.puzzle.moves.length C2] x.puzzle _ _ x.state _ _ (Rp.keep k0 (by with_reducible repeat (first | exact Only.refl _ _ | assumption | refine Only.drewN ?_ _ | refine Only.drew ?_ | refine Only.alloc ?_ _ | refine Only.setCell ?_ (by intro hh; exfalso; simp at hh; try omega) _ | refine Only.trans ?_ (by assumption)))) (Rp.keep k1 (by with_reducible repeat (first | exact Only.refl _ _ | assumption | refine Only.drewN ?_ _ | refine Only.drew ?_ | refine Only.alloc ?_ _ | refine Only.setCell ?_ (by intro hh; exfalso; simp at hh; try omega) _ | refine Only.trans ?_ (by assumption))))).mono ?_); rintro e w1 ⟨rfl, t1⟩; have y1 := t1.cells_eq w.heap.size (by simp) (by simp))
      | fail "no arm")
    go_ret
    exact ⟨ret_bool Hf.out.symm, (by with_reducible repeat (first | exact Only.refl _ _ | assumption | refine Only.drewN ?_ _ | refine Only.drew ?_ | refine Only.alloc ?_ _ | refine Only.setCell ?_ (by intro hh; exfalso; simp at hh; try omega) _ | refine Only.trans ?_ (by assumption)))⟩
  have hml := (stateB_pn (reachB_state hq1)).2.1
  rcases hq2 : wordsB x.puzzle.moves.length x.history
  · have Hf := Lib.hid (by unfold validSe; rw [hq1, hq2]; rfl : validSe x = false)
    go_enter Try.func13, Try.ntmps13
    go_wp2_with (first
      | (go_at_call 46; (with_reducible refine (implIsReachable_any [.int .i64 x.puzzle.points, .string x.puzzle.names, .slice A2 x.puzzle.moves.length C2] x.puzzle _ _ x.state _ _ (Rp.keep k0 (by with_reducible repeat (first | exact Only.refl _ _ | assumption | refine Only.drewN ?_ _ | refine Only.drew ?_ | refine Only.alloc ?_ _ | refine Only.setCell ?_ (by intro hh; exfalso; simp at hh; try omega) _ | refine Only.trans ?_ (by assumption)))) (Rp.keep k1 (by with_reducible repeat (first | exact Only.refl _ _ | assumption | refine Only.drewN ?_ _ | refine Only.drew ?_ | refine Only.alloc ?_ _ | refine Only.setCell ?_ (by intro hh; exfalso; simp at hh; try omega) _ | refine Only.trans ?_ (by assumption))))).mono ?_); rintro e w1 ⟨rfl, t1⟩; have y1 := t1.cells_eq w.heap.size (by simp) (by simp))
      | (go_at_call 47; (with_reducible refine (areSessionWords_any [.int .i64 x.puzzle.points, .string x.puzzle.names, .slice A2 x.puzzle.moves.length C2] x.puzzle _ _ x.history _ _ (Rp.keep k0 (by with_reducible repeat (first | exact Only.refl _ _ | assumption | refine Only.drewN ?_ _ | refine Only.drew ?_ | refine Only.alloc ?_ _ | refine Only.setCell ?_ (by intro hh; exfalso; simp at hh; try omega) _ | refine Only.trans ?_ (by assumption)))) (Rp.keep k2 (by with_reducible repeat (first | exact Only.refl _ _ | assumption | refine Only.drewN ?_ _ | refine Only.drew ?_ | refine Only.alloc ?_ _ | refine Only.setCell ?_ (by intro hh; exfalso; simp at hh; try omega) _ | refine Only.trans ?_ (by assumption)))) (by omega)).mono ?_); rintro e w2 ⟨rfl, t2⟩; have y2 := t2.cells_eq w.heap.size (by have := t1.size; simp at this; omega) (by simp))
      | fail "no arm")
    go_ret
    exact ⟨ret_bool Hf.out.symm, (by with_reducible repeat (first | exact Only.refl _ _ | assumption | refine Only.drewN ?_ _ | refine Only.drew ?_ | refine Only.alloc ?_ _ | refine Only.setCell ?_ (by intro hh; exfalso; simp at hh; try omega) _ | refine Only.trans ?_ (by assumption)))⟩
  · have Hf := Lib.hid (by unfold validSe; rw [hq1, hq2]; rfl : validSe x = wordsB x.puzzle.moves.length x.future)
    go_enter Try.func13, Try.ntmps13
    go_wp2_with (first
      | (go_at_call 46; (with_reducible refine (implIsReachable_any [.int .i64 x.puzzle.points, .string x.puzzle.names, .slice A2 x.puzzle.moves.length C2] x.puzzle _ _ x.state _ _ (Rp.keep k0 (by with_reducible repeat (first | exact Only.refl _ _ | assumption | refine Only.drewN ?_ _ | refine Only.drew ?_ | refine Only.alloc ?_ _ | refine Only.setCell ?_ (by intro hh; exfalso; simp at hh; try omega) _ | refine Only.trans ?_ (by assumption)))) (Rp.keep k1 (by with_reducible repeat (first | exact Only.refl _ _ | assumption | refine Only.drewN ?_ _ | refine Only.drew ?_ | refine Only.alloc ?_ _ | refine Only.setCell ?_ (by intro hh; exfalso; simp at hh; try omega) _ | refine Only.trans ?_ (by assumption))))).mono ?_); rintro e w1 ⟨rfl, t1⟩; have y1 := t1.cells_eq w.heap.size (by simp) (by simp))
      | (go_at_call 47; (with_reducible refine (areSessionWords_any [.int .i64 x.puzzle.points, .string x.puzzle.names, .slice A2 x.puzzle.moves.length C2] x.puzzle _ _ x.history _ _ (Rp.keep k0 (by with_reducible repeat (first | exact Only.refl _ _ | assumption | refine Only.drewN ?_ _ | refine Only.drew ?_ | refine Only.alloc ?_ _ | refine Only.setCell ?_ (by intro hh; exfalso; simp at hh; try omega) _ | refine Only.trans ?_ (by assumption)))) (Rp.keep k2 (by with_reducible repeat (first | exact Only.refl _ _ | assumption | refine Only.drewN ?_ _ | refine Only.drew ?_ | refine Only.alloc ?_ _ | refine Only.setCell ?_ (by intro hh; exfalso; simp at hh; try omega) _ | refine Only.trans ?_ (by assumption)))) (by omega)).mono ?_); rintro e w2 ⟨rfl, t2⟩; have y2 := t2.cells_eq w.heap.size (by have := t1.size; simp at this; omega) (by simp))
      | (go_at_call 47; (with_reducible refine (areSessionWords_any [.int .i64 x.puzzle.points, .string x.puzzle.names, .slice A2 x.puzzle.moves.length C2] x.puzzle _ _ x.future _ _ (Rp.keep k0 (by with_reducible repeat (first | exact Only.refl _ _ | assumption | refine Only.drewN ?_ _ | refine Only.drew ?_ | refine Only.alloc ?_ _ | refine Only.setCell ?_ (by intro hh; exfalso; simp at hh; try omega) _ | refine Only.trans ?_ (by assumption)))) (Rp.keep k3 (by with_reducible repeat (first | exact Only.refl _ _ | assumption | refine Only.drewN ?_ _ | refine Only.drew ?_ | refine Only.alloc ?_ _ | refine Only.setCell ?_ (by intro hh; exfalso; simp at hh; try omega) _ | refine Only.trans ?_ (by assumption)))) (by omega)).mono ?_); rintro e w3 ⟨rfl, t3⟩)
      | fail "no arm")
    go_ret
    exact ⟨ret_bool Hf.out.symm, (by with_reducible repeat (first | exact Only.refl _ _ | assumption | refine Only.drewN ?_ _ | refine Only.drew ?_ | refine Only.alloc ?_ _ | refine Only.setCell ?_ (by intro hh; exfalso; simp at hh; try omega) _ | refine Only.trans ?_ (by assumption)))⟩
end Go.Proofs.Ytpfmkjcngknecaa

namespace Go.Proofs.Ytpfmkjcngknecaa
open Go.RowKit
set_option maxRecDepth 10000

theorem Only.own1 {w W0 w' : World} {g : Nat} (h0 : Only [] w W0) (h : Only [g] W0 w') (hg : w.heap.size ≤ g) : Only [] w w' :=
  h0.then_ h (fun b hb hl => by simp at hb; omega)
set_option maxHeartbeats 1000000 in
theorem copyPuzzle_any (cs : List Value) (x : Puzzle) (fp : List Nat) (w : World) (h : Rp.rep w cs x fp) (hl : x.moves.length ≤ 2097152) (hl2 : ∀ y ∈ x.moves, y.length ≤ 2097152) :
    Calls Try.prog 99 #[.agg cs.toArray] w fun e w' => ∃ cs' fp', e = .returned (.agg cs'.toArray) ∧ Rp.rep w' cs' x fp' ∧ Fresh w.heap.size w' fp' ∧ Only [] w w' := by
  obtain ⟨v2, rfl, p0, p1, h2⟩ := h
  obtain ⟨A2, C2, _, _, rfl, -⟩ := h2.open_
  have hW0 : Only [] w ((w.alloc (.cells #[.int .i64 x.points, .string x.names, .slice A2 x.moves.length C2] 30)).alloc (.cells #[.int .i64 0, .string ⟨#[]⟩, .slice none 0 0] 30)) := ((Only.refl _ _).alloc _).alloc _
  have hB : Blk ((w.alloc (.cells #[.int .i64 x.points, .string x.names, .slice A2 x.moves.length C2] 30)).alloc (.cells #[.int .i64 0, .string ⟨#[]⟩, .slice none 0 0] 30)) w.heap.size [.int .i64 x.points, .string x.names, .slice A2 x.moves.length C2] := Blk.keep (Blk.new_at rfl) ((Only.refl _ _).alloc _)
  have HB := Lib.hid hB; clear hB
  go_enter Try.func99, Try.ntmps99
  go_wp2
  go_region_held3 (fun w' => Only [w.heap.size + 1] ((w.alloc (.cells #[.int .i64 x.points, .string x.names, .slice A2 x.moves.length C2] 30)).alloc (.cells #[.int .i64 0, .string ⟨#[]⟩, .slice none 0 0] 30)) w' ∧ w'.cell? ⟨w.heap.size, 0, none⟩ = some (.int .i64 x.points) ∧ w'.cell? ⟨w.heap.size, 1, none⟩ = some (.string x.names) ∧ w'.cell? ⟨w.heap.size, 2, none⟩ = some (.slice A2 x.moves.length C2)) ((refine and_of ?_ (fun h__ => ⟨(Blk.only HB.out h__ (by simp)).cell 0 rfl, (Blk.only HB.out h__ (by simp)).cell 1 rfl, (Blk.only HB.out h__ (by simp)).cell 2 rfl⟩); first | exact (Only.refl _ _).drew | exact Only.keepThen (And.left (by assumption)) (by assumption) | exact Only.setCell (Only.setCell (Only.setCell (And.left (by assumption)) (by intro _; simp) _) (by intro _; simp) _) (by intro _; simp) _)) (first
    | (go_at_call 96; (with_reducible refine (copyLists_rd _ x.moves _ _ (Rp.keep h2 (Only.own1 hW0 (And.left (by assumption)) (Nat.le_succ _))) hl hl2).mono ?_); rintro e w1 ⟨u1, f1, rfl, r1, F1, t1⟩; obtain ⟨A1, C1, _, _, rfl, -⟩ := r1.open_; have y1 := t1.cells_eq (w.heap.size + 1) (by simp) (by simp); have z1 := t1.frozen_eq (w.heap.size + 1) (by simp) (by simp); have s1 : w.heap.size + 1 < w1.heap.size := (by have := t1.size; simp at this; omega))
    | fail "no arm")
  go_wp2
  have HG : ∀ b' ∈ f1, w.heap.size + 2 ≤ b' := fun b' hb => by have := F1.ge b' hb; simp at this; omega
  refine bodyPost_ret (v := .agg #[.int .i64 x.points, .string x.names, .slice A1 x.moves.length C1]) (by simp [results, Try.results99, go_sem, y1]) rfl ⟨[.int .i64 x.points, .string x.names, .slice A1 x.moves.length C1], f1, rfl, ⟨_, rfl, p0, p1, Rp.only (fp' := [w.heap.size + 1]) r1 (by with_reducible repeat (first | exact Only.refl _ _ | assumption | refine Only.drewN ?_ _ | refine Only.drew ?_ | refine Only.alloc ?_ _ | refine Only.setCell ?_ (by intro _; simp) _ | refine Only.trans ?_ (Only.weaken (by assumption) _))) (fun b' hb hm => by have := HG b' hb; simp at hm; omega)⟩, Fresh.mono (F1.only (fp' := [w.heap.size + 1]) (by with_reducible repeat (first | exact Only.refl _ _ | assumption | refine Only.drewN ?_ _ | refine Only.drew ?_ | refine Only.alloc ?_ _ | refine Only.setCell ?_ (by intro _; simp) _ | refine Only.trans ?_ (Only.weaken (by assumption) _))) (fun b' hb hm => by have := HG b' hb; simp at hm; omega)) (by simp; omega), (by with_reducible repeat (first | exact Only.refl _ _ | assumption | refine Only.drewN ?_ _ | refine Only.drew ?_ | refine Only.alloc ?_ _ | refine Only.setCell ?_ (by intro hh; exfalso; simp at hh; try omega) _ | refine Only.trans ?_ (by assumption)))⟩
set_option maxHeartbeats 1000000 in
theorem clonePuzzle_any (cs : List Value) (x : Puzzle) (fp : List Nat) (w : World) (h : Rp.rep w cs x fp) (hl : x.moves.length ≤ 2097152) (hl2 : ∀ y ∈ x.moves, y.length ≤ 2097152) :
    Calls Try.prog 102 #[.agg cs.toArray] w fun e w' => ∃ cs' fp', e = .returned (.agg cs'.toArray) ∧ Rp.rep w' cs' x fp' ∧ Fresh w.heap.size w' fp' ∧ Only [] w w' := by
  obtain ⟨v2, rfl, p0, p1, h2⟩ := h
  obtain ⟨A2, C2, _, _, rfl, -⟩ := h2.open_
  have hW0 : Only [] w ((w.alloc (.cells #[.int .i64 x.points, .string x.names, .slice A2 x.moves.length C2] 30)).alloc (.cells #[.int .i64 0, .string ⟨#[]⟩, .slice none 0 0] 30)) := ((Only.refl _ _).alloc _).alloc _
  have hB : Blk ((w.alloc (.cells #[.int .i64 x.points, .string x.names, .slice A2 x.moves.length C2] 30)).alloc (.cells #[.int .i64 0, .string ⟨#[]⟩, .slice none 0 0] 30)) w.heap.size [.int .i64 x.points, .string x.names, .slice A2 x.moves.length C2] := Blk.keep (Blk.new_at rfl) ((Only.refl _ _).alloc _)
  have HB := Lib.hid hB; clear hB
  go_enter Try.func102, Try.ntmps102
  go_wp2
  go_region_held3 (fun w' => Only [w.heap.size + 1] ((w.alloc (.cells #[.int .i64 x.points, .string x.names, .slice A2 x.moves.length C2] 30)).alloc (.cells #[.int .i64 0, .string ⟨#[]⟩, .slice none 0 0] 30)) w' ∧ w'.cell? ⟨w.heap.size, 0, none⟩ = some (.int .i64 x.points) ∧ w'.cell? ⟨w.heap.size, 1, none⟩ = some (.string x.names) ∧ w'.cell? ⟨w.heap.size, 2, none⟩ = some (.slice A2 x.moves.length C2)) ((refine and_of ?_ (fun h__ => ⟨(Blk.only HB.out h__ (by simp)).cell 0 rfl, (Blk.only HB.out h__ (by simp)).cell 1 rfl, (Blk.only HB.out h__ (by simp)).cell 2 rfl⟩); first | exact (Only.refl _ _).drew | exact Only.keepThen (And.left (by assumption)) (by assumption) | exact Only.setCell (Only.setCell (Only.setCell (And.left (by assumption)) (by intro _; simp) _) (by intro _; simp) _) (by intro _; simp) _)) (first
    | (go_at_call 74; (with_reducible refine (cloneLists_rd _ x.moves _ _ (Rp.keep h2 (Only.own1 hW0 (And.left (by assumption)) (Nat.le_succ _))) hl hl2).mono ?_); rintro e w1 ⟨u1, f1, rfl, r1, F1, t1⟩; obtain ⟨A1, C1, _, _, rfl, -⟩ := r1.open_; have y1 := t1.cells_eq (w.heap.size + 1) (by simp) (by simp); have z1 := t1.frozen_eq (w.heap.size + 1) (by simp) (by simp); have s1 : w.heap.size + 1 < w1.heap.size := (by have := t1.size; simp at this; omega))
    | fail "no arm")
  go_wp2
  have HG : ∀ b' ∈ f1, w.heap.size + 2 ≤ b' := fun b' hb => by have := F1.ge b' hb; simp at this; omega
  refine bodyPost_ret (v := .agg #[.int .i64 x.points, .string x.names, .slice A1 x.moves.length C1]) (by simp [results, Try.results102, go_sem, y1]) rfl ⟨[.int .i64 x.points, .string x.names, .slice A1 x.moves.length C1], f1, rfl, ⟨_, rfl, p0, p1, Rp.only (fp' := [w.heap.size + 1]) r1 (by with_reducible repeat (first | exact Only.refl _ _ | assumption | refine Only.drewN ?_ _ | refine Only.drew ?_ | refine Only.alloc ?_ _ | refine Only.setCell ?_ (by intro _; simp) _ | refine Only.trans ?_ (Only.weaken (by assumption) _))) (fun b' hb hm => by have := HG b' hb; simp at hm; omega)⟩, Fresh.mono (F1.only (fp' := [w.heap.size + 1]) (by with_reducible repeat (first | exact Only.refl _ _ | assumption | refine Only.drewN ?_ _ | refine Only.drew ?_ | refine Only.alloc ?_ _ | refine Only.setCell ?_ (by intro _; simp) _ | refine Only.trans ?_ (Only.weaken (by assumption) _))) (fun b' hb hm => by have := HG b' hb; simp at hm; omega)) (by simp; omega), (by with_reducible repeat (first | exact Only.refl _ _ | assumption | refine Only.drewN ?_ _ | refine Only.drew ?_ | refine Only.alloc ?_ _ | refine Only.setCell ?_ (by intro hh; exfalso; simp at hh; try omega) _ | refine Only.trans ?_ (by assumption)))⟩
def noSess : Session := ⟨⟨0, ⟨#[]⟩, []⟩, [], [], []⟩
def newSess (x : Puzzle) : Session := if validPz x then ⟨x, PM.pts x.points.toNat, [], []⟩ else noSess
theorem noSess_rep (w : World) : Rp.rep w [.int .i64 0, .string ⟨#[]⟩, .slice none 0 0, .slice none 0 0, .slice none 0 0, .slice none 0 0] noSess [] :=
  ⟨[.int .i64 0, .string ⟨#[]⟩, .slice none 0 0], _, _, _, [], [], [], [], rfl, rfl, ⟨_, rfl, ⟨by simp [noSess], by simp [noSess]⟩, by simp [noSess, maxLen, ByteArray.size], nil_rd w⟩, nil_rd w, nil_rd w, nil_rd w⟩
theorem validPz_gens {x : Puzzle} (h : validPz x = true) : 1 ≤ x.points ∧ x.points ≤ 20 ∧ x.moves.length ≤ 8 ∧ ∀ y ∈ x.moves, (y.length : Int) = x.points ∧ permB y = true := by
  unfold validPz at h
  rw [Bool.and_eq_true] at h
  have h1 := h.1
  unfold gensB at h1
  rw [Bool.and_eq_true, Bool.and_eq_true, inR_iff, decide_eq_true_iff, List.all_eq_true] at h1
  refine ⟨h1.1.1.1, h1.1.1.2, h1.1.2, fun y hy => ?_⟩
  have := h1.2 y hy
  unfold genB at this
  rw [Bool.and_eq_true, decide_eq_true_iff] at this
  exact this
end Go.Proofs.Ytpfmkjcngknecaa

namespace Go.Proofs.Ytpfmkjcngknecaa
open Go.RowKit
set_option maxRecDepth 10000

/-- a history with a word more: the oldest one goes if there are too many -/
def pushW (l : List (List Int)) (y : List Int) : List (List Int) := if 40 < l.length + 1 then (l ++ [y]).drop 1 else l ++ [y]
/-- the letters of a word, composed -/
def evW (n : Nat) (gens : List (List Int)) (w : List Int) : List Int := w.foldl (fun p l => PM.comp p (mv gens l)) (PM.pts n)
theorem evW_nil (n : Nat) (gens : List (List Int)) : evW n gens [] = PM.pts n := rfl
theorem evW_snoc (n : Nat) (gens : List (List Int)) (w : List Int) (l : Int) : evW n gens (w ++ [l]) = PM.comp (evW n gens w) (mv gens l) := by simp [evW]
theorem evW_pn {n : Nat} {gens : List (List Int)} (h : ∀ g ∈ gens, PM.PN n g) : ∀ (w : List Int), (∀ l ∈ w, l ∈ ltrs gens.length) → PM.PN n (evW n gens w) := by
  intro w
  have : ∀ (w : List Int) (p : List Int), PM.PN n p → (∀ l ∈ w, l ∈ ltrs gens.length) → PM.PN n (w.foldl (fun p l => PM.comp p (mv gens l)) p) := by
    intro w
    induction w with
    | nil => intro p hp _; exact hp
    | cons l w ih => intro p hp hl; exact ih _ (hp.comp (mv_pn h (hl l (by simp)))) fun x hx => hl x (by simp [hx])
  exact this w _ (PM.PN.id n)
theorem validW_ltrs {m : Nat} (hm : m ≤ 8) {w : List Int} (h : validW m w = true) : w.length ≤ 200 ∧ ∀ l ∈ w, l ∈ ltrs m := by
  unfold validW at h
  rw [Bool.and_eq_true, decide_eq_true_iff, List.all_eq_true] at h
  refine ⟨h.1, fun l hl => ?_⟩
  have := okLetter_iff.1 (h.2 l hl)
  rw [mem_ltrs]; omega

section
variable {α : Type} [Rp α] {w w' : World} {a : Option Addr} {cap : Nat} {xs : List α} {ob : List Nat} {fps : List (List Nat)}
/-- the first k elements -/
theorem SeqA.take (h : SeqA w a cap xs ob fps) (k : Nat) : SeqA w a cap (xs.take k) ob (fps.take k) := by
  have hnf := h.nf
  refine ⟨by have := h.len; simp; omega, h.cap, by simp [hnf], fun j hj => ?_, h.lt, h.one⟩
  have hj' : j < xs.length := by simp at hj; omega
  obtain ⟨b, off, cs, h1, h2, h3, h4⟩ := h.at_ j hj'
  refine ⟨b, off, cs, h1, h2, h3, ?_⟩
  simpa using h4
/-- all but the first element -/
theorem SeqA.drop1 (hs : Rp.size α = 1) {b off : Nat} (h : SeqA w (some ⟨b, off, none⟩) cap xs ob fps) (hx : 0 < xs.length) : SeqA w (some ⟨b, off + 1, none⟩) (cap - 1) (xs.drop 1) ob (fps.drop 1) := by
  have hnf := h.nf
  refine ⟨by have := h.len; simp; omega, by have := h.cap; omega, by simp [hnf], fun j hj => ?_, h.lt, h.one⟩
  have hj' : j + 1 < xs.length := by simp at hj; omega
  obtain ⟨b', off', cs, h1, h2, h3, h4⟩ := h.at_ (j + 1) hj'
  injection h1 with h1; injection h1 with e1 e2; subst e1; subst e2
  refine ⟨b, off + 1, cs, rfl, h2, fun i u hu => ?_, ?_⟩
  · have := h3 i u hu
    rw [hs] at this ⊢
    rwa [show off + 1 + j * 1 + i = off + (j + 1) * 1 + i by omega]
  · simpa using h4
end
/-- a part of own memory gives way to another one -/
theorem Fresh.repl {B : Nat} {w w' : World} {pre mid mid' post fpw : List Nat} (h : Fresh B w (pre ++ (mid ++ post))) (ho : Only fpw w w') (hf : ∀ b ∈ fpw, b ∈ mid) (F' : Fresh B w' mid') (hs : ∀ b ∈ mid', b ∈ mid ∨ w.heap.size ≤ b) : Fresh B w' (pre ++ (mid' ++ post)) := by
  obtain ⟨n1, n2, n3⟩ := List.nodup_append.1 h.nd
  obtain ⟨n4, n5, n6⟩ := List.nodup_append.1 n2
  have lpre : ∀ b ∈ pre, b < w.heap.size := fun b hb => h.lt b (List.mem_append_left _ hb)
  have lpost : ∀ b ∈ post, b < w.heap.size := fun b hb => h.lt b (List.mem_append_right _ (List.mem_append_right _ hb))
  have dpre : ∀ b ∈ pre, b ∉ mid := fun b hb hm => n3 b hb b (List.mem_append_left _ hm) rfl
  have dpost : ∀ b ∈ post, b ∉ mid := fun b hb hm => n6 b hm b hb rfl
  have dpre' : ∀ b ∈ pre, b ∉ mid' := fun b hb hm => by
    rcases hs b hm with h1 | h1
    · exact dpre b hb h1
    · have := lpre b hb; omega
  have dpost' : ∀ b ∈ post, b ∉ mid' := fun b hb hm => by
    rcases hs b hm with h1 | h1
    · exact dpost b hb h1
    · have := lpost b hb; omega
  refine ⟨List.nodup_append.2 ⟨n1, List.nodup_append.2 ⟨F'.nd, n5, fun a ha b hb e => ?_⟩, fun a ha b hb e => ?_⟩, fun b hb => ?_, ?_⟩
  · subst e; exact dpost' a hb ha
  · subst e
    rcases List.mem_append.1 hb with hb | hb
    · exact dpre' a ha hb
    · exact n3 a ha a (List.mem_append_right _ hb) rfl
  · rcases List.mem_append.1 hb with hb | hb
    · exact h.ge b (List.mem_append_left _ hb)
    · rcases List.mem_append.1 hb with hb | hb
      · exact F'.ge b hb
      · exact h.ge b (List.mem_append_right _ (List.mem_append_right _ hb))
  · exact (h.left.own.only ho fun b hb hm => dpre b hb (hf b hm)).append (F'.own.append (h.right.right.own.only ho fun b hb hm => dpost b hb (hf b hm)))
end Go.Proofs.Ytpfmkjcngknecaa

namespace Go.Proofs.Ytpfmkjcngknecaa
open Go.RowKit
set_option maxRecDepth 10000
set_option maxHeartbeats 1000000 in
/-- a move, or its inverse: old memory, or new -/
theorem letterPerm_rd (v : Value) (gens : List (List Int)) (l : Int) (fp : List Nat) (w : World) (h : Rd w v gens fp) (hg : ∀ g ∈ gens, PM.IsP g ∧ g.length ≤ 1000) (hl : l ∈ ltrs gens.length) (hn : gens.length ≤ 1000) :
    Calls Try.prog 125 #[v, .int .i64 l] w fun e w' => ∃ v fp', e = .returned v ∧ Rd w' v (mv gens l) fp' ∧ (∀ b ∈ fp', b ∈ fp ∨ w.heap.size ≤ b) ∧ Only [] w w' := by
  obtain ⟨a, cap, ob, fps, rfl, rfl, hs⟩ := h.open_
  have hb := hs.bound
  rcases letter_cases hl with ⟨k, hk, rfl⟩ | ⟨k, hk, rfl⟩
  · have hm := mv_pos rfl hk
    have Hm := Lib.hid hm; clear hm
    obtain ⟨b, off, u, rfl, -, hc, hu⟩ := hs.atRow k hk
    have e1 : wrap64 ((k : Int) + 1 - 1) = (k : Int) := wrap64_lit _ (by omega) (by omega) |>.trans (by omega)
    have e2 : ¬ (k : Int) + 1 < 0 := by omega
    go_enter Try.func125, Try.ntmps125
    go_wp2
    go_ret
    refine ⟨_, rfl, _, by rw [Hm.out]; exact hu, fun b' hb' => ?_, (by with_reducible repeat (first | exact Only.refl _ _ | assumption | refine Only.drewN ?_ _ | refine Only.drew ?_ | refine Only.alloc ?_ _ | refine Only.setCell ?_ (by intro hh; exfalso; simp at hh; try omega) _ | refine Only.trans ?_ (by assumption)))⟩
    left
    right
    exact ⟨_, List.getElem_mem _, hb'⟩
  · have hm := mv_neg rfl hk
    have Hm := Lib.hid hm; clear hm
    obtain ⟨b, off, u, rfl, -, hc, hu⟩ := hs.atRow k hk
    have e1 : wrap64 (wrap64 (-(-((k : Int) + 1))) - 1) = (k : Int) := by
      rw [wrap64_lit (-(-((k : Int) + 1))) (by omega) (by omega), wrap64_lit _ (by omega) (by omega)]; omega
    have e2 : -((k : Int) + 1) < 0 := by omega
    have hg2 := hg _ (List.getElem_mem hk)
    go_enter Try.func125, Try.ntmps125
    go_wp2_with ((go_at_call 146; (with_reducible refine (specInverse0_rd u gens[k] _ _ hu hg2.1 hg2.2).mono ?_); rintro e w2 ⟨u2, f2, rfl, r2, F2, t2⟩))
    go_ret
    exact ⟨_, _, rfl, by rw [Hm.out]; exact r2, fun b' hb' => .inr (F2.ge b' hb'), (by with_reducible repeat (first | exact Only.refl _ _ | assumption | refine Only.drewN ?_ _ | refine Only.drew ?_ | refine Only.alloc ?_ _ | refine Only.setCell ?_ (by intro hh; exfalso; simp at hh; try omega) _ | refine Only.trans ?_ (by assumption)))⟩
set_option maxHeartbeats 1000000 in
theorem specEvaluate_any (n : Nat) (hn : n ≤ 20) (vg vl : Value) (gens : List (List Int)) (l : List Int) (fg fl : List Nat) (w : World) (hg : Rd w vg gens fg) (hl : Rd w vl l fl) (hpn : ∀ g ∈ gens, PM.PN n g) (hgl : gens.length ≤ 1000) (hlt : ∀ x ∈ l, x ∈ ltrs gens.length) :
    Calls Try.prog 101 #[.int .i64 n, vg, vl] w fun e w' => ∃ v fp', e = .returned v ∧ Rd w' v (evW n gens l) fp' ∧ Fresh w.heap.size w' fp' ∧ Only [] w w' := by
  obtain ⟨a, cap, rfl, IL⟩ := hl.ints
  have hb := IL.bound
  have hg' : ∀ g ∈ gens, PM.IsP g ∧ g.length ≤ 1000 := fun g hg => ⟨(hpn g hg).2, by have := (hpn g hg).1; omega⟩
  have Hg' := Lib.hid hg'
  have Hpn := Lib.hid hpn
  have Hlt := Lib.hid hlt
  have Hg := Lib.hid hg
  clear hg' hpn hlt hl hg
  go_enter Try.func101, Try.ntmps101
  go_wp2_with (first | (go_at_call 124; (with_reducible refine (specIdentity_any n _ (by omega)).mono ?_); rintro en w1 ⟨v1, f1, rfl, r1, F1, t1⟩) | fail "no arm")
  go_loopw [7, 8] (fun s i wr => ∃ (j : Nat) (f : List Nat), j ≤ l.length ∧ i = .int .i64 j ∧ Rd wr s (evW n gens (l.take j)) f ∧ Fresh w.heap.size wr f ∧ Only [] w wr)
    (fun _ i _ => l.length - (intOf i).toNat)
  case atStart => exact ⟨0, f1, Nat.zero_le _, rfl, r1, F1, t1⟩
  case round =>
    obtain ⟨W2, hnew⟩ : ∃ W, W = wr := ⟨_, rfl⟩
    subst hnew
    obtain ⟨j, f, hj, rfl, hr, hF, hK⟩ := hrel
    by_cases hlt : j < l.length
    · obtain ⟨b, off, rfl, -, hc0⟩ := IL.at_ j hlt
      have hc := hK.cell (by simp) hc0
      have hll := Hlt.out l[j] (List.getElem_mem _)
      have hp := evW_pn Hpn.out (l.take j) fun x hx => Hlt.out x (List.mem_of_mem_take hx)
      have hq := mv_pn Hpn.out hll
      have hst : evW n gens (l.take (j + 1)) = PM.comp (evW n gens (l.take j)) (mv gens l[j]) := by rw [take_succ_get l j hlt, evW_snoc]
      have Hst := Lib.hid hst
      have Hll := Lib.hid hll
      have Hp := Lib.hid hp
      have Hq := Lib.hid hq
      have HK := Lib.hid hK
      have Hr := Lib.hid hr
      have HF := Lib.hid hF
      clear hc0 hll hp hq hK hr hF hst
      go_wp2_with (first
        | (go_at_call 125; (with_reducible refine (letterPerm_rd _ gens l[j] _ _ (Rp.keep Hg.out HK.out) Hg'.out Hll.out hgl).mono ?_); rintro en w3 ⟨v3, f3, rfl, r3, hf3, t3⟩)
        | (go_at_call 100; (with_reducible refine (specCompose_rd n _ _ _ _ _ _ _ (Rp.keep Hr.out t3) r3 Hp.out Hq.out (by omega)).mono ?_); rintro en w4 ⟨v4, f4, rfl, r4, F4, t4⟩)
        | fail "no arm")
      go_roundw
      case rel => exact ⟨j + 1, f4, by omega, by go_num, by rw [Hst.out]; exact r4, F4.mono (Nat.le_trans HK.out.size t3.size), HK.out.trans (t3.trans t4)⟩
      case measure => simp [intOf]; omega
    · obtain rfl : j = l.length := by omega
      rw [List.take_length] at hr
      have Hr := Lib.hid hr
      clear hr
      go_wp2
      go_ret
      exact ⟨_, f, rfl, Hr.out, hF, hK⟩
set_option maxHeartbeats 1000000 in
theorem implEvaluate_any (n : Nat) (hn : n ≤ 20) (vg vl : Value) (gens : List (List Int)) (l : List Int) (fg fl : List Nat) (w : World) (hg : Rd w vg gens fg) (hl : Rd w vl l fl) (hpn : ∀ g ∈ gens, PM.PN n g) (hgl : gens.length ≤ 1000) (hlt : ∀ x ∈ l, x ∈ ltrs gens.length) :
    Calls Try.prog 105 #[.int .i64 n, vg, vl] w fun e w' => ∃ v fp', e = .returned v ∧ Rd w' v (evW n gens l) fp' ∧ Fresh w.heap.size w' fp' ∧ Only [] w w' := by
  obtain ⟨a, cap, rfl, IL⟩ := hl.ints
  have hb := IL.bound
  have hg' : ∀ g ∈ gens, PM.IsP g ∧ g.length ≤ 1000 := fun g hg => ⟨(hpn g hg).2, by have := (hpn g hg).1; omega⟩
  have Hg' := Lib.hid hg'
  have Hpn := Lib.hid hpn
  have Hlt := Lib.hid hlt
  have Hg := Lib.hid hg
  clear hg' hpn hlt hl hg
  go_enter Try.func105, Try.ntmps105
  go_wp2_with (first | (go_at_call 113; (with_reducible refine (implIdentity_any n _ (by omega)).mono ?_); rintro en w1 ⟨v1, f1, rfl, r1, F1, t1⟩) | fail "no arm")
  go_loopw [7, 14] (fun s i wr => ∃ (j : Nat) (f : List Nat), j ≤ l.length ∧ i = .int .i64 j ∧ Rd wr s (evW n gens (l.take j)) f ∧ Fresh w.heap.size wr f ∧ Only [] w wr)
    (fun _ i _ => l.length - (intOf i).toNat)
  case atStart => exact ⟨0, f1, Nat.zero_le _, rfl, r1, F1, t1⟩
  case round =>
    obtain ⟨W2, hnew⟩ : ∃ W, W = wr := ⟨_, rfl⟩
    subst hnew
    obtain ⟨j, f, hj, rfl, hr, hF, hK⟩ := hrel
    by_cases hlt : j < l.length
    · obtain ⟨b, off, rfl, -, hc0⟩ := IL.at_ j hlt
      have hc := hK.cell (by simp) hc0
      have hll := Hlt.out l[j] (List.getElem_mem _)
      have hp := evW_pn Hpn.out (l.take j) fun x hx => Hlt.out x (List.mem_of_mem_take hx)
      have hq := mv_pn Hpn.out hll
      have hst : evW n gens (l.take (j + 1)) = PM.comp (evW n gens (l.take j)) (mv gens l[j]) := by rw [take_succ_get l j hlt, evW_snoc]
      have Hst := Lib.hid hst
      have Hll := Lib.hid hll
      have Hp := Lib.hid hp
      have Hq := Lib.hid hq
      have HK := Lib.hid hK
      have Hr := Lib.hid hr
      have HF := Lib.hid hF
      clear hc0 hll hp hq hK hr hF hst
      go_wp2_with (first
        | (go_at_call 128; (with_reducible refine (letterOf_rd _ gens l[j] _ _ (Rp.keep Hg.out HK.out) Hg'.out Hll.out hgl).mono ?_); rintro en w3 ⟨v3, f3, rfl, r3, hf3, t3⟩)
        | (go_at_call 104; (with_reducible refine (implCompose_rd n _ _ _ _ _ _ _ (Rp.keep Hr.out t3) r3 Hp.out Hq.out (by omega)).mono ?_); rintro en w4 ⟨v4, f4, rfl, r4, F4, t4⟩)
        | fail "no arm")
      go_roundw
      case rel => exact ⟨j + 1, f4, by omega, by go_num, by rw [Hst.out]; exact r4, F4.mono (Nat.le_trans HK.out.size t3.size), HK.out.trans (t3.trans t4)⟩
      case measure => simp [intOf]; omega
    · obtain rfl : j = l.length := by omega
      rw [List.take_length] at hr
      have Hr := Lib.hid hr
      clear hr
      go_wp2
      go_ret
      exact ⟨_, f, rfl, Hr.out, hF, hK⟩
theorem specEvaluate_i (n : Int) (h0 : 1 ≤ n) (hn : n ≤ 20) (vg vl : Value) (gens : List (List Int)) (l : List Int) (fg fl : List Nat) (w : World) (hg : Rd w vg gens fg) (hl : Rd w vl l fl) (hpn : ∀ g ∈ gens, PM.PN n.toNat g) (hgl : gens.length ≤ 1000) (hlt : ∀ x ∈ l, x ∈ ltrs gens.length) :
    Calls Try.prog 101 #[.int .i64 n, vg, vl] w fun e w' => ∃ v fp', e = .returned v ∧ Rd w' v (evW n.toNat gens l) fp' ∧ Fresh w.heap.size w' fp' ∧ Only [] w w' := by
  obtain ⟨m, rfl⟩ := Int.eq_ofNat_of_zero_le (by omega : 0 ≤ n)
  exact specEvaluate_any m (by omega) vg vl gens l fg fl w hg hl hpn hgl hlt
theorem implEvaluate_i (n : Int) (h0 : 1 ≤ n) (hn : n ≤ 20) (vg vl : Value) (gens : List (List Int)) (l : List Int) (fg fl : List Nat) (w : World) (hg : Rd w vg gens fg) (hl : Rd w vl l fl) (hpn : ∀ g ∈ gens, PM.PN n.toNat g) (hgl : gens.length ≤ 1000) (hlt : ∀ x ∈ l, x ∈ ltrs gens.length) :
    Calls Try.prog 105 #[.int .i64 n, vg, vl] w fun e w' => ∃ v fp', e = .returned v ∧ Rd w' v (evW n.toNat gens l) fp' ∧ Fresh w.heap.size w' fp' ∧ Only [] w w' := by
  obtain ⟨m, rfl⟩ := Int.eq_ofNat_of_zero_le (by omega : 0 ≤ n)
  exact implEvaluate_any m (by omega) vg vl gens l fg fl w hg hl hpn hgl hlt
/-- what a word does to a state -/
def appW (x : Puzzle) (s l : List Int) : List Int := PM.comp s (evW x.points.toNat x.moves l)
set_option maxHeartbeats 1000000 in
theorem implApply_any (cs : List Value) (x : Puzzle) (fp : List Nat) (vs vl : Value) (s l : List Int) (fs fl : List Nat) (w : World) (h : Rp.rep w cs x fp) (hs : Rd w vs s fs) (hl : Rd w vl l fl) (hst : stateB x s = true) (hlt : ∀ y ∈ l, y ∈ ltrs x.moves.length) :
    Calls Try.prog 70 #[.agg cs.toArray, vs, vl] w fun e w' => ∃ v fp', e = .returned v ∧ Rd w' v (appW x s l) fp' ∧ Fresh w.heap.size w' fp' ∧ Only [] w w' := by
  have h0 := h
  obtain ⟨v2, rfl, p0, p1, h2⟩ := h
  obtain ⟨A2, C2, ob, fps, rfl, -, -⟩ := h2.open_
  obtain ⟨⟨n1, n20⟩, hml, hmp, hpn⟩ := stateB_pn hst
  have hev := evW_pn hmp l hlt
  have Hmp := Lib.hid hmp
  have Hpn := Lib.hid hpn
  have Hlt := Lib.hid hlt
  have Hev := Lib.hid hev
  clear hmp hpn hlt hev hst
  go_enter Try.func70, Try.ntmps70
  go_wp2_with (first
    | (go_at_call 105; (with_reducible refine (implEvaluate_i x.points n1 n20 _ _ x.moves l _ _ _ (Rp.keep h2 (by with_reducible repeat (first | exact Only.refl _ _ | assumption | refine Only.drewN ?_ _ | refine Only.drew ?_ | refine Only.alloc ?_ _ | refine Only.setCell ?_ (by intro hh; exfalso; simp at hh; try omega) _ | refine Only.trans ?_ (by assumption)))) (Rp.keep hl (by with_reducible repeat (first | exact Only.refl _ _ | assumption | refine Only.drewN ?_ _ | refine Only.drew ?_ | refine Only.alloc ?_ _ | refine Only.setCell ?_ (by intro hh; exfalso; simp at hh; try omega) _ | refine Only.trans ?_ (by assumption)))) Hmp.out (by omega) Hlt.out).mono ?_); rintro en w3 ⟨v3, f3, rfl, r3, F3, t3⟩)
    | (go_at_call 104; (with_reducible refine (implCompose_rd x.points.toNat _ _ _ _ _ _ _ (Rp.keep hs (by with_reducible repeat (first | exact Only.refl _ _ | assumption | refine Only.drewN ?_ _ | refine Only.drew ?_ | refine Only.alloc ?_ _ | refine Only.setCell ?_ (by intro hh; exfalso; simp at hh; try omega) _ | refine Only.trans ?_ (by assumption)))) r3 Hpn.out Hev.out (by omega)).mono ?_); rintro en w4 ⟨v4, f4, rfl, r4, F4, t4⟩)
    | fail "no arm")
  go_ret
  exact ⟨_, f4, rfl, r4, F4.mono (Only.size (fp := []) (by with_reducible repeat (first | exact Only.refl _ _ | assumption | refine Only.drewN ?_ _ | refine Only.drew ?_ | refine Only.alloc ?_ _ | refine Only.setCell ?_ (by intro hh; exfalso; simp at hh; try omega) _ | refine Only.trans ?_ (by assumption)))), (by with_reducible repeat (first | exact Only.refl _ _ | assumption | refine Only.drewN ?_ _ | refine Only.drew ?_ | refine Only.alloc ?_ _ | refine Only.setCell ?_ (by intro hh; exfalso; simp at hh; try omega) _ | refine Only.trans ?_ (by assumption)))⟩
end Go.Proofs.Ytpfmkjcngknecaa

namespace Go.Proofs.Ytpfmkjcngknecaa
open Go.RowKit
set_option maxRecDepth 10000

theorem pushW_long {l : List (List Int)} {y : List Int} (h : 40 < l.length + 1) : pushW l y = (l ++ [y]).drop 1 := if_pos h
theorem pushW_short {l : List (List Int)} {y : List Int} (h : ¬ 40 < l.length + 1) : pushW l y = l ++ [y] := if_neg h
theorem Rd.frm {α : Type} [Rp α] {w w' : World} {a : Option Addr} {cap : Nat} {xs : List α} {ob : List Nat} {fps : List (List Nat)} (ho : Only [] w w') (h : SeqA w a cap xs ob fps) : ∀ b ∈ ob ++ fps.flatten, w'.heap[b]? = w.heap[b]? :=
  fun b hb => ho.block b (h.lt_all b hb) (by simp)
theorem flatten_take : ∀ (fs : List (List Nat)) (k : Nat), (fs.take k).flatten.Sublist fs.flatten
  | [], _ => by simp
  | _ :: _, 0 => by simp
  | f :: fs, k + 1 => by simpa using List.Sublist.append (List.Sublist.refl f) (flatten_take fs k)
theorem flatten_drop1 (fs : List (List Nat)) : (fs.drop 1).flatten.Sublist fs.flatten := by
  cases fs with
  | nil => simp
  | cons f fs => simp
theorem Fresh.sublist {B : Nat} {w : World} {fp fp' : List Nat} (h : Fresh B w fp) (hs : fp'.Sublist fp) : Fresh B w fp' :=
  ⟨h.nd.sublist hs, fun b hb => h.ge b (hs.subset hb), h.own.sub fun _ hb => hs.subset hb⟩
section
variable {α : Type} [Rp α] {B : Nat} {e : TypeId} {w : World} {v : Value} {l : List α} {fs : List (List Nat)}
/-- an appended slice without its first element: its memory -/
theorem Acc.drop1 (h : Acc B e w v l fs) (hs : Rp.size α = 1) (hl : 0 < l.length) (hf : Fresh B w fs.flatten) :
    ∃ g c fp, v = .slice (some ⟨g, 0, none⟩) l.length c ∧ 1 ≤ c ∧ c ≤ maxLen ∧ l.length ≤ c ∧ Rd w (.slice (some ⟨g, 1, none⟩) (l.length - 1) (c - 1)) (l.drop 1) fp ∧ Fresh B w fp ∧ ∀ b ∈ fp, b ∈ v.ownBlock.toList ++ fs.flatten := by
  obtain ⟨css, ho, hcl, hr⟩ := h.own
  obtain ⟨a, cap, hv, hE, hI⟩ := own_seq (xs := l) (fps := fs) ho (by omega) hcl h.fl hr
  obtain ⟨b, off, cs, e1, e2, -, -⟩ := hI.at_ 0 hl
  have hF := h.fresh hf
  have e3 : off = 0 := by
    rcases ho.2 with ⟨h1, h2⟩ | ⟨g, cp, cur, h1, -⟩
    · omega
    · rw [hv] at h1
      injection h1 with h1 _ _
      rw [e1] at h1
      injection h1 with h1
      injection h1
  subst e1
  subst e3
  have hd := hI.drop1 hs hl
  have h1 := hI.len
  have h2 := hI.cap
  have hlen : (l.drop 1).length = l.length - 1 := by simp
  have hsub : (v.ownBlock.toList ++ (fs.drop 1).flatten).Sublist (v.ownBlock.toList ++ fs.flatten) := List.Sublist.append (List.Sublist.refl _) (flatten_drop1 fs)
  refine ⟨b, cap, _, hv, by omega, h2, h1, ?_, hF.sublist hsub, fun x hx => hsub.subset hx⟩
  have := hd.rd
  rwa [hlen] at this
end
set_option maxHeartbeats 1000000 in
theorem pushWord_rd (vl vy : Value) (l : List (List Int)) (y : List Int) (fl fy : List Nat) (w : World) (hl : Rd w vl l fl) (hy : Rd w vy y fy) (hll : l.length ≤ 40) (hl2 : ∀ x ∈ l, x.length ≤ 2097152) (hyl : y.length ≤ 1073741824) :
    Calls Try.prog 67 #[vl, vy] w fun e w' => ∃ v fp', e = .returned v ∧ Rd w' v (pushW l y) fp' ∧ Fresh w.heap.size w' fp' ∧ Only [] w w' := by
  obtain ⟨i1, hi, hz0, hz1, hz2⟩ := info_parts Try.info22
  obtain ⟨al, cl, obl, fpsl, rfl, -, Sl⟩ := hl.open_
  have HSl := Lib.hid Sl
  have Hl2 := Lib.hid hl2
  clear Sl hl2
  have hap : (l ++ [y]).length = l.length + 1 := by simp
  have Hap := Lib.hid hap
  clear hap
  by_cases hlong : 40 < l.length + 1
  · go_enter Try.func67, Try.ntmps67
    go_wp2_with (first
      | (go_at_call 96; (with_reducible refine (copyLists_acc al cl l obl fpsl _ HSl.out (by omega) Hl2.out).mono ?_); rintro e w1 ⟨v1, fs1, rfl, A1, F1, t1⟩; obtain ⟨a1, c1, rfl⟩ := A1.form)
      | (go_at_call 95; (with_reducible refine (copyInts_rd _ y _ _ (Rp.keep hy t1) hyl).mono ?_); rintro e w2 ⟨v2, f2, rfl, r2, F2, t2⟩; obtain ⟨a2, c2, rfl, -⟩ := r2.ints)
      | (at_builtin; go_loud (refine wpList_pushF rfl _ _ 22 rfl w.heap.size 25 i1 _ 24 Try.underlying22 hi hz0 hz1 hz2 rfl (by decide) (by decide) w1 _ l fs1 rfl A1 F1 (t2.alloc _) t1.size w2.heap.size 1 [.slice a2 y.length c2] y f2 rfl (lit_src w2 [.slice a2 y.length c2] _ rfl) (by intro u hu; simp at hu; subst hu; rfl) (Rp.keep r2 ((Only.refl _ _).alloc _)) (F2.keep ((Only.refl _ _).alloc _)) (by omega) w ((t1.trans t2).alloc _) (Nat.le_refl _) ?_; intro v3 w3 hA3 hF3 hK3 _; obtain ⟨g3, c3, fp3, rfl, k1, k2, k3, R3, F3, -⟩ := hA3.drop1 rfl (by simp) hF3; rw [Hap.out] at k3 R3; have k4 : 1 < c3 := (by omega)))
      | fail "no arm")
    go_ret
    exact ⟨_, fp3, rfl, by rw [pushW_long hlong]; exact R3, F3, hK3⟩
  · go_enter Try.func67, Try.ntmps67
    go_wp2_with (first
      | (go_at_call 96; (with_reducible refine (copyLists_acc al cl l obl fpsl _ HSl.out (by omega) Hl2.out).mono ?_); rintro e w1 ⟨v1, fs1, rfl, A1, F1, t1⟩; obtain ⟨a1, c1, rfl⟩ := A1.form)
      | (go_at_call 95; (with_reducible refine (copyInts_rd _ y _ _ (Rp.keep hy t1) hyl).mono ?_); rintro e w2 ⟨v2, f2, rfl, r2, F2, t2⟩; obtain ⟨a2, c2, rfl, -⟩ := r2.ints)
      | (at_builtin; go_loud (refine wpList_pushF rfl _ _ 22 rfl w.heap.size 25 i1 _ 24 Try.underlying22 hi hz0 hz1 hz2 rfl (by decide) (by decide) w1 _ l fs1 rfl A1 F1 (t2.alloc _) t1.size w2.heap.size 1 [.slice a2 y.length c2] y f2 rfl (lit_src w2 [.slice a2 y.length c2] _ rfl) (by intro u hu; simp at hu; subst hu; rfl) (Rp.keep r2 ((Only.refl _ _).alloc _)) (F2.keep ((Only.refl _ _).alloc _)) (by omega) w ((t1.trans t2).alloc _) (Nat.le_refl _) ?_; intro v3 w3 hA3 hF3 hK3 _; obtain ⟨a3, c3, rfl⟩ := hA3.form; have R3 := hA3.rd (by decide); have F3 := hA3.fresh hF3; rw [Hap.out] at R3 F3))
      | fail "no arm")
    go_ret
    exact ⟨_, _, rfl, by rw [pushW_short hlong]; exact R3, F3, hK3⟩
theorem wpList_push2f {P : Program} {α : Type} [Rp α] {ops : Array Oper} {rest : List Oper} {o : Oper} {a : Act} {w : World} {Q : Exit → Act → World → Prop} (hgd : o.guard = none) (s x : Operand) (t : TypeId)
    (ho : o.op = .call { callee := .builtin .append, args := #[s, x], argTypes := #[t, t] })
    (B : Nat) (e : TypeId) (i : TypeInfo) (z : Value) (bytes : Nat) (ht : P.underlying t = some (.slice e)) (hi : P.info? e = some i) (hz : i.zero = some z)
    (hsize : i.size = Rp.size α) (hby : i.bytes = bytes) (hzs : z.cells.size = Rp.size α) (hsz : 0 < Rp.size α) (hbb : bytes ≤ 65536)
    (w0 : World) (v : Value) (l : List α) (fs : List (List Nat)) (hs : a.eval s = v) (hA : Acc B e w0 v l fs) (hF : Fresh B w0 fs.flatten) (hK0 : Only [] w0 w) (hB : B ≤ w0.heap.size)
    (g c : Nat) (cs : List Value) (y : α) (fp : List Nat) (hx : a.eval x = .slice (some ⟨g, 0, none⟩) 1 c) (hsrc : ∀ j u, cs[j]? = some u → w.cell? ⟨g, j, none⟩ = some u) (hcs : ∀ u ∈ cs, u.oneCell' = true)
    (hy : Rp.rep w cs y fp) (hFy : Fresh w0.heap.size w fp) (hlen : l.length + 1 ≤ 1073741824)
    (h : ∀ v' w', Acc B e w' v' (l ++ [y]) (fs ++ [fp]) → Fresh B w' (fs ++ [fp]).flatten → Only v.ownBlock.toList w w' → (∀ b ∈ v'.ownBlock.toList ++ (fs ++ [fp]).flatten, b ∈ v.ownBlock.toList ++ fs.flatten ∨ w0.heap.size ≤ b) → wpList P ops Q rest (a.put o.dst v') w') : wpList P ops Q (o :: rest) a w :=
  wpList_plain hgd fun _ hK => wp_push2 s x t ho B e i z bytes ht hi hz hsize hby hzs hsz hbb w0 v l fs hs hA hK0 hB g c cs y fp hx hsrc hcs hy
    (fun b hb hv => by have := (hA.ownlt b hv).2; have := hFy.ge b hb; omega) hlen fun v' w' h1 h2 _ h4 h5 => hK _ _ (h v' w' h1 (h4 hF hFy) h2 (fun b hb => by
      rcases List.mem_append.1 hb with hb | hb
      · have hb' : v'.ownBlock = some b := by simpa using hb
        rcases h5 with e1 | e1
        · exact .inl (List.mem_append_left _ (by rw [← e1]; exact hb))
        · rw [e1] at hb'
          injection hb' with hb'
          have := hK0.size
          exact .inr (by omega)
      · rw [List.flatten_append] at hb
        rcases List.mem_append.1 hb with hb | hb
        · exact .inl (List.mem_append_right _ hb)
        · exact .inr (hFy.ge b (by simpa using hb))))
set_option maxHeartbeats 1000000 in
/-- the program's push: the slice is the call's own, and may be written behind its end -/
theorem pushed_acc {B : Nat} (vl vy : Value) (l : List (List Int)) (y : List Int) (fsl : List (List Nat)) (fy : List Nat) (w : World) (hA : Acc B 25 w vl l fsl) (hF : Fresh B w fsl.flatten) (hy : Rd w vy y fy) (hB : B ≤ w.heap.size) (hll : l.length ≤ 40) (hyl : y.length ≤ 1073741824) :
    Calls Try.prog 71 #[vl, vy] w fun e w' => ∃ v fp', e = .returned v ∧ Rd w' v (pushW l y) fp' ∧ Fresh B w' fp' ∧ (∀ b ∈ fp', b ∈ vl.ownBlock.toList ++ fsl.flatten ∨ w.heap.size ≤ b) ∧ Only vl.ownBlock.toList w w' := by
  obtain ⟨i1, hi, hz0, hz1, hz2⟩ := info_parts Try.info22
  obtain ⟨al, cl, rfl⟩ := hA.form
  have hap : (l ++ [y]).length = l.length + 1 := by simp
  have Hap := Lib.hid hap
  have HA := Lib.hid hA
  have HF := Lib.hid hF
  clear hap hA hF
  by_cases hlong : 40 < l.length + 1
  · go_enter Try.func71, Try.ntmps71
    go_wp2_with (first
      | (go_at_call 98; (with_reducible refine (Clone_rd _ y _ _ hy hyl).mono ?_); rintro e w2 ⟨v2, f2, rfl, r2, F2, t2⟩; obtain ⟨a2, c2, rfl, -⟩ := r2.ints)
      | (at_builtin; go_loud (refine wpList_push2f rfl _ _ 22 rfl B 25 i1 _ 24 Try.underlying22 hi hz0 hz1 hz2 rfl (by decide) (by decide) w (.slice al l.length cl) l fsl rfl HA.out HF.out (t2.alloc _) hB w2.heap.size 1 [.slice a2 y.length c2] y f2 rfl (lit_src w2 [.slice a2 y.length c2] _ rfl) (by intro u hu; simp at hu; subst hu; rfl) (Rp.keep r2 ((Only.refl _ _).alloc _)) (F2.keep ((Only.refl _ _).alloc _)) (by omega) ?_; intro v3 w3 hA3 hF3 hO3 hs3; obtain ⟨g3, c3, fp3, rfl, k1, k2, k3, R3, F3, hs4⟩ := hA3.drop1 rfl (by simp) hF3; rw [Hap.out] at k3 R3; have k4 : 1 < c3 := (by omega)))
      | fail "no arm")
    go_ret
    exact ⟨_, fp3, rfl, by rw [pushW_long hlong]; exact R3, F3, fun b hb => hs3 b (hs4 b hb), ((t2.alloc _).weaken _).trans hO3⟩
  · go_enter Try.func71, Try.ntmps71
    go_wp2_with (first
      | (go_at_call 98; (with_reducible refine (Clone_rd _ y _ _ hy hyl).mono ?_); rintro e w2 ⟨v2, f2, rfl, r2, F2, t2⟩; obtain ⟨a2, c2, rfl, -⟩ := r2.ints)
      | (at_builtin; go_loud (refine wpList_push2f rfl _ _ 22 rfl B 25 i1 _ 24 Try.underlying22 hi hz0 hz1 hz2 rfl (by decide) (by decide) w (.slice al l.length cl) l fsl rfl HA.out HF.out (t2.alloc _) hB w2.heap.size 1 [.slice a2 y.length c2] y f2 rfl (lit_src w2 [.slice a2 y.length c2] _ rfl) (by intro u hu; simp at hu; subst hu; rfl) (Rp.keep r2 ((Only.refl _ _).alloc _)) (F2.keep ((Only.refl _ _).alloc _)) (by omega) ?_; intro v3 w3 hA3 hF3 hO3 hs3; obtain ⟨a3, c3, rfl⟩ := hA3.form; have R3 := hA3.rd (by decide); have F3 := hA3.fresh hF3; rw [Hap.out] at R3 F3 hs3))
      | fail "no arm")
    go_ret
    exact ⟨_, _, rfl, by rw [pushW_short hlong]; exact R3, F3, hs3, ((t2.alloc _).weaken _).trans hO3⟩
end Go.Proofs.Ytpfmkjcngknecaa
