/- Valid sessions: the reference's and the program's functions. -/
import Derived.Test.YtpfmkjcngknecaaReach
import Derived.Test.YtpfmkjcngknecaaLawSession
import Derived.Test.YtpfmkjcngknecaaWord
namespace Go.Proofs.Ytpfmkjcngknecaa
open Go.RowKit
set_option maxRecDepth 10000

/-- the histories: at most 40 valid words of g generators -/
def wordsB (g : Int) (ws : List (List Int)) : Bool := decide (ws.length ≤ 40) && ws.all (validW g)
noncomputable def validSe (s : Session) : Bool := reachB s.puzzle s.state && (wordsB s.puzzle.moves.length s.history && wordsB s.puzzle.moves.length s.future)
theorem wordsB_len {g : Int} {ws : List (List Int)} (h : wordsB g ws = true) : ws.length ≤ 40 ∧ ∀ x ∈ ws, validW g x = true := by
  unfold wordsB at h
  rw [Bool.and_eq_true, decide_eq_true_iff, List.all_eq_true] at h; exact h
theorem wordsB_no {g : Int} {ws : List (List Int)} {j : Nat} (hj : j < ws.length) (h : validW g ws[j] = false) : wordsB g ws = false := by
  unfold wordsB
  have : ws.all (validW g) = false := by
    rw [List.all_eq_false]; exact ⟨ws[j], List.getElem_mem _, by simp [h]⟩
  rw [this]; simp
theorem wordsB_yes {g : Int} {ws : List (List Int)} (h : ws.length ≤ 40) (h2 : ∀ x ∈ ws, validW g x = true) : wordsB g ws = true := by
  unfold wordsB
  simp only [h, decide_true, Bool.true_and, List.all_eq_true]
  exact h2
theorem wordsB_long {g : Int} {ws : List (List Int)} (h : 40 < ws.length) : wordsB g ws = false := by
  unfold wordsB
  have : decide (ws.length ≤ 40) = false := by simp; omega
  rw [this]; rfl
theorem allR_step {pr : List Int → Bool} {l : List (List Int)} {j : Nat} (hj : j < l.length) (h : ∀ x ∈ l.take j, pr x = true) (hp : pr l[j] = true) : ∀ x ∈ l.take (j + 1), pr x = true := by
  rw [take_succ_get l j hj]; intro x hx
  rcases List.mem_append.1 hx with hx | hx
  · exact h x hx
  · simp at hx; subst hx; exact hp
set_option maxHeartbeats 1000000 in
theorem areWordsOf_rd (g : Int) (v : Value) (l : List (List Int)) (fp : List Nat) (w : World) (h : Rd w v l fp) (g0 : 0 ≤ g) (g1 : g ≤ 4611686018427387904) :
    Calls Try.prog 45 #[.int .i64 g, v] w fun e w' => e = .returned (.bool (wordsB g l)) ∧ Drew w w' := by
  obtain ⟨a, cap, ob, fps, rfl, -, hS⟩ := h.open_
  have hb := hS.bound
  by_cases hlen : 40 < l.length
  · go_enter Try.func45, Try.ntmps45
    go_wp2
    go_ret
    exact ⟨ret_bool (wordsB_long hlen).symm, Drew.refl _⟩
  go_enter Try.func45, Try.ntmps45
  go_wp2
  go_loopw [5] (fun i wr => ∃ j : Nat, j ≤ l.length ∧ i = .int .i64 j ∧ (∀ x ∈ l.take j, validW g x = true) ∧ Drew w wr)
    (fun i _ => l.length - (intOf i).toNat)
  case atStart => exact ⟨0, Nat.zero_le _, rfl, by simp, Drew.refl _⟩
  case round =>
    obtain ⟨W2, hnew⟩ : ∃ W, W = wr := ⟨_, rfl⟩
    subst hnew
    obtain ⟨j, hj, rfl, hall, hd⟩ := hrel
    have Hall := Lib.hid hall
    clear hall
    by_cases hlt : j < l.length
    · obtain ⟨b, off, u, rfl, -, hcu0, hru0⟩ := hS.atRow j hlt
      have hcu := (hd.only []).cell (by simp) hcu0
      have hru := Rp.keep hru0 (hd.only [])
      have Hru := Lib.hid hru
      clear hcu0 hru0 hru
      rcases hv : validW g l[j]
      · have Hv := Lib.hid hv
        clear hv
        go_wp2_with (first | (go_at_call 65; (with_reducible refine (isWordOf_rd g _ _ _ _ Hru.out g0 g1).mono ?_); rintro en w3 ⟨he, d3⟩; rw [Hv.out] at he; subst he) | fail "no arm")
        go_ret
        exact ⟨ret_bool (wordsB_no hlt Hv.out).symm, hd.trans d3⟩
      · have Hv := Lib.hid hv
        clear hv
        go_wp2_with (first | (go_at_call 65; (with_reducible refine (isWordOf_rd g _ _ _ _ Hru.out g0 g1).mono ?_); rintro en w3 ⟨he, d3⟩; rw [Hv.out] at he; subst he) | fail "no arm")
        go_roundw
        case rel => exact ⟨j + 1, by omega, by go_num, allR_step hlt Hall.out Hv.out, hd.trans d3⟩
        case measure => simp [intOf]; omega
    · go_wp2
      go_ret
      exact ⟨ret_bool (wordsB_yes (by omega) (by have := Hall.out; rwa [List.take_of_length_le (by omega)] at this)).symm, hd⟩
set_option maxHeartbeats 1000000 in
theorem implPIsWord_any (cs : List Value) (x : Puzzle) (fp : List Nat) (v : Value) (s : List Int) (fs : List Nat) (w : World) (h : Rp.rep w cs x fp) (hs : Rd w v s fs) (hm : x.moves.length ≤ 4611686018427387904) :
    Calls Try.prog 69 #[.agg cs.toArray, v] w fun e w' => e = .returned (.bool (validW x.moves.length s)) ∧ Only [] w w' := by
  obtain ⟨v2, rfl, p0, p1, h2⟩ := h
  obtain ⟨A2, C2, ob, fps, rfl, -, -⟩ := h2.open_
  go_enter Try.func69, Try.ntmps69
  go_wp2_with (first
    | (go_at_call 59; (with_reducible refine (lengthRows_rd _ x.moves _ _ (Rp.keep h2 (by with_reducible repeat (first | exact Only.refl _ _ | assumption | refine Only.drewN ?_ _ | refine Only.drew ?_ | refine Only.alloc ?_ _ | refine Only.setCell ?_ (by intro hh; exfalso; simp at hh; try omega) _ | refine Only.trans ?_ (by assumption))))).mono ?_); rintro e w1 ⟨rfl, rfl⟩)
    | (go_at_call 103; (with_reducible refine (IsValidWord_rd x.moves.length _ s _ _ (Rp.keep hs (by with_reducible repeat (first | exact Only.refl _ _ | assumption | refine Only.drewN ?_ _ | refine Only.drew ?_ | refine Only.alloc ?_ _ | refine Only.setCell ?_ (by intro hh; exfalso; simp at hh; try omega) _ | refine Only.trans ?_ (by assumption)))) (by omega) (by omega)).mono ?_); rintro e w2 ⟨rfl, t2⟩)
    | fail "no arm")
  go_ret
  exact ⟨rfl, (by with_reducible repeat (first | exact Only.refl _ _ | assumption | refine Only.drewN ?_ _ | refine Only.drew ?_ | refine Only.alloc ?_ _ | refine Only.setCell ?_ (by intro hh; exfalso; simp at hh; try omega) _ | refine Only.trans ?_ (by assumption)))⟩
set_option maxHeartbeats 1000000 in
theorem areSession_closure (x : Puzzle) (A2 : Option Addr) (C2 : Nat) (f2 : List Nat) (u : Value) (s : List Int) (fs : List Nat) (b : Nat) (w : World) (h : Rp.rep w [.int .i64 x.points, .string x.names, .slice A2 x.moves.length C2] x f2) (hs : Rd w u s fs) (hm : x.moves.length ≤ 4611686018427387904)
    (c0 : w.cell? ⟨b, 0, none⟩ = some (.int .i64 x.points)) (c1 : w.cell? ⟨b, 1, none⟩ = some (.string x.names)) (c2 : w.cell? ⟨b, 2, none⟩ = some (.slice A2 x.moves.length C2)) :
    Calls Try.prog 83 #[u, .pointer (some ⟨b, 0, none⟩)] w fun e w' => e = .returned (.bool (!validW x.moves.length s)) ∧ Only [] w w' := by
  go_enter Try.func83, Try.ntmps83
  go_wp2_with (first
    | (go_at_call 69; (with_reducible refine (implPIsWord_any [.int .i64 x.points, .string x.names, .slice A2 x.moves.length C2] x _ _ s _ _ (Rp.keep h (by with_reducible repeat (first | exact Only.refl _ _ | assumption | refine Only.drewN ?_ _ | refine Only.drew ?_ | refine Only.alloc ?_ _ | refine Only.setCell ?_ (by intro hh; exfalso; simp at hh; try omega) _ | refine Only.trans ?_ (by assumption)))) (Rp.keep hs (by with_reducible repeat (first | exact Only.refl _ _ | assumption | refine Only.drewN ?_ _ | refine Only.drew ?_ | refine Only.alloc ?_ _ | refine Only.setCell ?_ (by intro hh; exfalso; simp at hh; try omega) _ | refine Only.trans ?_ (by assumption)))) hm).mono ?_); rintro e w2 ⟨rfl, t2⟩)
    | fail "no arm")
  go_ret
  exact ⟨rfl, (by with_reducible repeat (first | exact Only.refl _ _ | assumption | refine Only.drewN ?_ _ | refine Only.drew ?_ | refine Only.alloc ?_ _ | refine Only.setCell ?_ (by intro hh; exfalso; simp at hh; try omega) _ | refine Only.trans ?_ (by assumption)))⟩
set_option maxHeartbeats 1000000 in
theorem areSessionWords_any (cs : List Value) (x : Puzzle) (fp : List Nat) (v : Value) (l : List (List Int)) (fs : List Nat) (w : World) (h : Rp.rep w cs x fp) (hs : Rd w v l fs) (hm : x.moves.length ≤ 4611686018427387904) :
    Calls Try.prog 47 #[.agg cs.toArray, v] w fun e w' => e = .returned (.bool (wordsB x.moves.length l)) ∧ Only [] w w' := by
  have h0 := h
  obtain ⟨v2, rfl, p0, p1, h2⟩ := h
  obtain ⟨A2, C2, ob, fps, rfl, -, -⟩ := h2.open_
  obtain ⟨a, cap, ob', fps', rfl, -, hS⟩ := hs.open_
  have hb := hS.bound
  by_cases hlen : l.length ≤ 40
  · have hend : (!(l.any fun y => !validW x.moves.length y)) = wordsB x.moves.length l := by
      unfold wordsB
      rw [List.not_any_eq_all_not, decide_eq_true hlen, Bool.true_and]; simp
    have He := Lib.hid hend
    clear hend
    have hB : Blk (w.alloc (.cells #[.int .i64 x.points, .string x.names, .slice A2 x.moves.length C2] 30)) w.heap.size [.int .i64 x.points, .string x.names, .slice A2 x.moves.length C2] := Blk.new w _ _
    have Hc := Lib.hid (ContainsFunc_rows 83 #[.pointer (some ⟨w.heap.size, 0, none⟩)] (fun y => !validW x.moves.length y) Try.call83 (.slice a l.length cap) l _ (w.alloc (.cells #[.int .i64 x.points, .string x.names, .slice A2 x.moves.length C2] 30)) (Rp.keep hs (by with_reducible repeat (first | exact Only.refl _ _ | assumption | refine Only.drewN ?_ _ | refine Only.drew ?_ | refine Only.alloc ?_ _ | refine Only.setCell ?_ (by intro hh; exfalso; simp at hh; try omega) _ | refine Only.trans ?_ (by assumption))))
      (fun y _ u f' w' hw hu => areSession_closure x A2 C2 _ u y f' w.heap.size w' (Rp.keep h0 (((Only.refl _ _).alloc _).trans hw)) hu hm ((hB.keep hw).cell 0 rfl) ((hB.keep hw).cell 1 rfl) ((hB.keep hw).cell 2 rfl)))
    clear hB
    go_enter Try.func47, Try.ntmps47
    go_wp2_with (first
      | (go_at_call 82; (with_reducible refine (Hc.out).mono ?_); rintro e w1 ⟨rfl, hk⟩)
      | fail "no arm")
    go_ret
    exact ⟨ret_bool He.out, (by with_reducible repeat (first | exact Only.refl _ _ | assumption | refine Only.drewN ?_ _ | refine Only.drew ?_ | refine Only.alloc ?_ _ | refine Only.setCell ?_ (by intro hh; exfalso; simp at hh; try omega) _ | refine Only.trans ?_ (by assumption)))⟩
  · go_enter Try.func47, Try.ntmps47
    go_wp2
    go_ret
    exact ⟨ret_bool (wordsB_long (by omega)).symm, (by with_reducible repeat (first | exact Only.refl _ _ | assumption | refine Only.drewN ?_ _ | refine Only.drew ?_ | refine Only.alloc ?_ _ | refine Only.setCell ?_ (by intro hh; exfalso; simp at hh; try omega) _ | refine Only.trans ?_ (by assumption)))⟩
set_option maxHeartbeats 2000000 in
theorem specIsValidSession_any (cs : List Value) (x : Session) (fp : List Nat) (w : World) (h : Rp.rep w cs x fp) :
    Calls Try.prog 11 #[.agg cs.toArray] w fun e w' => e = .returned (.bool (validSe x)) ∧ Only [] w w' := by
  have h0 := h
  obtain ⟨c0, v1, v2, v3, f0, f1, f2, f3, rfl, rfl, k0, k1, k2, k3⟩ := h
  have q0 := k0
  obtain ⟨u2, rfl, p0, p1, h2⟩ := q0
  obtain ⟨A2, C2, ob, fps, rfl, -, hsm⟩ := h2.open_
  have hb := hsm.len
  have hb2 := hsm.cap
  unfold maxLen at hb2
  obtain ⟨A3, C3, _, _, rfl, -, -⟩ := k1.open_
  obtain ⟨A4, C4, _, _, rfl, -, -⟩ := k2.open_
  obtain ⟨A5, C5, _, _, rfl, -, -⟩ := k3.open_
  rcases hq1 : reachB x.puzzle x.state
  · have Hf := Lib.hid (by unfold validSe; rw [hq1]; rfl : validSe x = false)
    go_enter Try.func11, Try.ntmps11
    go_wp2_with (first
      | (go_at_call 44; (with_reducible refine (specIsReachable_any [.int .i64 x.puzzle.points, .string x.puzzle.names, .slice A2 x.puzzle.moves.length C2] x.puzzle _ _ x.state _ _ (Rp.keep k0 (by with_reducible repeat (first | exact Only.refl _ _ | assumption | refine Only.drewN ?_ _ | refine Only.drew ?_ | refine Only.alloc ?_ _ | refine Only.setCell ?_ (by intro hh; exfalso; simp at hh; try omega) _ | refine Only.trans ?_ (by assumption)))) (Rp.keep k1 (by with_reducible repeat (first | exact Only.refl _ _ | assumption | refine Only.drewN ?_ _ | refine Only.drew ?_ | refine Only.alloc ?_ _ | refine Only.setCell ?_ (by intro hh; exfalso; simp at hh; try omega) _ | refine Only.trans ?_ (by assumption))))).mono ?_); rintro e w1 ⟨rfl, t1⟩; have y1 := t1.cells_eq w.heap.size (by simp) (by simp))
      | fail "no arm")
    go_ret
    exact ⟨ret_bool Hf.out.symm, (by with_reducible repeat (first | exact Only.refl _ _ | assumption | refine Only.drewN ?_ _ | refine Only.drew ?_ | refine Only.alloc ?_ _ | refine Only.setCell ?_ (by intro hh; exfalso; simp at hh; try omega) _ | refine Only.trans ?_ (by assumption)))⟩
  have hml := (stateB_pn (reachB_state hq1)).2.1
  rcases hq2 : wordsB x.puzzle.moves.length x.history
  · have Hf := Lib.hid (by unfold validSe; rw [hq1, hq2]; rfl : validSe x = false)
    go_enter Try.func11, Try.ntmps11
    go_wp2_with (first
      | (go_at_call 44; (with_reducible refine (specIsReachable_any [.int .i64 x.puzzle.points, .string x.puzzle.names, .slice A2 x.puzzle.moves.length C2] x.puzzle _ _ x.state _ _ (Rp.keep k0 (by with_reducible repeat (first | exact Only.refl _ _ | assumption | refine Only.drewN ?_ _ | refine Only.drew ?_ | refine Only.alloc ?_ _ | refine Only.setCell ?_ (by intro hh; exfalso; simp at hh; try omega) _ | refine Only.trans ?_ (by assumption)))) (Rp.keep k1 (by with_reducible repeat (first | exact Only.refl _ _ | assumption | refine Only.drewN ?_ _ | refine Only.drew ?_ | refine Only.alloc ?_ _ | refine Only.setCell ?_ (by intro hh; exfalso; simp at hh; try omega) _ | refine Only.trans ?_ (by assumption))))).mono ?_); rintro e w1 ⟨rfl, t1⟩; have y1 := t1.cells_eq w.heap.size (by simp) (by simp))
      | (go_at_call 45; (with_reducible refine (areWordsOf_rd x.puzzle.moves.length _ x.history _ _ (Rp.keep k2 (by with_reducible repeat (first | exact Only.refl _ _ | assumption | refine Only.drewN ?_ _ | refine Only.drew ?_ | refine Only.alloc ?_ _ | refine Only.setCell ?_ (by intro hh; exfalso; simp at hh; try omega) _ | refine Only.trans ?_ (by assumption)))) (by omega) (by omega)).mono ?_); rintro e w2 ⟨rfl, d2⟩; have t2 := d2.only []; have y2 := t2.cells_eq w.heap.size (by have := t1.size; simp at this; omega) (by simp))
      | fail "no arm")
    go_ret
    exact ⟨ret_bool Hf.out.symm, (by with_reducible repeat (first | exact Only.refl _ _ | assumption | refine Only.drewN ?_ _ | refine Only.drew ?_ | refine Only.alloc ?_ _ | refine Only.setCell ?_ (by intro hh; exfalso; simp at hh; try omega) _ | refine Only.trans ?_ (by assumption)))⟩
  · have Hf := Lib.hid (by unfold validSe; rw [hq1, hq2]; rfl : validSe x = wordsB x.puzzle.moves.length x.future)
    go_enter Try.func11, Try.ntmps11
    go_wp2_with (first
      | (go_at_call 44; (with_reducible refine (specIsReachable_any [.int .i64 x.puzzle.points, .string x.puzzle.names, .slice A2 x.puzzle.moves.length C2] x.puzzle _ _ x.state _ _ (Rp.keep k0 (by with_reducible repeat (first | exact Only.refl _ _ | assumption | refine Only.drewN ?_ _ | refine Only.drew ?_ | refine Only.alloc ?_ _ | refine Only.setCell ?_ (by intro hh; exfalso; simp at hh; try omega) _ | refine Only.trans ?_ (by assumption)))) (Rp.keep k1 (by with_reducible repeat (first | exact Only.refl _ _ | assumption | refine Only.drewN ?_ _ | refine Only.drew ?_ | refine Only.alloc ?_ _ | refine Only.setCell ?_ (by intro hh; exfalso; simp at hh; try omega) _ | refine Only.trans ?_ (by assumption))))).mono ?_); rintro e w1 ⟨rfl, t1⟩; have y1 := t1.cells_eq w.heap.size (by simp) (by simp))
      | (go_at_call 45; (with_reducible refine (areWordsOf_rd x.puzzle.moves.length _ x.history _ _ (Rp.keep k2 (by with_reducible repeat (first | exact Only.refl _ _ | assumption | refine Only.drewN ?_ _ | refine Only.drew ?_ | refine Only.alloc ?_ _ | refine Only.setCell ?_ (by intro hh; exfalso; simp at hh; try omega) _ | refine Only.trans ?_ (by assumption)))) (by omega) (by omega)).mono ?_); rintro e w2 ⟨rfl, d2⟩; have t2 := d2.only []; have y2 := t2.cells_eq w.heap.size (by have := t1.size; simp at this; omega) (by simp))
      | (go_at_call 45; (with_reducible refine (areWordsOf_rd x.puzzle.moves.length _ x.future _ _ (Rp.keep k3 (by with_reducible repeat (first | exact Only.refl _ _ | assumption | refine Only.drewN ?_ _ | refine Only.drew ?_ | refine Only.alloc ?_ _ | refine Only.setCell ?_ (by intro hh; exfalso; simp at hh; try omega) _ | refine Only.trans ?_ (by assumption)))) (by omega) (by omega)).mono ?_); rintro e w3 ⟨rfl, d3⟩; have t3 := d3.only [])
      | fail "no arm")
    go_ret
    exact ⟨ret_bool Hf.out.symm, (by with_reducible repeat (first | exact Only.refl _ _ | assumption | refine Only.drewN ?_ _ | refine Only.drew ?_ | refine Only.alloc ?_ _ | refine Only.setCell ?_ (by intro hh; exfalso; simp at hh; try omega) _ | refine Only.trans ?_ (by assumption)))⟩
set_option maxHeartbeats 2000000 in
theorem implIsValidSession_any (cs : List Value) (x : Session) (fp : List Nat) (w : World) (h : Rp.rep w cs x fp) :
    Calls Try.prog 13 #[.agg cs.toArray] w fun e w' => e = .returned (.bool (validSe x)) ∧ Only [] w w' := by
  have h0 := h
  obtain ⟨c0, v1, v2, v3, f0, f1, f2, f3, rfl, rfl, k0, k1, k2, k3⟩ := h
  have q0 := k0
  obtain ⟨u2, rfl, p0, p1, h2⟩ := q0
  obtain ⟨A2, C2, ob, fps, rfl, -, hsm⟩ := h2.open_
  have hb := hsm.len
  have hb2 := hsm.cap
  unfold maxLen at hb2
  obtain ⟨A3, C3, _, _, rfl, -, -⟩ := k1.open_
  obtain ⟨A4, C4, _, _, rfl, -, -⟩ := k2.open_
  obtain ⟨A5, C5, _, _, rfl, -, -⟩ := k3.open_
  rcases hq1 : reachB x.puzzle x.state
  · have Hf := Lib.hid (by unfold validSe; rw [hq1]; rfl : validSe x = false)
    go_enter Try.func13, Try.ntmps13
    go_wp2_with (first
      | (go_at_call 46; (with_reducible refine (implIsReachable_any [.int .i64 x.puzzle.points, .string x.puzzle.names, .slice A2 x.puzzle.moves.length C2] x.puzzle _ _ x.state _ _ (Rp.keep k0 (by with_reducible repeat (first | exact Only.refl _ _ | assumption | refine Only.drewN ?_ _ | refine Only.drew ?_ | refine Only.alloc ?_ _ | refine Only.setCell ?_ (by intro hh; exfalso; simp at hh; try omega) _ | refine Only.trans ?_ (by assumption)))) (Rp.keep k1 (by with_reducible repeat (first | exact Only.refl _ _ | assumption | refine Only.drewN ?_ _ | refine Only.drew ?_ | refine Only.alloc ?_ _ | refine Only.setCell ?_ (by intro hh; exfalso; simp at hh; try omega) _ | refine Only.trans ?_ (by assumption))))).mono ?_); rintro e w1 ⟨rfl, t1⟩; have y1 := t1.cells_eq w.heap.size (by simp) (by simp))
      | fail "no arm")
    go_ret
    exact ⟨ret_bool Hf.out.symm, (by with_reducible repeat (first | exact Only.refl _ _ | assumption | refine Only.drewN ?_ _ | refine Only.drew ?_ | refine Only.alloc ?_ _ | refine Only.setCell ?_ (by intro hh; exfalso; simp at hh; try omega) _ | refine Only.trans ?_ (by assumption)))⟩
  have hml := (stateB_pn (reachB_state hq1)).2.1
  rcases hq2 : wordsB x.puzzle.moves.length x.history
  · have Hf := Lib.hid (by unfold validSe; rw [hq1, hq2]; rfl : validSe x = false)
    go_enter Try.func13, Try.ntmps13
    go_wp2_with (first
      | (go_at_call 46; (with_reducible refine (implIsReachable_any [.int .i64 x.puzzle.points, .string x.puzzle.names, .slice A2 x.puzzle.moves.length C2] x.puzzle _ _ x.state _ _ (Rp.keep k0 (by with_reducible repeat (first | exact Only.refl _ _ | assumption | refine Only.drewN ?_ _ | refine Only.drew ?_ | refine Only.alloc ?_ _ | refine Only.setCell ?_ (by intro hh; exfalso; simp at hh; try omega) _ | refine Only.trans ?_ (by assumption)))) (Rp.keep k1 (by with_reducible repeat (first | exact Only.refl _ _ | assumption | refine Only.drewN ?_ _ | refine Only.drew ?_ | refine Only.alloc ?_ _ | refine Only.setCell ?_ (by intro hh; exfalso; simp at hh; try omega) _ | refine Only.trans ?_ (by assumption))))).mono ?_); rintro e w1 ⟨rfl, t1⟩; have y1 := t1.cells_eq w.heap.size (by simp) (by simp))
      | (go_at_call 47; (with_reducible refine (areSessionWords_any [.int .i64 x.puzzle.points, .string x.puzzle.names, .slice A2 x.puzzle.moves.length C2] x.puzzle _ _ x.history _ _ (Rp.keep k0 (by with_reducible repeat (first | exact Only.refl _ _ | assumption | refine Only.drewN ?_ _ | refine Only.drew ?_ | refine Only.alloc ?_ _ | refine Only.setCell ?_ (by intro hh; exfalso; simp at hh; try omega) _ | refine Only.trans ?_ (by assumption)))) (Rp.keep k2 (by with_reducible repeat (first | exact Only.refl _ _ | assumption | refine Only.drewN ?_ _ | refine Only.drew ?_ | refine Only.alloc ?_ _ | refine Only.setCell ?_ (by intro hh; exfalso; simp at hh; try omega) _ | refine Only.trans ?_ (by assumption)))) (by omega)).mono ?_); rintro e w2 ⟨rfl, t2⟩; have y2 := t2.cells_eq w.heap.size (by have := t1.size; simp at this; omega) (by simp))
      | fail "no arm")
    go_ret
    exact ⟨ret_bool Hf.out.symm, (by with_reducible repeat (first | exact Only.refl _ _ | assumption | refine Only.drewN ?_ _ | refine Only.drew ?_ | refine Only.alloc ?_ _ | refine Only.setCell ?_ (by intro hh; exfalso; simp at hh; try omega) _ | refine Only.trans ?_ (by assumption)))⟩
  · have Hf := Lib.hid (by unfold validSe; rw [hq1, hq2]; rfl : validSe x = wordsB x.puzzle.moves.length x.future)
    go_enter Try.func13, Try.ntmps13
    go_wp2_with (first
      | (go_at_call 46; (with_reducible refine (implIsReachable_any [.int .i64 x.puzzle.points, .string x.puzzle.names, .slice A2 x.puzzle.moves.length C2] x.puzzle _ _ x.state _ _ (Rp.keep k0 (by with_reducible repeat (first | exact Only.refl _ _ | assumption | refine Only.drewN ?_ _ | refine Only.drew ?_ | refine Only.alloc ?_ _ | refine Only.setCell ?_ (by intro hh; exfalso; simp at hh; try omega) _ | refine Only.trans ?_ (by assumption)))) (Rp.keep k1 (by with_reducible repeat (first | exact Only.refl _ _ | assumption | refine Only.drewN ?_ _ | refine Only.drew ?_ | refine Only.alloc ?_ _ | refine Only.setCell ?_ (by intro hh; exfalso; simp at hh; try omega) _ | refine Only.trans ?_ (by assumption))))).mono ?_); rintro e w1 ⟨rfl, t1⟩; have y1 := t1.cells_eq w.heap.size (by simp) (by simp))
      | (go_at_call 47; (with_reducible refine (areSessionWords_any [.int .i64 x.puzzle.points, .string x.puzzle.names, .slice A2 x.puzzle.moves.length C2] x.puzzle _ _ x.history _ _ (Rp.keep k0 (by with_reducible repeat (first | exact Only.refl _ _ | assumption | refine Only.drewN ?_ _ | refine Only.drew ?_ | refine Only.alloc ?_ _ | refine Only.setCell ?_ (by intro hh; exfalso; simp at hh; try omega) _ | refine Only.trans ?_ (by assumption)))) (Rp.keep k2 (by with_reducible repeat (first | exact Only.refl _ _ | assumption | refine Only.drewN ?_ _ | refine Only.drew ?_ | refine Only.alloc ?_ _ | refine Only.setCell ?_ (by intro hh; exfalso; simp at hh; try omega) _ | refine Only.trans ?_ (by assumption)))) (by omega)).mono ?_); rintro e w2 ⟨rfl, t2⟩; have y2 := t2.cells_eq w.heap.size (by have := t1.size; simp at this; omega) (by simp))
      | (go_at_call 47; (with_reducible refine (areSessionWords_any [.int .i64 x.puzzle.points, .string x.puzzle.names, .slice A2 x.puzzle.moves.length C2] x.puzzle _ _ x.future _ _ (Rp.keep k0 (by with_reducible repeat (first | exact Only.refl _ _ | assumption | refine Only.drewN ?_ _ | refine Only.drew ?_ | refine Only.alloc ?_ _ | refine Only.setCell ?_ (by intro hh; exfalso; simp at hh; try omega) _ | refine Only.trans ?_ (by assumption)))) (Rp.keep k3 (by with_reducible repeat (first | exact Only.refl _ _ | assumption | refine Only.drewN ?_ _ | refine Only.drew ?_ | refine Only.alloc ?_ _ | refine Only.setCell ?_ (by intro hh; exfalso; simp at hh; try omega) _ | refine Only.trans ?_ (by assumption)))) (by omega)).mono ?_); rintro e w3 ⟨rfl, t3⟩)
      | fail "no arm")
    go_ret
    exact ⟨ret_bool Hf.out.symm, (by with_reducible repeat (first | exact Only.refl _ _ | assumption | refine Only.drewN ?_ _ | refine Only.drew ?_ | refine Only.alloc ?_ _ | refine Only.setCell ?_ (by intro hh; exfalso; simp at hh; try omega) _ | refine Only.trans ?_ (by assumption)))⟩
end Go.Proofs.Ytpfmkjcngknecaa
