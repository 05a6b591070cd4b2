/- SessionLength: the reference's and the program's. -/
import Derived.Test.YtpfmkjcngknecaaWLen
import Derived.Test.YtpfmkjcngknecaaSeCopy
namespace Go.Proofs.Ytpfmkjcngknecaa
open Go.RowKit
set_option maxRecDepth 10000

/-- the letters or moves of a history -/
def totW (m : Int) (l : List (List Int)) : Nat := (l.map fun y => wLen y m).sum
theorem totW_snoc (m : Int) (l : List (List Int)) (y : List Int) : totW m (l ++ [y]) = totW m l + wLen y m := by simp [totW]
theorem totW_le (m : Int) : ∀ (l : List (List Int)), (∀ y ∈ l, y.length ≤ 200) → totW m l ≤ l.length * 200
  | [], _ => by simp [totW]
  | y :: l, h => by
    have h1 := totW_le m l fun z hz => h z (by simp [hz])
    have h2 := wLen_le y m
    have h3 := h y (by simp)
    have h4 : totW m (y :: l) = wLen y m + totW m l := by simp [totW]
    rw [h4, List.length_cons]
    omega
noncomputable def seLen (x : Session) (m : Int) : Int := if validSe x = true ∧ inR m 1 2 = true then (totW m x.history : Int) else -1
theorem seLen_no {x : Session} {m : Int} (h : validSe x = false) : seLen x m = -1 := by unfold seLen; rw [if_neg (by simp [h])]
theorem seLen_out {x : Session} {m : Int} (h : inR m 1 2 = false) : seLen x m = -1 := by unfold seLen; rw [if_neg (by simp [h])]
theorem seLen_yes {x : Session} {m : Int} (h : validSe x = true) (h2 : inR m 1 2 = true) : seLen x m = totW m x.history := by unfold seLen; rw [if_pos ⟨h, h2⟩]
theorem validSe_words {x : Session} (h : validSe x = true) : x.history.length ≤ 40 ∧ ∀ y ∈ x.history, validW 8 y = true ∧ y.length ≤ 200 ∧ ∀ z ∈ y, -1000 ≤ z ∧ z ≤ 1000 := by
  have hm := (validSe_facts h).2.1
  unfold validSe at h
  rw [Bool.and_eq_true, Bool.and_eq_true] at h
  obtain ⟨l1, l2⟩ := wordsB_len h.2.1
  refine ⟨l1, fun y hy => ?_⟩
  have h3 := l2 y hy
  unfold validW at h3 ⊢
  rw [Bool.and_eq_true, decide_eq_true_iff, List.all_eq_true] at h3
  refine ⟨?_, h3.1, fun z hz => ?_⟩
  · rw [Bool.and_eq_true, decide_eq_true_iff, List.all_eq_true]
    refine ⟨h3.1, fun z hz => ?_⟩
    have := okLetter_iff.1 (h3.2 z hz)
    exact okLetter_iff.2 ⟨this.1, by omega, by omega⟩
  · have := okLetter_iff.1 (h3.2 z hz)
    omega
set_option maxHeartbeats 4000000 in
theorem specSessionLength_any (cs : List Value) (x : Session) (fp : List Nat) (m : Int) (w : World) (h : Rp.rep w cs x fp) :
    Calls Try.prog 17 #[.agg cs.toArray, .int .i64 m] w fun e w' => e = .returned (.int .i64 (seLen x m)) ∧ Only [] w w' := by
  have h0 := h
  obtain ⟨c0, v1, v2, v3, f0, f1, f2, f3, rfl, rfl, k0, k1, k2, k3⟩ := h
  have q0 := k0
  obtain ⟨u2, rfl, p0, p1, h2⟩ := q0
  obtain ⟨A2, C2, _, _, rfl, -, -⟩ := h2.open_
  obtain ⟨A3, C3, _, _, rfl, -, -⟩ := k1.open_
  obtain ⟨A4, C4, ob, fps, rfl, -, hS⟩ := k2.open_
  obtain ⟨A5, C5, _, _, rfl, -, -⟩ := k3.open_
  clear p0 p1 h2 k0 k1 k2 k3
  rcases hq : validSe x
  · have Hf := Lib.hid (seLen_no (m := m) hq)
    have Hq := Lib.hid hq
    clear hq
    go_enter Try.func17, Try.ntmps17
    go_wp2_with (first
      | (go_at_call 11; (with_reducible refine (specIsValidSession_any [.int .i64 x.puzzle.points, .string x.puzzle.names, .slice A2 x.puzzle.moves.length C2, .slice A3 x.state.length C3, .slice A4 x.history.length C4, .slice A5 x.future.length C5] x _ _ (Rp.keep h0 (by with_reducible repeat (first | exact Only.refl _ _ | assumption | refine Only.drewN ?_ _ | refine Only.drew ?_ | refine Only.alloc ?_ _ | refine Only.setCell ?_ (by intro hh; exfalso; simp at hh; try omega) _ | refine Only.trans ?_ (by assumption))))).mono ?_); rintro e w1 ⟨he, t1⟩; rw [Hq.out] at he; subst he)
      | fail "no arm")
    go_ret
    exact ⟨ret_int Hf.out.symm, (by with_reducible repeat (first | exact Only.refl _ _ | assumption | refine Only.drewN ?_ _ | refine Only.drew ?_ | refine Only.alloc ?_ _ | refine Only.setCell ?_ (by intro hh; exfalso; simp at hh; try omega) _ | refine Only.trans ?_ (by assumption)))⟩
  rcases hi : inR m 1 2
  · have Hf := Lib.hid (seLen_out (x := x) hi)
    have Hq := Lib.hid hq
    have Hi := Lib.hid hi

    clear hq hi
    go_enter Try.func17, Try.ntmps17
    go_wp2_with (first
      | (go_at_call 11; (with_reducible refine (specIsValidSession_any [.int .i64 x.puzzle.points, .string x.puzzle.names, .slice A2 x.puzzle.moves.length C2, .slice A3 x.state.length C3, .slice A4 x.history.length C4, .slice A5 x.future.length C5] x _ _ (Rp.keep h0 (by with_reducible repeat (first | exact Only.refl _ _ | assumption | refine Only.drewN ?_ _ | refine Only.drew ?_ | refine Only.alloc ?_ _ | refine Only.setCell ?_ (by intro hh; exfalso; simp at hh; try omega) _ | refine Only.trans ?_ (by assumption))))).mono ?_); rintro e w1 ⟨he, t1⟩; rw [Hq.out] at he; subst he)
      | (go_at_call 54; (with_reducible refine (inRange_any m 1 2 _).mono ?_); rintro e w1 ⟨he, h2⟩; subst h2; rw [Hi.out] at he; subst he)
      | fail "no arm")
    go_ret
    exact ⟨ret_int Hf.out.symm, (by with_reducible repeat (first | exact Only.refl _ _ | assumption | refine Only.drewN ?_ _ | refine Only.drew ?_ | refine Only.alloc ?_ _ | refine Only.setCell ?_ (by intro hh; exfalso; simp at hh; try omega) _ | refine Only.trans ?_ (by assumption)))⟩
  obtain ⟨hhl, hhw⟩ := validSe_words hq
  have Hf := Lib.hid (seLen_yes hq hi)
  have Hw := Lib.hid hhw
  have Hq := Lib.hid hq
  have Hi := Lib.hid hi
  obtain ⟨m1, m2⟩ := inR_iff.1 hi
  have Hb := Lib.hid (fun k => totW_le m (x.history.take k) fun y hy => (hhw y (List.mem_of_mem_take hy)).2.1)

  clear hq hi hhw
  go_enter Try.func17, Try.ntmps17
  go_wp2_with (first
    | (go_at_call 11; (with_reducible refine (specIsValidSession_any [.int .i64 x.puzzle.points, .string x.puzzle.names, .slice A2 x.puzzle.moves.length C2, .slice A3 x.state.length C3, .slice A4 x.history.length C4, .slice A5 x.future.length C5] x _ _ (Rp.keep h0 (by with_reducible repeat (first | exact Only.refl _ _ | assumption | refine Only.drewN ?_ _ | refine Only.drew ?_ | refine Only.alloc ?_ _ | refine Only.setCell ?_ (by intro hh; exfalso; simp at hh; try omega) _ | refine Only.trans ?_ (by assumption))))).mono ?_); rintro e w1 ⟨he, t1⟩; rw [Hq.out] at he; subst he; have y1 := t1.cells_eq w.heap.size (by simp) (by simp))
    | (go_at_call 54; (with_reducible refine (inRange_any m 1 2 _).mono ?_); rintro e w1 ⟨he, h2⟩; subst h2; rw [Hi.out] at he; subst he)
    | fail "no arm")
  have hc4 : w1.cell? ⟨w.heap.size, 4, none⟩ = some (.slice A4 x.history.length C4) := ((Blk.new w [.int .i64 x.puzzle.points, .string x.puzzle.names, .slice A2 x.puzzle.moves.length C2, .slice A3 x.state.length C3, .slice A4 x.history.length C4, .slice A5 x.future.length C5] 32).keep t1).cell 4 rfl
  have K1 : Only [] w w1 := (by with_reducible repeat (first | exact Only.refl _ _ | assumption | refine Only.drewN ?_ _ | refine Only.drew ?_ | refine Only.alloc ?_ _ | refine Only.setCell ?_ (by intro hh; exfalso; simp at hh; try omega) _ | refine Only.trans ?_ (by assumption)))
  go_loopw [5, 6] (fun t i wr => ∃ j : Nat, j ≤ x.history.length ∧ t = .int .i64 (totW m (x.history.take j)) ∧ i = .int .i64 j ∧ Only [] w1 wr)
    (fun _ i _ => x.history.length - (intOf i).toNat)
  case atStart => exact ⟨0, Nat.zero_le _, rfl, rfl, Only.refl _ _⟩
  case round =>
    obtain ⟨W2, hnew⟩ : ∃ W, W = wr := ⟨_, rfl⟩
    subst hnew
    obtain ⟨j, hj, rfl, rfl, hK⟩ := hrel
    have hT := Hb.out j
    rw [List.length_take, Nat.min_eq_left hj] at hT
    obtain ⟨T, hTe⟩ : ∃ T, T = totW m (x.history.take j) := ⟨_, rfl⟩
    rw [← hTe] at hT ⊢
    have hc5 := hK.cell (by simp) hc4
    by_cases hlt : j < x.history.length
    · obtain ⟨b, off, u, rfl, -, hcu0, hru0⟩ := hS.atRow j hlt
      have hcu := (K1.trans hK).cell (by simp) hcu0
      have hru := Rp.keep hru0 (K1.trans hK)
      have Hru := Lib.hid hru
      have hst : totW m (x.history.take (j + 1)) = T + wLen x.history[j] m := by rw [take_succ_get _ j hlt, totW_snoc, ← hTe]
      have Hst := Lib.hid hst
      obtain ⟨w8, w2', w3'⟩ := Hw.out _ (List.getElem_mem hlt)
      have hle := wLen_le x.history[j] m
      have H8 := Lib.hid w8
      have H3 := Lib.hid w3'
      clear hcu0 hru0 hru hst hTe w8 w3'
      go_wp2_with (first
        | (go_at_call 55; (with_reducible refine (specWordLength_rd _ x.history[j] _ m _ Hru.out H8.out H3.out w2' m1 m2).mono ?_); rintro e w9 ⟨rfl, t9⟩)
        | fail "no arm")
      go_roundw
      case rel => exact ⟨j + 1, by omega, by rw [Hst.out]; go_num, by go_num, hK.trans t9⟩
      case measure => simp [intOf]; omega
    · obtain rfl : j = x.history.length := by omega
      have Ht := Lib.hid hTe
      clear hTe
      go_wp2
      go_ret
      exact ⟨ret_int (by rw [Hf.out, Ht.out, List.take_length]), K1.trans hK⟩
set_option maxHeartbeats 4000000 in
theorem implSessionLength_any (cs : List Value) (x : Session) (fp : List Nat) (m : Int) (w : World) (h : Rp.rep w cs x fp) :
    Calls Try.prog 18 #[.agg cs.toArray, .int .i64 m] w fun e w' => e = .returned (.int .i64 (seLen x m)) ∧ Only [] w w' := by
  have h0 := h
  obtain ⟨c0, v1, v2, v3, f0, f1, f2, f3, rfl, rfl, k0, k1, k2, k3⟩ := h
  have q0 := k0
  obtain ⟨u2, rfl, p0, p1, h2⟩ := q0
  obtain ⟨A2, C2, _, _, rfl, -, -⟩ := h2.open_
  obtain ⟨A3, C3, _, _, rfl, -, -⟩ := k1.open_
  obtain ⟨A4, C4, ob, fps, rfl, -, hS⟩ := k2.open_
  obtain ⟨A5, C5, _, _, rfl, -, -⟩ := k3.open_
  clear p0 p1 h2 k0 k1 k2 k3
  rcases hq : validSe x
  · have Hf := Lib.hid (seLen_no (m := m) hq)
    have Hq := Lib.hid hq
    clear hq
    go_enter Try.func18, Try.ntmps18
    go_wp2_with (first
      | (go_at_call 13; (with_reducible refine (implIsValidSession_any [.int .i64 x.puzzle.points, .string x.puzzle.names, .slice A2 x.puzzle.moves.length C2, .slice A3 x.state.length C3, .slice A4 x.history.length C4, .slice A5 x.future.length C5] x _ _ (Rp.keep h0 (by with_reducible repeat (first | exact Only.refl _ _ | assumption | refine Only.drewN ?_ _ | refine Only.drew ?_ | refine Only.alloc ?_ _ | refine Only.setCell ?_ (by intro hh; exfalso; simp at hh; try omega) _ | refine Only.trans ?_ (by assumption))))).mono ?_); rintro e w1 ⟨he, t1⟩; rw [Hq.out] at he; subst he)
      | fail "no arm")
    go_ret
    exact ⟨ret_int Hf.out.symm, (by with_reducible repeat (first | exact Only.refl _ _ | assumption | refine Only.drewN ?_ _ | refine Only.drew ?_ | refine Only.alloc ?_ _ | refine Only.setCell ?_ (by intro hh; exfalso; simp at hh; try omega) _ | refine Only.trans ?_ (by assumption)))⟩
  rcases hi : inR m 1 2
  · have Hf := Lib.hid (seLen_out (x := x) hi)
    have Hq := Lib.hid hq
    have Hi := Lib.hid hi
    have n1 : (m != 1) = true := by
      have := inR_not.1 hi
      simp; omega
    have n2 : (m != 2) = true := by
      have := inR_not.1 hi
      simp; omega
    clear hq hi
    go_enter Try.func18, Try.ntmps18
    go_wp2_with (first
      | (go_at_call 13; (with_reducible refine (implIsValidSession_any [.int .i64 x.puzzle.points, .string x.puzzle.names, .slice A2 x.puzzle.moves.length C2, .slice A3 x.state.length C3, .slice A4 x.history.length C4, .slice A5 x.future.length C5] x _ _ (Rp.keep h0 (by with_reducible repeat (first | exact Only.refl _ _ | assumption | refine Only.drewN ?_ _ | refine Only.drew ?_ | refine Only.alloc ?_ _ | refine Only.setCell ?_ (by intro hh; exfalso; simp at hh; try omega) _ | refine Only.trans ?_ (by assumption))))).mono ?_); rintro e w1 ⟨he, t1⟩; rw [Hq.out] at he; subst he)

      | fail "no arm")
    go_ret
    exact ⟨ret_int Hf.out.symm, (by with_reducible repeat (first | exact Only.refl _ _ | assumption | refine Only.drewN ?_ _ | refine Only.drew ?_ | refine Only.alloc ?_ _ | refine Only.setCell ?_ (by intro hh; exfalso; simp at hh; try omega) _ | refine Only.trans ?_ (by assumption)))⟩
  obtain ⟨hhl, hhw⟩ := validSe_words hq
  have Hf := Lib.hid (seLen_yes hq hi)
  have Hw := Lib.hid hhw
  have Hq := Lib.hid hq
  have Hi := Lib.hid hi
  obtain ⟨m1, m2⟩ := inR_iff.1 hi
  have Hb := Lib.hid (fun k => totW_le m (x.history.take k) fun y hy => (hhw y (List.mem_of_mem_take hy)).2.1)

  clear hq hi hhw
  clear Hi
  rcases (show m = 1 ∨ m = 2 by omega) with rfl | rfl
  · go_enter Try.func18, Try.ntmps18
    go_wp2_with (first
      | (go_at_call 13; (with_reducible refine (implIsValidSession_any [.int .i64 x.puzzle.points, .string x.puzzle.names, .slice A2 x.puzzle.moves.length C2, .slice A3 x.state.length C3, .slice A4 x.history.length C4, .slice A5 x.future.length C5] x _ _ (Rp.keep h0 (by with_reducible repeat (first | exact Only.refl _ _ | assumption | refine Only.drewN ?_ _ | refine Only.drew ?_ | refine Only.alloc ?_ _ | refine Only.setCell ?_ (by intro hh; exfalso; simp at hh; try omega) _ | refine Only.trans ?_ (by assumption))))).mono ?_); rintro e w1 ⟨he, t1⟩; rw [Hq.out] at he; subst he; have y1 := t1.cells_eq w.heap.size (by simp) (by simp))

      | fail "no arm")
    have hc4 : w1.cell? ⟨w.heap.size, 4, none⟩ = some (.slice A4 x.history.length C4) := ((Blk.new w [.int .i64 x.puzzle.points, .string x.puzzle.names, .slice A2 x.puzzle.moves.length C2, .slice A3 x.state.length C3, .slice A4 x.history.length C4, .slice A5 x.future.length C5] 32).keep t1).cell 4 rfl
    have K1 : Only [] w w1 := (by with_reducible repeat (first | exact Only.refl _ _ | assumption | refine Only.drewN ?_ _ | refine Only.drew ?_ | refine Only.alloc ?_ _ | refine Only.setCell ?_ (by intro hh; exfalso; simp at hh; try omega) _ | refine Only.trans ?_ (by assumption)))
    go_loopw [5, 22] (fun t i wr => ∃ j : Nat, j ≤ x.history.length ∧ t = .int .i64 (totW 1 (x.history.take j)) ∧ i = .int .i64 j ∧ Only [] w1 wr)
      (fun _ i _ => x.history.length - (intOf i).toNat)
    case atStart => exact ⟨0, Nat.zero_le _, rfl, rfl, Only.refl _ _⟩
    case round =>
      obtain ⟨W2, hnew⟩ : ∃ W, W = wr := ⟨_, rfl⟩
      subst hnew
      obtain ⟨j, hj, rfl, rfl, hK⟩ := hrel
      have hT := Hb.out j
      rw [List.length_take, Nat.min_eq_left hj] at hT
      obtain ⟨T, hTe⟩ : ∃ T, T = totW 1 (x.history.take j) := ⟨_, rfl⟩
      rw [← hTe] at hT ⊢
      have hc5 := hK.cell (by simp) hc4
      by_cases hlt : j < x.history.length
      · obtain ⟨b, off, u, rfl, -, hcu0, hru0⟩ := hS.atRow j hlt
        have hcu := (K1.trans hK).cell (by simp) hcu0
        have hru := Rp.keep hru0 (K1.trans hK)
        have Hru := Lib.hid hru
        have hst : totW 1 (x.history.take (j + 1)) = T + wLen x.history[j] 1 := by rw [take_succ_get _ j hlt, totW_snoc, ← hTe]
        have Hst := Lib.hid hst
        obtain ⟨w8, w2', w3'⟩ := Hw.out _ (List.getElem_mem hlt)
        have hle := wLen_le x.history[j] 1
        have H8 := Lib.hid w8
        have H3 := Lib.hid w3'
        clear hcu0 hru0 hru hst hTe w8 w3'
        go_wp2_with (first
          | (go_at_call 56; (with_reducible refine (implWordLength_rd _ x.history[j] _ 1 _ Hru.out H3.out w2' m1 m2).mono ?_); rintro e w9 ⟨rfl, t9⟩)
          | fail "no arm")
        go_roundw
        case rel => exact ⟨j + 1, by omega, by rw [Hst.out]; go_num, by go_num, hK.trans t9⟩
        case measure => simp [intOf]; omega
      · obtain rfl : j = x.history.length := by omega
        have Ht := Lib.hid hTe
        clear hTe
        go_wp2
        go_ret
        exact ⟨ret_int (by rw [Hf.out, Ht.out, List.take_length]), K1.trans hK⟩
  · go_enter Try.func18, Try.ntmps18
    go_wp2_with (first
      | (go_at_call 13; (with_reducible refine (implIsValidSession_any [.int .i64 x.puzzle.points, .string x.puzzle.names, .slice A2 x.puzzle.moves.length C2, .slice A3 x.state.length C3, .slice A4 x.history.length C4, .slice A5 x.future.length C5] x _ _ (Rp.keep h0 (by with_reducible repeat (first | exact Only.refl _ _ | assumption | refine Only.drewN ?_ _ | refine Only.drew ?_ | refine Only.alloc ?_ _ | refine Only.setCell ?_ (by intro hh; exfalso; simp at hh; try omega) _ | refine Only.trans ?_ (by assumption))))).mono ?_); rintro e w1 ⟨he, t1⟩; rw [Hq.out] at he; subst he; have y1 := t1.cells_eq w.heap.size (by simp) (by simp))

      | fail "no arm")
    have hc4 : w1.cell? ⟨w.heap.size, 4, none⟩ = some (.slice A4 x.history.length C4) := ((Blk.new w [.int .i64 x.puzzle.points, .string x.puzzle.names, .slice A2 x.puzzle.moves.length C2, .slice A3 x.state.length C3, .slice A4 x.history.length C4, .slice A5 x.future.length C5] 32).keep t1).cell 4 rfl
    have K1 : Only [] w w1 := (by with_reducible repeat (first | exact Only.refl _ _ | assumption | refine Only.drewN ?_ _ | refine Only.drew ?_ | refine Only.alloc ?_ _ | refine Only.setCell ?_ (by intro hh; exfalso; simp at hh; try omega) _ | refine Only.trans ?_ (by assumption)))
    go_loopw [5, 22] (fun t i wr => ∃ j : Nat, j ≤ x.history.length ∧ t = .int .i64 (totW 2 (x.history.take j)) ∧ i = .int .i64 j ∧ Only [] w1 wr)
      (fun _ i _ => x.history.length - (intOf i).toNat)
    case atStart => exact ⟨0, Nat.zero_le _, rfl, rfl, Only.refl _ _⟩
    case round =>
      obtain ⟨W2, hnew⟩ : ∃ W, W = wr := ⟨_, rfl⟩
      subst hnew
      obtain ⟨j, hj, rfl, rfl, hK⟩ := hrel
      have hT := Hb.out j
      rw [List.length_take, Nat.min_eq_left hj] at hT
      obtain ⟨T, hTe⟩ : ∃ T, T = totW 2 (x.history.take j) := ⟨_, rfl⟩
      rw [← hTe] at hT ⊢
      have hc5 := hK.cell (by simp) hc4
      by_cases hlt : j < x.history.length
      · obtain ⟨b, off, u, rfl, -, hcu0, hru0⟩ := hS.atRow j hlt
        have hcu := (K1.trans hK).cell (by simp) hcu0
        have hru := Rp.keep hru0 (K1.trans hK)
        have Hru := Lib.hid hru
        have hst : totW 2 (x.history.take (j + 1)) = T + wLen x.history[j] 2 := by rw [take_succ_get _ j hlt, totW_snoc, ← hTe]
        have Hst := Lib.hid hst
        obtain ⟨w8, w2', w3'⟩ := Hw.out _ (List.getElem_mem hlt)
        have hle := wLen_le x.history[j] 2
        have H8 := Lib.hid w8
        have H3 := Lib.hid w3'
        clear hcu0 hru0 hru hst hTe w8 w3'
        go_wp2_with (first
          | (go_at_call 56; (with_reducible refine (implWordLength_rd _ x.history[j] _ 2 _ Hru.out H3.out w2' m1 m2).mono ?_); rintro e w9 ⟨rfl, t9⟩)
          | fail "no arm")
        go_roundw
        case rel => exact ⟨j + 1, by omega, by rw [Hst.out]; go_num, by go_num, hK.trans t9⟩
        case measure => simp [intOf]; omega
      · obtain rfl : j = x.history.length := by omega
        have Ht := Lib.hid hTe
        clear hTe
        go_wp2
        go_ret
        exact ⟨ret_int (by rw [Hf.out, Ht.out, List.take_length]), K1.trans hK⟩
end Go.Proofs.Ytpfmkjcngknecaa
