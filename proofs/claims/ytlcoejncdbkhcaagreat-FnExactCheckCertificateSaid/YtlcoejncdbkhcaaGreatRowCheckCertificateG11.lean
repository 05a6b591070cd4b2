/- Whether a word solves a state: the reference's and the program's functions (laws 42, 43). Tracked sets, patterns and well-formed tables: the reference's and the program's. A table's faults, in plain words. Breadth-first search of patterns in plain words (law 16). Lists of one length in order; an index kept sorted by them (law 16). The reference's search: an index of lists kept sorted (law 16). Histories: a word more, a word less; copies of sessions. Copies of sessions: the reference's and the program's; what they are made of. (Printed by mkseops2.py.) PlayWord: the reference's and the program's. -/
import Derived.Test.YtlcoejncdbkhcaaGreatRowCheckCertificateG10
import Derived.Test.YtlcoejncdbkhcaaGreatRowCheckCertificateG3
import Derived.Test.YtlcoejncdbkhcaaGreatRowCheckCertificateG9
import Derived.Laws.CopyOwn
import Derived.BigQuiet
namespace Go.Proofs.YtlcoejncdbkhcaaGreat
open Go.RowKit
set_option maxRecDepth 10000

/-- a valid word that leads a state to the solved one -/
def solB (x : Puzzle) (s l : List Int) : Bool := validW x.moves.length l && decide (appW x s l = PM.pts x.points.toNat)
theorem appW_pn {x : Puzzle} {s l : List Int} (h : stateB x s = true) (hl : validW x.moves.length l = true) : PM.PN x.points.toNat (appW x s l) := by
  obtain ⟨-, a, b, c⟩ := stateB_pn h
  exact c.comp (evW_pn b l (validW_ltrs a hl).2)
theorem state_of_pn {x : Puzzle} {s t : List Int} (h : stateB x s = true) (ht : PM.PN x.points.toNat t) : stateB x t = true := by
  have h1 := (stateB_pn h).1
  unfold stateB at h ⊢
  rw [Bool.and_eq_true] at h ⊢
  exact ⟨h.1, (genB_iff h1.1 h1.2).2 ht⟩
theorem eqV_dec' {α : Type} [DecidableEq α] (a b : α) : eqV a b = decide (a = b) := by
  by_cases h : a = b
  · rw [eqV_yes h, decide_eq_true h]
  · rw [eqV_no h, decide_eq_false h]
set_option maxHeartbeats 1000000 in
theorem isIdentity_any (v : Value) (p : List Int) (fp : List Nat) (w : World) (h : Rd w v p fp) :
    Calls Tryz.prog 141 #[v] w fun e w' => e = .returned (.bool (decide (p = PM.pts p.length))) ∧ Only [] w w' := by
  obtain ⟨a, cap, rfl, hI⟩ := h.ints
  have hb := hI.bound
  go_enter Tryz.func141, Tryz.ntmps141
  go_wp2
  go_loopw [7] (fun i wr => ∃ j : Nat, j ≤ p.length ∧ i = .int .i64 j ∧ (∀ k (hk : k < p.length), k < j → p[k] = (k : Int)) ∧ Only [] w wr)
    (fun i _ => p.length - (intOf i).toNat)
  case atStart => exact ⟨0, Nat.zero_le _, rfl, fun k _ h => absurd h (Nat.not_lt_zero _), Only.refl _ _⟩
  case round =>
    obtain ⟨j, hj, rfl, hr, hK⟩ := hrel
    have Hr := Lib.hid hr
    clear hr
    by_cases hlt : j < p.length
    · obtain ⟨b, off, rfl, -, hc0⟩ := hI.at_ j hlt
      have hc := hK.cell (by simp) hc0
      clear hc0
      by_cases he : p[j] = (j : Int)
      · have hne : ((j : Int) != p[j]) = false := by simp [he]
        have He := Lib.hid he
        clear he
        go_wp2
        go_roundw
        case rel => exact ⟨j + 1, by omega, by go_num, fun k hk hkj => by
          by_cases hk2 : k < j
          · exact Hr.out k hk hk2
          · obtain rfl : k = j := by omega
            exact He.out, hK⟩
        case measure => simp [intOf]; omega
      · have hne : ((j : Int) != p[j]) = true := by simp; exact fun e => he e.symm
        have hno : p ≠ PM.pts p.length := fun e => he (by
          have h1 := PM.pts_get p.length j (by rw [PM.pts_len]; exact hlt)
          rw [← h1]
          exact List.getElem_of_eq e hlt)
        have Hno := Lib.hid hno
        clear he hno
        go_wp2
        go_ret
        exact ⟨ret_bool (decide_eq_false Hno.out).symm, hK⟩
    · have hall : p = PM.pts p.length := by
        apply List.ext_getElem (by rw [PM.pts_len])
        intro k h1 h2
        rw [PM.pts_get, Hr.out k h1 (by omega)]
      have Hall := Lib.hid hall
      clear hall
      go_wp2
      go_ret
      exact ⟨ret_bool (decide_eq_true Hall.out).symm, hK⟩
set_option maxHeartbeats 2000000 in
theorem implSolves_any (cs : List Value) (x : Puzzle) (fp : List Nat) (vs vl : Value) (s l : List Int) (fs fl : List Nat) (w : World) (h : Rp.rep w cs x fp) (hs : Rd w vs s fs) (hl : Rd w vl l fl) (hst : stateB x s = true) :
    Calls Tryz.prog 96 #[.agg cs.toArray, vs, vl] w fun e w' => e = .returned (.bool (solB x s l)) ∧ Only [] w w' := by
  have h0 := h
  obtain ⟨v2, rfl, p0, p1, h2⟩ := h
  have hml := (stateB_pn hst).2.1
  have X0 := Blk.new w [.int .i64 x.points, .string x.names, v2] 37
  simp only [List.toArray] at X0
  rcases hq : validW x.moves.length l
  · have Hf := Lib.hid (by unfold solB; rw [hq]; rfl : solB x s l = false)
    go_enter Tryz.func96, Tryz.ntmps96
    go_wp2_with ((go_at_call 140; (with_reducible refine (implPIsWord_any [.int .i64 x.points, .string x.names, v2] x _ vl l _ _ (Rp.keep h0 (by with_reducible repeat (first | exact Only.refl _ _ | assumption | refine Only.drewN ?_ _ | refine Only.drew ?_ | refine Only.alloc ?_ _ | refine Only.setCell ?_ (by intro hh; exfalso; simp at hh; try omega) _ | refine Only.trans ?_ (by assumption)))) (Rp.keep hl (by with_reducible repeat (first | exact Only.refl _ _ | assumption | refine Only.drewN ?_ _ | refine Only.drew ?_ | refine Only.alloc ?_ _ | refine Only.setCell ?_ (by intro hh; exfalso; simp at hh; try omega) _ | refine Only.trans ?_ (by assumption)))) (by omega)).mono ?_); rintro e w1 ⟨he, t1⟩; rw [hq] at he; subst he))
    go_ret
    exact ⟨ret_bool Hf.out.symm, (by with_reducible repeat (first | exact Only.refl _ _ | assumption | refine Only.drewN ?_ _ | refine Only.drew ?_ | refine Only.alloc ?_ _ | refine Only.setCell ?_ (by intro hh; exfalso; simp at hh; try omega) _ | refine Only.trans ?_ (by assumption)))⟩
  · have hap := appW_pn hst hq
    have Hf := Lib.hid (by unfold solB; rw [hq, Bool.true_and, hap.1] : solB x s l = decide (appW x s l = PM.pts (appW x s l).length))
    have Hlt := Lib.hid (validW_ltrs hml hq).2
    clear hap
    go_enter Tryz.func96, Tryz.ntmps96
    go_wp2_with (first
      | (go_at_call 140; (with_reducible refine (implPIsWord_any [.int .i64 x.points, .string x.names, v2] x _ vl l _ _ (Rp.keep h0 (by with_reducible repeat (first | exact Only.refl _ _ | assumption | refine Only.drewN ?_ _ | refine Only.drew ?_ | refine Only.alloc ?_ _ | refine Only.setCell ?_ (by intro hh; exfalso; simp at hh; try omega) _ | refine Only.trans ?_ (by assumption)))) (Rp.keep hl (by with_reducible repeat (first | exact Only.refl _ _ | assumption | refine Only.drewN ?_ _ | refine Only.drew ?_ | refine Only.alloc ?_ _ | refine Only.setCell ?_ (by intro hh; exfalso; simp at hh; try omega) _ | refine Only.trans ?_ (by assumption)))) (by omega)).mono ?_); rintro e w1 ⟨he, t1⟩; rw [hq] at he; subst he; have X1 := X0.keep t1; have y0 := X1.cell 0 rfl; have y1 := X1.cell 1 rfl; have y2 := X1.cell 2 rfl)
      | (go_at_call 142; (with_reducible refine (implApply_any [.int .i64 x.points, .string x.names, v2] x _ vs vl s l _ _ _ (Rp.keep h0 (by with_reducible repeat (first | exact Only.refl _ _ | assumption | refine Only.drewN ?_ _ | refine Only.drew ?_ | refine Only.alloc ?_ _ | refine Only.setCell ?_ (by intro hh; exfalso; simp at hh; try omega) _ | refine Only.trans ?_ (by assumption)))) (Rp.keep hs (by with_reducible repeat (first | exact Only.refl _ _ | assumption | refine Only.drewN ?_ _ | refine Only.drew ?_ | refine Only.alloc ?_ _ | refine Only.setCell ?_ (by intro hh; exfalso; simp at hh; try omega) _ | refine Only.trans ?_ (by assumption)))) (Rp.keep hl (by with_reducible repeat (first | exact Only.refl _ _ | assumption | refine Only.drewN ?_ _ | refine Only.drew ?_ | refine Only.alloc ?_ _ | refine Only.setCell ?_ (by intro hh; exfalso; simp at hh; try omega) _ | refine Only.trans ?_ (by assumption)))) hst Hlt.out).mono ?_); rintro e w2 ⟨u2, f2, rfl, r2, F2, t2⟩)
      | (go_at_call 141; (with_reducible refine (isIdentity_any u2 (appW x s l) _ _ (Rp.keep r2 (by with_reducible repeat (first | exact Only.refl _ _ | assumption | refine Only.drewN ?_ _ | refine Only.drew ?_ | refine Only.alloc ?_ _ | refine Only.setCell ?_ (by intro hh; exfalso; simp at hh; try omega) _ | refine Only.trans ?_ (by assumption))))).mono ?_); rintro e w3 ⟨rfl, t3⟩)
      | fail "no arm")
    go_ret
    exact ⟨ret_bool Hf.out.symm, (by with_reducible repeat (first | exact Only.refl _ _ | assumption | refine Only.drewN ?_ _ | refine Only.drew ?_ | refine Only.alloc ?_ _ | refine Only.setCell ?_ (by intro hh; exfalso; simp at hh; try omega) _ | refine Only.trans ?_ (by assumption)))⟩
set_option maxHeartbeats 2000000 in
theorem specApplyWord_no (cs : List Value) (x : Puzzle) (fp : List Nat) (vs vl : Value) (s l : List Int) (fs fl : List Nat) (w : World) (h : Rp.rep w cs x fp) (hs : Rd w vs s fs) (hl : Rd w vl l fl) (hst : stateB x s = true) (hq : validW x.moves.length l = false) :
    Calls Tryz.prog 192 #[.agg cs.toArray, vs, vl] w fun e w' => ∃ v, e = .returned (.tuple #[v, .bool false]) ∧ Only [] w w' := by
  have h0 := h
  obtain ⟨v2, rfl, p0, p1, h2⟩ := h
  obtain ⟨A2, C2, _, _, rfl, -, -⟩ := h2.open_
  have hml := (stateB_pn hst).2.1
  have X0 := Blk.new w [.int .i64 x.points, .string x.names, .slice A2 x.moves.length C2] 37
  simp only [List.toArray] at X0
  go_enter Tryz.func192, Tryz.ntmps192
  go_wp2_with (first
    | (go_at_call 68; (with_reducible refine (specIsState_any [.int .i64 x.points, .string x.names, .slice A2 x.moves.length C2] x _ vs s _ _ (Rp.keep h0 (by with_reducible repeat (first | exact Only.refl _ _ | assumption | refine Only.drewN ?_ _ | refine Only.drew ?_ | refine Only.alloc ?_ _ | refine Only.setCell ?_ (by intro hh; exfalso; simp at hh; try omega) _ | refine Only.trans ?_ (by assumption)))) (Rp.keep hs (by with_reducible repeat (first | exact Only.refl _ _ | assumption | refine Only.drewN ?_ _ | refine Only.drew ?_ | refine Only.alloc ?_ _ | refine Only.setCell ?_ (by intro hh; exfalso; simp at hh; try omega) _ | refine Only.trans ?_ (by assumption))))).mono ?_); rintro e w1 ⟨he, t1⟩; rw [hst] at he; subst he; have X1 := X0.keep t1; have y2 := X1.cell 2 rfl)
    | (go_at_call 173; (with_reducible refine (isWordOf_rd x.moves.length vl l _ _ (Rp.keep hl (by with_reducible repeat (first | exact Only.refl _ _ | assumption | refine Only.drewN ?_ _ | refine Only.drew ?_ | refine Only.alloc ?_ _ | refine Only.setCell ?_ (by intro hh; exfalso; simp at hh; try omega) _ | refine Only.trans ?_ (by assumption)))) (by omega) (by omega)).mono ?_); rintro e w2 ⟨he, d2⟩; rw [hq] at he; subst he; have t2 := d2.only [])
    | fail "no arm")
  exact bodyPost_ret (v := .tuple #[.slice (some ⟨w2.heap.size, 0, none⟩) 0 0, .bool false]) (by simp [results, Tryz.results192, go_sem]) rfl ⟨_, rfl, (by with_reducible repeat (first | exact Only.refl _ _ | assumption | refine Only.drewN ?_ _ | refine Only.drew ?_ | refine Only.alloc ?_ _ | refine Only.setCell ?_ (by intro hh; exfalso; simp at hh; try omega) _ | refine Only.trans ?_ (by assumption)))⟩
set_option maxHeartbeats 2000000 in
theorem specApplyWord_yes (cs : List Value) (x : Puzzle) (fp : List Nat) (vs vl : Value) (s l : List Int) (fs fl : List Nat) (w : World) (h : Rp.rep w cs x fp) (hs : Rd w vs s fs) (hl : Rd w vl l fl) (hst : stateB x s = true) (hq : validW x.moves.length l = true) :
    Calls Tryz.prog 192 #[.agg cs.toArray, vs, vl] w fun e w' => ∃ v fp', e = .returned (.tuple #[v, .bool true]) ∧ Rd w' v (appW x s l) fp' ∧ Fresh w.heap.size w' fp' ∧ Only [] w w' := by
  have h0 := h
  obtain ⟨v2, rfl, p0, p1, h2⟩ := h
  obtain ⟨A2, C2, _, _, rfl, -, -⟩ := h2.open_
  obtain ⟨⟨n1, n20⟩, hml, hmp, hpn⟩ := stateB_pn hst
  have hlt := (validW_ltrs hml hq).2
  have hev := evW_pn hmp l hlt
  have Hmp := Lib.hid hmp
  have Hpn := Lib.hid hpn
  have Hlt := Lib.hid hlt
  have Hev := Lib.hid hev
  clear hmp hpn hlt hev
  have X0 := Blk.new w [.int .i64 x.points, .string x.names, .slice A2 x.moves.length C2] 37
  simp only [List.toArray] at X0
  go_enter Tryz.func192, Tryz.ntmps192
  go_wp2_with (first
    | (go_at_call 68; (with_reducible refine (specIsState_any [.int .i64 x.points, .string x.names, .slice A2 x.moves.length C2] x _ vs s _ _ (Rp.keep h0 (by with_reducible repeat (first | exact Only.refl _ _ | assumption | refine Only.drewN ?_ _ | refine Only.drew ?_ | refine Only.alloc ?_ _ | refine Only.setCell ?_ (by intro hh; exfalso; simp at hh; try omega) _ | refine Only.trans ?_ (by assumption)))) (Rp.keep hs (by with_reducible repeat (first | exact Only.refl _ _ | assumption | refine Only.drewN ?_ _ | refine Only.drew ?_ | refine Only.alloc ?_ _ | refine Only.setCell ?_ (by intro hh; exfalso; simp at hh; try omega) _ | refine Only.trans ?_ (by assumption))))).mono ?_); rintro e w1 ⟨he, t1⟩; rw [hst] at he; subst he; have X1 := X0.keep t1; have y2 := X1.cell 2 rfl)
    | (go_at_call 173; (with_reducible refine (isWordOf_rd x.moves.length vl l _ _ (Rp.keep hl (by with_reducible repeat (first | exact Only.refl _ _ | assumption | refine Only.drewN ?_ _ | refine Only.drew ?_ | refine Only.alloc ?_ _ | refine Only.setCell ?_ (by intro hh; exfalso; simp at hh; try omega) _ | refine Only.trans ?_ (by assumption)))) (by omega) (by omega)).mono ?_); rintro e w2 ⟨he, d2⟩; rw [hq] at he; subst he; have t2 := d2.only []; have X2 := X1.keep t2; have z0 := X2.cell 0 rfl; have z2 := X2.cell 2 rfl)
    | (go_at_call 231; (with_reducible refine (specEvaluate_i x.points n1 n20 _ _ x.moves l _ _ _ (Rp.keep h2 (by with_reducible repeat (first | exact Only.refl _ _ | assumption | refine Only.drewN ?_ _ | refine Only.drew ?_ | refine Only.alloc ?_ _ | refine Only.setCell ?_ (by intro hh; exfalso; simp at hh; try omega) _ | refine Only.trans ?_ (by assumption)))) (Rp.keep hl (by with_reducible repeat (first | exact Only.refl _ _ | assumption | refine Only.drewN ?_ _ | refine Only.drew ?_ | refine Only.alloc ?_ _ | refine Only.setCell ?_ (by intro hh; exfalso; simp at hh; try omega) _ | refine Only.trans ?_ (by assumption)))) Hmp.out (by omega) Hlt.out).mono ?_); rintro en w3 ⟨v3, f3, rfl, r3, F3, t3⟩)
    | (go_at_call 230; (with_reducible refine (specCompose_rd x.points.toNat _ _ _ _ _ _ _ (Rp.keep hs (by with_reducible repeat (first | exact Only.refl _ _ | assumption | refine Only.drewN ?_ _ | refine Only.drew ?_ | refine Only.alloc ?_ _ | refine Only.setCell ?_ (by intro hh; exfalso; simp at hh; try omega) _ | refine Only.trans ?_ (by assumption)))) r3 Hpn.out Hev.out (by omega)).mono ?_); rintro en w4 ⟨v4, f4, rfl, r4, F4, t4⟩)
    | fail "no arm")
  exact bodyPost_ret (v := .tuple #[v4, .bool true]) (by simp [results, Tryz.results192, go_sem]) rfl ⟨_, f4, rfl, r4, F4.mono (Only.size (fp := []) (by with_reducible repeat (first | exact Only.refl _ _ | assumption | refine Only.drewN ?_ _ | refine Only.drew ?_ | refine Only.alloc ?_ _ | refine Only.setCell ?_ (by intro hh; exfalso; simp at hh; try omega) _ | refine Only.trans ?_ (by assumption)))), (by with_reducible repeat (first | exact Only.refl _ _ | assumption | refine Only.drewN ?_ _ | refine Only.drew ?_ | refine Only.alloc ?_ _ | refine Only.setCell ?_ (by intro hh; exfalso; simp at hh; try omega) _ | refine Only.trans ?_ (by assumption)))⟩
set_option maxHeartbeats 2000000 in
theorem specIsSolved_any (cs : List Value) (x : Puzzle) (fp : List Nat) (vs : Value) (s : List Int) (fs : List Nat) (w : World) (h : Rp.rep w cs x fp) (hs : Rd w vs s fs) (hst : stateB x s = true) :
    Calls Tryz.prog 193 #[.agg cs.toArray, vs] w fun e w' => e = .returned (.bool (eqV s (PM.pts x.points.toNat))) ∧ Only [] w w' := by
  have h0 := h
  obtain ⟨v2, rfl, p0, p1, h2⟩ := h
  obtain ⟨n1, n20⟩ := (stateB_pn hst).1
  have X0 := Blk.new w [.int .i64 x.points, .string x.names, v2] 37
  simp only [List.toArray] at X0
  go_enter Tryz.func193, Tryz.ntmps193
  go_wp2_with (first
    | (go_at_call 68; (with_reducible refine (specIsState_any [.int .i64 x.points, .string x.names, v2] x _ vs s _ _ (Rp.keep h0 (by with_reducible repeat (first | exact Only.refl _ _ | assumption | refine Only.drewN ?_ _ | refine Only.drew ?_ | refine Only.alloc ?_ _ | refine Only.setCell ?_ (by intro hh; exfalso; simp at hh; try omega) _ | refine Only.trans ?_ (by assumption)))) (Rp.keep hs (by with_reducible repeat (first | exact Only.refl _ _ | assumption | refine Only.drewN ?_ _ | refine Only.drew ?_ | refine Only.alloc ?_ _ | refine Only.setCell ?_ (by intro hh; exfalso; simp at hh; try omega) _ | refine Only.trans ?_ (by assumption))))).mono ?_); rintro e w1 ⟨he, t1⟩; rw [hst] at he; subst he; have X1 := X0.keep t1; have y0 := X1.cell 0 rfl)
    | (go_at_call 72; (with_reducible refine (specIdentity_i x.points _ (by omega) (by omega)).mono ?_); rintro e w2 ⟨v3, f3, rfl, r3, F3, t3⟩)
    | (go_at_call 201; (with_reducible refine (equalInts_rd vs v3 s (PM.pts x.points.toNat) _ _ _ (Rp.keep hs (by with_reducible repeat (first | exact Only.refl _ _ | assumption | refine Only.drewN ?_ _ | refine Only.drew ?_ | refine Only.alloc ?_ _ | refine Only.setCell ?_ (by intro hh; exfalso; simp at hh; try omega) _ | refine Only.trans ?_ (by assumption)))) (Rp.keep r3 (by with_reducible repeat (first | exact Only.refl _ _ | assumption | refine Only.drewN ?_ _ | refine Only.drew ?_ | refine Only.alloc ?_ _ | refine Only.setCell ?_ (by intro hh; exfalso; simp at hh; try omega) _ | refine Only.trans ?_ (by assumption))))).mono ?_); rintro e w3 ⟨rfl, d3⟩; have t4 := d3.only [])
    | fail "no arm")
  go_ret
  exact ⟨rfl, (by with_reducible repeat (first | exact Only.refl _ _ | assumption | refine Only.drewN ?_ _ | refine Only.drew ?_ | refine Only.alloc ?_ _ | refine Only.setCell ?_ (by intro hh; exfalso; simp at hh; try omega) _ | refine Only.trans ?_ (by assumption)))⟩
set_option maxHeartbeats 2000000 in
theorem specSolves_any (cs : List Value) (x : Puzzle) (fp : List Nat) (vs vl : Value) (s l : List Int) (fs fl : List Nat) (w : World) (h : Rp.rep w cs x fp) (hs : Rd w vs s fs) (hl : Rd w vl l fl) (hst : stateB x s = true) :
    Calls Tryz.prog 139 #[.agg cs.toArray, vs, vl] w fun e w' => e = .returned (.bool (solB x s l)) ∧ Only [] w w' := by
  have h0 := h
  obtain ⟨v2, rfl, p0, p1, h2⟩ := h
  have X0 := Blk.new w [.int .i64 x.points, .string x.names, v2] 37
  simp only [List.toArray] at X0
  rcases hq : validW x.moves.length l
  · have Hf := Lib.hid (by unfold solB; rw [hq]; rfl : solB x s l = false)
    go_enter Tryz.func139, Tryz.ntmps139
    go_wp2_with ((go_at_call 192; (with_reducible refine (specApplyWord_no [.int .i64 x.points, .string x.names, v2] x _ vs vl s l _ _ _ (Rp.keep h0 (by with_reducible repeat (first | exact Only.refl _ _ | assumption | refine Only.drewN ?_ _ | refine Only.drew ?_ | refine Only.alloc ?_ _ | refine Only.setCell ?_ (by intro hh; exfalso; simp at hh; try omega) _ | refine Only.trans ?_ (by assumption)))) (Rp.keep hs (by with_reducible repeat (first | exact Only.refl _ _ | assumption | refine Only.drewN ?_ _ | refine Only.drew ?_ | refine Only.alloc ?_ _ | refine Only.setCell ?_ (by intro hh; exfalso; simp at hh; try omega) _ | refine Only.trans ?_ (by assumption)))) (Rp.keep hl (by with_reducible repeat (first | exact Only.refl _ _ | assumption | refine Only.drewN ?_ _ | refine Only.drew ?_ | refine Only.alloc ?_ _ | refine Only.setCell ?_ (by intro hh; exfalso; simp at hh; try omega) _ | refine Only.trans ?_ (by assumption)))) hst hq).mono ?_); rintro e w1 ⟨u1, rfl, t1⟩))
    go_ret
    exact ⟨ret_bool Hf.out.symm, (by with_reducible repeat (first | exact Only.refl _ _ | assumption | refine Only.drewN ?_ _ | refine Only.drew ?_ | refine Only.alloc ?_ _ | refine Only.setCell ?_ (by intro hh; exfalso; simp at hh; try omega) _ | refine Only.trans ?_ (by assumption)))⟩
  · have hap := appW_pn hst hq
    have Hf := Lib.hid (by unfold solB; rw [hq, Bool.true_and, eqV_dec'] : solB x s l = eqV (appW x s l) (PM.pts x.points.toNat))
    have hst2 := state_of_pn hst hap
    clear hap
    go_enter Tryz.func139, Tryz.ntmps139
    go_wp2_with (first
      | (go_at_call 192; (with_reducible refine (specApplyWord_yes [.int .i64 x.points, .string x.names, v2] x _ vs vl s l _ _ _ (Rp.keep h0 (by with_reducible repeat (first | exact Only.refl _ _ | assumption | refine Only.drewN ?_ _ | refine Only.drew ?_ | refine Only.alloc ?_ _ | refine Only.setCell ?_ (by intro hh; exfalso; simp at hh; try omega) _ | refine Only.trans ?_ (by assumption)))) (Rp.keep hs (by with_reducible repeat (first | exact Only.refl _ _ | assumption | refine Only.drewN ?_ _ | refine Only.drew ?_ | refine Only.alloc ?_ _ | refine Only.setCell ?_ (by intro hh; exfalso; simp at hh; try omega) _ | refine Only.trans ?_ (by assumption)))) (Rp.keep hl (by with_reducible repeat (first | exact Only.refl _ _ | assumption | refine Only.drewN ?_ _ | refine Only.drew ?_ | refine Only.alloc ?_ _ | refine Only.setCell ?_ (by intro hh; exfalso; simp at hh; try omega) _ | refine Only.trans ?_ (by assumption)))) hst hq).mono ?_); rintro e w1 ⟨u1, f1, rfl, r1, F1, t1⟩; have X1 := X0.keep t1; have y0 := X1.cell 0 rfl; have y1 := X1.cell 1 rfl; have y2 := X1.cell 2 rfl)
      | (go_at_call 193; (with_reducible refine (specIsSolved_any [.int .i64 x.points, .string x.names, v2] x _ u1 (appW x s l) _ _ (Rp.keep h0 (by with_reducible repeat (first | exact Only.refl _ _ | assumption | refine Only.drewN ?_ _ | refine Only.drew ?_ | refine Only.alloc ?_ _ | refine Only.setCell ?_ (by intro hh; exfalso; simp at hh; try omega) _ | refine Only.trans ?_ (by assumption)))) (Rp.keep r1 (by with_reducible repeat (first | exact Only.refl _ _ | assumption | refine Only.drewN ?_ _ | refine Only.drew ?_ | refine Only.alloc ?_ _ | refine Only.setCell ?_ (by intro hh; exfalso; simp at hh; try omega) _ | refine Only.trans ?_ (by assumption)))) hst2).mono ?_); rintro e w2 ⟨rfl, t2⟩)
      | fail "no arm")
    go_ret
    exact ⟨ret_bool Hf.out.symm, (by with_reducible repeat (first | exact Only.refl _ _ | assumption | refine Only.drewN ?_ _ | refine Only.drew ?_ | refine Only.alloc ?_ _ | refine Only.setCell ?_ (by intro hh; exfalso; simp at hh; try omega) _ | refine Only.trans ?_ (by assumption)))⟩
end Go.Proofs.YtlcoejncdbkhcaaGreat

namespace Go.Proofs.YtlcoejncdbkhcaaGreat
open Go.RowKit
set_option maxRecDepth 10000

/-- a strictly increasing list of points of n -/
def Inc (n : Int) (l : List Int) : Prop := (∀ x ∈ l, 0 ≤ x ∧ x < n) ∧ l.Pairwise (· < ·)
instance (n : Int) (l : List Int) : Decidable (Inc n l) := inferInstanceAs (Decidable (_ ∧ _))
/-- distinct points of n -/
def Dis (n : Int) (l : List Int) : Prop := (∀ x ∈ l, 0 ≤ x ∧ x < n) ∧ l.Nodup
instance (n : Int) (l : List Int) : Decidable (Dis n l) := inferInstanceAs (Decidable (_ ∧ _))
def trackB (n : Int) (l : List Int) : Bool := decide (0 < l.length) && decide (Inc n l)
def patB (n : Int) (k : Nat) (l : List Int) : Bool := decide (l.length = k) && decide (Dis n l)
theorem pw_take_step {l : List Int} {j : Nat} (h : j < l.length) (h1 : (l.take j).Pairwise (· < ·)) (h2 : ∀ i (hi : i + 1 = j), l[i]'(by omega) < l[j]) : (l.take (j + 1)).Pairwise (· < ·) := by
  rw [take_succ_get l j h]
  refine List.pairwise_append.2 ⟨h1, by simp, fun a ha b hb => ?_⟩
  simp at hb; subst hb
  rcases Nat.eq_zero_or_pos j with h0 | h0
  · subst h0; simp at ha
  · obtain ⟨i, rfl⟩ : ∃ i, j = i + 1 := ⟨j - 1, by omega⟩
    have hi : i < l.length := by omega
    have h3 := h2 i rfl
    obtain ⟨k, hk, rfl⟩ := List.mem_take_iff_getElem.1 ha
    rcases Nat.lt_or_ge k i with hki | hki
    · rw [take_succ_get l i hi] at h1
      have := (List.pairwise_append.1 h1).2.2 l[k] (List.mem_take_iff_getElem.2 ⟨k, by omega, rfl⟩) l[i] (by simp)
      omega
    · have : k = i := by omega
      subst this; exact h3
theorem pw_take_not {l : List Int} {i : Nat} (h : i + 1 < l.length) (h2 : ¬ l[i] < l[i + 1]) : ¬ l.Pairwise (· < ·) := by
  intro hp
  exact h2 (List.pairwise_iff_getElem.1 hp i (i + 1) (by omega) h (by omega))
theorem inc_ge {l : List Int} (h0 : ∀ x ∈ l, 0 ≤ x) (hp : l.Pairwise (· < ·)) : ∀ k (hk : k < l.length), (k : Int) ≤ l[k] := by
  intro k
  induction k with
  | zero => intro hk; have := h0 _ (List.getElem_mem hk); omega
  | succ k ih =>
    intro hk
    have h1 := ih (by omega)
    have h2 := List.pairwise_iff_getElem.1 hp k (k + 1) (by omega) hk (by omega)
    omega
theorem Inc.len {n : Int} {l : List Int} (h : Inc n l) : (l.length : Int) ≤ n ∨ l.length = 0 := by
  rcases Nat.eq_zero_or_pos l.length with h0 | h0
  · exact .inr h0
  · left
    have h1 := inc_ge (fun x hx => (h.1 x hx).1) h.2 (l.length - 1) (by omega)
    have h2 := (h.1 l[l.length - 1] (List.getElem_mem _)).2
    omega
theorem pw_nodup {l : List Int} (h : l.Pairwise (· < ·)) : l.Nodup := by
  rw [List.nodup_iff_pairwise_ne]
  exact h.imp fun h => Int.ne_of_lt h
theorem Inc.dis {n : Int} {l : List Int} (h : Inc n l) : Dis n l := ⟨h.1, pw_nodup h.2⟩
theorem trackB_iff {n : Int} {l : List Int} : trackB n l = true ↔ 0 < l.length ∧ Inc n l := by simp [trackB]
theorem patB_iff {n : Int} {k : Nat} {l : List Int} : patB n k l = true ↔ l.length = k ∧ Dis n l := by simp [patB]
theorem trackB_no {n : Int} {l : List Int} (h : ¬ Inc n l) : trackB n l = false := by simp [trackB, h]
theorem trackB_pat {n : Int} {l : List Int} (h : trackB n l = true) : patB n l.length l = true := patB_iff.2 ⟨rfl, (trackB_iff.1 h).2.dis⟩
theorem wrap64_pred (i : Nat) (h : i < 9223372036854775807) : wrap64 (((i + 1 : Nat) : Int) - 1) = (i : Int) := by unfold wrap64; omega

set_option maxHeartbeats 1000000 in
theorem isPointList_any (n : Int) (a : Option Addr) (cap : Nat) (l : List Int) (fp : List Nat) (w : World) (h : IntsA w a cap l fp) (n0 : 0 ≤ n) (n1 : n ≤ 1000) :
    Calls Tryz.prog 214 #[.int .i64 n, .slice a l.length cap] w fun e w' => e = .returned (.bool (trackB n l)) ∧ Drew w w' := by
  have hb := h.bound
  rcases hq : inR l.length 1 n
  · go_enter Tryz.func214, Tryz.ntmps214
    go_wp2_with ((go_at_call 62; (with_reducible refine (inRange_any l.length 1 n _).mono ?_); rintro e w1 ⟨rfl, rfl⟩))
    go_ret
    exact ⟨ret_bool (by
      rw [eq_comm, ← Bool.not_eq_true, trackB_iff]; rintro ⟨h0, h1⟩
      rw [inR_not] at hq; have := h1.len; omega), Drew.refl _⟩
  obtain ⟨g1, g2⟩ := inR_iff.1 hq
  have hfin : trackB n l = decide (Inc n l) := by unfold trackB; rw [decide_eq_true (by omega)]; rfl
  have Hfin := Lib.hid hfin; clear hfin
  go_enter Tryz.func214, Tryz.ntmps214
  go_wp2_with ((go_at_call 62; (with_reducible refine (inRange_any l.length 1 n _).mono ?_); rintro e w ⟨rfl, rfl⟩))
  go_loopw [5] (fun i wr => ∃ j : Nat, j ≤ l.length ∧ i = .int .i64 j ∧ (∀ x ∈ l.take j, 0 ≤ x ∧ x < n) ∧ (l.take j).Pairwise (· < ·) ∧ Drew w wr)
    (fun i _ => l.length - (intOf i).toNat)
  case atStart => exact ⟨0, Nat.zero_le _, rfl, by simp, by simp, Drew.refl _⟩
  case round =>
    obtain ⟨j, hj, rfl, hr, hn, k, rfl⟩ := hrel
    have Hr := Lib.hid hr; clear hr
    have Hn := Lib.hid hn; clear hn
    by_cases hlt : j < l.length
    · rcases c1 : inR l[j] 0 (n - 1)
      · obtain ⟨b, off, rfl, -, hc⟩ := h.at_ j hlt
        go_wp2
        go_quiet ((go_at_call 62; exact quiet_drewN (inRange_q l[j] 0 (n - 1) _)))
        go_wp2
        go_ret
        exact ⟨ret_bool (by rw [Hfin.out, eq_comm, decide_eq_false_iff_not]; intro hp; have := hp.1 l[j] (List.getElem_mem _); rw [inR_not] at c1; omega), ((Drew.refl _).drewN _).drewN _⟩
      have hx := inR_iff.1 c1
      have Hx := Lib.hid hx; clear hx
      rcases Nat.eq_zero_or_pos j with hj0 | hj0
      · subst hj0
        obtain ⟨b, off, rfl, -, hc⟩ := h.at_ 0 hlt
        rw [Nat.add_zero] at hc
        go_wp2
        go_quiet ((go_at_call 62; exact quiet_drewN (inRange_q l[0] 0 (n - 1) _)))
        go_wp2
        go_roundw
        case rel => exact ⟨1, by omega, by go_num, mem_take_step hlt Hr.out (by have := Hx.out; omega), pw_take_step hlt Hn.out (by intro i hi; omega), ⟨_, rfl⟩⟩
        case measure => simp [intOf]; omega
      · obtain ⟨i, rfl⟩ : ∃ i, j = i + 1 := ⟨j - 1, by omega⟩
        have hi : i < l.length := by omega
        have hw := wrap64_pred i (by omega)
        have hgt : decide ((((i + 1 : Nat) : Int)) > 0) = true := decide_eq_true (by omega)
        obtain ⟨b, off, rfl, -, hc⟩ := h.at_ (i + 1) hlt
        obtain ⟨b2, off2, he, -, hc2⟩ := h.at_ i hi
        obtain ⟨rfl, rfl⟩ : b = b2 ∧ off = off2 := by simpa using he
        by_cases c2 : l[i + 1] ≤ l[i]
        · have d2 : decide (l[i + 1] ≤ l[i]) = true := decide_eq_true c2
          have C2 := Lib.hid c2; clear c2
          go_wp2
          go_quiet ((go_at_call 62; exact quiet_drewN (inRange_q l[i + 1] 0 (n - 1) _)))
          go_wp2
          go_ret
          exact ⟨ret_bool (by rw [Hfin.out, eq_comm, decide_eq_false_iff_not]; intro hp; exact pw_take_not hlt (by have := C2.out; omega) hp.2), ((Drew.refl _).drewN _).drewN _⟩
        · have d2 : decide (l[i + 1] ≤ l[i]) = false := decide_eq_false c2
          have C2 := Lib.hid c2; clear c2
          go_wp2
          go_quiet ((go_at_call 62; exact quiet_drewN (inRange_q l[i + 1] 0 (n - 1) _)))
          go_wp2
          go_roundw
          case rel => exact ⟨i + 2, by omega, by go_num, mem_take_step hlt Hr.out (by have := Hx.out; omega), pw_take_step hlt Hn.out (by
            intro q hq; have : q = i := (by omega); subst this; have := C2.out; omega), ⟨_, rfl⟩⟩
          case measure => simp [intOf]; omega
    · go_wp2
      go_ret
      exact ⟨ret_bool (by rw [Hfin.out, eq_comm, decide_eq_true_iff]; have h1 := Hr.out; have h2 := Hn.out; rw [List.take_of_length_le (by omega)] at h1 h2; exact ⟨h1, h2⟩), ⟨_, rfl⟩⟩
theorem isPointList_rd (n : Int) (v : Value) (l : List Int) (fp : List Nat) (w : World) (h : Rd w v l fp) (n0 : 0 ≤ n) (n1 : n ≤ 1000) :
    Calls Tryz.prog 214 #[.int .i64 n, v] w fun e w' => e = .returned (.bool (trackB n l)) ∧ Drew w w' := by
  obtain ⟨a, cap, rfl, hI⟩ := h.ints
  exact isPointList_any n a cap l fp w hI n0 n1
theorem isPoint_q (n x : Int) (w : World) (n0 : 0 ≤ n) (n1 : n ≤ 1000) :
    Calls Tryz.prog 239 #[.int .i64 n, .int .i64 x] w fun e w' => e = .returned (.bool (inR x 0 (n - 1))) ∧ Drew w w' := by
  go_enter Tryz.func239, Tryz.ntmps239
  go_wp2_with ((go_at_call 66; (with_reducible refine (within_any x 0 (n - 1) _).mono ?_); rintro e w1 ⟨rfl, rfl⟩))
  go_ret
  exact ⟨rfl, Drew.refl _⟩
set_option maxHeartbeats 1000000 in
theorem isTracked_any (n : Int) (a : Option Addr) (cap : Nat) (l : List Int) (fp : List Nat) (w : World) (h : IntsA w a cap l fp) (n0 : 0 ≤ n) (n1 : n ≤ 1000) :
    Calls Tryz.prog 221 #[.int .i64 n, .slice a l.length cap] w fun e w' => e = .returned (.bool (trackB n l)) ∧ Drew w w' := by
  have hb := h.bound
  go_enter Tryz.func221, Tryz.ntmps221
  go_wp2
  go_loopw [9] (fun i wr => ∃ j : Nat, j ≤ l.length ∧ i = .int .i64 j ∧ (∀ x ∈ l.take j, 0 ≤ x ∧ x < n) ∧ (l.take j).Pairwise (· < ·) ∧ Drew w wr)
    (fun i _ => l.length - (intOf i).toNat)
  case atStart => exact ⟨0, Nat.zero_le _, rfl, by simp, by simp, Drew.refl _⟩
  case round =>
    obtain ⟨j, hj, rfl, hr, hn, k, rfl⟩ := hrel
    have Hr := Lib.hid hr; clear hr
    have Hn := Lib.hid hn; clear hn
    by_cases hlt : j < l.length
    · rcases c1 : inR l[j] 0 (n - 1)
      · obtain ⟨b, off, rfl, -, hc⟩ := h.at_ j hlt
        go_wp2_with ((go_at_call 239; (with_reducible refine (isPoint_q n l[j] _ n0 n1).mono ?_); rintro e w1 ⟨rfl, m, rfl⟩))
        go_ret
        exact ⟨ret_bool (by rw [eq_comm]; exact trackB_no fun hp => by have := hp.1 l[j] (List.getElem_mem _); rw [inR_not] at c1; omega), ⟨_, rfl⟩⟩
      have hx := inR_iff.1 c1
      have Hx := Lib.hid hx; clear hx
      rcases Nat.eq_zero_or_pos j with hj0 | hj0
      · subst hj0
        obtain ⟨b, off, rfl, -, hc⟩ := h.at_ 0 hlt
        rw [Nat.add_zero] at hc
        go_wp2_with ((go_at_call 239; (with_reducible refine (isPoint_q n l[0] _ n0 n1).mono ?_); rintro e w1 ⟨rfl, m, rfl⟩))
        go_roundw
        case rel => exact ⟨1, by omega, by go_num, mem_take_step hlt Hr.out (by have := Hx.out; omega), pw_take_step hlt Hn.out (by intro i hi; omega), ⟨_, rfl⟩⟩
        case measure => simp [intOf]; omega
      · obtain ⟨i, rfl⟩ : ∃ i, j = i + 1 := ⟨j - 1, by omega⟩
        have hi : i < l.length := by omega
        have hw := wrap64_pred i (by omega)
        have hgt : decide ((((i + 1 : Nat) : Int)) > 0) = true := decide_eq_true (by omega)
        obtain ⟨b, off, rfl, -, hc⟩ := h.at_ (i + 1) hlt
        obtain ⟨b2, off2, he, -, hc2⟩ := h.at_ i hi
        obtain ⟨rfl, rfl⟩ : b = b2 ∧ off = off2 := by simpa using he
        by_cases c2 : l[i + 1] ≤ l[i]
        · have d2 : decide (l[i] ≥ l[i + 1]) = true := decide_eq_true c2
          have C2 := Lib.hid c2; clear c2
          go_wp2_with ((go_at_call 239; (with_reducible refine (isPoint_q n l[i + 1] _ n0 n1).mono ?_); rintro e w1 ⟨rfl, m, rfl⟩))
          go_ret
          exact ⟨ret_bool (by rw [eq_comm]; exact trackB_no fun hp => pw_take_not hlt (by have := C2.out; omega) hp.2), ⟨_, rfl⟩⟩
        · have d2 : decide (l[i] ≥ l[i + 1]) = false := decide_eq_false c2
          have C2 := Lib.hid c2; clear c2
          go_wp2_with ((go_at_call 239; (with_reducible refine (isPoint_q n l[i + 1] _ n0 n1).mono ?_); rintro e w1 ⟨rfl, m, rfl⟩))
          go_roundw
          case rel => exact ⟨i + 2, by omega, by go_num, mem_take_step hlt Hr.out (by have := Hx.out; omega), pw_take_step hlt Hn.out (by
            intro q hq; have : q = i := (by omega); subst this; have := C2.out; omega), ⟨_, rfl⟩⟩
          case measure => simp [intOf]; omega
    · go_wp2
      go_ret
      refine ⟨ret_bool ?_, ⟨_, rfl⟩⟩
      have h1 := Hr.out; have h2 := Hn.out; rw [List.take_of_length_le (by omega)] at h1 h2
      unfold trackB
      rw [decide_eq_true (show Inc n l from ⟨h1, h2⟩)]; simp
theorem isTracked_rd (n : Int) (v : Value) (l : List Int) (fp : List Nat) (w : World) (h : Rd w v l fp) (n0 : 0 ≤ n) (n1 : n ≤ 1000) :
    Calls Tryz.prog 221 #[.int .i64 n, v] w fun e w' => e = .returned (.bool (trackB n l)) ∧ Drew w w' := by
  obtain ⟨a, cap, rfl, hI⟩ := h.ints
  exact isTracked_any n a cap l fp w hI n0 n1
end Go.Proofs.YtlcoejncdbkhcaaGreat

namespace Go.Proofs.YtlcoejncdbkhcaaGreat
open Go.RowKit
set_option maxRecDepth 10000

theorem validPz_facts {x : Puzzle} (h : validPz x = true) : 1 ≤ x.points ∧ x.points ≤ 20 ∧ x.moves.length ≤ 8 ∧ ∀ y ∈ x.moves, (y.length : Int) = x.points ∧ permB y = true := by
  unfold validPz at h
  rw [Bool.and_eq_true] at h
  have h1 := h.1
  unfold gensB at h1
  rw [Bool.and_eq_true, Bool.and_eq_true, inR_iff, decide_eq_true_iff, List.all_eq_true] at h1
  refine ⟨h1.1.1.1, h1.1.1.2, h1.1.2, fun y hy => ?_⟩
  have := h1.2 y hy
  unfold genB at this
  simpa using this
theorem validPz_pn {x : Puzzle} (h : validPz x = true) : ∀ g ∈ x.moves, PM.PN x.points.toNat g := by
  intro g hg
  obtain ⟨h1, h2, h3, h4⟩ := validPz_facts h
  obtain ⟨h5, h6⟩ := h4 g hg
  exact ⟨by omega, (permB_iff.1 h6).2⟩
/-- the index of the first pattern that is this one, -1 if there is none -/
def idxL (l : List (List Int)) (p : List Int) : Int := idxF (fun q => decide (q = p)) l
/-- the pattern behind a letter -/
def nxt (x : Puzzle) (p : List Int) (l : Int) : List Int := PM.comp p (mv x.moves l)
/-- where a letter leads -/
def nextI (x : Puzzle) (t : Table) (p : List Int) (l : Int) : Int := idxL t.patterns (nxt x p l)
/-- a letter leads to an entry of this distance -/
def leads (x : Puzzle) (t : Table) (p : List Int) (d : Int) (l : Int) : Bool := decide (0 ≤ nextI x t p l) && decide (t.distances.getD (nextI x t p l).toNat 0 = d)
structure Fault where
  kind : Int
  entry : Int
  letter : Int
instance : Rp Fault where
  size := 3
  rep _ cs x fp := cs = [Value.int .i64 x.kind, Value.int .i64 x.entry, Value.int .i64 x.letter] ∧ (I64 x.kind ∧ I64 x.entry ∧ I64 x.letter) ∧ fp = []
  len h := by rw [h.1]; rfl
  frame h _ := h
  lt h := by rw [h.2.2]; simp
def one (b : Bool) (f : Fault) : List Fault := if b = true then [f] else []
theorem idxF_nonneg_or {α : Type} (pr : α → Bool) (l : List α) : idxF pr l = -1 ∨ ∃ k : Nat, ∃ h : k < l.length, idxF pr l = k ∧ pr l[k] = true := by
  unfold idxF
  cases h : l.findIdx? pr with
  | none => exact .inl rfl
  | some i =>
    right
    obtain ⟨hi, hp, -⟩ := List.findIdx?_eq_some_iff_getElem.1 h
    exact ⟨i, hi, rfl, hp⟩
theorem nxt_pat {x : Puzzle} {k : Nat} {p : List Int} {l : Int} (hv : validPz x = true) (hp : patB x.points k p = true) (hl : l ∈ ltrs x.moves.length) : patB x.points k (nxt x p l) = true := by
  obtain ⟨h1, h2, h3, h4⟩ := validPz_facts hv
  obtain ⟨h5, h6, h7⟩ := patB_iff.1 hp
  have hm := mv_pn (validPz_pn hv) hl
  refine patB_iff.2 ⟨by unfold nxt; rw [PM.comp_len]; exact h5, fun y hy => ?_, ?_⟩
  · obtain ⟨z, hz, rfl⟩ := List.mem_map.1 hy
    have := h6 z hz
    have := hm.rng this.1 (by omega)
    omega
  · unfold nxt PM.comp
    rw [List.nodup_iff_pairwise_ne, List.pairwise_map]
    refine (List.nodup_iff_pairwise_ne.1 h7).imp_of_mem fun {a b} ha hb hab he => hab ?_
    have h8 := h6 a ha; have h9 := h6 b hb
    exact hm.inj h8.1 (by omega) h9.1 (by omega) he
end Go.Proofs.YtlcoejncdbkhcaaGreat

namespace Go.Proofs.YtlcoejncdbkhcaaGreat
open Go.RowKit
set_option maxRecDepth 10000

/-- the patterns met so far and their depths -/
abbrev Met16 := List (List Int) × List Int
/-- a pattern of depth d is met; none: too many -/
def bMeet (s : Met16) (d : Int) (y : List Int) : Option Met16 := if y ∈ s.1 then some s else if s.1.length = 3000 then none else some (s.1 ++ [y], s.2 ++ [d])
/-- the letters from an entry -/
def bLets (x : Puzzle) (q : List Int) (d : Int) : List Int → Met16 → Option Met16
  | [], s => some s
  | l :: ls, s => (bMeet s d (nxt x q l)).bind (bLets x q d ls)
/-- the entries from the k-th on; n: enough -/
def bFrom (x : Puzzle) : Nat → Nat → Met16 → Option Met16
  | 0, _, s => some s
  | n + 1, k, s => if k < s.1.length then (bLets x (s.1.getD k []) (s.2.getD k 0 + 1) (ltrs x.moves.length) s).bind (bFrom x n (k + 1)) else some s
def bfs16 (x : Puzzle) (tr : List Int) : Option Met16 := if (validPz x && trackB x.points tr) = true then bFrom x 3001 0 ([tr], [0]) else none
theorem bMeet_len {s s' : Met16} {d : Int} {y : List Int} (h : bMeet s d y = some s') (h1 : s.1.length = s.2.length) (h2 : s.1.length ≤ 3000) : s'.1.length = s'.2.length ∧ s'.1.length ≤ 3000 ∧ s.1.length ≤ s'.1.length := by
  unfold bMeet at h
  split at h
  · injection h with h; subst h; exact ⟨h1, h2, Nat.le_refl _⟩
  · split at h
    · cases h
    · injection h with h; subst h; simp; omega
theorem bLets_len {x : Puzzle} {q : List Int} {d : Int} : ∀ {ls : List Int} {s s' : Met16}, bLets x q d ls s = some s' → s.1.length = s.2.length → s.1.length ≤ 3000 → s'.1.length = s'.2.length ∧ s'.1.length ≤ 3000 ∧ s.1.length ≤ s'.1.length
  | [], s, s', h, h1, h2 => by unfold bLets at h; injection h with h; subst h; exact ⟨h1, h2, Nat.le_refl _⟩
  | l :: ls, s, s', h, h1, h2 => by
    unfold bLets at h
    rw [Option.bind_eq_some_iff] at h
    obtain ⟨s1, e1, e2⟩ := h
    obtain ⟨a, b, c⟩ := bMeet_len e1 h1 h2
    obtain ⟨a', b', c'⟩ := bLets_len e2 a b
    exact ⟨a', b', Nat.le_trans c c'⟩
end Go.Proofs.YtlcoejncdbkhcaaGreat

namespace Go.Proofs.YtlcoejncdbkhcaaGreat
open Go.RowKit
set_option maxRecDepth 10000

/-- a precedes b -/
def prec : List Int → List Int → Bool
  | a :: xs, b :: ys => if a = b then prec xs ys else decide (a < b)
  | _, _ => false
theorem prec_irr : ∀ (a : List Int), prec a a = false
  | [] => rfl
  | a :: xs => by simp [prec, prec_irr xs]
theorem prec_trans : ∀ {a b c : List Int}, a.length = b.length → b.length = c.length → prec a b = true → prec b c = true → prec a c = true
  | [], _, _, _, _, h, _ => by cases h
  | _ :: _, [], _, h, _, _, _ => by cases h
  | _ :: _, _ :: _, [], _, h, _, _ => by cases h
  | a :: xs, b :: ys, c :: zs, h1, h2, h3, h4 => by
    unfold prec at h3 h4 ⊢
    by_cases e1 : a = b
    · by_cases e2 : b = c
      · rw [if_pos e1] at h3; rw [if_pos e2] at h4; rw [if_pos (e1.trans e2)]
        exact prec_trans (by simpa using h1) (by simpa using h2) h3 h4
      · rw [if_neg e2] at h4; subst e1; rw [if_neg e2]; exact h4
    · rw [if_neg e1] at h3
      have h3 := of_decide_eq_true h3
      by_cases e2 : b = c
      · subst e2; rw [if_neg e1]; exact decide_eq_true h3
      · rw [if_neg e2] at h4
        have h4 := of_decide_eq_true h4
        rw [if_neg (by omega)]; exact decide_eq_true (by omega)
theorem prec_tri : ∀ {a b : List Int}, a.length = b.length → a ≠ b → prec a b = false → prec b a = true
  | [], [], _, h, _ => absurd rfl h
  | [], _ :: _, h, _, _ => by cases h
  | _ :: _, [], h, _, _ => by cases h
  | a :: xs, b :: ys, h1, h2, h3 => by
    unfold prec at h3 ⊢
    by_cases e1 : a = b
    · subst e1
      rw [if_pos rfl] at h3 ⊢
      exact prec_tri (by simpa using h1) (fun e => h2 (by rw [e])) h3
    · rw [if_neg e1] at h3
      rw [if_neg (fun e => e1 e.symm)]
      have := of_decide_eq_false h3
      exact decide_eq_true (by omega)
theorem prec_drop : ∀ {a b : List Int} {j : Nat}, (∀ i, i < j → a[i]? = b[i]?) → j ≤ a.length → j ≤ b.length → prec a b = prec (a.drop j) (b.drop j)
  | _, _, 0, _, _, _ => by simp
  | [], _, j + 1, _, h, _ => by simp at h
  | _ :: _, [], j + 1, _, _, h => by simp at h
  | a :: xs, b :: ys, j + 1, h, h1, h2 => by
    have h0 := h 0 (by omega)
    simp only [List.getElem?_cons_zero, Option.some.injEq] at h0
    rw [List.drop_succ_cons, List.drop_succ_cons]
    rw [show prec (a :: xs) (b :: ys) = if a = b then prec xs ys else decide (a < b) from rfl, if_pos h0]
    exact prec_drop (fun i hi => by simpa using h (i + 1) (by omega)) (by simpa using h1) (by simpa using h2)
theorem prec_at {a b : List Int} {j : Nat} (h : ∀ i, i < j → a[i]? = b[i]?) (h1 : j < a.length) (h2 : j < b.length) (hne : a[j] ≠ b[j]) : prec a b = decide (a[j] < b[j]) := by
  rw [prec_drop h (by omega) (by omega), List.drop_eq_getElem_cons h1, List.drop_eq_getElem_cons h2]
  rw [show ∀ (x y : Int) (xs ys : List Int), prec (x :: xs) (y :: ys) = if x = y then prec xs ys else decide (x < y) from fun _ _ _ _ => rfl, if_neg hne]
theorem prec_all {a b : List Int} (h : ∀ i, i < a.length → a[i]? = b[i]?) (hl : a.length = b.length) : prec a b = false := by
  rw [prec_drop h (Nat.le_refl _) (by omega), List.drop_length]
  rfl

/-- so: an index of the lists L, sorted by them -/
structure Srt (m : Nat) (L : List (List Int)) (so : List Nat) : Prop where
  len : so.length = L.length
  many : ∀ x ∈ L, x.length = m
  in_ : ∀ i ∈ so, i < L.length
  all : ∀ i, i < L.length → i ∈ so
  asc : ∀ (i j : Nat) (hi : i < so.length) (hj : j < so.length), i < j → prec (L.getD so[i] []) (L.getD so[j] []) = true
theorem Srt.nil (m : Nat) : Srt m [] [] := ⟨rfl, by simp, by simp, by simp, by simp⟩
theorem Srt.mem {m : Nat} {L : List (List Int)} {so : List Nat} (h : Srt m L so) {i : Nat} (hi : i < so.length) : L.getD so[i] [] ∈ L := by
  have := h.in_ so[i] (List.getElem_mem hi)
  rw [List.getD_eq_getElem?_getD, List.getElem?_eq_getElem this]
  exact List.getElem_mem this
/-- k: the place at which s is or would be -/
structure Slot (L : List (List Int)) (so : List Nat) (s : List Int) (k : Nat) : Prop where
  le : k ≤ so.length
  lo : ∀ (i : Nat) (hi : i < so.length), i < k → prec (L.getD so[i] []) s = true
  hi : ∀ (i : Nat) (hi : i < so.length), k ≤ i → prec (L.getD so[i] []) s = false
theorem Srt.below {m : Nat} {L : List (List Int)} {so : List Nat} (h : Srt m L so) {s : List Int} (hs : s.length = m) {k : Nat} (hk : k < so.length) (hp : prec (L.getD so[k] []) s = true) {i : Nat} (hi : i < so.length) (hik : i ≤ k) : prec (L.getD so[i] []) s = true := by
  rcases Nat.lt_or_eq_of_le hik with hlt | rfl
  · exact prec_trans (by rw [h.many _ (h.mem hi), h.many _ (h.mem hk)]) (by rw [h.many _ (h.mem hk), hs]) (h.asc i k hi hk hlt) hp
  · exact hp
theorem Srt.above {m : Nat} {L : List (List Int)} {so : List Nat} (h : Srt m L so) {s : List Int} (hs : s.length = m) {k : Nat} (hk : k < so.length) (hp : prec (L.getD so[k] []) s = false) {i : Nat} (hi : i < so.length) (hik : k ≤ i) : prec (L.getD so[i] []) s = false := by
  rcases hq : prec (L.getD so[i] []) s
  · rfl
  · rw [h.below hs hi hq hk hik] at hp; cases hp
theorem Srt.slot_mem {m : Nat} {L : List (List Int)} {so : List Nat} (h : Srt m L so) {s : List Int} {k : Nat} (hk : Slot L so s k) : s ∈ L ↔ ∃ hk : k < so.length, L.getD so[k] [] = s := by
  constructor
  · intro hm
    obtain ⟨i, hi, he⟩ := List.mem_iff_getElem.1 hm
    obtain ⟨t, ht, hte⟩ := List.mem_iff_getElem.1 (h.all i hi)
    have hts : L.getD so[t] [] = s := by rw [hte, List.getD_eq_getElem?_getD, List.getElem?_eq_getElem hi]; exact he
    rcases Nat.lt_trichotomy t k with hlt | heq | hgt
    · have := hk.lo t ht hlt
      rw [hts, prec_irr] at this; cases this
    · subst heq; exact ⟨ht, hts⟩
    · have h1 := h.asc k t (by omega) ht hgt
      have h2 := hk.hi k (by omega) (Nat.le_refl _)
      rw [hts] at h1; rw [h1] at h2; cases h2
  · rintro ⟨hk, he⟩
    rw [← he]; exact h.mem hk
/-- one list more -/
theorem Srt.add {m : Nat} {L : List (List Int)} {so : List Nat} (h : Srt m L so) {s : List Int} (hs : s.length = m) (hn : s ∉ L) {k : Nat} (hk : Slot L so s k) : Srt m (L ++ [s]) (so.take k ++ L.length :: so.drop k) := by
  have hD : ∀ (t : Nat) (ht : t < so.length), (L ++ [s]).getD so[t] [] = L.getD so[t] [] := fun t ht => by
    have := h.in_ so[t] (List.getElem_mem ht)
    simp only [List.getD_eq_getElem?_getD, List.getElem?_append_left this]
  have hS : (L ++ [s]).getD L.length [] = s := by simp [List.getD_eq_getElem?_getD]
  have hle := hk.le
  have hG : ∀ (t : Nat) (ht : t < (so.take k ++ L.length :: so.drop k).length), (L ++ [s]).getD (so.take k ++ L.length :: so.drop k)[t] [] = if t < k then L.getD (so.getD t 0) [] else if t = k then s else L.getD (so.getD (t - 1) 0) [] := by
    intro t ht
    have htl : t < so.length + 1 := by simp at ht; omega
    by_cases h1 : t < k
    · rw [if_pos h1]
      rw [List.getElem_append_left (by simp; omega), List.getElem_take]
      rw [hD t (by omega)]
      simp [List.getD_eq_getElem?_getD, List.getElem?_eq_getElem (show t < so.length by omega)]
    · rw [if_neg h1]
      have hkl : (so.take k).length = k := by simp; omega
      rw [List.getElem_append_right (by rw [hkl]; omega)]
      by_cases h2 : t = k
      · subst h2; rw [if_pos rfl]; simp only [hkl, Nat.sub_self, List.getElem_cons_zero]; exact hS
      · rw [if_neg h2]
        have h3 : t - (so.take k).length = (t - 1 - k) + 1 := by rw [hkl]; omega
        simp only [h3, List.getElem_cons_succ, List.getElem_drop]
        have h4 : k + (t - 1 - k) = t - 1 := by omega
        have h5 : t - 1 < so.length := by omega
        simp only [h4]
        rw [hD _ h5]
        simp [List.getD_eq_getElem?_getD, List.getElem?_eq_getElem h5]
  refine ⟨?_, ?_, ?_, ?_, ?_⟩
  · have := h.len; simp; omega
  · intro x hx
    rcases List.mem_append.1 hx with hx | hx
    · exact h.many x hx
    · simp at hx; subst hx; exact hs
  · intro i hi
    rw [List.length_append, List.length_singleton]
    rcases List.mem_append.1 hi with hi | hi
    · have := h.in_ i (List.mem_of_mem_take hi); omega
    · rcases List.mem_cons.1 hi with rfl | hi
      · omega
      · have := h.in_ i (List.mem_of_mem_drop hi); omega
  · intro i hi
    rw [List.length_append, List.length_singleton] at hi
    by_cases he : i = L.length
    · subst he; simp
    · have := h.all i (by omega)
      rw [← List.take_append_drop k so] at this
      rcases List.mem_append.1 this with h1 | h1
      · exact List.mem_append_left _ h1
      · exact List.mem_append_right _ (List.mem_cons_of_mem _ h1)
  · intro i j hi hj hij
    rw [hG i hi, hG j hj]
    have hjl : j < so.length + 1 := by simp at hj; omega
    have gd : ∀ (t : Nat) (ht : t < so.length), so.getD t 0 = so[t] := fun t ht => by simp [List.getD_eq_getElem?_getD, List.getElem?_eq_getElem ht]
    by_cases j1 : j < k
    · rw [if_pos j1, if_pos (by omega), gd i (by omega), gd j (by omega)]
      exact h.asc i j (by omega) (by omega) hij
    · rw [if_neg j1]
      by_cases j2 : j = k
      · subst j2
        rw [if_pos rfl, if_pos hij, gd i (by omega)]
        exact hk.lo i (by omega) hij
      · rw [if_neg j2, gd (j - 1) (by omega)]
        by_cases i1 : i < k
        · rw [if_pos i1, gd i (by omega)]
          exact h.asc i (j - 1) (by omega) (by omega) (by omega)
        · rw [if_neg i1]
          by_cases i2 : i = k
          · rw [if_pos i2]
            have hj1 : j - 1 < so.length := by omega
            have hne : L.getD so[j - 1] [] ≠ s := fun e => hn (e ▸ h.mem hj1)
            exact prec_tri (by rw [h.many _ (h.mem hj1), hs]) hne (hk.hi (j - 1) hj1 (by omega))
          · rw [if_neg i2, gd (i - 1) (by omega)]
            exact h.asc (i - 1) (j - 1) (by omega) (by omega) (by omega)
end Go.Proofs.YtlcoejncdbkhcaaGreat

namespace Go.Proofs.YtlcoejncdbkhcaaGreat
open Go.RowKit
set_option maxRecDepth 10000

set_option maxHeartbeats 1000000 in
theorem listPrecedes_rd (v u : Value) (l p : List Int) (f g : List Nat) (w : World) (h : Rd w v l f) (h' : Rd w u p g) (hl : l.length = p.length) :
    Calls Tryz.prog 244 #[v, u] w fun e w' => e = .returned (.bool (prec l p)) ∧ Drew w w' := by
  obtain ⟨a, cap, rfl, IL⟩ := h.ints
  obtain ⟨a', cap', rfl, IP⟩ := h'.ints
  have hb := IL.bound
  have hb' := IP.bound
  have Hl := Lib.hid hl
  clear hl
  go_enter Tryz.func244, Tryz.ntmps244
  go_wp2
  go_loopw [5] (fun i wr => ∃ j : Nat, j ≤ l.length ∧ i = .int .i64 j ∧ (∀ i, i < j → l[i]? = p[i]?) ∧ Drew w wr)
    (fun i _ => l.length - (intOf i).toNat)
  case atStart => exact ⟨0, Nat.zero_le _, rfl, by simp, Drew.refl _⟩
  case round =>
    obtain ⟨j, hj, rfl, hr, n, rfl⟩ := hrel
    have Hr := Lib.hid hr
    clear hr
    by_cases hlt : j < l.length
    · have hlt' : j < p.length := by have := Hl.out; omega
      obtain ⟨b, off, rfl, -, hc⟩ := IL.at_ j hlt
      obtain ⟨b', off', rfl, -, hc'⟩ := IP.at_ j hlt'
      rcases hq : (l[j] != p[j])
      · have heq : l[j] = p[j] := by simpa using hq
        have Heq := Lib.hid heq
        clear heq
        go_wp2
        go_quiet (fail)
        go_wp2
        go_roundw
        case rel => exact ⟨j + 1, by omega, by go_num, fun i hi => by
          rcases Nat.lt_or_eq_of_le (Nat.lt_succ_iff.1 hi) with h1 | rfl
          · exact Hr.out i h1
          · rw [List.getElem?_eq_getElem hlt, List.getElem?_eq_getElem hlt', Heq.out], ⟨_, rfl⟩⟩
        case measure => simp [intOf]; omega
      · have hne : l[j] ≠ p[j] := by simpa using hq
        have Hne := Lib.hid hne
        clear hne
        go_wp2
        go_quiet (fail)
        go_wp2
        go_quiet (fail)
        go_wp2
        go_ret
        exact ⟨ret_bool (prec_at Hr.out hlt hlt' Hne.out).symm, (((Drew.refl _).drewN _).drewN _).drewN _⟩
    · obtain rfl : j = l.length := by omega
      go_wp2
      go_ret
      exact ⟨ret_bool (prec_all Hr.out Hl.out).symm, ⟨_, rfl⟩⟩
/-- the index as numbers -/
def soI (so : List Nat) : List Int := so.map fun i : Nat => (i : Int)
theorem soI_len (so : List Nat) : (soI so).length = so.length := by simp [soI]
theorem soI_get (so : List Nat) {j : Nat} (h : j < so.length) : (soI so)[j]'(by rw [soI_len]; exact h) = (so[j] : Int) := by simp [soI]
/-- what a search holds, as its functions read it -/
structure SrR (w : World) (A1 A2 A3 : Option Addr) (C1 C2 C3 : Nat) (L : List (List Int)) (D : List Int) (so : List Nat) (ob : List Nat) (fps : List (List Nat)) (fd fs : List Nat) : Prop where
  ls : SeqA w A1 C1 L ob fps
  dp : IntsA w A2 C2 D fd
  st : IntsA w A3 C3 (soI so) fs
theorem SrR.keep {w w' : World} {A1 A2 A3 : Option Addr} {C1 C2 C3 : Nat} {L : List (List Int)} {D : List Int} {so : List Nat} {ob : List Nat} {fps : List (List Nat)} {fd fs : List Nat} (h : SrR w A1 A2 A3 C1 C2 C3 L D so ob fps fd fs) (ho : Only [] w w') : SrR w' A1 A2 A3 C1 C2 C3 L D so ob fps fd fs :=
  ⟨h.ls.frame fun b hb => ho.block b (h.ls.lt_all b hb) (by simp), h.dp.keep ho, h.st.keep ho⟩
theorem SrR.only {w w' : World} {A1 A2 A3 : Option Addr} {C1 C2 C3 : Nat} {L : List (List Int)} {D : List Int} {so : List Nat} {ob : List Nat} {fps : List (List Nat)} {fd fs fp : List Nat} (h : SrR w A1 A2 A3 C1 C2 C3 L D so ob fps fd fs) (ho : Only fp w w') (hd : ∀ g ∈ (ob ++ fps.flatten) ++ (fd ++ fs), g ∉ fp) : SrR w' A1 A2 A3 C1 C2 C3 L D so ob fps fd fs :=
  ⟨h.ls.frame fun b hb => ho.block b (h.ls.lt_all b hb) (hd b (List.mem_append_left _ hb)), h.dp.only ho fun b hb => hd b (List.mem_append_right _ (List.mem_append_left _ hb)), h.st.only ho fun b hb => hd b (List.mem_append_right _ (List.mem_append_right _ hb))⟩
set_option maxHeartbeats 2000000 in
theorem searchSlot_any (A1 A2 A3 : Option Addr) (C1 C2 C3 : Nat) (wh : Bool) (L : List (List Int)) (D : List Int) (so : List Nat) (ob : List Nat) (fps : List (List Nat)) (fd fs : List Nat) (m : Nat) (v : Value) (s : List Int) (f : List Nat) (w : World)
    (h : SrR w A1 A2 A3 C1 C2 C3 L D so ob fps fd fs) (hS : Srt m L so) (hv : Rd w v s f) (hs : s.length = m) (hL : L.length ≤ 3000) :
    Calls Tryz.prog 237 #[.agg #[.slice A1 L.length C1, .slice A2 D.length C2, .slice A3 so.length C3, .bool wh], v] w fun e w' => ∃ k : Nat, e = .returned (.int .i64 k) ∧ Slot L so s k ∧ k ≤ 3000 ∧ Only [] w w' := by
  have hlen : so.length ≤ 3000 := by rw [hS.len]; exact hL
  have HS := Lib.hid hS
  clear hS
  go_enter Tryz.func237, Tryz.ntmps237
  go_wp2
  go_loopw [5, 6] (fun lo hi wr => ∃ a b : Nat, a ≤ b ∧ b ≤ so.length ∧ lo = .int .i64 a ∧ hi = .int .i64 b ∧ (∀ (i : Nat) (hi : i < so.length), i < a → prec (L.getD so[i] []) s = true) ∧ (∀ (i : Nat) (hi : i < so.length), b ≤ i → prec (L.getD so[i] []) s = false) ∧ Drew (w.alloc (.cells #[.slice A1 L.length C1, .slice A2 D.length C2, .slice A3 so.length C3, .bool wh] 128)) wr)
    (fun lo hi _ => (intOf hi - intOf lo).toNat)
  case atStart => exact ⟨0, so.length, Nat.zero_le _, Nat.le_refl _, rfl, rfl, by simp, fun i hi h => absurd hi (Nat.not_lt.2 h), Drew.refl _⟩
  case round =>
    obtain ⟨a, b, hab, hbl, rfl, rfl, hlo, hhi, n, rfl⟩ := hrel
    have Hlo := Lib.hid hlo
    have Hhi := Lib.hid hhi
    clear hlo hhi
    by_cases hlt : a < b
    · obtain ⟨mid, hmid⟩ : ∃ mid, mid = (a + b) / 2 := ⟨_, rfl⟩
      have hm1 : a ≤ mid := by omega
      have hm2 : mid < b := by omega
      have hq1 : ((a : Int) + (b : Int)) / 2 = (mid : Int) := by omega
      have hq2 : ((a : Int) + (b : Int)).tdiv 2 = (mid : Int) := by rw [Int.tdiv_eq_ediv_of_nonneg (by omega)]; exact hq1
      clear hmid
      have hml : mid < so.length := by omega
      obtain ⟨b3, off3, rfl, -, hc3⟩ := h.st.at_ mid (by rw [soI_len]; exact hml)
      have hin := HS.out.in_ so[mid] (List.getElem_mem hml)
      have hget := soI_get so hml
      obtain ⟨i0, hi0⟩ : ∃ i0, i0 = so[mid] := ⟨_, rfl⟩
      rw [hget, ← hi0] at hc3
      rw [← hi0] at hin
      obtain ⟨b1, off1, u, rfl, -, hc1, hu⟩ := h.ls.atRow i0 hin
      have hmany := HS.out.many L[i0] (List.getElem_mem hin)
      have hlu : L[i0].length = s.length := by rw [hmany, hs]
      have hD : L.getD so[mid] [] = L[i0] := by rw [← hi0, List.getD_eq_getElem?_getD, List.getElem?_eq_getElem hin]; rfl
      have HD := Lib.hid hD
      have HU := Lib.hid hlu
      have K : Only [] w (w.alloc (.cells #[.slice (some ⟨b1, off1, none⟩) L.length C1, .slice A2 D.length C2, .slice (some ⟨b3, off3, none⟩) so.length C3, .bool wh] 128)) := (Only.refl _ _).alloc _
      have hk3 := K.cell (by simp) hc3
      have hk1 := K.cell (by simp) hc1
      clear hget hi0 hmany hlu hD
      go_wp2
      go_quiet ((go_at_call 244; exact quiet_drewN (listPrecedes_rd u v L[i0] s _ _ _ (Rp.keep hu (K.drewN _)) (Rp.keep hv (K.drewN _)) HU.out)))
      go_wp2
      · have hp : prec L[i0] s = true := by assumption
        go_roundw
        case rel => exact ⟨mid + 1, b, by omega, hbl, by go_num, by go_num, fun i hi h1 => HS.out.below hs hml (by rw [HD.out]; exact hp) hi (by omega), Hhi.out, by first | exact (Drew.refl _).drewN _ | exact ((Drew.refl _).drewN _).drewN _⟩
        case measure => simp [intOf]; omega
      · have hp : prec L[i0] s = false := by assumption
        go_roundw
        case rel => exact ⟨a, mid, hm1, by omega, by go_num, by go_num, Hlo.out, fun i hi h1 => HS.out.above hs hml (by rw [HD.out]; exact hp) hi h1, by first | exact (Drew.refl _).drewN _ | exact ((Drew.refl _).drewN _).drewN _⟩
        case measure => simp [intOf]; omega
    · obtain rfl : a = b := by omega
      go_wp2
      go_ret
      exact ⟨a, rfl, ⟨hbl, Hlo.out, Hhi.out⟩, by omega, (by with_reducible repeat (first | exact Only.refl _ _ | assumption | refine Only.drewN ?_ _ | refine Only.drew ?_ | refine Only.alloc ?_ _ | refine Only.setCell ?_ (by intro hh; exfalso; simp at hh; try omega) _ | refine Only.trans ?_ (by assumption)))⟩
set_option maxHeartbeats 2000000 in
theorem searchIndex_at (A1 A2 A3 : Option Addr) (C1 C2 C3 : Nat) (wh : Bool) (L : List (List Int)) (D : List Int) (so : List Nat) (ob : List Nat) (fps : List (List Nat)) (fd fs : List Nat) (m : Nat) (v : Value) (s : List Int) (f : List Nat) (w : World)
    (h : SrR w A1 A2 A3 C1 C2 C3 L D so ob fps fd fs) (hS : Srt m L so) (hv : Rd w v s f) (hs : s.length = m) (hL : L.length ≤ 3000) :
    Calls Tryz.prog 212 #[.agg #[.slice A1 L.length C1, .slice A2 D.length C2, .slice A3 so.length C3, .bool wh], v] w fun e w' => ∃ r : Int, e = .returned (.int .i64 r) ∧ (0 ≤ r ↔ s ∈ L) ∧ (r = -1 ∨ ∃ i : Nat, r = i ∧ i < L.length ∧ L.getD i [] = s) ∧ Only [] w w' := by
  have hlen : so.length ≤ 3000 := by rw [hS.len]; exact hL
  have HS := Lib.hid hS
  clear hS
  have K : Only [] w (w.alloc (.cells #[.slice A1 L.length C1, .slice A2 D.length C2, .slice A3 so.length C3, .bool wh] 128)) := (Only.refl _ _).alloc _
  have hB := Blk.new w [.slice A1 L.length C1, .slice A2 D.length C2, .slice A3 so.length C3, .bool wh] 128
  go_enter Tryz.func212, Tryz.ntmps212
  go_wp2_with (first
    | (go_at_call 237; (with_reducible refine (searchSlot_any A1 A2 A3 C1 C2 C3 wh L D so ob fps fd fs m _ s f _ (h.keep K) HS.out (Rp.keep hv K) hs hL).mono ?_); rintro e w1 ⟨k, rfl, hk, hk3, t1⟩; have y0 := (hB.keep t1).cell 0 rfl; have y2 := (hB.keep t1).cell 2 rfl)
    | fail "no arm")
  have KK := K.trans t1
  have Hk := Lib.hid hk
  clear hk
  by_cases hlt : k < so.length
  · obtain ⟨b3, off3, rfl, -, hc3⟩ := h.st.at_ k (by rw [soI_len]; exact hlt)
    have hin := HS.out.in_ so[k] (List.getElem_mem hlt)
    have hget := soI_get so hlt
    obtain ⟨i0, hi0⟩ : ∃ i0, i0 = so[k] := ⟨_, rfl⟩
    rw [hget, ← hi0] at hc3
    rw [← hi0] at hin
    obtain ⟨b1, off1, u, rfl, -, hc1, hu⟩ := h.ls.atRow i0 hin
    have hD : L.getD so[k] [] = L[i0] := by rw [← hi0, List.getD_eq_getElem?_getD, List.getElem?_eq_getElem hin]; rfl
    have HD := Lib.hid hD
    have hk3' := KK.cell (by simp) hc3
    have hk1 := KK.cell (by simp) hc1
    clear hget hi0 hD hc3 hc1 hB
    go_quiet ((go_at_call 201; exact quiet_drewN0 (equalInts_rd u v L[i0] s _ _ _ (Rp.keep hu (KK.drewN _)) (Rp.keep hv (KK.drewN _)))))
    go_wp2
    · have hp : eqV L[i0] s = true := by assumption
      go_ret
      exact ⟨i0, rfl, ⟨fun _ => (HS.out.slot_mem Hk.out).2 ⟨hlt, HD.out.trans (eqV_iff.1 hp)⟩, fun _ => by omega⟩, .inr ⟨i0, rfl, hin, by rw [List.getD_eq_getElem?_getD, List.getElem?_eq_getElem hin]; exact eqV_iff.1 hp⟩, (by with_reducible repeat (first | exact Only.refl _ _ | assumption | refine Only.drewN ?_ _ | refine Only.drew ?_ | refine Only.alloc ?_ _ | refine Only.setCell ?_ (by intro hh; exfalso; simp at hh; try omega) _ | refine Only.trans ?_ (by assumption)))⟩
    · have hp : eqV L[i0] s = false := by assumption
      go_ret
      exact ⟨-1, rfl, ⟨fun h => by omega, fun h => by
        obtain ⟨_, he⟩ := (HS.out.slot_mem Hk.out).1 h
        exact absurd (HD.out.symm.trans he) (eqV_iff'.1 hp)⟩, .inl rfl, (by with_reducible repeat (first | exact Only.refl _ _ | assumption | refine Only.drewN ?_ _ | refine Only.drew ?_ | refine Only.alloc ?_ _ | refine Only.setCell ?_ (by intro hh; exfalso; simp at hh; try omega) _ | refine Only.trans ?_ (by assumption)))⟩
  · have hge : so.length ≤ k := by omega
    clear hB
    go_quiet (fail)
    go_wp2
    go_ret
    exact ⟨-1, rfl, ⟨fun h => by omega, fun h => by
      obtain ⟨h1, _⟩ := (HS.out.slot_mem Hk.out).1 h
      exact absurd h1 hlt⟩, .inl rfl, (by with_reducible repeat (first | exact Only.refl _ _ | assumption | refine Only.drewN ?_ _ | refine Only.drew ?_ | refine Only.alloc ?_ _ | refine Only.setCell ?_ (by intro hh; exfalso; simp at hh; try omega) _ | refine Only.trans ?_ (by assumption)))⟩
theorem searchIndex_any (A1 A2 A3 : Option Addr) (C1 C2 C3 : Nat) (wh : Bool) (L : List (List Int)) (D : List Int) (so : List Nat) (ob : List Nat) (fps : List (List Nat)) (fd fs : List Nat) (m : Nat) (v : Value) (s : List Int) (f : List Nat) (w : World)
    (h : SrR w A1 A2 A3 C1 C2 C3 L D so ob fps fd fs) (hS : Srt m L so) (hv : Rd w v s f) (hs : s.length = m) (hL : L.length ≤ 3000) :
    Calls Tryz.prog 212 #[.agg #[.slice A1 L.length C1, .slice A2 D.length C2, .slice A3 so.length C3, .bool wh], v] w fun e w' => ∃ r : Int, e = .returned (.int .i64 r) ∧ (0 ≤ r ↔ s ∈ L) ∧ Only [] w w' := by
  refine (searchIndex_at A1 A2 A3 C1 C2 C3 wh L D so ob fps fd fs m v s f w h hS hv hs hL).mono ?_
  rintro e w' ⟨r, e1, h1, -, h2⟩
  exact ⟨r, e1, h1, h2⟩
end Go.Proofs.YtlcoejncdbkhcaaGreat

namespace Go.Proofs.YtlcoejncdbkhcaaGreat
open Go.RowKit
set_option maxRecDepth 10000
theorem flatten_take : ∀ (fs : List (List Nat)) (k : Nat), (fs.take k).flatten.Sublist fs.flatten
  | [], _ => by simp
  | _ :: _, 0 => by simp
  | f :: fs, k + 1 => by simpa using List.Sublist.append (List.Sublist.refl f) (flatten_take fs k)
theorem Fresh.sublist {B : Nat} {w : World} {fp fp' : List Nat} (h : Fresh B w fp) (hs : fp'.Sublist fp) : Fresh B w fp' :=
  ⟨h.nd.sublist hs, fun b hb => h.ge b (hs.subset hb), h.own.sub fun _ hb => hs.subset hb⟩
section
variable {α : Type} [Rp α] {B : Nat} {e : TypeId} {w : World} {v : Value} {l : List α} {fs : List (List Nat)}
end
end Go.Proofs.YtlcoejncdbkhcaaGreat

namespace Go.Proofs.YtlcoejncdbkhcaaGreat
open Go.RowKit
set_option maxRecDepth 10000

/-- a session of the call's own, in parts -/
structure SeP (eI : TypeId) (B : Nat) (w : World) (x : Session) (vm vs vh vf : Value) (fm fs : List Nat) (hs us : List (List Nat)) : Prop where
  nm : I64 x.puzzle.points ∧ x.puzzle.names.size ≤ maxLen
  mv : Rd w vm x.puzzle.moves fm
  st : Rd w vs x.state fs
  hi : Acc B eI w vh x.history hs
  fu : Acc B eI w vf x.future us
  fr : Fresh B w (fm ++ (fs ++ ((vh.ownBlock.toList ++ hs.flatten) ++ (vf.ownBlock.toList ++ us.flatten))))
section
variable {eI : TypeId} {B : Nat} {w w' : World} {x : Session} {vm vs vh vf : Value} {fm fs : List Nat} {hs us : List (List Nat)}
theorem SeP.only (h : SeP eI B w x vm vs vh vf fm fs hs us) {fp : List Nat} (ho : Only fp w w') (hd : ∀ b ∈ fp, b < B ∨ w.heap.size ≤ b) : SeP eI B w' x vm vs vh vf fm fs hs us := by
  have key : ∀ b ∈ fm ++ (fs ++ ((vh.ownBlock.toList ++ hs.flatten) ++ (vf.ownBlock.toList ++ us.flatten))), b ∉ fp := fun b hb hm => by
    have h1 := h.fr.ge b hb
    have h2 := h.fr.lt b hb
    rcases hd b hm with h3 | h3 <;> omega
  have k1 : ∀ b ∈ fm, b ∉ fp := fun b hb => key b (List.mem_append_left _ hb)
  have k2 : ∀ b ∈ fs, b ∉ fp := fun b hb => key b (List.mem_append_right _ (List.mem_append_left _ hb))
  have k3 : ∀ b ∈ vh.ownBlock.toList ++ hs.flatten, b ∉ fp := fun b hb => key b (List.mem_append_right _ (List.mem_append_right _ (List.mem_append_left _ hb)))
  have k4 : ∀ b ∈ vf.ownBlock.toList ++ us.flatten, b ∉ fp := fun b hb => key b (List.mem_append_right _ (List.mem_append_right _ (List.mem_append_right _ hb)))
  exact ⟨h.nm, Rp.only h.mv ho k1, Rp.only h.st ho k2, h.hi.only ho (fun b hb => k3 b (List.mem_append_right _ hb)) (fun g hg => k3 g (List.mem_append_left _ (by simp [hg]))), h.fu.only ho (fun b hb => k4 b (List.mem_append_right _ hb)) (fun g hg => k4 g (List.mem_append_left _ (by simp [hg]))), h.fr.only ho key⟩
theorem Acc.mono {α : Type} [Rp α] {B B' : Nat} {e : TypeId} {w : World} {v : Value} {l : List α} {fs : List (List Nat)} (h : Acc B e w v l fs) (hB : B' ≤ B) : Acc B' e w v l fs := by
  obtain ⟨css, ho, hr⟩ := h.own
  refine ⟨⟨css, ⟨ho.1, ?_⟩, hr⟩, h.fl, h.apart⟩
  rcases ho.2 with h1 | ⟨g, cp, cur, h1, h2, h3⟩
  · exact .inl h1
  · exact .inr ⟨g, cp, cur, h1, Nat.le_trans hB h2, h3⟩
theorem SeP.mono (h : SeP eI B w x vm vs vh vf fm fs hs us) {B' : Nat} (hB : B' ≤ B) : SeP eI B' w x vm vs vh vf fm fs hs us :=
  ⟨h.nm, h.mv, h.st, h.hi.mono hB, h.fu.mono hB, h.fr.mono hB⟩
/-- parts made one behind the other -/
theorem SeP.made {w1 w2 w3 w4 : World} (nm : I64 x.puzzle.points ∧ x.puzzle.names.size ≤ maxLen) {B1 : Nat} (r1 : Rd w1 vm x.puzzle.moves fm) (F1 : Fresh B1 w1 fm) (r2 : Rd w2 vs x.state fs) (F2 : Fresh w1.heap.size w2 fs) (r3 : Acc w2.heap.size eI w3 vh x.history hs) (F3 : Fresh w2.heap.size w3 hs.flatten)
    (r4 : Acc w3.heap.size eI w4 vf x.future us) (F4 : Fresh w3.heap.size w4 us.flatten) (t2 : Only [] w1 w2) (t3 : Only [] w2 w3) (t4 : Only [] w3 w4) (hB : B ≤ B1) (hB1 : B1 ≤ w1.heap.size) : SeP eI B w4 x vm vs vh vf fm fs hs us := by
  have s2 := t2.size
  have s3 := t3.size
  have s4 := t4.size
  refine ⟨nm, Rp.keep (Rp.keep (Rp.keep r1 t2) t3) t4, Rp.keep (Rp.keep r2 t3) t4, (r3.keep t4).mono (by omega), r4.mono (by omega), ?_⟩
  have f4 := r4.fresh F4
  have f3 := (r3.fresh F3)
  have f34 := Fresh.append (f3.keep t4) f4 s3 fun b hb => f3.lt b hb
  have f234 := Fresh.append ((F2.keep t3).keep t4) f34 s2 fun b hb => F2.lt b hb
  exact (Fresh.append (((F1.keep t2).keep t3).keep t4) f234 hB1 fun b hb => F1.lt b hb).mono hB
theorem SeP.keep (h : SeP eI B w x vm vs vh vf fm fs hs us) (ho : Only [] w w') : SeP eI B w' x vm vs vh vf fm fs hs us := h.only ho (by simp)
theorem SeP.rep (h : SeP eI B w x vm vs vh vf fm fs hs us) : Rp.rep w [.int .i64 x.puzzle.points, .string x.puzzle.names, vm, vs, vh, vf] x (fm ++ (fs ++ ((vh.ownBlock.toList ++ hs.flatten) ++ (vf.ownBlock.toList ++ us.flatten)))) :=
  ⟨[.int .i64 x.puzzle.points, .string x.puzzle.names, vm], vs, vh, vf, fm, fs, _, _, rfl, rfl, ⟨vm, rfl, h.nm.1, h.nm.2, h.mv⟩, h.st, h.hi.rd (by decide), h.fu.rd (by decide)⟩
end
end Go.Proofs.YtlcoejncdbkhcaaGreat

namespace Go.Proofs.YtlcoejncdbkhcaaGreat
open Go.RowKit
set_option maxRecDepth 10000
end Go.Proofs.YtlcoejncdbkhcaaGreat
