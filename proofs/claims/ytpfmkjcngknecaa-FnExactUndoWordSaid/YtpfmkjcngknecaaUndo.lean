/- UndoWord: the reference's and the program's. (Printed by mkredo.py.) -/
import Derived.Test.YtpfmkjcngknecaaRedo
import Derived.Test.YtpfmkjcngknecaaInvW
namespace Go.Proofs.Ytpfmkjcngknecaa
open Go.RowKit
set_option maxRecDepth 10000

def undoW (x : Session) : Session := ⟨x.puzzle, appW x.puzzle x.state (invW (lastW x.history)), restW x.history, pushW x.future (lastW x.history)⟩
noncomputable def undoRes (x : Session) : Session := if validSe x = true then (if x.history.length = 0 then x else undoW x) else noSess
noncomputable def undoOk (x : Session) : Bool := validSe x && decide (x.history.length ≠ 0)
set_option maxHeartbeats 4000000 in
theorem specUndoWord_no (cs : List Value) (x : Session) (fp : List Nat) (w : World) (h : Rp.rep w cs x fp) (hq : validSe x = false) :
    Calls Try.prog 41 #[.agg cs.toArray] w (SeRes noSess false w) := by
  have h0 := h
  obtain ⟨c0, v1, v2, v3, f0, f1, f2, f3, rfl, rfl, k0, k1, k2, k3⟩ := h
  have q0 := k0
  obtain ⟨u2, rfl, p0, p1, h2⟩ := q0
  obtain ⟨A2, C2, _, _, rfl, -, -⟩ := h2.open_
  obtain ⟨A3, C3, _, _, rfl, -, -⟩ := k1.open_
  obtain ⟨A4, C4, _, _, rfl, -, -⟩ := k2.open_
  obtain ⟨A5, C5, _, _, rfl, -, -⟩ := k3.open_
  go_enter Try.func41, Try.ntmps41
  go_wp2_with (first
    | (go_at_call 11; (with_reducible refine (specIsValidSession_any [.int .i64 x.puzzle.points, .string x.puzzle.names, .slice A2 x.puzzle.moves.length C2, .slice A3 x.state.length C3, .slice A4 x.history.length C4, .slice A5 x.future.length C5] x _ _ (Rp.keep h0 (by with_reducible repeat (first | exact Only.refl _ _ | assumption | refine Only.drewN ?_ _ | refine Only.drew ?_ | refine Only.alloc ?_ _ | refine Only.setCell ?_ (by intro hh; exfalso; simp at hh; try omega) _ | refine Only.trans ?_ (by assumption))))).mono ?_); rintro en w1 ⟨rfl, t1⟩; have s1 : w.heap.size + 2 ≤ w1.heap.size := (by have := t1.size; simp at this; omega); have y1 := t1.cells_eq w.heap.size (by simp; omega) (by simp); have y1' := t1.cells_eq (w.heap.size + 1) (by simp) (by simp); have z1' := t1.frozen_eq (w.heap.size + 1) (by simp) (by simp))
    | fail "no arm")
  exact bodyPost_ret (v := .tuple #[.agg #[.int .i64 0, .string ⟨#[]⟩, .slice none 0 0, .slice none 0 0, .slice none 0 0, .slice none 0 0], .bool false]) (by simp [results, Try.results41, go_sem, y1']) rfl ⟨[.int .i64 0, .string ⟨#[]⟩, .slice none 0 0, .slice none 0 0, .slice none 0 0, .slice none 0 0], [], rfl, noSess_rep _, Fresh.nil _ _, (by with_reducible repeat (first | exact Only.refl _ _ | assumption | refine Only.drewN ?_ _ | refine Only.drew ?_ | refine Only.alloc ?_ _ | refine Only.setCell ?_ (by intro hh; exfalso; simp at hh; try omega) _ | refine Only.trans ?_ (by assumption)))⟩
set_option maxHeartbeats 4000000 in
theorem specUndoWord_bad (cs : List Value) (x : Session) (fp : List Nat) (w : World) (h : Rp.rep w cs x fp) (hq : validSe x = true) (hw : x.history.length = 0) :
    Calls Try.prog 41 #[.agg cs.toArray] w (SeRes x false w) := by
  have h0 := h
  obtain ⟨c0, v1, v2, v3, f0, f1, f2, f3, rfl, rfl, k0, k1, k2, k3⟩ := h
  have q0 := k0
  obtain ⟨u2, rfl, p0, p1, h2⟩ := q0
  obtain ⟨A2, C2, _, _, rfl, -, -⟩ := h2.open_
  obtain ⟨A3, C3, _, _, rfl, -, -⟩ := k1.open_
  obtain ⟨A4, C4, _, _, rfl, -, -⟩ := k2.open_
  obtain ⟨A5, C5, _, _, rfl, -, -⟩ := k3.open_
  have e6 : ((x.history.length : Int) == 0) = true := by simp [hw]
  have e7 : x.history.length ≤ 40 := by omega
  clear hw
  go_enter Try.func41, Try.ntmps41
  go_wp2_with (first
    | (go_at_call 11; (with_reducible refine (specIsValidSession_any [.int .i64 x.puzzle.points, .string x.puzzle.names, .slice A2 x.puzzle.moves.length C2, .slice A3 x.state.length C3, .slice A4 x.history.length C4, .slice A5 x.future.length C5] x _ _ (Rp.keep h0 (by with_reducible repeat (first | exact Only.refl _ _ | assumption | refine Only.drewN ?_ _ | refine Only.drew ?_ | refine Only.alloc ?_ _ | refine Only.setCell ?_ (by intro hh; exfalso; simp at hh; try omega) _ | refine Only.trans ?_ (by assumption))))).mono ?_); rintro en w1 ⟨rfl, t1⟩; have s1 : w.heap.size + 2 ≤ w1.heap.size := (by have := t1.size; simp at this; omega); have y1 := t1.cells_eq w.heap.size (by simp; omega) (by simp); have y1' := t1.cells_eq (w.heap.size + 1) (by simp) (by simp); have z1' := t1.frozen_eq (w.heap.size + 1) (by simp) (by simp))
    | (go_at_call 64; (with_reducible refine (copySession_any [.int .i64 x.puzzle.points, .string x.puzzle.names, .slice A2 x.puzzle.moves.length C2, .slice A3 x.state.length C3, .slice A4 x.history.length C4, .slice A5 x.future.length C5] x _ _ (Rp.keep h0 (by with_reducible repeat (first | exact Only.refl _ _ | assumption | refine Only.drewN ?_ _ | refine Only.drew ?_ | refine Only.alloc ?_ _ | refine Only.setCell ?_ (by intro hh; exfalso; simp at hh; try omega) _ | refine Only.trans ?_ (by assumption)))) hq).mono ?_); rintro en w2 ⟨Am, Cm, As, Cs, Ah, Ch, Af, Cf, gm, gs, hs, us, rfl, hP, t2⟩; have s2 : w.heap.size + 2 ≤ w2.heap.size := Nat.le_trans s1 t2.size; have y2 := t2.cells_eq w.heap.size (by omega) (by simp); have y2' := t2.cells_eq (w.heap.size + 1) (by omega) (by simp); have z2' := t2.frozen_eq (w.heap.size + 1) (by omega) (by simp); have HP := Lib.hid hP; clear hP; have s2a : w.heap.size < w2.heap.size := (by omega); have s2b : w.heap.size + 1 < w2.heap.size := (by omega))
    | fail "no arm")
  have hP := HP.out
  have hlt := hP.fr.lt
  have hge := hP.fr.ge
  have hd : ∀ b ∈ gm ++ (gs ++ (((Value.slice Ah x.history.length Ch).ownBlock.toList ++ hs.flatten) ++ ((Value.slice Af x.future.length Cf).ownBlock.toList ++ us.flatten))), b ∉ [w2.heap.size, w.heap.size + 1] := fun b hb hm => by
    have h5 := hlt b hb
    have h6 := hge b hb
    simp at hm
    omega
  exact bodyPost_ret (v := .tuple #[.agg #[.int .i64 x.puzzle.points, .string x.puzzle.names, .slice Am x.puzzle.moves.length Cm, .slice As x.state.length Cs, .slice Ah x.history.length Ch, .slice Af x.future.length Cf], .bool false]) (by simp [results, Try.results41, go_sem, y2', y1', s2b]) rfl ⟨[.int .i64 x.puzzle.points, .string x.puzzle.names, .slice Am x.puzzle.moves.length Cm, .slice As x.state.length Cs, .slice Ah x.history.length Ch, .slice Af x.future.length Cf], _, rfl, Rp.only (fp' := [w2.heap.size, w.heap.size + 1]) hP.rep (by with_reducible repeat (first | exact Only.refl _ _ | assumption | refine Only.drewN ?_ _ | refine Only.drew ?_ | refine Only.alloc ?_ _ | refine Only.setCell ?_ (by intro _; simp) _ | refine Only.trans ?_ (Only.weaken (by assumption) _))) hd, (hP.fr.only (fp' := [w2.heap.size, w.heap.size + 1]) (by with_reducible repeat (first | exact Only.refl _ _ | assumption | refine Only.drewN ?_ _ | refine Only.drew ?_ | refine Only.alloc ?_ _ | refine Only.setCell ?_ (by intro _; simp) _ | refine Only.trans ?_ (Only.weaken (by assumption) _))) hd).mono (by omega), (by with_reducible repeat (first | exact Only.refl _ _ | assumption | refine Only.drewN ?_ _ | refine Only.drew ?_ | refine Only.alloc ?_ _ | refine Only.setCell ?_ (by intro hh; exfalso; simp at hh; try omega) _ | refine Only.trans ?_ (by assumption)))⟩
set_option maxHeartbeats 4000000 in
theorem specUndoWord_yes (cs : List Value) (x : Session) (fp : List Nat) (w : World) (h : Rp.rep w cs x fp) (hq : validSe x = true) (hw : x.history.length ≠ 0) :
    Calls Try.prog 41 #[.agg cs.toArray] w (SeRes (undoW x) true w) := by
  have h0 := h
  obtain ⟨c0, v1, v2, v3, f0, f1, f2, f3, rfl, rfl, k0, k1, k2, k3⟩ := h
  have q0 := k0
  obtain ⟨u2, rfl, p0, p1, h2⟩ := q0
  obtain ⟨A2, C2, _, _, rfl, -, -⟩ := h2.open_
  obtain ⟨A3, C3, _, _, rfl, -, -⟩ := k1.open_
  obtain ⟨A4, C4, _, _, rfl, -, -⟩ := k2.open_
  obtain ⟨A5, C5, _, _, rfl, -, -⟩ := k3.open_
  obtain ⟨hst, hml, -, -, hhl, hh2, hul, hu2⟩ := validSe_facts hq
  have hpos : 0 < x.history.length := by omega
  have hlw := validSe_letters hq (lastW x.history) (.inl (lastW_mem hpos))
  obtain ⟨hl200, hlt⟩ := validW_ltrs hml hlw
  have e1 : (0 : Int) ≤ (x.history.length : Int) - 1 := by omega
  have e2 : ((x.history.length : Int) - 1).toNat = x.history.length - 1 := by omega
  have e3 : (x.history.length : Int) - 1 < (x.history.length : Int) := by omega
  have e5 : (1 : Int) ≤ (x.history.length : Int) := by omega
  have e6 : ((x.history.length : Int) == 0) = false := by rw [beq_eq_false_iff_ne]; omega
  have e7 : x.history.length ≤ 40 := by omega
  have Hst := Lib.hid hst
  have Hd2 := Lib.hid hu2
  have Hs2 := Lib.hid hh2
  have Hlt := Lib.hid (invW_ltrs hlt)
  have hbd : ∀ y ∈ lastW x.history, -1000 ≤ y ∧ y ≤ 1000 := fun y hy => by have := mem_ltrs.1 (hlt y hy); omega
  have Hbd := Lib.hid hbd
  clear hst hh2 hu2 hlt hlw hw hbd
  go_enter Try.func41, Try.ntmps41
  go_wp2_with (first
    | (go_at_call 11; (with_reducible refine (specIsValidSession_any [.int .i64 x.puzzle.points, .string x.puzzle.names, .slice A2 x.puzzle.moves.length C2, .slice A3 x.state.length C3, .slice A4 x.history.length C4, .slice A5 x.future.length C5] x _ _ (Rp.keep h0 (by with_reducible repeat (first | exact Only.refl _ _ | assumption | refine Only.drewN ?_ _ | refine Only.drew ?_ | refine Only.alloc ?_ _ | refine Only.setCell ?_ (by intro hh; exfalso; simp at hh; try omega) _ | refine Only.trans ?_ (by assumption))))).mono ?_); rintro en w1 ⟨rfl, t1⟩; have s1 : w.heap.size + 2 ≤ w1.heap.size := (by have := t1.size; simp at this; omega); have y1 := t1.cells_eq w.heap.size (by simp; omega) (by simp); have y1' := t1.cells_eq (w.heap.size + 1) (by simp) (by simp); have z1' := t1.frozen_eq (w.heap.size + 1) (by simp) (by simp))
    | (go_at_call 64; (with_reducible refine (copySession_any [.int .i64 x.puzzle.points, .string x.puzzle.names, .slice A2 x.puzzle.moves.length C2, .slice A3 x.state.length C3, .slice A4 x.history.length C4, .slice A5 x.future.length C5] x _ _ (Rp.keep h0 (by with_reducible repeat (first | exact Only.refl _ _ | assumption | refine Only.drewN ?_ _ | refine Only.drew ?_ | refine Only.alloc ?_ _ | refine Only.setCell ?_ (by intro hh; exfalso; simp at hh; try omega) _ | refine Only.trans ?_ (by assumption)))) hq).mono ?_); rintro en w2 ⟨Am, Cm, As, Cs, Ah, Ch, Af, Cf, gm, gs, hs, us, rfl, hP, t2⟩; have s2 : w.heap.size + 2 ≤ w2.heap.size := Nat.le_trans s1 t2.size; have y2 := t2.cells_eq w.heap.size (by omega) (by simp); have y2' := t2.cells_eq (w.heap.size + 1) (by omega) (by simp); have z2' := t2.frozen_eq (w.heap.size + 1) (by omega) (by simp); have HP := Lib.hid hP; clear hP; have s2a : w.heap.size < w2.heap.size := (by omega); have s2b : w.heap.size + 1 < w2.heap.size := (by omega); obtain ⟨gF, cF, u, fu, fr, eF, kl1, kl2, cu, ru, hfu, SF, rr, Fr, hfr⟩ := HP.out.hi.last HP.out.fr.right.right.left.right hpos; injection eF with eA _ eC; subst eA; subst eC; obtain ⟨aU, cU, rfl, -⟩ := ru.ints; have sF : gF < w2.heap.size := (HP.out.hi.ownlt gF rfl).2; have sFg : gF ≠ w2.heap.size := (by omega); have e4 : (x.history.length : Int) - 1 ≤ (Ch : Int) := (by omega); have Hhfu := Lib.hid hfu; have HSF := Lib.hid SF; have Hhfr := Lib.hid hfr; have HFr := Lib.hid Fr; clear hfu SF hfr Fr)
    | fail "no arm")
  go_region_law (first
    | (go_simp; go_at_call 75; (with_reducible refine (specInvW_rd _ (lastW x.history) _ _ (Rp.keep ru (by with_reducible repeat (first | exact Only.refl _ _ | assumption | refine Only.drewN ?_ _ | refine Only.drew ?_ | refine Only.alloc ?_ _ | refine Only.setCell ?_ (by intro hh; exfalso; simp at hh; try omega) _ | refine Only.trans ?_ (by assumption)))) Hbd.out (by omega)).mono ?_); rintro en w3 ⟨v3, g3, rfl, r3, F3, t3⟩; obtain ⟨a3, c3, rfl, -⟩ := r3.ints; have s3 : w2.heap.size + 1 ≤ w3.heap.size := (by have := t3.size; simpa using this); have s3a : w.heap.size + 1 < w3.heap.size := (by omega); have s3b : w2.heap.size < w3.heap.size := (by omega); have B3 : Blk w3 w2.heap.size [.int .i64 x.puzzle.points, .string x.puzzle.names, .slice Am x.puzzle.moves.length Cm, .slice As x.state.length Cs, .slice (some ⟨gF, 0, none⟩) x.history.length Ch, .slice Af x.future.length Cf] := Blk.keep (Blk.new w2 _ 32) ((Only.refl [] _).drew.trans t3); have c30 := B3.cell 0 rfl; have c31 := B3.cell 1 rfl; have c32 := B3.cell 2 rfl; have c33 := B3.cell 3 rfl; have c34 := B3.cell 4 rfl; have c35 := B3.cell 5 rfl; have z3 := B3.frozen; have HB3 := Lib.hid B3; clear B3; have y3' := t3.cells_eq (w.heap.size + 1) (by simp; omega) (by simp); have z3' := t3.frozen_eq (w.heap.size + 1) (by simp; omega) (by simp))
    | (go_simp; go_at_call 66; (with_reducible refine (playIn_any x (invW (lastW x.history)) Am As (some ⟨gF, 0, none⟩) Af Cm Cs Ch Cf x.history.length x.future.length _ gm gs _ _ (Rp.keep HP.out.mv (by with_reducible repeat (first | exact Only.refl _ _ | assumption | refine Only.drewN ?_ _ | refine Only.drew ?_ | refine Only.alloc ?_ _ | refine Only.setCell ?_ (by intro hh; exfalso; simp at hh; try omega) _ | refine Only.trans ?_ (by assumption)))) (Rp.keep HP.out.st (by with_reducible repeat (first | exact Only.refl _ _ | assumption | refine Only.drewN ?_ _ | refine Only.drew ?_ | refine Only.alloc ?_ _ | refine Only.setCell ?_ (by intro hh; exfalso; simp at hh; try omega) _ | refine Only.trans ?_ (by assumption)))) r3 Hst.out Hlt.out).mono ?_); rintro en w4 ⟨A, C, g4, rfl, r4, F4, t4⟩; have s4 : w2.heap.size + 1 ≤ w4.heap.size := Nat.le_trans s3 t4.size; have s4a : w.heap.size + 1 < w4.heap.size := (by omega); have s4b : w2.heap.size < w4.heap.size := (by omega); have B4 := Blk.keep HB3.out t4; have c40 := B4.cell 0 rfl; have c41 := B4.cell 1 rfl; have c42 := B4.cell 2 rfl; have c43 := B4.cell 3 rfl; have c44 := B4.cell 4 rfl; have c45 := B4.cell 5 rfl; have z4 := B4.frozen; have HB4 := Lib.hid B4; clear B4; have y4' := t4.cells_eq (w.heap.size + 1) (by omega) (by simp); have z4' := t4.frozen_eq (w.heap.size + 1) (by omega) (by simp))
    | fail "no arm")
  all_goals go_wp2_with (first
    | (go_at_call 67; (with_reducible refine (pushWord_rd _ _ x.future (lastW x.history) _ _ _ (Rp.keep (HP.out.fu.rd (by decide)) (by with_reducible repeat (first | exact Only.refl _ _ | assumption | refine Only.drewN ?_ _ | refine Only.drew ?_ | refine Only.alloc ?_ _ | refine Only.setCell ?_ (by intro hh; exfalso; simp at hh; try omega) _ | refine Only.trans ?_ (by assumption)))) (Rp.keep ru (by with_reducible repeat (first | exact Only.refl _ _ | assumption | refine Only.drewN ?_ _ | refine Only.drew ?_ | refine Only.alloc ?_ _ | refine Only.setCell ?_ (by intro hh; exfalso; simp at hh; try omega) _ | refine Only.trans ?_ (by assumption)))) hul Hd2.out (by omega)).mono ?_); rintro en w5 ⟨v5, g5, rfl, r5, F5, t5⟩; obtain ⟨A5', C5', _, _, rfl, -, -⟩ := r5.open_; have s5 : w4.heap.size ≤ w5.heap.size := (by have := t5.size; simpa using this); have s5a : w.heap.size + 1 < w5.heap.size := (by omega); have s5b : w2.heap.size < w5.heap.size := (by omega); have B5 := Blk.keep (Blk.set (Blk.set (Blk.set (Blk.set (Blk.set (Blk.set HB4.out 0 (.int .i64 x.puzzle.points)) 1 (.string x.puzzle.names)) 2 (.slice Am x.puzzle.moves.length Cm)) 3 (.slice A (appW x.puzzle x.state (invW (lastW x.history))).length C)) 4 (.slice (some ⟨gF, 0, none⟩) x.history.length Ch)) 5 (.slice Af x.future.length Cf)) t5; have c50 := B5.cell 0 rfl; have c51 := B5.cell 1 rfl; have c52 := B5.cell 2 rfl; have c53 := B5.cell 3 rfl; have c54 := B5.cell 4 rfl; have c55 := B5.cell 5 rfl; have z5 := B5.frozen; clear B5; have y5' := t5.cells_eq (w.heap.size + 1) (by simp; omega) (by simp); have z5' := t5.frozen_eq (w.heap.size + 1) (by simp; omega) (by simp))
    | fail "no arm")
  all_goals
    have G4 : ∀ b ∈ g4, w2.heap.size + 1 ≤ b := fun b hb => by have := F4.ge b hb; first | omega | (simp at this; omega)
    have G5 : ∀ b ∈ g5, w4.heap.size ≤ b := fun b hb => by have := F5.ge b hb; simpa using this
    have L4 := F4.lt
    have FM := HP.out.fr.left
    have Lm : ∀ b ∈ gm, w1.heap.size ≤ b ∧ b < w2.heap.size := fun b hb => ⟨FM.ge b hb, FM.lt b hb⟩
    have Lr : ∀ b ∈ fr, w1.heap.size ≤ b ∧ b < w2.heap.size := fun b hb => ⟨HFr.out.ge b hb, HFr.out.lt b hb⟩
    have dm : ∀ b ∈ gm, b ∉ [w2.heap.size, w.heap.size + 1] := fun b hb hm => by have := Lm b hb; simp at hm; omega
    have d4 : ∀ b ∈ g4, b ∉ [w2.heap.size, w.heap.size + 1] := fun b hb hm => by have := G4 b hb; simp at hm; omega
    have d5 : ∀ b ∈ g5, b ∉ [w2.heap.size, w.heap.size + 1] := fun b hb hm => by have := G5 b hb; simp at hm; omega
    have dr : ∀ b ∈ fr, b ∉ [w2.heap.size, w.heap.size + 1] := fun b hb hm => by have := Lr b hb; simp at hm; omega
    have hrl := restW_len x.history
    refine bodyPost_ret (v := .tuple #[.agg #[.int .i64 x.puzzle.points, .string x.puzzle.names, .slice Am x.puzzle.moves.length Cm, .slice A (appW x.puzzle x.state (invW (lastW x.history))).length C, .slice (some ⟨gF, 0, none⟩) (x.history.length - 1) Ch, .slice A5' (pushW x.future (lastW x.history)).length C5'], .bool true]) (by simp [results, Try.results41, go_sem, y5', y4', y3', y2', y1', s2b]) rfl ⟨[.int .i64 x.puzzle.points, .string x.puzzle.names, .slice Am x.puzzle.moves.length Cm, .slice A (appW x.puzzle x.state (invW (lastW x.history))).length C, .slice (some ⟨gF, 0, none⟩) (x.history.length - 1) Ch, .slice A5' (pushW x.future (lastW x.history)).length C5'], gm ++ (g4 ++ (fr ++ g5)), rfl,
      ⟨[.int .i64 x.puzzle.points, .string x.puzzle.names, .slice Am x.puzzle.moves.length Cm], _, _, _, gm, g4, fr, g5, rfl, rfl, ⟨_, rfl, p0, p1, Rp.only (fp' := [w2.heap.size, w.heap.size + 1]) HP.out.mv (by with_reducible repeat (first | exact Only.refl _ _ | assumption | refine Only.drewN ?_ _ | refine Only.drew ?_ | refine Only.alloc ?_ _ | refine Only.setCell ?_ (by intro _; simp) _ | refine Only.trans ?_ (Only.weaken (by assumption) _))) dm⟩, Rp.only (fp' := [w2.heap.size, w.heap.size + 1]) r4 (by with_reducible repeat (first | exact Only.refl _ _ | assumption | refine Only.drewN ?_ _ | refine Only.drew ?_ | refine Only.alloc ?_ _ | refine Only.setCell ?_ (by intro _; simp) _ | refine Only.trans ?_ (Only.weaken (by assumption) _))) d4, Rp.only (fp' := [w2.heap.size, w.heap.size + 1]) rr (by with_reducible repeat (first | exact Only.refl _ _ | assumption | refine Only.drewN ?_ _ | refine Only.drew ?_ | refine Only.alloc ?_ _ | refine Only.setCell ?_ (by intro _; simp) _ | refine Only.trans ?_ (Only.weaken (by assumption) _))) dr, Rp.only (fp' := [w2.heap.size, w.heap.size + 1]) r5 (by with_reducible repeat (first | exact Only.refl _ _ | assumption | refine Only.drewN ?_ _ | refine Only.drew ?_ | refine Only.alloc ?_ _ | refine Only.setCell ?_ (by intro _; simp) _ | refine Only.trans ?_ (Only.weaken (by assumption) _))) d5⟩, ?_, ?_⟩
    · exact Fresh.of4 ((FM.only (fp' := [w2.heap.size, w.heap.size + 1]) (by with_reducible repeat (first | exact Only.refl _ _ | assumption | refine Only.drewN ?_ _ | refine Only.drew ?_ | refine Only.alloc ?_ _ | refine Only.setCell ?_ (by intro _; simp) _ | refine Only.trans ?_ (Only.weaken (by assumption) _))) dm).mono (by omega)) ((F4.only (fp' := [w2.heap.size, w.heap.size + 1]) (by with_reducible repeat (first | exact Only.refl _ _ | assumption | refine Only.drewN ?_ _ | refine Only.drew ?_ | refine Only.alloc ?_ _ | refine Only.setCell ?_ (by intro _; simp) _ | refine Only.trans ?_ (Only.weaken (by assumption) _))) d4).mono (by first | omega | (simp; omega))) ((HFr.out.only (fp' := [w2.heap.size, w.heap.size + 1]) (by with_reducible repeat (first | exact Only.refl _ _ | assumption | refine Only.drewN ?_ _ | refine Only.drew ?_ | refine Only.alloc ?_ _ | refine Only.setCell ?_ (by intro _; simp) _ | refine Only.trans ?_ (Only.weaken (by assumption) _))) dr).mono (by omega)) ((F5.only (fp' := [w2.heap.size, w.heap.size + 1]) (by with_reducible repeat (first | exact Only.refl _ _ | assumption | refine Only.drewN ?_ _ | refine Only.drew ?_ | refine Only.alloc ?_ _ | refine Only.setCell ?_ (by intro _; simp) _ | refine Only.trans ?_ (Only.weaken (by assumption) _))) d5).mono (by simp; omega)) (fun b hb hm => by have := Lm b hb; have := G4 b hm; omega) (fun b hb hm => (HP.out.fr.parts.1 b hb).1 (Hhfr.out.subset hm)) (fun b hb hm => by have := Lm b hb; have := G5 b hm; omega) (fun b hb hm => by have := G4 b hb; have := Lr b hm; omega) (fun b hb hm => by have := L4 b hb; have := G5 b hm; omega) (fun b hb hm => by have := Lr b hb; have := G5 b hm; omega)
    · exact (by with_reducible repeat (first | exact Only.refl _ _ | assumption | refine Only.drewN ?_ _ | refine Only.drew ?_ | refine Only.alloc ?_ _ | refine Only.setCell ?_ (by intro hh; exfalso; simp at hh; try omega) _ | refine Only.trans ?_ (by assumption)))
set_option maxHeartbeats 4000000 in
theorem implUndoWord_no (cs : List Value) (x : Session) (fp : List Nat) (w : World) (h : Rp.rep w cs x fp) (hq : validSe x = false) :
    Calls Try.prog 42 #[.agg cs.toArray] w (SeRes noSess false w) := by
  have h0 := h
  obtain ⟨c0, v1, v2, v3, f0, f1, f2, f3, rfl, rfl, k0, k1, k2, k3⟩ := h
  have q0 := k0
  obtain ⟨u2, rfl, p0, p1, h2⟩ := q0
  obtain ⟨A2, C2, _, _, rfl, -, -⟩ := h2.open_
  obtain ⟨A3, C3, _, _, rfl, -, -⟩ := k1.open_
  obtain ⟨A4, C4, _, _, rfl, -, -⟩ := k2.open_
  obtain ⟨A5, C5, _, _, rfl, -, -⟩ := k3.open_
  go_enter Try.func42, Try.ntmps42
  go_wp2_with (first
    | (go_at_call 13; (with_reducible refine (implIsValidSession_any [.int .i64 x.puzzle.points, .string x.puzzle.names, .slice A2 x.puzzle.moves.length C2, .slice A3 x.state.length C3, .slice A4 x.history.length C4, .slice A5 x.future.length C5] x _ _ (Rp.keep h0 (by with_reducible repeat (first | exact Only.refl _ _ | assumption | refine Only.drewN ?_ _ | refine Only.drew ?_ | refine Only.alloc ?_ _ | refine Only.setCell ?_ (by intro hh; exfalso; simp at hh; try omega) _ | refine Only.trans ?_ (by assumption))))).mono ?_); rintro en w1 ⟨rfl, t1⟩; have s1 : w.heap.size + 2 ≤ w1.heap.size := (by have := t1.size; simp at this; omega); have y1 := t1.cells_eq w.heap.size (by simp; omega) (by simp); have y1' := t1.cells_eq (w.heap.size + 1) (by simp) (by simp); have z1' := t1.frozen_eq (w.heap.size + 1) (by simp) (by simp))
    | fail "no arm")
  exact bodyPost_ret (v := .tuple #[.agg #[.int .i64 0, .string ⟨#[]⟩, .slice none 0 0, .slice none 0 0, .slice none 0 0, .slice none 0 0], .bool false]) (by simp [results, Try.results42, go_sem, y1']) rfl ⟨[.int .i64 0, .string ⟨#[]⟩, .slice none 0 0, .slice none 0 0, .slice none 0 0, .slice none 0 0], [], rfl, noSess_rep _, Fresh.nil _ _, (by with_reducible repeat (first | exact Only.refl _ _ | assumption | refine Only.drewN ?_ _ | refine Only.drew ?_ | refine Only.alloc ?_ _ | refine Only.setCell ?_ (by intro hh; exfalso; simp at hh; try omega) _ | refine Only.trans ?_ (by assumption)))⟩
set_option maxHeartbeats 4000000 in
theorem implUndoWord_bad (cs : List Value) (x : Session) (fp : List Nat) (w : World) (h : Rp.rep w cs x fp) (hq : validSe x = true) (hw : x.history.length = 0) :
    Calls Try.prog 42 #[.agg cs.toArray] w (SeRes x false w) := by
  have h0 := h
  obtain ⟨c0, v1, v2, v3, f0, f1, f2, f3, rfl, rfl, k0, k1, k2, k3⟩ := h
  have q0 := k0
  obtain ⟨u2, rfl, p0, p1, h2⟩ := q0
  obtain ⟨A2, C2, _, _, rfl, -, -⟩ := h2.open_
  obtain ⟨A3, C3, _, _, rfl, -, -⟩ := k1.open_
  obtain ⟨A4, C4, _, _, rfl, -, -⟩ := k2.open_
  obtain ⟨A5, C5, _, _, rfl, -, -⟩ := k3.open_
  have e6 : ((x.history.length : Int) == 0) = true := by simp [hw]
  have e7 : x.history.length ≤ 40 := by omega
  clear hw
  go_enter Try.func42, Try.ntmps42
  go_wp2_with (first
    | (go_at_call 13; (with_reducible refine (implIsValidSession_any [.int .i64 x.puzzle.points, .string x.puzzle.names, .slice A2 x.puzzle.moves.length C2, .slice A3 x.state.length C3, .slice A4 x.history.length C4, .slice A5 x.future.length C5] x _ _ (Rp.keep h0 (by with_reducible repeat (first | exact Only.refl _ _ | assumption | refine Only.drewN ?_ _ | refine Only.drew ?_ | refine Only.alloc ?_ _ | refine Only.setCell ?_ (by intro hh; exfalso; simp at hh; try omega) _ | refine Only.trans ?_ (by assumption))))).mono ?_); rintro en w1 ⟨rfl, t1⟩; have s1 : w.heap.size + 2 ≤ w1.heap.size := (by have := t1.size; simp at this; omega); have y1 := t1.cells_eq w.heap.size (by simp; omega) (by simp); have y1' := t1.cells_eq (w.heap.size + 1) (by simp) (by simp); have z1' := t1.frozen_eq (w.heap.size + 1) (by simp) (by simp))
    | (go_at_call 68; (with_reducible refine (cloneSession_any [.int .i64 x.puzzle.points, .string x.puzzle.names, .slice A2 x.puzzle.moves.length C2, .slice A3 x.state.length C3, .slice A4 x.history.length C4, .slice A5 x.future.length C5] x _ _ (Rp.keep h0 (by with_reducible repeat (first | exact Only.refl _ _ | assumption | refine Only.drewN ?_ _ | refine Only.drew ?_ | refine Only.alloc ?_ _ | refine Only.setCell ?_ (by intro hh; exfalso; simp at hh; try omega) _ | refine Only.trans ?_ (by assumption)))) hq).mono ?_); rintro en w2 ⟨Am, Cm, As, Cs, Ah, Ch, Af, Cf, gm, gs, hs, us, rfl, hP, t2⟩; have s2 : w.heap.size + 2 ≤ w2.heap.size := Nat.le_trans s1 t2.size; have y2 := t2.cells_eq w.heap.size (by omega) (by simp); have y2' := t2.cells_eq (w.heap.size + 1) (by omega) (by simp); have z2' := t2.frozen_eq (w.heap.size + 1) (by omega) (by simp); have HP := Lib.hid hP; clear hP; have s2a : w.heap.size < w2.heap.size := (by omega); have s2b : w.heap.size + 1 < w2.heap.size := (by omega))
    | fail "no arm")
  have hP := HP.out
  have hlt := hP.fr.lt
  have hge := hP.fr.ge
  have hd : ∀ b ∈ gm ++ (gs ++ (((Value.slice Ah x.history.length Ch).ownBlock.toList ++ hs.flatten) ++ ((Value.slice Af x.future.length Cf).ownBlock.toList ++ us.flatten))), b ∉ [w2.heap.size, w.heap.size + 1] := fun b hb hm => by
    have h5 := hlt b hb
    have h6 := hge b hb
    simp at hm
    omega
  exact bodyPost_ret (v := .tuple #[.agg #[.int .i64 x.puzzle.points, .string x.puzzle.names, .slice Am x.puzzle.moves.length Cm, .slice As x.state.length Cs, .slice Ah x.history.length Ch, .slice Af x.future.length Cf], .bool false]) (by simp [results, Try.results42, go_sem, y2', y1', s2b]) rfl ⟨[.int .i64 x.puzzle.points, .string x.puzzle.names, .slice Am x.puzzle.moves.length Cm, .slice As x.state.length Cs, .slice Ah x.history.length Ch, .slice Af x.future.length Cf], _, rfl, Rp.only (fp' := [w2.heap.size, w.heap.size + 1]) hP.rep (by with_reducible repeat (first | exact Only.refl _ _ | assumption | refine Only.drewN ?_ _ | refine Only.drew ?_ | refine Only.alloc ?_ _ | refine Only.setCell ?_ (by intro _; simp) _ | refine Only.trans ?_ (Only.weaken (by assumption) _))) hd, (hP.fr.only (fp' := [w2.heap.size, w.heap.size + 1]) (by with_reducible repeat (first | exact Only.refl _ _ | assumption | refine Only.drewN ?_ _ | refine Only.drew ?_ | refine Only.alloc ?_ _ | refine Only.setCell ?_ (by intro _; simp) _ | refine Only.trans ?_ (Only.weaken (by assumption) _))) hd).mono (by omega), (by with_reducible repeat (first | exact Only.refl _ _ | assumption | refine Only.drewN ?_ _ | refine Only.drew ?_ | refine Only.alloc ?_ _ | refine Only.setCell ?_ (by intro hh; exfalso; simp at hh; try omega) _ | refine Only.trans ?_ (by assumption)))⟩
set_option maxHeartbeats 4000000 in
theorem implUndoWord_yes (cs : List Value) (x : Session) (fp : List Nat) (w : World) (h : Rp.rep w cs x fp) (hq : validSe x = true) (hw : x.history.length ≠ 0) :
    Calls Try.prog 42 #[.agg cs.toArray] w (SeRes (undoW x) true w) := by
  have h0 := h
  obtain ⟨c0, v1, v2, v3, f0, f1, f2, f3, rfl, rfl, k0, k1, k2, k3⟩ := h
  have q0 := k0
  obtain ⟨u2, rfl, p0, p1, h2⟩ := q0
  obtain ⟨A2, C2, _, _, rfl, -, -⟩ := h2.open_
  obtain ⟨A3, C3, _, _, rfl, -, -⟩ := k1.open_
  obtain ⟨A4, C4, _, _, rfl, -, -⟩ := k2.open_
  obtain ⟨A5, C5, _, _, rfl, -, -⟩ := k3.open_
  obtain ⟨hst, hml, -, -, hhl, hh2, hul, hu2⟩ := validSe_facts hq
  have hpos : 0 < x.history.length := by omega
  have hlw := validSe_letters hq (lastW x.history) (.inl (lastW_mem hpos))
  obtain ⟨hl200, hlt⟩ := validW_ltrs hml hlw
  have e1 : (0 : Int) ≤ (x.history.length : Int) - 1 := by omega
  have e2 : ((x.history.length : Int) - 1).toNat = x.history.length - 1 := by omega
  have e3 : (x.history.length : Int) - 1 < (x.history.length : Int) := by omega
  have e5 : (1 : Int) ≤ (x.history.length : Int) := by omega
  have e6 : ((x.history.length : Int) == 0) = false := by rw [beq_eq_false_iff_ne]; omega
  have e7 : x.history.length ≤ 40 := by omega
  have Hst := Lib.hid hst
  have Hd2 := Lib.hid hu2
  have Hs2 := Lib.hid hh2
  have Hlt := Lib.hid (invW_ltrs hlt)
  have hbd : ∀ y ∈ lastW x.history, -1000 ≤ y ∧ y ≤ 1000 := fun y hy => by have := mem_ltrs.1 (hlt y hy); omega
  have Hbd := Lib.hid hbd
  clear hst hh2 hu2 hlt hlw hw hbd
  go_enter Try.func42, Try.ntmps42
  go_wp2_with (first
    | (go_at_call 13; (with_reducible refine (implIsValidSession_any [.int .i64 x.puzzle.points, .string x.puzzle.names, .slice A2 x.puzzle.moves.length C2, .slice A3 x.state.length C3, .slice A4 x.history.length C4, .slice A5 x.future.length C5] x _ _ (Rp.keep h0 (by with_reducible repeat (first | exact Only.refl _ _ | assumption | refine Only.drewN ?_ _ | refine Only.drew ?_ | refine Only.alloc ?_ _ | refine Only.setCell ?_ (by intro hh; exfalso; simp at hh; try omega) _ | refine Only.trans ?_ (by assumption))))).mono ?_); rintro en w1 ⟨rfl, t1⟩; have s1 : w.heap.size + 2 ≤ w1.heap.size := (by have := t1.size; simp at this; omega); have y1 := t1.cells_eq w.heap.size (by simp; omega) (by simp); have y1' := t1.cells_eq (w.heap.size + 1) (by simp) (by simp); have z1' := t1.frozen_eq (w.heap.size + 1) (by simp) (by simp))
    | (go_at_call 68; (with_reducible refine (cloneSession_any [.int .i64 x.puzzle.points, .string x.puzzle.names, .slice A2 x.puzzle.moves.length C2, .slice A3 x.state.length C3, .slice A4 x.history.length C4, .slice A5 x.future.length C5] x _ _ (Rp.keep h0 (by with_reducible repeat (first | exact Only.refl _ _ | assumption | refine Only.drewN ?_ _ | refine Only.drew ?_ | refine Only.alloc ?_ _ | refine Only.setCell ?_ (by intro hh; exfalso; simp at hh; try omega) _ | refine Only.trans ?_ (by assumption)))) hq).mono ?_); rintro en w2 ⟨Am, Cm, As, Cs, Ah, Ch, Af, Cf, gm, gs, hs, us, rfl, hP, t2⟩; have s2 : w.heap.size + 2 ≤ w2.heap.size := Nat.le_trans s1 t2.size; have y2 := t2.cells_eq w.heap.size (by omega) (by simp); have y2' := t2.cells_eq (w.heap.size + 1) (by omega) (by simp); have z2' := t2.frozen_eq (w.heap.size + 1) (by omega) (by simp); have HP := Lib.hid hP; clear hP; have s2a : w.heap.size < w2.heap.size := (by omega); have s2b : w.heap.size + 1 < w2.heap.size := (by omega); obtain ⟨gF, cF, u, fu, fr, eF, kl1, kl2, cu, ru, hfu, SF, rr, Fr, hfr⟩ := HP.out.hi.last HP.out.fr.right.right.left.right hpos; injection eF with eA _ eC; subst eA; subst eC; obtain ⟨aU, cU, rfl, -⟩ := ru.ints; have sF : gF < w2.heap.size := (HP.out.hi.ownlt gF rfl).2; have sFg : gF ≠ w2.heap.size := (by omega); have e4 : (x.history.length : Int) - 1 ≤ (Ch : Int) := (by omega); have Hhfu := Lib.hid hfu; have HSF := Lib.hid SF; have Hhfr := Lib.hid hfr; have HFr := Lib.hid Fr; clear hfu SF hfr Fr)
    | (go_at_call 73; (with_reducible refine (popped_any gF Ch x.history (.slice aU (lastW x.history).length cU) _ hpos kl1 kl2 (Only.cell (fp := []) (by with_reducible repeat (first | exact Only.refl _ _ | assumption | refine Only.drewN ?_ _ | refine Only.drew ?_ | refine Only.alloc ?_ _ | refine Only.setCell ?_ (by intro hh; exfalso; simp at hh; try omega) _ | refine Only.trans ?_ (by assumption))) (by simp) cu)).mono ?_); rintro en w3 ⟨rfl, m3, rfl⟩)
    | (go_at_call 74; (with_reducible refine (cloneLists_rd _ (restW x.history) fr _ (Rp.keep rr (by with_reducible repeat (first | exact Only.refl _ _ | assumption | refine Only.drewN ?_ _ | refine Only.drew ?_ | refine Only.alloc ?_ _ | refine Only.setCell ?_ (by intro hh; exfalso; simp at hh; try omega) _ | refine Only.trans ?_ (by assumption)))) (by rw [restW_len]; omega) (fun y hy => Hs2.out y (restW_mem hy))).mono ?_); rintro en w4 ⟨v4, g3, rfl, r3, F3, t4⟩; obtain ⟨A3', C3', _, _, rfl, -, -⟩ := r3.open_; have s4 : w2.heap.size + 1 ≤ w4.heap.size := (by have := t4.size; simpa using this); have s4a : w.heap.size + 1 < w4.heap.size := (by omega); have s4c : w.heap.size < w4.heap.size := (by omega); have s4b : w2.heap.size < w4.heap.size := (by omega); have B4 : Blk w4 w2.heap.size [.int .i64 x.puzzle.points, .string x.puzzle.names, .slice Am x.puzzle.moves.length Cm, .slice As x.state.length Cs, .slice (some ⟨gF, 0, none⟩) x.history.length Ch, .slice Af x.future.length Cf] := Blk.keep (Blk.new w2 _ 32) ((Only.ofDrewN _ m3 []).trans t4); have c40 := B4.cell 0 rfl; have c41 := B4.cell 1 rfl; have c42 := B4.cell 2 rfl; have c43 := B4.cell 3 rfl; have c44 := B4.cell 4 rfl; have c45 := B4.cell 5 rfl; have z4 := B4.frozen; have HB4 := Lib.hid B4; clear B4; have y4 := t4.cells_eq w.heap.size (by simp; omega) (by simp); have y4' := t4.cells_eq (w.heap.size + 1) (by simp; omega) (by simp); have z4' := t4.frozen_eq (w.heap.size + 1) (by simp; omega) (by simp); have T4 : Only [] w (w4.setCell ⟨w2.heap.size, 4, none⟩ (.slice A3' (restW x.history).length C3')) := (by with_reducible repeat (first | exact Only.refl _ _ | assumption | refine Only.drewN ?_ _ | refine Only.drew ?_ | refine Only.alloc ?_ _ | refine Only.setCell ?_ (by intro hh; exfalso; simp at hh; try omega) _ | refine Only.trans ?_ (by assumption))); have K4 : Only [] w2 (w4.setCell ⟨w2.heap.size, 4, none⟩ (.slice A3' (restW x.history).length C3')) := (by with_reducible repeat (first | exact Only.refl _ _ | assumption | refine Only.drewN ?_ _ | refine Only.drew ?_ | refine Only.alloc ?_ _ | refine Only.setCell ?_ (by intro hh; exfalso; simp at hh; try omega) _ | refine Only.trans ?_ (by assumption))))
    | (go_at_call 71; (with_reducible refine (pushed_acc (B := w1.heap.size) (Value.slice Af x.future.length Cf) _ x.future (lastW x.history) us fu _ (HP.out.fu.keep (by with_reducible repeat (first | exact Only.refl _ _ | assumption | refine Only.drewN ?_ _ | refine Only.drew ?_ | refine Only.alloc ?_ _ | refine Only.setCell ?_ (by intro hh; exfalso; simp at hh; try omega) _ | refine Only.trans ?_ (by assumption)))) (Fresh.keep HP.out.fr.right.right.right.right (by with_reducible repeat (first | exact Only.refl _ _ | assumption | refine Only.drewN ?_ _ | refine Only.drew ?_ | refine Only.alloc ?_ _ | refine Only.setCell ?_ (by intro hh; exfalso; simp at hh; try omega) _ | refine Only.trans ?_ (by assumption)))) (Rp.keep ru (by with_reducible repeat (first | exact Only.refl _ _ | assumption | refine Only.drewN ?_ _ | refine Only.drew ?_ | refine Only.alloc ?_ _ | refine Only.setCell ?_ (by intro hh; exfalso; simp at hh; try omega) _ | refine Only.trans ?_ (by assumption)))) (by have := t2.size; simp; omega) hul (by omega)).mono ?_); rintro en w5 ⟨v5, g5, rfl, r5, F5, hs5, t5⟩; obtain ⟨A5', C5', _, _, rfl, -, -⟩ := r5.open_; have hvo : ∀ b ∈ (Value.slice Af x.future.length Cf).ownBlock.toList, w1.heap.size ≤ b ∧ b < w2.heap.size := (fun b hb => HP.out.fu.ownlt b (by simpa using hb)); have hvg : w2.heap.size ∉ (Value.slice Af x.future.length Cf).ownBlock.toList := (fun hm => by have := (hvo _ hm).2; omega); have hvb : w.heap.size + 1 ∉ (Value.slice Af x.future.length Cf).ownBlock.toList := (fun hm => by have := (hvo _ hm).1; omega); have hvc : w.heap.size ∉ (Value.slice Af x.future.length Cf).ownBlock.toList := (fun hm => by have := (hvo _ hm).1; omega); have s5 : w4.heap.size ≤ w5.heap.size := (by have := t5.size; simpa using this); have s5a : w.heap.size + 1 < w5.heap.size := (by omega); have s5c : w.heap.size < w5.heap.size := (by omega); have s5b : w2.heap.size < w5.heap.size := (by omega); have B5 := Blk.only (Blk.set HB4.out 4 (.slice A3' (restW x.history).length C3')) t5 hvg; have c50 := B5.cell 0 rfl; have c51 := B5.cell 1 rfl; have c52 := B5.cell 2 rfl; have c53 := B5.cell 3 rfl; have c54 := B5.cell 4 rfl; have c55 := B5.cell 5 rfl; have z5 := B5.frozen; have HB5 := Lib.hid B5; clear B5; have y5 := t5.cells_eq w.heap.size (by simp; omega) hvc; have y5' := t5.cells_eq (w.heap.size + 1) (by simp; omega) hvb; have z5' := t5.frozen_eq (w.heap.size + 1) (by simp; omega) hvb; have T5 : Only [] w w5 := T4.then_ t5 (fun b hb hl => by have := (hvo b hb).1; omega); have dfu : ∀ b ∈ fu, b ∉ (Value.slice Af x.future.length Cf).ownBlock.toList := (fun b hb hm => HP.out.fr.parts.2.2 b (List.mem_append_right _ (Hhfu.out b hb)) (List.mem_append_left _ hm)); have ru5 := Rp.only (Rp.keep ru K4) t5 dfu; have Hvo := Lib.hid hvo; clear hvo hvg hvb hvc dfu)
    | fail "no arm")
  go_region_law (first
    | (go_simp; go_at_call 76; (with_reducible refine (implInvW_rd _ (lastW x.history) _ _ (Rp.only (fp' := [w2.heap.size]) ru5 (by with_reducible repeat (first | exact Only.refl _ _ | assumption | refine Only.drewN ?_ _ | refine Only.drew ?_ | refine Only.alloc ?_ _ | refine Only.setCell ?_ (by intro _; simp) _ | refine Only.trans ?_ (Only.weaken (by assumption) _))) (fun b hb hm => by have h5 := HP.out.fr.lt b (List.mem_append_right _ (List.mem_append_right _ (List.mem_append_left _ (List.mem_append_right _ (Hhfu.out b hb))))); simp at hm; omega)) Hbd.out (by omega)).mono ?_); rintro en w7 ⟨v7, g7, rfl, r7, F7, t7⟩; obtain ⟨a7, c7, rfl, -⟩ := r7.ints; have s7 : w5.heap.size ≤ w7.heap.size := (by have := t7.size; simpa using this); have s7a : w.heap.size + 1 < w7.heap.size := (by omega); have s7b : w2.heap.size < w7.heap.size := (by omega); have s7c : w.heap.size < w7.heap.size := (by omega); have B7 := Blk.keep (Blk.set HB5.out 5 (.slice A5' (pushW x.future (lastW x.history)).length C5')) ((Only.refl [] _).drew.trans t7); have c70 := B7.cell 0 rfl; have c71 := B7.cell 1 rfl; have c72 := B7.cell 2 rfl; have c73 := B7.cell 3 rfl; have c74 := B7.cell 4 rfl; have c75 := B7.cell 5 rfl; have z7 := B7.frozen; have HB7 := Lib.hid B7; clear B7; have y7 := t7.cells_eq w.heap.size (by simp; omega) (by simp); have y7' := t7.cells_eq (w.heap.size + 1) (by simp; omega) (by simp); have z7' := t7.frozen_eq (w.heap.size + 1) (by simp; omega) (by simp))
    | (go_simp; go_at_call 70; (with_reducible refine (implApply_any [.int .i64 x.puzzle.points, .string x.puzzle.names, .slice A2 x.puzzle.moves.length C2] x.puzzle _ _ _ x.state (invW (lastW x.history)) _ _ _ (Rp.keep k0 (by with_reducible repeat (first | exact Only.refl _ _ | assumption | refine Only.drewN ?_ _ | refine Only.drew ?_ | refine Only.alloc ?_ _ | refine Only.setCell ?_ (by intro hh; exfalso; simp at hh; try omega) _ | refine Only.trans ?_ (by assumption)))) (Rp.keep k1 (by with_reducible repeat (first | exact Only.refl _ _ | assumption | refine Only.drewN ?_ _ | refine Only.drew ?_ | refine Only.alloc ?_ _ | refine Only.setCell ?_ (by intro hh; exfalso; simp at hh; try omega) _ | refine Only.trans ?_ (by assumption)))) r7 Hst.out Hlt.out).mono ?_); rintro en w6 ⟨v6, g6, rfl, r6, F6, t6⟩; obtain ⟨A6', C6', _, _, rfl, -, -⟩ := r6.open_; have s6 : w5.heap.size ≤ w6.heap.size := Nat.le_trans s7 t6.size; have s6a : w.heap.size + 1 < w6.heap.size := (by omega); have s6b : w2.heap.size < w6.heap.size := (by omega); have B6 := Blk.keep HB7.out t6; have c60 := B6.cell 0 rfl; have c61 := B6.cell 1 rfl; have c62 := B6.cell 2 rfl; have c63 := B6.cell 3 rfl; have c64 := B6.cell 4 rfl; have c65 := B6.cell 5 rfl; have z6 := B6.frozen; clear B6; have y6' := t6.cells_eq (w.heap.size + 1) (by omega) (by simp); have z6' := t6.frozen_eq (w.heap.size + 1) (by omega) (by simp))
    | fail "no arm")
  all_goals go_wp2
  all_goals
    have hP := HP.out
    have G3 : ∀ b ∈ g3, w2.heap.size + 1 ≤ b := fun b hb => by have := F3.ge b hb; simpa using this
    have L3 := F3.lt
    have G6 : ∀ b ∈ g6, w5.heap.size ≤ b := fun b hb => by have := F6.ge b hb; first | omega | simpa using this
    have L5 := F5.lt
    have FM := hP.fr.left
    have Lm : ∀ b ∈ gm, w1.heap.size ≤ b ∧ b < w2.heap.size := fun b hb => ⟨FM.ge b hb, FM.lt b hb⟩
    have hW4 : (w4.setCell ⟨w2.heap.size, 4, none⟩ (.slice A3' (restW x.history).length C3')).heap.size = w4.heap.size := by simp
    have dH : ∀ b ∈ gm, b ∉ (Value.slice Af x.future.length Cf).ownBlock.toList := fun b hb hm => (hP.fr.parts.1 b hb).2 (List.mem_append_left _ hm)
    have d3H : ∀ b ∈ g3, b ∉ (Value.slice Af x.future.length Cf).ownBlock.toList := fun b hb hm => by have := G3 b hb; have := (Hvo.out b hm).2; omega
    have d3g : ∀ b ∈ g3, b ∉ [w2.heap.size] := fun b hb hm => by have := G3 b hb; simp at hm; omega
    have mv5 := Rp.only (Rp.keep hP.mv K4) t5 dH
    have FM5 := (FM.keep K4).only t5 dH
    have r35 := Rp.only (Rp.only (w' := (w4.setCell ⟨w2.heap.size, 4, none⟩ (.slice A3' (restW x.history).length C3'))) (fp' := [w2.heap.size]) r3 (by with_reducible repeat (first | exact Only.refl _ _ | assumption | refine Only.drewN ?_ _ | refine Only.drew ?_ | refine Only.alloc ?_ _ | refine Only.setCell ?_ (by intro _; simp) _ | refine Only.trans ?_ (Only.weaken (by assumption) _))) d3g) t5 d3H
    have F35 := (F3.only (w' := (w4.setCell ⟨w2.heap.size, 4, none⟩ (.slice A3' (restW x.history).length C3'))) (fp' := [w2.heap.size]) (by with_reducible repeat (first | exact Only.refl _ _ | assumption | refine Only.drewN ?_ _ | refine Only.drew ?_ | refine Only.alloc ?_ _ | refine Only.setCell ?_ (by intro _; simp) _ | refine Only.trans ?_ (Only.weaken (by assumption) _))) d3g).only t5 d3H
    have hs6 : ∀ b ∈ g5, b ∉ gm ∧ b ∉ g3 ∧ b ≠ w2.heap.size ∧ w1.heap.size ≤ b := fun b hb => by
      rcases hs5 b hb with h5 | h5
      · have h6 := hP.fr.right.right.right.lt b h5
        refine ⟨fun hm => (hP.fr.parts.1 b hm).2 h5, fun hm => by have := G3 b hm; omega, by omega, F5.ge b hb⟩
      · refine ⟨fun hm => by have := (Lm b hm).2; omega, fun hm => by have := L3 b hm; omega, by omega, F5.ge b hb⟩
    have dm : ∀ b ∈ gm, b ∉ [w2.heap.size, w.heap.size + 1] := fun b hb hm => by have := Lm b hb; simp at hm; omega
    have d3 : ∀ b ∈ g3, b ∉ [w2.heap.size, w.heap.size + 1] := fun b hb hm => by have := G3 b hb; simp at hm; omega
    have d5 : ∀ b ∈ g5, b ∉ [w2.heap.size, w.heap.size + 1] := fun b hb hm => by have := hs6 b hb; simp at hm; omega
    have d6 : ∀ b ∈ g6, b ∉ [w2.heap.size, w.heap.size + 1] := fun b hb hm => by have := G6 b hb; simp at hm; omega
    refine bodyPost_ret (v := .tuple #[.agg #[.int .i64 x.puzzle.points, .string x.puzzle.names, .slice Am x.puzzle.moves.length Cm, .slice A6' (appW x.puzzle x.state (invW (lastW x.history))).length C6', .slice A3' (restW x.history).length C3', .slice A5' (pushW x.future (lastW x.history)).length C5'], .bool true]) (by simp [results, Try.results42, go_sem, y6', y7', y5', y4', y2', y1', s2b]) rfl ⟨[.int .i64 x.puzzle.points, .string x.puzzle.names, .slice Am x.puzzle.moves.length Cm, .slice A6' (appW x.puzzle x.state (invW (lastW x.history))).length C6', .slice A3' (restW x.history).length C3', .slice A5' (pushW x.future (lastW x.history)).length C5'], gm ++ (g6 ++ (g3 ++ g5)), rfl,
      ⟨[.int .i64 x.puzzle.points, .string x.puzzle.names, .slice Am x.puzzle.moves.length Cm], _, _, _, gm, g6, g3, g5, rfl, rfl, ⟨_, rfl, p0, p1, Rp.only (fp' := [w2.heap.size, w.heap.size + 1]) mv5 (by with_reducible repeat (first | exact Only.refl _ _ | assumption | refine Only.drewN ?_ _ | refine Only.drew ?_ | refine Only.alloc ?_ _ | refine Only.setCell ?_ (by intro _; simp) _ | refine Only.trans ?_ (Only.weaken (by assumption) _))) dm⟩, Rp.only (fp' := [w2.heap.size, w.heap.size + 1]) r6 (by with_reducible repeat (first | exact Only.refl _ _ | assumption | refine Only.drewN ?_ _ | refine Only.drew ?_ | refine Only.alloc ?_ _ | refine Only.setCell ?_ (by intro _; simp) _ | refine Only.trans ?_ (Only.weaken (by assumption) _))) d6, Rp.only (fp' := [w2.heap.size, w.heap.size + 1]) r35 (by with_reducible repeat (first | exact Only.refl _ _ | assumption | refine Only.drewN ?_ _ | refine Only.drew ?_ | refine Only.alloc ?_ _ | refine Only.setCell ?_ (by intro _; simp) _ | refine Only.trans ?_ (Only.weaken (by assumption) _))) d3, Rp.only (fp' := [w2.heap.size, w.heap.size + 1]) r5 (by with_reducible repeat (first | exact Only.refl _ _ | assumption | refine Only.drewN ?_ _ | refine Only.drew ?_ | refine Only.alloc ?_ _ | refine Only.setCell ?_ (by intro _; simp) _ | refine Only.trans ?_ (Only.weaken (by assumption) _))) d5⟩, ?_, ?_⟩
    · exact Fresh.of4 ((FM5.only (fp' := [w2.heap.size, w.heap.size + 1]) (by with_reducible repeat (first | exact Only.refl _ _ | assumption | refine Only.drewN ?_ _ | refine Only.drew ?_ | refine Only.alloc ?_ _ | refine Only.setCell ?_ (by intro _; simp) _ | refine Only.trans ?_ (Only.weaken (by assumption) _))) dm).mono (by omega)) ((F6.only (fp' := [w2.heap.size, w.heap.size + 1]) (by with_reducible repeat (first | exact Only.refl _ _ | assumption | refine Only.drewN ?_ _ | refine Only.drew ?_ | refine Only.alloc ?_ _ | refine Only.setCell ?_ (by intro _; simp) _ | refine Only.trans ?_ (Only.weaken (by assumption) _))) d6).mono (by first | omega | (simp; omega))) ((F35.only (fp' := [w2.heap.size, w.heap.size + 1]) (by with_reducible repeat (first | exact Only.refl _ _ | assumption | refine Only.drewN ?_ _ | refine Only.drew ?_ | refine Only.alloc ?_ _ | refine Only.setCell ?_ (by intro _; simp) _ | refine Only.trans ?_ (Only.weaken (by assumption) _))) d3).mono (by simp; omega)) ((F5.only (fp' := [w2.heap.size, w.heap.size + 1]) (by with_reducible repeat (first | exact Only.refl _ _ | assumption | refine Only.drewN ?_ _ | refine Only.drew ?_ | refine Only.alloc ?_ _ | refine Only.setCell ?_ (by intro _; simp) _ | refine Only.trans ?_ (Only.weaken (by assumption) _))) d5).mono (by omega)) (fun b hb hm => by have := Lm b hb; have := G6 b hm; omega) (fun b hb hm => by have := Lm b hb; have := G3 b hm; omega) (fun b hb hm => (hs6 b hm).1 hb) (fun b hb hm => by have := G6 b hb; have := L3 b hm; omega) (fun b hb hm => by have := G6 b hb; have := L5 b hm; omega) (fun b hb hm => (hs6 b hm).2.1 hb)
    · exact (by with_reducible repeat (first | exact Only.refl _ _ | assumption | refine Only.drewN ?_ _ | refine Only.drew ?_ | refine Only.alloc ?_ _ | refine Only.setCell ?_ (by intro hh; exfalso; simp at hh; try omega) _ | refine Only.trans ?_ (by assumption)))
theorem undoRes_no {x : Session} (h : validSe x = false) : undoRes x = noSess ∧ undoOk x = false := ⟨by unfold undoRes; rw [if_neg (by simp [h])], by unfold undoOk; rw [h]; rfl⟩
theorem undoRes_bad {x : Session} (h : validSe x = true) (h2 : x.history.length = 0) : undoRes x = x ∧ undoOk x = false := ⟨by unfold undoRes; rw [if_pos h, if_pos h2], by unfold undoOk; rw [h, decide_eq_false (by simp [h2])]; rfl⟩
theorem undoRes_yes {x : Session} (h : validSe x = true) (h2 : x.history.length ≠ 0) : undoRes x = undoW x ∧ undoOk x = true := ⟨by unfold undoRes; rw [if_pos h, if_neg h2], by unfold undoOk; rw [h, decide_eq_true h2]; rfl⟩
theorem specUndoWord_any (cs : List Value) (x : Session) (fp : List Nat) (w : World) (h : Rp.rep w cs x fp) :
    Calls Try.prog 41 #[.agg cs.toArray] w fun e w' => ∃ cs' fp', e = .returned (.tuple #[.agg cs'.toArray, .bool (undoOk x)]) ∧ Rp.rep w' cs' (undoRes x) fp' ∧ Fresh w.heap.size w' fp' ∧ Only [] w w' := by
  rcases hq : validSe x
  · rw [(undoRes_no hq).1, (undoRes_no hq).2]; exact specUndoWord_no cs x fp w h hq
  by_cases hw : x.history.length = 0
  · rw [(undoRes_bad hq hw).1, (undoRes_bad hq hw).2]; exact specUndoWord_bad cs x fp w h hq hw
  · rw [(undoRes_yes hq hw).1, (undoRes_yes hq hw).2]; exact specUndoWord_yes cs x fp w h hq hw
theorem implUndoWord_any (cs : List Value) (x : Session) (fp : List Nat) (w : World) (h : Rp.rep w cs x fp) :
    Calls Try.prog 42 #[.agg cs.toArray] w fun e w' => ∃ cs' fp', e = .returned (.tuple #[.agg cs'.toArray, .bool (undoOk x)]) ∧ Rp.rep w' cs' (undoRes x) fp' ∧ Fresh w.heap.size w' fp' ∧ Only [] w w' := by
  rcases hq : validSe x
  · rw [(undoRes_no hq).1, (undoRes_no hq).2]; exact implUndoWord_no cs x fp w h hq
  by_cases hw : x.history.length = 0
  · rw [(undoRes_bad hq hw).1, (undoRes_bad hq hw).2]; exact implUndoWord_bad cs x fp w h hq hw
  · rw [(undoRes_yes hq hw).1, (undoRes_yes hq hw).2]; exact implUndoWord_yes cs x fp w h hq hw
end Go.Proofs.Ytpfmkjcngknecaa
