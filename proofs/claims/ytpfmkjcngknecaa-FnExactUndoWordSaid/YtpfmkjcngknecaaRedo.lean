/- RedoWord: the reference's and the program's. (Printed by mkredo.py.) -/
import Derived.Test.YtpfmkjcngknecaaRedoKit
namespace Go.Proofs.Ytpfmkjcngknecaa
open Go.RowKit
set_option maxRecDepth 10000

def redoW (x : Session) : Session := ⟨x.puzzle, appW x.puzzle x.state (lastW x.future), pushW x.history (lastW x.future), restW x.future⟩
noncomputable def redoRes (x : Session) : Session := if validSe x = true then (if x.future.length = 0 then x else redoW x) else noSess
noncomputable def redoOk (x : Session) : Bool := validSe x && decide (x.future.length ≠ 0)
set_option maxHeartbeats 4000000 in
theorem specRedoWord_no (cs : List Value) (x : Session) (fp : List Nat) (w : World) (h : Rp.rep w cs x fp) (hq : validSe x = false) :
    Calls Try.prog 39 #[.agg cs.toArray] w (SeRes noSess false w) := by
  have h0 := h
  obtain ⟨c0, v1, v2, v3, f0, f1, f2, f3, rfl, rfl, k0, k1, k2, k3⟩ := h
  have q0 := k0
  obtain ⟨u2, rfl, p0, p1, h2⟩ := q0
  obtain ⟨A2, C2, _, _, rfl, -, -⟩ := h2.open_
  obtain ⟨A3, C3, _, _, rfl, -, -⟩ := k1.open_
  obtain ⟨A4, C4, _, _, rfl, -, -⟩ := k2.open_
  obtain ⟨A5, C5, _, _, rfl, -, -⟩ := k3.open_
  go_enter Try.func39, Try.ntmps39
  go_wp2_with (first
    | (go_at_call 11; (with_reducible refine (specIsValidSession_any [.int .i64 x.puzzle.points, .string x.puzzle.names, .slice A2 x.puzzle.moves.length C2, .slice A3 x.state.length C3, .slice A4 x.history.length C4, .slice A5 x.future.length C5] x _ _ (Rp.keep h0 (by with_reducible repeat (first | exact Only.refl _ _ | assumption | refine Only.drewN ?_ _ | refine Only.drew ?_ | refine Only.alloc ?_ _ | refine Only.setCell ?_ (by intro hh; exfalso; simp at hh; try omega) _ | refine Only.trans ?_ (by assumption))))).mono ?_); rintro en w1 ⟨rfl, t1⟩; have s1 : w.heap.size + 2 ≤ w1.heap.size := (by have := t1.size; simp at this; omega); have y1 := t1.cells_eq w.heap.size (by simp; omega) (by simp); have y1' := t1.cells_eq (w.heap.size + 1) (by simp) (by simp); have z1' := t1.frozen_eq (w.heap.size + 1) (by simp) (by simp))
    | fail "no arm")
  exact bodyPost_ret (v := .tuple #[.agg #[.int .i64 0, .string ⟨#[]⟩, .slice none 0 0, .slice none 0 0, .slice none 0 0, .slice none 0 0], .bool false]) (by simp [results, Try.results39, go_sem, y1']) rfl ⟨[.int .i64 0, .string ⟨#[]⟩, .slice none 0 0, .slice none 0 0, .slice none 0 0, .slice none 0 0], [], rfl, noSess_rep _, Fresh.nil _ _, (by with_reducible repeat (first | exact Only.refl _ _ | assumption | refine Only.drewN ?_ _ | refine Only.drew ?_ | refine Only.alloc ?_ _ | refine Only.setCell ?_ (by intro hh; exfalso; simp at hh; try omega) _ | refine Only.trans ?_ (by assumption)))⟩
set_option maxHeartbeats 4000000 in
theorem specRedoWord_bad (cs : List Value) (x : Session) (fp : List Nat) (w : World) (h : Rp.rep w cs x fp) (hq : validSe x = true) (hw : x.future.length = 0) :
    Calls Try.prog 39 #[.agg cs.toArray] w (SeRes x false w) := by
  have h0 := h
  obtain ⟨c0, v1, v2, v3, f0, f1, f2, f3, rfl, rfl, k0, k1, k2, k3⟩ := h
  have q0 := k0
  obtain ⟨u2, rfl, p0, p1, h2⟩ := q0
  obtain ⟨A2, C2, _, _, rfl, -, -⟩ := h2.open_
  obtain ⟨A3, C3, _, _, rfl, -, -⟩ := k1.open_
  obtain ⟨A4, C4, _, _, rfl, -, -⟩ := k2.open_
  obtain ⟨A5, C5, _, _, rfl, -, -⟩ := k3.open_
  have e6 : ((x.future.length : Int) == 0) = true := by simp [hw]
  have e7 : x.future.length ≤ 40 := by omega
  clear hw
  go_enter Try.func39, Try.ntmps39
  go_wp2_with (first
    | (go_at_call 11; (with_reducible refine (specIsValidSession_any [.int .i64 x.puzzle.points, .string x.puzzle.names, .slice A2 x.puzzle.moves.length C2, .slice A3 x.state.length C3, .slice A4 x.history.length C4, .slice A5 x.future.length C5] x _ _ (Rp.keep h0 (by with_reducible repeat (first | exact Only.refl _ _ | assumption | refine Only.drewN ?_ _ | refine Only.drew ?_ | refine Only.alloc ?_ _ | refine Only.setCell ?_ (by intro hh; exfalso; simp at hh; try omega) _ | refine Only.trans ?_ (by assumption))))).mono ?_); rintro en w1 ⟨rfl, t1⟩; have s1 : w.heap.size + 2 ≤ w1.heap.size := (by have := t1.size; simp at this; omega); have y1 := t1.cells_eq w.heap.size (by simp; omega) (by simp); have y1' := t1.cells_eq (w.heap.size + 1) (by simp) (by simp); have z1' := t1.frozen_eq (w.heap.size + 1) (by simp) (by simp))
    | (go_at_call 64; (with_reducible refine (copySession_any [.int .i64 x.puzzle.points, .string x.puzzle.names, .slice A2 x.puzzle.moves.length C2, .slice A3 x.state.length C3, .slice A4 x.history.length C4, .slice A5 x.future.length C5] x _ _ (Rp.keep h0 (by with_reducible repeat (first | exact Only.refl _ _ | assumption | refine Only.drewN ?_ _ | refine Only.drew ?_ | refine Only.alloc ?_ _ | refine Only.setCell ?_ (by intro hh; exfalso; simp at hh; try omega) _ | refine Only.trans ?_ (by assumption)))) hq).mono ?_); rintro en w2 ⟨Am, Cm, As, Cs, Ah, Ch, Af, Cf, gm, gs, hs, us, rfl, hP, t2⟩; have s2 : w.heap.size + 2 ≤ w2.heap.size := Nat.le_trans s1 t2.size; have y2 := t2.cells_eq w.heap.size (by omega) (by simp); have y2' := t2.cells_eq (w.heap.size + 1) (by omega) (by simp); have z2' := t2.frozen_eq (w.heap.size + 1) (by omega) (by simp); have HP := Lib.hid hP; clear hP; have s2a : w.heap.size < w2.heap.size := (by omega); have s2b : w.heap.size + 1 < w2.heap.size := (by omega))
    | fail "no arm")
  have hP := HP.out
  have hlt := hP.fr.lt
  have hge := hP.fr.ge
  have hd : ∀ b ∈ gm ++ (gs ++ (((Value.slice Ah x.history.length Ch).ownBlock.toList ++ hs.flatten) ++ ((Value.slice Af x.future.length Cf).ownBlock.toList ++ us.flatten))), b ∉ [w2.heap.size, w.heap.size + 1] := fun b hb hm => by
    have h5 := hlt b hb
    have h6 := hge b hb
    simp at hm
    omega
  exact bodyPost_ret (v := .tuple #[.agg #[.int .i64 x.puzzle.points, .string x.puzzle.names, .slice Am x.puzzle.moves.length Cm, .slice As x.state.length Cs, .slice Ah x.history.length Ch, .slice Af x.future.length Cf], .bool false]) (by simp [results, Try.results39, go_sem, y2', y1', s2b]) rfl ⟨[.int .i64 x.puzzle.points, .string x.puzzle.names, .slice Am x.puzzle.moves.length Cm, .slice As x.state.length Cs, .slice Ah x.history.length Ch, .slice Af x.future.length Cf], _, rfl, Rp.only (fp' := [w2.heap.size, w.heap.size + 1]) hP.rep (by with_reducible repeat (first | exact Only.refl _ _ | assumption | refine Only.drewN ?_ _ | refine Only.drew ?_ | refine Only.alloc ?_ _ | refine Only.setCell ?_ (by intro _; simp) _ | refine Only.trans ?_ (Only.weaken (by assumption) _))) hd, (hP.fr.only (fp' := [w2.heap.size, w.heap.size + 1]) (by with_reducible repeat (first | exact Only.refl _ _ | assumption | refine Only.drewN ?_ _ | refine Only.drew ?_ | refine Only.alloc ?_ _ | refine Only.setCell ?_ (by intro _; simp) _ | refine Only.trans ?_ (Only.weaken (by assumption) _))) hd).mono (by omega), (by with_reducible repeat (first | exact Only.refl _ _ | assumption | refine Only.drewN ?_ _ | refine Only.drew ?_ | refine Only.alloc ?_ _ | refine Only.setCell ?_ (by intro hh; exfalso; simp at hh; try omega) _ | refine Only.trans ?_ (by assumption)))⟩
set_option maxHeartbeats 4000000 in
theorem specRedoWord_yes (cs : List Value) (x : Session) (fp : List Nat) (w : World) (h : Rp.rep w cs x fp) (hq : validSe x = true) (hw : x.future.length ≠ 0) :
    Calls Try.prog 39 #[.agg cs.toArray] w (SeRes (redoW x) true w) := by
  have h0 := h
  obtain ⟨c0, v1, v2, v3, f0, f1, f2, f3, rfl, rfl, k0, k1, k2, k3⟩ := h
  have q0 := k0
  obtain ⟨u2, rfl, p0, p1, h2⟩ := q0
  obtain ⟨A2, C2, _, _, rfl, -, -⟩ := h2.open_
  obtain ⟨A3, C3, _, _, rfl, -, -⟩ := k1.open_
  obtain ⟨A4, C4, _, _, rfl, -, -⟩ := k2.open_
  obtain ⟨A5, C5, _, _, rfl, -, -⟩ := k3.open_
  obtain ⟨hst, hml, -, -, hhl, hh2, hul, hu2⟩ := validSe_facts hq
  have hpos : 0 < x.future.length := by omega
  have hlw := validSe_letters hq (lastW x.future) (.inr (lastW_mem hpos))
  obtain ⟨hl200, hlt⟩ := validW_ltrs hml hlw
  have e1 : (0 : Int) ≤ (x.future.length : Int) - 1 := by omega
  have e2 : ((x.future.length : Int) - 1).toNat = x.future.length - 1 := by omega
  have e3 : (x.future.length : Int) - 1 < (x.future.length : Int) := by omega
  have e5 : (1 : Int) ≤ (x.future.length : Int) := by omega
  have e6 : ((x.future.length : Int) == 0) = false := by rw [beq_eq_false_iff_ne]; omega
  have e7 : x.future.length ≤ 40 := by omega
  have Hst := Lib.hid hst
  have Hd2 := Lib.hid hh2
  have Hs2 := Lib.hid hu2
  have Hlt := Lib.hid hlt
  have hbd : ∀ y ∈ lastW x.future, -1000 ≤ y ∧ y ≤ 1000 := fun y hy => by have := mem_ltrs.1 (hlt y hy); omega
  have Hbd := Lib.hid hbd
  clear hst hh2 hu2 hlt hlw hw hbd
  go_enter Try.func39, Try.ntmps39
  go_wp2_with (first
    | (go_at_call 11; (with_reducible refine (specIsValidSession_any [.int .i64 x.puzzle.points, .string x.puzzle.names, .slice A2 x.puzzle.moves.length C2, .slice A3 x.state.length C3, .slice A4 x.history.length C4, .slice A5 x.future.length C5] x _ _ (Rp.keep h0 (by with_reducible repeat (first | exact Only.refl _ _ | assumption | refine Only.drewN ?_ _ | refine Only.drew ?_ | refine Only.alloc ?_ _ | refine Only.setCell ?_ (by intro hh; exfalso; simp at hh; try omega) _ | refine Only.trans ?_ (by assumption))))).mono ?_); rintro en w1 ⟨rfl, t1⟩; have s1 : w.heap.size + 2 ≤ w1.heap.size := (by have := t1.size; simp at this; omega); have y1 := t1.cells_eq w.heap.size (by simp; omega) (by simp); have y1' := t1.cells_eq (w.heap.size + 1) (by simp) (by simp); have z1' := t1.frozen_eq (w.heap.size + 1) (by simp) (by simp))
    | (go_at_call 64; (with_reducible refine (copySession_any [.int .i64 x.puzzle.points, .string x.puzzle.names, .slice A2 x.puzzle.moves.length C2, .slice A3 x.state.length C3, .slice A4 x.history.length C4, .slice A5 x.future.length C5] x _ _ (Rp.keep h0 (by with_reducible repeat (first | exact Only.refl _ _ | assumption | refine Only.drewN ?_ _ | refine Only.drew ?_ | refine Only.alloc ?_ _ | refine Only.setCell ?_ (by intro hh; exfalso; simp at hh; try omega) _ | refine Only.trans ?_ (by assumption)))) hq).mono ?_); rintro en w2 ⟨Am, Cm, As, Cs, Ah, Ch, Af, Cf, gm, gs, hs, us, rfl, hP, t2⟩; have s2 : w.heap.size + 2 ≤ w2.heap.size := Nat.le_trans s1 t2.size; have y2 := t2.cells_eq w.heap.size (by omega) (by simp); have y2' := t2.cells_eq (w.heap.size + 1) (by omega) (by simp); have z2' := t2.frozen_eq (w.heap.size + 1) (by omega) (by simp); have HP := Lib.hid hP; clear hP; have s2a : w.heap.size < w2.heap.size := (by omega); have s2b : w.heap.size + 1 < w2.heap.size := (by omega); obtain ⟨gF, cF, u, fu, fr, eF, kl1, kl2, cu, ru, hfu, SF, rr, Fr, hfr⟩ := HP.out.fu.last HP.out.fr.right.right.right.right hpos; injection eF with eA _ eC; subst eA; subst eC; obtain ⟨aU, cU, rfl, -⟩ := ru.ints; have sF : gF < w2.heap.size := (HP.out.fu.ownlt gF rfl).2; have sFg : gF ≠ w2.heap.size := (by omega); have e4 : (x.future.length : Int) - 1 ≤ (Cf : Int) := (by omega); have Hhfu := Lib.hid hfu; have HSF := Lib.hid SF; have Hhfr := Lib.hid hfr; have HFr := Lib.hid Fr; clear hfu SF hfr Fr)
    | (go_at_call 66; (with_reducible refine (playIn_any x (lastW x.future) Am As Ah (some ⟨gF, 0, none⟩) Cm Cs Ch Cf x.history.length x.future.length _ gm gs _ _ (Rp.keep HP.out.mv (by with_reducible repeat (first | exact Only.refl _ _ | assumption | refine Only.drewN ?_ _ | refine Only.drew ?_ | refine Only.alloc ?_ _ | refine Only.setCell ?_ (by intro hh; exfalso; simp at hh; try omega) _ | refine Only.trans ?_ (by assumption)))) (Rp.keep HP.out.st (by with_reducible repeat (first | exact Only.refl _ _ | assumption | refine Only.drewN ?_ _ | refine Only.drew ?_ | refine Only.alloc ?_ _ | refine Only.setCell ?_ (by intro hh; exfalso; simp at hh; try omega) _ | refine Only.trans ?_ (by assumption)))) (Rp.keep ru (by with_reducible repeat (first | exact Only.refl _ _ | assumption | refine Only.drewN ?_ _ | refine Only.drew ?_ | refine Only.alloc ?_ _ | refine Only.setCell ?_ (by intro hh; exfalso; simp at hh; try omega) _ | refine Only.trans ?_ (by assumption)))) Hst.out Hlt.out).mono ?_); rintro en w4 ⟨A, C, g4, rfl, r4, F4, t4⟩; have s4 : w2.heap.size + 1 ≤ w4.heap.size := (by have := t4.size; simp at this; omega); have s4a : w.heap.size + 1 < w4.heap.size := (by omega); have s4b : w2.heap.size < w4.heap.size := (by omega); have B4 : Blk w4 w2.heap.size [.int .i64 x.puzzle.points, .string x.puzzle.names, .slice Am x.puzzle.moves.length Cm, .slice As x.state.length Cs, .slice Ah x.history.length Ch, .slice (some ⟨gF, 0, none⟩) x.future.length Cf] := Blk.keep (Blk.new w2 _ 32) t4; have c40 := B4.cell 0 rfl; have c41 := B4.cell 1 rfl; have c42 := B4.cell 2 rfl; have c43 := B4.cell 3 rfl; have c44 := B4.cell 4 rfl; have c45 := B4.cell 5 rfl; have z4 := B4.frozen; have HB4 := Lib.hid B4; clear B4; have y4' := t4.cells_eq (w.heap.size + 1) (by simp; omega) (by simp); have z4' := t4.frozen_eq (w.heap.size + 1) (by simp; omega) (by simp))
    | (go_at_call 67; (with_reducible refine (pushWord_rd _ _ x.history (lastW x.future) _ _ _ (Rp.keep (HP.out.hi.rd (by decide)) (by with_reducible repeat (first | exact Only.refl _ _ | assumption | refine Only.drewN ?_ _ | refine Only.drew ?_ | refine Only.alloc ?_ _ | refine Only.setCell ?_ (by intro hh; exfalso; simp at hh; try omega) _ | refine Only.trans ?_ (by assumption)))) (Rp.keep ru (by with_reducible repeat (first | exact Only.refl _ _ | assumption | refine Only.drewN ?_ _ | refine Only.drew ?_ | refine Only.alloc ?_ _ | refine Only.setCell ?_ (by intro hh; exfalso; simp at hh; try omega) _ | refine Only.trans ?_ (by assumption)))) hhl Hd2.out (by omega)).mono ?_); rintro en w5 ⟨v5, g5, rfl, r5, F5, t5⟩; obtain ⟨A5', C5', _, _, rfl, -, -⟩ := r5.open_; have s5 : w4.heap.size ≤ w5.heap.size := (by have := t5.size; simpa using this); have s5a : w.heap.size + 1 < w5.heap.size := (by omega); have s5b : w2.heap.size < w5.heap.size := (by omega); have B5 := Blk.keep (Blk.set (Blk.set (Blk.set (Blk.set (Blk.set (Blk.set HB4.out 0 (.int .i64 x.puzzle.points)) 1 (.string x.puzzle.names)) 2 (.slice Am x.puzzle.moves.length Cm)) 3 (.slice A (appW x.puzzle x.state (lastW x.future)).length C)) 4 (.slice Ah x.history.length Ch)) 5 (.slice (some ⟨gF, 0, none⟩) x.future.length Cf)) t5; have c50 := B5.cell 0 rfl; have c51 := B5.cell 1 rfl; have c52 := B5.cell 2 rfl; have c53 := B5.cell 3 rfl; have c54 := B5.cell 4 rfl; have c55 := B5.cell 5 rfl; have z5 := B5.frozen; clear B5; have y5' := t5.cells_eq (w.heap.size + 1) (by simp; omega) (by simp); have z5' := t5.frozen_eq (w.heap.size + 1) (by simp; omega) (by simp))
    | fail "no arm")
  have G4 : ∀ b ∈ g4, w2.heap.size + 1 ≤ b := fun b hb => by have := F4.ge b hb; first | omega | (simp at this; omega)
  have G5 : ∀ b ∈ g5, w4.heap.size ≤ b := fun b hb => by have := F5.ge b hb; simpa using this
  have L4 := F4.lt
  have FM := HP.out.fr.left
  have Lm : ∀ b ∈ gm, w1.heap.size ≤ b ∧ b < w2.heap.size := fun b hb => ⟨FM.ge b hb, FM.lt b hb⟩
  have Lr : ∀ b ∈ fr, w1.heap.size ≤ b ∧ b < w2.heap.size := fun b hb => ⟨HFr.out.ge b hb, HFr.out.lt b hb⟩
  have dm : ∀ b ∈ gm, b ∉ [w2.heap.size, w.heap.size + 1] := fun b hb hm => by have := Lm b hb; simp at hm; omega
  have d4 : ∀ b ∈ g4, b ∉ [w2.heap.size, w.heap.size + 1] := fun b hb hm => by have := G4 b hb; simp at hm; omega
  have d5 : ∀ b ∈ g5, b ∉ [w2.heap.size, w.heap.size + 1] := fun b hb hm => by have := G5 b hb; simp at hm; omega
  have dr : ∀ b ∈ fr, b ∉ [w2.heap.size, w.heap.size + 1] := fun b hb hm => by have := Lr b hb; simp at hm; omega
  have hrl := restW_len x.future
  refine bodyPost_ret (v := .tuple #[.agg #[.int .i64 x.puzzle.points, .string x.puzzle.names, .slice Am x.puzzle.moves.length Cm, .slice A (appW x.puzzle x.state (lastW x.future)).length C, .slice A5' (pushW x.history (lastW x.future)).length C5', .slice (some ⟨gF, 0, none⟩) (x.future.length - 1) Cf], .bool true]) (by simp [results, Try.results39, go_sem, y5', y4', y2', y1', s2b]) rfl ⟨[.int .i64 x.puzzle.points, .string x.puzzle.names, .slice Am x.puzzle.moves.length Cm, .slice A (appW x.puzzle x.state (lastW x.future)).length C, .slice A5' (pushW x.history (lastW x.future)).length C5', .slice (some ⟨gF, 0, none⟩) (x.future.length - 1) Cf], gm ++ (g4 ++ (g5 ++ fr)), rfl,
    ⟨[.int .i64 x.puzzle.points, .string x.puzzle.names, .slice Am x.puzzle.moves.length Cm], _, _, _, gm, g4, g5, fr, rfl, rfl, ⟨_, rfl, p0, p1, Rp.only (fp' := [w2.heap.size, w.heap.size + 1]) HP.out.mv (by with_reducible repeat (first | exact Only.refl _ _ | assumption | refine Only.drewN ?_ _ | refine Only.drew ?_ | refine Only.alloc ?_ _ | refine Only.setCell ?_ (by intro _; simp) _ | refine Only.trans ?_ (Only.weaken (by assumption) _))) dm⟩, Rp.only (fp' := [w2.heap.size, w.heap.size + 1]) r4 (by with_reducible repeat (first | exact Only.refl _ _ | assumption | refine Only.drewN ?_ _ | refine Only.drew ?_ | refine Only.alloc ?_ _ | refine Only.setCell ?_ (by intro _; simp) _ | refine Only.trans ?_ (Only.weaken (by assumption) _))) d4, Rp.only (fp' := [w2.heap.size, w.heap.size + 1]) r5 (by with_reducible repeat (first | exact Only.refl _ _ | assumption | refine Only.drewN ?_ _ | refine Only.drew ?_ | refine Only.alloc ?_ _ | refine Only.setCell ?_ (by intro _; simp) _ | refine Only.trans ?_ (Only.weaken (by assumption) _))) d5, Rp.only (fp' := [w2.heap.size, w.heap.size + 1]) rr (by with_reducible repeat (first | exact Only.refl _ _ | assumption | refine Only.drewN ?_ _ | refine Only.drew ?_ | refine Only.alloc ?_ _ | refine Only.setCell ?_ (by intro _; simp) _ | refine Only.trans ?_ (Only.weaken (by assumption) _))) dr⟩, ?_, ?_⟩
  · exact Fresh.of4 ((FM.only (fp' := [w2.heap.size, w.heap.size + 1]) (by with_reducible repeat (first | exact Only.refl _ _ | assumption | refine Only.drewN ?_ _ | refine Only.drew ?_ | refine Only.alloc ?_ _ | refine Only.setCell ?_ (by intro _; simp) _ | refine Only.trans ?_ (Only.weaken (by assumption) _))) dm).mono (by omega)) ((F4.only (fp' := [w2.heap.size, w.heap.size + 1]) (by with_reducible repeat (first | exact Only.refl _ _ | assumption | refine Only.drewN ?_ _ | refine Only.drew ?_ | refine Only.alloc ?_ _ | refine Only.setCell ?_ (by intro _; simp) _ | refine Only.trans ?_ (Only.weaken (by assumption) _))) d4).mono (by first | omega | (simp; omega))) ((F5.only (fp' := [w2.heap.size, w.heap.size + 1]) (by with_reducible repeat (first | exact Only.refl _ _ | assumption | refine Only.drewN ?_ _ | refine Only.drew ?_ | refine Only.alloc ?_ _ | refine Only.setCell ?_ (by intro _; simp) _ | refine Only.trans ?_ (Only.weaken (by assumption) _))) d5).mono (by simp; omega)) ((HFr.out.only (fp' := [w2.heap.size, w.heap.size + 1]) (by with_reducible repeat (first | exact Only.refl _ _ | assumption | refine Only.drewN ?_ _ | refine Only.drew ?_ | refine Only.alloc ?_ _ | refine Only.setCell ?_ (by intro _; simp) _ | refine Only.trans ?_ (Only.weaken (by assumption) _))) dr).mono (by omega)) (fun b hb hm => by have := Lm b hb; have := G4 b hm; omega) (fun b hb hm => by have := Lm b hb; have := G5 b hm; omega) (fun b hb hm => (HP.out.fr.parts.1 b hb).2 (Hhfr.out.subset hm)) (fun b hb hm => by have := L4 b hb; have := G5 b hm; omega) (fun b hb hm => by have := G4 b hb; have := Lr b hm; omega) (fun b hb hm => by have := G5 b hb; have := Lr b hm; omega)
  · exact (by with_reducible repeat (first | exact Only.refl _ _ | assumption | refine Only.drewN ?_ _ | refine Only.drew ?_ | refine Only.alloc ?_ _ | refine Only.setCell ?_ (by intro hh; exfalso; simp at hh; try omega) _ | refine Only.trans ?_ (by assumption)))
set_option maxHeartbeats 4000000 in
theorem implRedoWord_no (cs : List Value) (x : Session) (fp : List Nat) (w : World) (h : Rp.rep w cs x fp) (hq : validSe x = false) :
    Calls Try.prog 40 #[.agg cs.toArray] w (SeRes noSess false w) := by
  have h0 := h
  obtain ⟨c0, v1, v2, v3, f0, f1, f2, f3, rfl, rfl, k0, k1, k2, k3⟩ := h
  have q0 := k0
  obtain ⟨u2, rfl, p0, p1, h2⟩ := q0
  obtain ⟨A2, C2, _, _, rfl, -, -⟩ := h2.open_
  obtain ⟨A3, C3, _, _, rfl, -, -⟩ := k1.open_
  obtain ⟨A4, C4, _, _, rfl, -, -⟩ := k2.open_
  obtain ⟨A5, C5, _, _, rfl, -, -⟩ := k3.open_
  go_enter Try.func40, Try.ntmps40
  go_wp2_with (first
    | (go_at_call 13; (with_reducible refine (implIsValidSession_any [.int .i64 x.puzzle.points, .string x.puzzle.names, .slice A2 x.puzzle.moves.length C2, .slice A3 x.state.length C3, .slice A4 x.history.length C4, .slice A5 x.future.length C5] x _ _ (Rp.keep h0 (by with_reducible repeat (first | exact Only.refl _ _ | assumption | refine Only.drewN ?_ _ | refine Only.drew ?_ | refine Only.alloc ?_ _ | refine Only.setCell ?_ (by intro hh; exfalso; simp at hh; try omega) _ | refine Only.trans ?_ (by assumption))))).mono ?_); rintro en w1 ⟨rfl, t1⟩; have s1 : w.heap.size + 2 ≤ w1.heap.size := (by have := t1.size; simp at this; omega); have y1 := t1.cells_eq w.heap.size (by simp; omega) (by simp); have y1' := t1.cells_eq (w.heap.size + 1) (by simp) (by simp); have z1' := t1.frozen_eq (w.heap.size + 1) (by simp) (by simp))
    | fail "no arm")
  exact bodyPost_ret (v := .tuple #[.agg #[.int .i64 0, .string ⟨#[]⟩, .slice none 0 0, .slice none 0 0, .slice none 0 0, .slice none 0 0], .bool false]) (by simp [results, Try.results40, go_sem, y1']) rfl ⟨[.int .i64 0, .string ⟨#[]⟩, .slice none 0 0, .slice none 0 0, .slice none 0 0, .slice none 0 0], [], rfl, noSess_rep _, Fresh.nil _ _, (by with_reducible repeat (first | exact Only.refl _ _ | assumption | refine Only.drewN ?_ _ | refine Only.drew ?_ | refine Only.alloc ?_ _ | refine Only.setCell ?_ (by intro hh; exfalso; simp at hh; try omega) _ | refine Only.trans ?_ (by assumption)))⟩
set_option maxHeartbeats 4000000 in
theorem implRedoWord_bad (cs : List Value) (x : Session) (fp : List Nat) (w : World) (h : Rp.rep w cs x fp) (hq : validSe x = true) (hw : x.future.length = 0) :
    Calls Try.prog 40 #[.agg cs.toArray] w (SeRes x false w) := by
  have h0 := h
  obtain ⟨c0, v1, v2, v3, f0, f1, f2, f3, rfl, rfl, k0, k1, k2, k3⟩ := h
  have q0 := k0
  obtain ⟨u2, rfl, p0, p1, h2⟩ := q0
  obtain ⟨A2, C2, _, _, rfl, -, -⟩ := h2.open_
  obtain ⟨A3, C3, _, _, rfl, -, -⟩ := k1.open_
  obtain ⟨A4, C4, _, _, rfl, -, -⟩ := k2.open_
  obtain ⟨A5, C5, _, _, rfl, -, -⟩ := k3.open_
  have e6 : ((x.future.length : Int) == 0) = true := by simp [hw]
  have e7 : x.future.length ≤ 40 := by omega
  clear hw
  go_enter Try.func40, Try.ntmps40
  go_wp2_with (first
    | (go_at_call 13; (with_reducible refine (implIsValidSession_any [.int .i64 x.puzzle.points, .string x.puzzle.names, .slice A2 x.puzzle.moves.length C2, .slice A3 x.state.length C3, .slice A4 x.history.length C4, .slice A5 x.future.length C5] x _ _ (Rp.keep h0 (by with_reducible repeat (first | exact Only.refl _ _ | assumption | refine Only.drewN ?_ _ | refine Only.drew ?_ | refine Only.alloc ?_ _ | refine Only.setCell ?_ (by intro hh; exfalso; simp at hh; try omega) _ | refine Only.trans ?_ (by assumption))))).mono ?_); rintro en w1 ⟨rfl, t1⟩; have s1 : w.heap.size + 2 ≤ w1.heap.size := (by have := t1.size; simp at this; omega); have y1 := t1.cells_eq w.heap.size (by simp; omega) (by simp); have y1' := t1.cells_eq (w.heap.size + 1) (by simp) (by simp); have z1' := t1.frozen_eq (w.heap.size + 1) (by simp) (by simp))
    | (go_at_call 68; (with_reducible refine (cloneSession_any [.int .i64 x.puzzle.points, .string x.puzzle.names, .slice A2 x.puzzle.moves.length C2, .slice A3 x.state.length C3, .slice A4 x.history.length C4, .slice A5 x.future.length C5] x _ _ (Rp.keep h0 (by with_reducible repeat (first | exact Only.refl _ _ | assumption | refine Only.drewN ?_ _ | refine Only.drew ?_ | refine Only.alloc ?_ _ | refine Only.setCell ?_ (by intro hh; exfalso; simp at hh; try omega) _ | refine Only.trans ?_ (by assumption)))) hq).mono ?_); rintro en w2 ⟨Am, Cm, As, Cs, Ah, Ch, Af, Cf, gm, gs, hs, us, rfl, hP, t2⟩; have s2 : w.heap.size + 2 ≤ w2.heap.size := Nat.le_trans s1 t2.size; have y2 := t2.cells_eq w.heap.size (by omega) (by simp); have y2' := t2.cells_eq (w.heap.size + 1) (by omega) (by simp); have z2' := t2.frozen_eq (w.heap.size + 1) (by omega) (by simp); have HP := Lib.hid hP; clear hP; have s2a : w.heap.size < w2.heap.size := (by omega); have s2b : w.heap.size + 1 < w2.heap.size := (by omega))
    | fail "no arm")
  have hP := HP.out
  have hlt := hP.fr.lt
  have hge := hP.fr.ge
  have hd : ∀ b ∈ gm ++ (gs ++ (((Value.slice Ah x.history.length Ch).ownBlock.toList ++ hs.flatten) ++ ((Value.slice Af x.future.length Cf).ownBlock.toList ++ us.flatten))), b ∉ [w2.heap.size, w.heap.size + 1] := fun b hb hm => by
    have h5 := hlt b hb
    have h6 := hge b hb
    simp at hm
    omega
  exact bodyPost_ret (v := .tuple #[.agg #[.int .i64 x.puzzle.points, .string x.puzzle.names, .slice Am x.puzzle.moves.length Cm, .slice As x.state.length Cs, .slice Ah x.history.length Ch, .slice Af x.future.length Cf], .bool false]) (by simp [results, Try.results40, go_sem, y2', y1', s2b]) rfl ⟨[.int .i64 x.puzzle.points, .string x.puzzle.names, .slice Am x.puzzle.moves.length Cm, .slice As x.state.length Cs, .slice Ah x.history.length Ch, .slice Af x.future.length Cf], _, rfl, Rp.only (fp' := [w2.heap.size, w.heap.size + 1]) hP.rep (by with_reducible repeat (first | exact Only.refl _ _ | assumption | refine Only.drewN ?_ _ | refine Only.drew ?_ | refine Only.alloc ?_ _ | refine Only.setCell ?_ (by intro _; simp) _ | refine Only.trans ?_ (Only.weaken (by assumption) _))) hd, (hP.fr.only (fp' := [w2.heap.size, w.heap.size + 1]) (by with_reducible repeat (first | exact Only.refl _ _ | assumption | refine Only.drewN ?_ _ | refine Only.drew ?_ | refine Only.alloc ?_ _ | refine Only.setCell ?_ (by intro _; simp) _ | refine Only.trans ?_ (Only.weaken (by assumption) _))) hd).mono (by omega), (by with_reducible repeat (first | exact Only.refl _ _ | assumption | refine Only.drewN ?_ _ | refine Only.drew ?_ | refine Only.alloc ?_ _ | refine Only.setCell ?_ (by intro hh; exfalso; simp at hh; try omega) _ | refine Only.trans ?_ (by assumption)))⟩
set_option maxHeartbeats 4000000 in
theorem implRedoWord_yes (cs : List Value) (x : Session) (fp : List Nat) (w : World) (h : Rp.rep w cs x fp) (hq : validSe x = true) (hw : x.future.length ≠ 0) :
    Calls Try.prog 40 #[.agg cs.toArray] w (SeRes (redoW x) true w) := by
  have h0 := h
  obtain ⟨c0, v1, v2, v3, f0, f1, f2, f3, rfl, rfl, k0, k1, k2, k3⟩ := h
  have q0 := k0
  obtain ⟨u2, rfl, p0, p1, h2⟩ := q0
  obtain ⟨A2, C2, _, _, rfl, -, -⟩ := h2.open_
  obtain ⟨A3, C3, _, _, rfl, -, -⟩ := k1.open_
  obtain ⟨A4, C4, _, _, rfl, -, -⟩ := k2.open_
  obtain ⟨A5, C5, _, _, rfl, -, -⟩ := k3.open_
  obtain ⟨hst, hml, -, -, hhl, hh2, hul, hu2⟩ := validSe_facts hq
  have hpos : 0 < x.future.length := by omega
  have hlw := validSe_letters hq (lastW x.future) (.inr (lastW_mem hpos))
  obtain ⟨hl200, hlt⟩ := validW_ltrs hml hlw
  have e1 : (0 : Int) ≤ (x.future.length : Int) - 1 := by omega
  have e2 : ((x.future.length : Int) - 1).toNat = x.future.length - 1 := by omega
  have e3 : (x.future.length : Int) - 1 < (x.future.length : Int) := by omega
  have e5 : (1 : Int) ≤ (x.future.length : Int) := by omega
  have e6 : ((x.future.length : Int) == 0) = false := by rw [beq_eq_false_iff_ne]; omega
  have e7 : x.future.length ≤ 40 := by omega
  have Hst := Lib.hid hst
  have Hd2 := Lib.hid hh2
  have Hs2 := Lib.hid hu2
  have Hlt := Lib.hid hlt
  have hbd : ∀ y ∈ lastW x.future, -1000 ≤ y ∧ y ≤ 1000 := fun y hy => by have := mem_ltrs.1 (hlt y hy); omega
  have Hbd := Lib.hid hbd
  clear hst hh2 hu2 hlt hlw hw hbd
  go_enter Try.func40, Try.ntmps40
  go_wp2_with (first
    | (go_at_call 13; (with_reducible refine (implIsValidSession_any [.int .i64 x.puzzle.points, .string x.puzzle.names, .slice A2 x.puzzle.moves.length C2, .slice A3 x.state.length C3, .slice A4 x.history.length C4, .slice A5 x.future.length C5] x _ _ (Rp.keep h0 (by with_reducible repeat (first | exact Only.refl _ _ | assumption | refine Only.drewN ?_ _ | refine Only.drew ?_ | refine Only.alloc ?_ _ | refine Only.setCell ?_ (by intro hh; exfalso; simp at hh; try omega) _ | refine Only.trans ?_ (by assumption))))).mono ?_); rintro en w1 ⟨rfl, t1⟩; have s1 : w.heap.size + 2 ≤ w1.heap.size := (by have := t1.size; simp at this; omega); have y1 := t1.cells_eq w.heap.size (by simp; omega) (by simp); have y1' := t1.cells_eq (w.heap.size + 1) (by simp) (by simp); have z1' := t1.frozen_eq (w.heap.size + 1) (by simp) (by simp))
    | (go_at_call 68; (with_reducible refine (cloneSession_any [.int .i64 x.puzzle.points, .string x.puzzle.names, .slice A2 x.puzzle.moves.length C2, .slice A3 x.state.length C3, .slice A4 x.history.length C4, .slice A5 x.future.length C5] x _ _ (Rp.keep h0 (by with_reducible repeat (first | exact Only.refl _ _ | assumption | refine Only.drewN ?_ _ | refine Only.drew ?_ | refine Only.alloc ?_ _ | refine Only.setCell ?_ (by intro hh; exfalso; simp at hh; try omega) _ | refine Only.trans ?_ (by assumption)))) hq).mono ?_); rintro en w2 ⟨Am, Cm, As, Cs, Ah, Ch, Af, Cf, gm, gs, hs, us, rfl, hP, t2⟩; have s2 : w.heap.size + 2 ≤ w2.heap.size := Nat.le_trans s1 t2.size; have y2 := t2.cells_eq w.heap.size (by omega) (by simp); have y2' := t2.cells_eq (w.heap.size + 1) (by omega) (by simp); have z2' := t2.frozen_eq (w.heap.size + 1) (by omega) (by simp); have HP := Lib.hid hP; clear hP; have s2a : w.heap.size < w2.heap.size := (by omega); have s2b : w.heap.size + 1 < w2.heap.size := (by omega); obtain ⟨gF, cF, u, fu, fr, eF, kl1, kl2, cu, ru, hfu, SF, rr, Fr, hfr⟩ := HP.out.fu.last HP.out.fr.right.right.right.right hpos; injection eF with eA _ eC; subst eA; subst eC; obtain ⟨aU, cU, rfl, -⟩ := ru.ints; have sF : gF < w2.heap.size := (HP.out.fu.ownlt gF rfl).2; have sFg : gF ≠ w2.heap.size := (by omega); have e4 : (x.future.length : Int) - 1 ≤ (Cf : Int) := (by omega); have Hhfu := Lib.hid hfu; have HSF := Lib.hid SF; have Hhfr := Lib.hid hfr; have HFr := Lib.hid Fr; clear hfu SF hfr Fr)
    | (go_at_call 73; (with_reducible refine (popped_any gF Cf x.future (.slice aU (lastW x.future).length cU) _ hpos kl1 kl2 (Only.cell (fp := []) (by with_reducible repeat (first | exact Only.refl _ _ | assumption | refine Only.drewN ?_ _ | refine Only.drew ?_ | refine Only.alloc ?_ _ | refine Only.setCell ?_ (by intro hh; exfalso; simp at hh; try omega) _ | refine Only.trans ?_ (by assumption))) (by simp) cu)).mono ?_); rintro en w3 ⟨rfl, m3, rfl⟩)
    | (go_at_call 74; (with_reducible refine (cloneLists_rd _ (restW x.future) fr _ (Rp.keep rr (by with_reducible repeat (first | exact Only.refl _ _ | assumption | refine Only.drewN ?_ _ | refine Only.drew ?_ | refine Only.alloc ?_ _ | refine Only.setCell ?_ (by intro hh; exfalso; simp at hh; try omega) _ | refine Only.trans ?_ (by assumption)))) (by rw [restW_len]; omega) (fun y hy => Hs2.out y (restW_mem hy))).mono ?_); rintro en w4 ⟨v4, g3, rfl, r3, F3, t4⟩; obtain ⟨A3', C3', _, _, rfl, -, -⟩ := r3.open_; have s4 : w2.heap.size + 1 ≤ w4.heap.size := (by have := t4.size; simpa using this); have s4a : w.heap.size + 1 < w4.heap.size := (by omega); have s4c : w.heap.size < w4.heap.size := (by omega); have s4b : w2.heap.size < w4.heap.size := (by omega); have B4 : Blk w4 w2.heap.size [.int .i64 x.puzzle.points, .string x.puzzle.names, .slice Am x.puzzle.moves.length Cm, .slice As x.state.length Cs, .slice Ah x.history.length Ch, .slice (some ⟨gF, 0, none⟩) x.future.length Cf] := Blk.keep (Blk.new w2 _ 32) ((Only.ofDrewN _ m3 []).trans t4); have c40 := B4.cell 0 rfl; have c41 := B4.cell 1 rfl; have c42 := B4.cell 2 rfl; have c43 := B4.cell 3 rfl; have c44 := B4.cell 4 rfl; have c45 := B4.cell 5 rfl; have z4 := B4.frozen; have HB4 := Lib.hid B4; clear B4; have y4 := t4.cells_eq w.heap.size (by simp; omega) (by simp); have y4' := t4.cells_eq (w.heap.size + 1) (by simp; omega) (by simp); have z4' := t4.frozen_eq (w.heap.size + 1) (by simp; omega) (by simp); have T4 : Only [] w (w4.setCell ⟨w2.heap.size, 5, none⟩ (.slice A3' (restW x.future).length C3')) := (by with_reducible repeat (first | exact Only.refl _ _ | assumption | refine Only.drewN ?_ _ | refine Only.drew ?_ | refine Only.alloc ?_ _ | refine Only.setCell ?_ (by intro hh; exfalso; simp at hh; try omega) _ | refine Only.trans ?_ (by assumption))); have K4 : Only [] w2 (w4.setCell ⟨w2.heap.size, 5, none⟩ (.slice A3' (restW x.future).length C3')) := (by with_reducible repeat (first | exact Only.refl _ _ | assumption | refine Only.drewN ?_ _ | refine Only.drew ?_ | refine Only.alloc ?_ _ | refine Only.setCell ?_ (by intro hh; exfalso; simp at hh; try omega) _ | refine Only.trans ?_ (by assumption))))
    | (go_at_call 71; (with_reducible refine (pushed_acc (B := w1.heap.size) (Value.slice Ah x.history.length Ch) _ x.history (lastW x.future) hs fu _ (HP.out.hi.keep (by with_reducible repeat (first | exact Only.refl _ _ | assumption | refine Only.drewN ?_ _ | refine Only.drew ?_ | refine Only.alloc ?_ _ | refine Only.setCell ?_ (by intro hh; exfalso; simp at hh; try omega) _ | refine Only.trans ?_ (by assumption)))) (Fresh.keep HP.out.fr.right.right.left.right (by with_reducible repeat (first | exact Only.refl _ _ | assumption | refine Only.drewN ?_ _ | refine Only.drew ?_ | refine Only.alloc ?_ _ | refine Only.setCell ?_ (by intro hh; exfalso; simp at hh; try omega) _ | refine Only.trans ?_ (by assumption)))) (Rp.keep ru (by with_reducible repeat (first | exact Only.refl _ _ | assumption | refine Only.drewN ?_ _ | refine Only.drew ?_ | refine Only.alloc ?_ _ | refine Only.setCell ?_ (by intro hh; exfalso; simp at hh; try omega) _ | refine Only.trans ?_ (by assumption)))) (by have := t2.size; simp; omega) hhl (by omega)).mono ?_); rintro en w5 ⟨v5, g5, rfl, r5, F5, hs5, t5⟩; obtain ⟨A5', C5', _, _, rfl, -, -⟩ := r5.open_; have hvo : ∀ b ∈ (Value.slice Ah x.history.length Ch).ownBlock.toList, w1.heap.size ≤ b ∧ b < w2.heap.size := (fun b hb => HP.out.hi.ownlt b (by simpa using hb)); have hvg : w2.heap.size ∉ (Value.slice Ah x.history.length Ch).ownBlock.toList := (fun hm => by have := (hvo _ hm).2; omega); have hvb : w.heap.size + 1 ∉ (Value.slice Ah x.history.length Ch).ownBlock.toList := (fun hm => by have := (hvo _ hm).1; omega); have hvc : w.heap.size ∉ (Value.slice Ah x.history.length Ch).ownBlock.toList := (fun hm => by have := (hvo _ hm).1; omega); have s5 : w4.heap.size ≤ w5.heap.size := (by have := t5.size; simpa using this); have s5a : w.heap.size + 1 < w5.heap.size := (by omega); have s5c : w.heap.size < w5.heap.size := (by omega); have s5b : w2.heap.size < w5.heap.size := (by omega); have B5 := Blk.only (Blk.set HB4.out 5 (.slice A3' (restW x.future).length C3')) t5 hvg; have c50 := B5.cell 0 rfl; have c51 := B5.cell 1 rfl; have c52 := B5.cell 2 rfl; have c53 := B5.cell 3 rfl; have c54 := B5.cell 4 rfl; have c55 := B5.cell 5 rfl; have z5 := B5.frozen; have HB5 := Lib.hid B5; clear B5; have y5 := t5.cells_eq w.heap.size (by simp; omega) hvc; have y5' := t5.cells_eq (w.heap.size + 1) (by simp; omega) hvb; have z5' := t5.frozen_eq (w.heap.size + 1) (by simp; omega) hvb; have T5 : Only [] w w5 := T4.then_ t5 (fun b hb hl => by have := (hvo b hb).1; omega); have dfu : ∀ b ∈ fu, b ∉ (Value.slice Ah x.history.length Ch).ownBlock.toList := (fun b hb hm => HP.out.fr.parts.2.2 b (List.mem_append_left _ hm) (List.mem_append_right _ (Hhfu.out b hb))); have ru5 := Rp.only (Rp.keep ru K4) t5 dfu; have Hvo := Lib.hid hvo; clear hvo hvg hvb hvc dfu)
    | (go_at_call 70; (with_reducible refine (implApply_any [.int .i64 x.puzzle.points, .string x.puzzle.names, .slice A2 x.puzzle.moves.length C2] x.puzzle _ _ _ x.state (lastW x.future) _ _ _ (Rp.keep k0 (by with_reducible repeat (first | exact Only.refl _ _ | assumption | refine Only.drewN ?_ _ | refine Only.drew ?_ | refine Only.alloc ?_ _ | refine Only.setCell ?_ (by intro hh; exfalso; simp at hh; try omega) _ | refine Only.trans ?_ (by assumption)))) (Rp.keep k1 (by with_reducible repeat (first | exact Only.refl _ _ | assumption | refine Only.drewN ?_ _ | refine Only.drew ?_ | refine Only.alloc ?_ _ | refine Only.setCell ?_ (by intro hh; exfalso; simp at hh; try omega) _ | refine Only.trans ?_ (by assumption)))) (Rp.only (fp' := [w2.heap.size]) ru5 (by with_reducible repeat (first | exact Only.refl _ _ | assumption | refine Only.drewN ?_ _ | refine Only.drew ?_ | refine Only.alloc ?_ _ | refine Only.setCell ?_ (by intro _; simp) _ | refine Only.trans ?_ (Only.weaken (by assumption) _))) (fun b hb hm => by have h5 := HP.out.fr.lt b (List.mem_append_right _ (List.mem_append_right _ (List.mem_append_right _ (List.mem_append_right _ (Hhfu.out b hb))))); simp at hm; omega)) Hst.out Hlt.out).mono ?_); rintro en w6 ⟨v6, g6, rfl, r6, F6, t6⟩; obtain ⟨A6', C6', _, _, rfl, -, -⟩ := r6.open_; have s6 : w5.heap.size ≤ w6.heap.size := (by have := t6.size; simpa using this); have s6a : w.heap.size + 1 < w6.heap.size := (by omega); have s6b : w2.heap.size < w6.heap.size := (by omega); have B6 := Blk.keep (Blk.set HB5.out 4 (.slice A5' (pushW x.history (lastW x.future)).length C5')) t6; have c60 := B6.cell 0 rfl; have c61 := B6.cell 1 rfl; have c62 := B6.cell 2 rfl; have c63 := B6.cell 3 rfl; have c64 := B6.cell 4 rfl; have c65 := B6.cell 5 rfl; have z6 := B6.frozen; clear B6; have y6' := t6.cells_eq (w.heap.size + 1) (by simp; omega) (by simp); have z6' := t6.frozen_eq (w.heap.size + 1) (by simp; omega) (by simp))
    | fail "no arm")
  have hP := HP.out
  have G3 : ∀ b ∈ g3, w2.heap.size + 1 ≤ b := fun b hb => by have := F3.ge b hb; simpa using this
  have L3 := F3.lt
  have G6 : ∀ b ∈ g6, w5.heap.size ≤ b := fun b hb => by have := F6.ge b hb; first | omega | simpa using this
  have L5 := F5.lt
  have FM := hP.fr.left
  have Lm : ∀ b ∈ gm, w1.heap.size ≤ b ∧ b < w2.heap.size := fun b hb => ⟨FM.ge b hb, FM.lt b hb⟩
  have hW4 : (w4.setCell ⟨w2.heap.size, 5, none⟩ (.slice A3' (restW x.future).length C3')).heap.size = w4.heap.size := by simp
  have dH : ∀ b ∈ gm, b ∉ (Value.slice Ah x.history.length Ch).ownBlock.toList := fun b hb hm => (hP.fr.parts.1 b hb).1 (List.mem_append_left _ hm)
  have d3H : ∀ b ∈ g3, b ∉ (Value.slice Ah x.history.length Ch).ownBlock.toList := fun b hb hm => by have := G3 b hb; have := (Hvo.out b hm).2; omega
  have d3g : ∀ b ∈ g3, b ∉ [w2.heap.size] := fun b hb hm => by have := G3 b hb; simp at hm; omega
  have mv5 := Rp.only (Rp.keep hP.mv K4) t5 dH
  have FM5 := (FM.keep K4).only t5 dH
  have r35 := Rp.only (Rp.only (w' := (w4.setCell ⟨w2.heap.size, 5, none⟩ (.slice A3' (restW x.future).length C3'))) (fp' := [w2.heap.size]) r3 (by with_reducible repeat (first | exact Only.refl _ _ | assumption | refine Only.drewN ?_ _ | refine Only.drew ?_ | refine Only.alloc ?_ _ | refine Only.setCell ?_ (by intro _; simp) _ | refine Only.trans ?_ (Only.weaken (by assumption) _))) d3g) t5 d3H
  have F35 := (F3.only (w' := (w4.setCell ⟨w2.heap.size, 5, none⟩ (.slice A3' (restW x.future).length C3'))) (fp' := [w2.heap.size]) (by with_reducible repeat (first | exact Only.refl _ _ | assumption | refine Only.drewN ?_ _ | refine Only.drew ?_ | refine Only.alloc ?_ _ | refine Only.setCell ?_ (by intro _; simp) _ | refine Only.trans ?_ (Only.weaken (by assumption) _))) d3g).only t5 d3H
  have hs6 : ∀ b ∈ g5, b ∉ gm ∧ b ∉ g3 ∧ b ≠ w2.heap.size ∧ w1.heap.size ≤ b := fun b hb => by
    rcases hs5 b hb with h5 | h5
    · have h6 := hP.fr.right.right.left.lt b h5
      refine ⟨fun hm => (hP.fr.parts.1 b hm).1 h5, fun hm => by have := G3 b hm; omega, by omega, F5.ge b hb⟩
    · refine ⟨fun hm => by have := (Lm b hm).2; omega, fun hm => by have := L3 b hm; omega, by omega, F5.ge b hb⟩
  have dm : ∀ b ∈ gm, b ∉ [w2.heap.size, w.heap.size + 1] := fun b hb hm => by have := Lm b hb; simp at hm; omega
  have d3 : ∀ b ∈ g3, b ∉ [w2.heap.size, w.heap.size + 1] := fun b hb hm => by have := G3 b hb; simp at hm; omega
  have d5 : ∀ b ∈ g5, b ∉ [w2.heap.size, w.heap.size + 1] := fun b hb hm => by have := hs6 b hb; simp at hm; omega
  have d6 : ∀ b ∈ g6, b ∉ [w2.heap.size, w.heap.size + 1] := fun b hb hm => by have := G6 b hb; simp at hm; omega
  refine bodyPost_ret (v := .tuple #[.agg #[.int .i64 x.puzzle.points, .string x.puzzle.names, .slice Am x.puzzle.moves.length Cm, .slice A6' (appW x.puzzle x.state (lastW x.future)).length C6', .slice A5' (pushW x.history (lastW x.future)).length C5', .slice A3' (restW x.future).length C3'], .bool true]) (by simp [results, Try.results40, go_sem, y6', y5', y4', y2', y1', s2b]) rfl ⟨[.int .i64 x.puzzle.points, .string x.puzzle.names, .slice Am x.puzzle.moves.length Cm, .slice A6' (appW x.puzzle x.state (lastW x.future)).length C6', .slice A5' (pushW x.history (lastW x.future)).length C5', .slice A3' (restW x.future).length C3'], gm ++ (g6 ++ (g5 ++ g3)), rfl,
    ⟨[.int .i64 x.puzzle.points, .string x.puzzle.names, .slice Am x.puzzle.moves.length Cm], _, _, _, gm, g6, g5, g3, rfl, rfl, ⟨_, rfl, p0, p1, Rp.only (fp' := [w2.heap.size, w.heap.size + 1]) mv5 (by with_reducible repeat (first | exact Only.refl _ _ | assumption | refine Only.drewN ?_ _ | refine Only.drew ?_ | refine Only.alloc ?_ _ | refine Only.setCell ?_ (by intro _; simp) _ | refine Only.trans ?_ (Only.weaken (by assumption) _))) dm⟩, Rp.only (fp' := [w2.heap.size, w.heap.size + 1]) r6 (by with_reducible repeat (first | exact Only.refl _ _ | assumption | refine Only.drewN ?_ _ | refine Only.drew ?_ | refine Only.alloc ?_ _ | refine Only.setCell ?_ (by intro _; simp) _ | refine Only.trans ?_ (Only.weaken (by assumption) _))) d6, Rp.only (fp' := [w2.heap.size, w.heap.size + 1]) r5 (by with_reducible repeat (first | exact Only.refl _ _ | assumption | refine Only.drewN ?_ _ | refine Only.drew ?_ | refine Only.alloc ?_ _ | refine Only.setCell ?_ (by intro _; simp) _ | refine Only.trans ?_ (Only.weaken (by assumption) _))) d5, Rp.only (fp' := [w2.heap.size, w.heap.size + 1]) r35 (by with_reducible repeat (first | exact Only.refl _ _ | assumption | refine Only.drewN ?_ _ | refine Only.drew ?_ | refine Only.alloc ?_ _ | refine Only.setCell ?_ (by intro _; simp) _ | refine Only.trans ?_ (Only.weaken (by assumption) _))) d3⟩, ?_, ?_⟩
  · exact Fresh.of4 ((FM5.only (fp' := [w2.heap.size, w.heap.size + 1]) (by with_reducible repeat (first | exact Only.refl _ _ | assumption | refine Only.drewN ?_ _ | refine Only.drew ?_ | refine Only.alloc ?_ _ | refine Only.setCell ?_ (by intro _; simp) _ | refine Only.trans ?_ (Only.weaken (by assumption) _))) dm).mono (by omega)) ((F6.only (fp' := [w2.heap.size, w.heap.size + 1]) (by with_reducible repeat (first | exact Only.refl _ _ | assumption | refine Only.drewN ?_ _ | refine Only.drew ?_ | refine Only.alloc ?_ _ | refine Only.setCell ?_ (by intro _; simp) _ | refine Only.trans ?_ (Only.weaken (by assumption) _))) d6).mono (by first | omega | (simp; omega))) ((F5.only (fp' := [w2.heap.size, w.heap.size + 1]) (by with_reducible repeat (first | exact Only.refl _ _ | assumption | refine Only.drewN ?_ _ | refine Only.drew ?_ | refine Only.alloc ?_ _ | refine Only.setCell ?_ (by intro _; simp) _ | refine Only.trans ?_ (Only.weaken (by assumption) _))) d5).mono (by omega)) ((F35.only (fp' := [w2.heap.size, w.heap.size + 1]) (by with_reducible repeat (first | exact Only.refl _ _ | assumption | refine Only.drewN ?_ _ | refine Only.drew ?_ | refine Only.alloc ?_ _ | refine Only.setCell ?_ (by intro _; simp) _ | refine Only.trans ?_ (Only.weaken (by assumption) _))) d3).mono (by simp; omega)) (fun b hb hm => by have := Lm b hb; have := G6 b hm; omega) (fun b hb hm => (hs6 b hm).1 hb) (fun b hb hm => by have := Lm b hb; have := G3 b hm; omega) (fun b hb hm => by have := G6 b hb; have := L5 b hm; omega) (fun b hb hm => by have := G6 b hb; have := L3 b hm; omega) (fun b hb hm => (hs6 b hb).2.1 hm)
  · exact (by with_reducible repeat (first | exact Only.refl _ _ | assumption | refine Only.drewN ?_ _ | refine Only.drew ?_ | refine Only.alloc ?_ _ | refine Only.setCell ?_ (by intro hh; exfalso; simp at hh; try omega) _ | refine Only.trans ?_ (by assumption)))
theorem redoRes_no {x : Session} (h : validSe x = false) : redoRes x = noSess ∧ redoOk x = false := ⟨by unfold redoRes; rw [if_neg (by simp [h])], by unfold redoOk; rw [h]; rfl⟩
theorem redoRes_bad {x : Session} (h : validSe x = true) (h2 : x.future.length = 0) : redoRes x = x ∧ redoOk x = false := ⟨by unfold redoRes; rw [if_pos h, if_pos h2], by unfold redoOk; rw [h, decide_eq_false (by simp [h2])]; rfl⟩
theorem redoRes_yes {x : Session} (h : validSe x = true) (h2 : x.future.length ≠ 0) : redoRes x = redoW x ∧ redoOk x = true := ⟨by unfold redoRes; rw [if_pos h, if_neg h2], by unfold redoOk; rw [h, decide_eq_true h2]; rfl⟩
theorem specRedoWord_any (cs : List Value) (x : Session) (fp : List Nat) (w : World) (h : Rp.rep w cs x fp) :
    Calls Try.prog 39 #[.agg cs.toArray] w fun e w' => ∃ cs' fp', e = .returned (.tuple #[.agg cs'.toArray, .bool (redoOk x)]) ∧ Rp.rep w' cs' (redoRes x) fp' ∧ Fresh w.heap.size w' fp' ∧ Only [] w w' := by
  rcases hq : validSe x
  · rw [(redoRes_no hq).1, (redoRes_no hq).2]; exact specRedoWord_no cs x fp w h hq
  by_cases hw : x.future.length = 0
  · rw [(redoRes_bad hq hw).1, (redoRes_bad hq hw).2]; exact specRedoWord_bad cs x fp w h hq hw
  · rw [(redoRes_yes hq hw).1, (redoRes_yes hq hw).2]; exact specRedoWord_yes cs x fp w h hq hw
theorem implRedoWord_any (cs : List Value) (x : Session) (fp : List Nat) (w : World) (h : Rp.rep w cs x fp) :
    Calls Try.prog 40 #[.agg cs.toArray] w fun e w' => ∃ cs' fp', e = .returned (.tuple #[.agg cs'.toArray, .bool (redoOk x)]) ∧ Rp.rep w' cs' (redoRes x) fp' ∧ Fresh w.heap.size w' fp' ∧ Only [] w w' := by
  rcases hq : validSe x
  · rw [(redoRes_no hq).1, (redoRes_no hq).2]; exact implRedoWord_no cs x fp w h hq
  by_cases hw : x.future.length = 0
  · rw [(redoRes_bad hq hw).1, (redoRes_bad hq hw).2]; exact implRedoWord_bad cs x fp w h hq hw
  · rw [(redoRes_yes hq hw).1, (redoRes_yes hq hw).2]; exact implRedoWord_yes cs x fp w h hq hw
end Go.Proofs.Ytpfmkjcngknecaa
