/- PlayWord: the reference's and the program's. Words taken back from a history: what both RedoWord and UndoWord need. (Printed by mkredo.py.) -/
import Derived.Test.YtajkhdbdkjhilaaGreatRowSessionsG10
import Derived.Deep.RegionLaw
namespace Go.Proofs.YtajkhdbdkjhilaaGreat
open Go.RowKit
set_option maxRecDepth 10000

/-- a session and a Bool: own memory -/
def SeRes (x : Session) (b : Bool) (w : World) (e : Ending) (w' : World) : Prop := ∃ cs' fp', e = .returned (.tuple #[.agg cs'.toArray, .bool b]) ∧ Rp.rep w' cs' x fp' ∧ Fresh w.heap.size w' fp' ∧ Only [] w w'
def playW (x : Session) (l : List Int) : Session := ⟨x.puzzle, appW x.puzzle x.state l, pushW x.history l, []⟩
/-- what playIn leaves: another state -/
def PlayP (x : Session) (l : List Int) (vm vh vf : Value) (w : World) (e : Ending) (w' : World) : Prop :=
  ∃ A C f, e = .returned (.agg #[.int .i64 x.puzzle.points, .string x.puzzle.names, vm, .slice A (appW x.puzzle x.state l).length C, vh, vf]) ∧ Rd w' (.slice A (appW x.puzzle x.state l).length C) (appW x.puzzle x.state l) f ∧ Fresh w.heap.size w' f ∧ Only [] w w'
set_option maxHeartbeats 4000000 in
theorem playIn_any (x : Session) (l : List Int) (A2 A3 A4 A5 : Option Addr) (C2 C3 C4 C5 n4 n5 : Nat) (vl : Value) (f2 f3 fl : List Nat) (w : World) (h2 : Rd w (.slice A2 x.puzzle.moves.length C2) x.puzzle.moves f2) (h3 : Rd w (.slice A3 x.state.length C3) x.state f3)
    (hl : Rd w vl l fl) (hst : stateB x.puzzle x.state = true) (hlt : ∀ y ∈ l, y ∈ ltrs x.puzzle.moves.length) :
    Calls Tryz.prog 34 #[.agg #[.int .i64 x.puzzle.points, .string x.puzzle.names, .slice A2 x.puzzle.moves.length C2, .slice A3 x.state.length C3, .slice A4 n4 C4, .slice A5 n5 C5], vl] w (PlayP x l (.slice A2 x.puzzle.moves.length C2) (.slice A4 n4 C4) (.slice A5 n5 C5) w) := by
  obtain ⟨⟨n1, n20⟩, hml, hmp, hpn⟩ := stateB_pn hst
  have hev := evW_pn hmp l hlt
  have Hmp := Lib.hid hmp
  have Hpn := Lib.hid hpn
  have Hlt := Lib.hid hlt
  have Hev := Lib.hid hev
  have hW0 : Only [] w ((w.alloc (.cells #[.int .i64 x.puzzle.points, .string x.puzzle.names, .slice A2 x.puzzle.moves.length C2, .slice A3 x.state.length C3, .slice A4 n4 C4, .slice A5 n5 C5] 29)).alloc (.cells #[.int .i64 0, .string ⟨#[]⟩, .slice none 0 0, .slice none 0 0, .slice none 0 0, .slice none 0 0] 29)) := ((Only.refl _ _).alloc _).alloc _
  have hB : Blk ((w.alloc (.cells #[.int .i64 x.puzzle.points, .string x.puzzle.names, .slice A2 x.puzzle.moves.length C2, .slice A3 x.state.length C3, .slice A4 n4 C4, .slice A5 n5 C5] 29)).alloc (.cells #[.int .i64 0, .string ⟨#[]⟩, .slice none 0 0, .slice none 0 0, .slice none 0 0, .slice none 0 0] 29)) w.heap.size [.int .i64 x.puzzle.points, .string x.puzzle.names, .slice A2 x.puzzle.moves.length C2, .slice A3 x.state.length C3, .slice A4 n4 C4, .slice A5 n5 C5] := Blk.keep (Blk.new_at rfl) ((Only.refl _ _).alloc _)
  have HB := Lib.hid hB
  clear hmp hpn hlt hev hst hB
  go_enter Tryz.func34, Tryz.ntmps34
  go_wp2
  go_region_law (first
    | (go_simp; go_at_call 47; (with_reducible refine (specEvaluate_i x.puzzle.points n1 n20 _ _ x.puzzle.moves l _ _ _ (Rp.keep h2 (by with_reducible repeat (first | exact Only.refl _ _ | assumption | refine Only.drewN ?_ _ | refine Only.drew ?_ | refine Only.alloc ?_ _ | refine Only.setCell ?_ (by intro hh; exfalso; simp at hh; try omega) _ | refine Only.trans ?_ (by assumption)))) (Rp.keep hl (by with_reducible repeat (first | exact Only.refl _ _ | assumption | refine Only.drewN ?_ _ | refine Only.drew ?_ | refine Only.alloc ?_ _ | refine Only.setCell ?_ (by intro hh; exfalso; simp at hh; try omega) _ | refine Only.trans ?_ (by assumption)))) Hmp.out (by omega) Hlt.out).mono ?_); rintro en w3 ⟨v3, g3, rfl, r3, F3, t3⟩; have y3 := t3.cells_eq w.heap.size (by simp; omega) (by simp); have z3 := t3.frozen_eq w.heap.size (by simp; omega) (by simp); have y3' := t3.cells_eq (w.heap.size + 1) (by simp) (by simp); have z3' := t3.frozen_eq (w.heap.size + 1) (by simp) (by simp); have s3 : w.heap.size + 1 < w3.heap.size := (by have := t3.size; simp at this; omega))
    | (go_simp; go_at_call 46; (with_reducible refine (specCompose_rd x.puzzle.points.toNat _ _ _ _ _ _ _ (Rp.keep h3 (by with_reducible repeat (first | exact Only.refl _ _ | assumption | refine Only.drewN ?_ _ | refine Only.drew ?_ | refine Only.alloc ?_ _ | refine Only.setCell ?_ (by intro hh; exfalso; simp at hh; try omega) _ | refine Only.trans ?_ (by assumption)))) r3 Hpn.out Hev.out (by omega)).mono ?_); rintro en w4 ⟨v4, g4, rfl, r4, F4, t4⟩; obtain ⟨A6, C6, rfl, -⟩ := r4.ints; have y4 := t4.cells_eq w.heap.size (by omega) (by simp); have z4 := t4.frozen_eq w.heap.size (by omega) (by simp); have y4' := t4.cells_eq (w.heap.size + 1) (by omega) (by simp); have z4' := t4.frozen_eq (w.heap.size + 1) (by omega) (by simp))
    | fail "no arm")
  all_goals go_wp2
  all_goals have hW : Only [w.heap.size, w.heap.size + 1] w4 (((((((w4.setCell ⟨w.heap.size, 3, none⟩ (.slice A6 (PM.comp x.state (evW x.puzzle.points.toNat x.puzzle.moves l)).length C6)).setCell ⟨w.heap.size + 1, 0, none⟩ (.int .i64 x.puzzle.points)).setCell ⟨w.heap.size + 1, 1, none⟩ (.string x.puzzle.names)).setCell ⟨w.heap.size + 1, 2, none⟩ (.slice A2 x.puzzle.moves.length C2)).setCell ⟨w.heap.size + 1, 3, none⟩ (.slice A6 (PM.comp x.state (evW x.puzzle.points.toNat x.puzzle.moves l)).length C6)).setCell ⟨w.heap.size + 1, 4, none⟩ (.slice A4 n4 C4)).setCell ⟨w.heap.size + 1, 5, none⟩ (.slice A5 n5 C5)) := by with_reducible exact Only.setCell (Only.setCell (Only.setCell (Only.setCell (Only.setCell (Only.setCell (Only.setCell (Only.refl [w.heap.size, w.heap.size + 1] w4) (by intro _; simp) _) (by intro _; simp) _) (by intro _; simp) _) (by intro _; simp) _) (by intro _; simp) _) (by intro _; simp) _) (by intro _; simp) _
  all_goals have hG : ∀ b ∈ g4, b ∉ [w.heap.size, w.heap.size + 1] := (fun b hb hm => by have h5 := F4.ge b hb; simp at hm; omega)
  all_goals refine bodyPost_ret (v := .agg #[.int .i64 x.puzzle.points, .string x.puzzle.names, .slice A2 x.puzzle.moves.length C2, .slice A6 (PM.comp x.state (evW x.puzzle.points.toNat x.puzzle.moves l)).length C6, .slice A4 n4 C4, .slice A5 n5 C5]) (by simp [results, Tryz.results34, go_sem, y4', y3']) rfl ⟨A6, C6, g4, rfl, Rp.only r4 hW hG, (F4.only hW hG).mono (by omega), ?_⟩
  all_goals exact (hW0.trans ((Only.refl _ _).drew.trans (t3.trans t4))).then_ hW (fun b hb hl => by simp at hb; omega)
set_option maxHeartbeats 4000000 in
theorem specPlayWord_no (cs : List Value) (x : Session) (fp : List Nat) (vl : Value) (l : List Int) (fl : List Nat) (w : World) (h : Rp.rep w cs x fp) (hl : Rd w vl l fl) (hq : validSe x = false) :
    Calls Tryz.prog 8 #[.agg cs.toArray, vl] w (SeRes noSess false w) := by
  have h0 := h
  obtain ⟨c0, v1, v2, v3, f0, f1, f2, f3, rfl, rfl, k0, k1, k2, k3⟩ := h
  have q0 := k0
  obtain ⟨u2, rfl, p0, p1, h2⟩ := q0
  obtain ⟨A2, C2, _, _, rfl, -, -⟩ := h2.open_
  obtain ⟨A3, C3, _, _, rfl, -, -⟩ := k1.open_
  obtain ⟨A4, C4, _, _, rfl, -, -⟩ := k2.open_
  obtain ⟨A5, C5, _, _, rfl, -, -⟩ := k3.open_
  obtain ⟨al, cl, rfl, IL⟩ := hl.ints
  have hlb := IL.bound
  clear IL
  go_enter Tryz.func8, Tryz.ntmps8
  go_wp2_with (first
    | (go_at_call 10; (with_reducible refine (specIsValidSession_any [.int .i64 x.puzzle.points, .string x.puzzle.names, .slice A2 x.puzzle.moves.length C2, .slice A3 x.state.length C3, .slice A4 x.history.length C4, .slice A5 x.future.length C5] x _ _ (Rp.keep h0 (by with_reducible repeat (first | exact Only.refl _ _ | assumption | refine Only.drewN ?_ _ | refine Only.drew ?_ | refine Only.alloc ?_ _ | refine Only.setCell ?_ (by intro hh; exfalso; simp at hh; try omega) _ | refine Only.trans ?_ (by assumption))))).mono ?_); rintro en w1 ⟨rfl, t1⟩; have s1 : w.heap.size + 2 ≤ w1.heap.size := (by have := t1.size; simp at this; omega); have y1 := t1.cells_eq w.heap.size (by simp; omega) (by simp); have y1' := t1.cells_eq (w.heap.size + 1) (by simp) (by simp); have z1' := t1.frozen_eq (w.heap.size + 1) (by simp) (by simp))
    | fail "no arm")
  exact bodyPost_ret (v := .tuple #[.agg #[.int .i64 0, .string ⟨#[]⟩, .slice none 0 0, .slice none 0 0, .slice none 0 0, .slice none 0 0], .bool false]) (by simp [results, Tryz.results8, go_sem, y1']) rfl ⟨[.int .i64 0, .string ⟨#[]⟩, .slice none 0 0, .slice none 0 0, .slice none 0 0, .slice none 0 0], [], rfl, noSess_rep _, Fresh.nil _ _, (by with_reducible repeat (first | exact Only.refl _ _ | assumption | refine Only.drewN ?_ _ | refine Only.drew ?_ | refine Only.alloc ?_ _ | refine Only.setCell ?_ (by intro hh; exfalso; simp at hh; try omega) _ | refine Only.trans ?_ (by assumption)))⟩
set_option maxHeartbeats 4000000 in
theorem specPlayWord_bad (cs : List Value) (x : Session) (fp : List Nat) (vl : Value) (l : List Int) (fl : List Nat) (w : World) (h : Rp.rep w cs x fp) (hl : Rd w vl l fl) (hq : validSe x = true) (hw : validW x.puzzle.moves.length l = false) :
    Calls Tryz.prog 8 #[.agg cs.toArray, vl] w (SeRes x false w) := by
  have h0 := h
  obtain ⟨c0, v1, v2, v3, f0, f1, f2, f3, rfl, rfl, k0, k1, k2, k3⟩ := h
  have q0 := k0
  obtain ⟨u2, rfl, p0, p1, h2⟩ := q0
  obtain ⟨A2, C2, _, _, rfl, -, -⟩ := h2.open_
  obtain ⟨A3, C3, _, _, rfl, -, -⟩ := k1.open_
  obtain ⟨A4, C4, _, _, rfl, -, -⟩ := k2.open_
  obtain ⟨A5, C5, _, _, rfl, -, -⟩ := k3.open_
  obtain ⟨al, cl, rfl, IL⟩ := hl.ints
  have hlb := IL.bound
  clear IL
  have hml := (validSe_facts hq).2.1
  go_enter Tryz.func8, Tryz.ntmps8
  go_wp2_with (first
    | (go_at_call 10; (with_reducible refine (specIsValidSession_any [.int .i64 x.puzzle.points, .string x.puzzle.names, .slice A2 x.puzzle.moves.length C2, .slice A3 x.state.length C3, .slice A4 x.history.length C4, .slice A5 x.future.length C5] x _ _ (Rp.keep h0 (by with_reducible repeat (first | exact Only.refl _ _ | assumption | refine Only.drewN ?_ _ | refine Only.drew ?_ | refine Only.alloc ?_ _ | refine Only.setCell ?_ (by intro hh; exfalso; simp at hh; try omega) _ | refine Only.trans ?_ (by assumption))))).mono ?_); rintro en w1 ⟨rfl, t1⟩; have s1 : w.heap.size + 2 ≤ w1.heap.size := (by have := t1.size; simp at this; omega); have y1 := t1.cells_eq w.heap.size (by simp; omega) (by simp); have y1' := t1.cells_eq (w.heap.size + 1) (by simp) (by simp); have z1' := t1.frozen_eq (w.heap.size + 1) (by simp) (by simp))
    | (go_at_call 32; (with_reducible refine (copySession_any [.int .i64 x.puzzle.points, .string x.puzzle.names, .slice A2 x.puzzle.moves.length C2, .slice A3 x.state.length C3, .slice A4 x.history.length C4, .slice A5 x.future.length C5] x _ _ (Rp.keep h0 (by with_reducible repeat (first | exact Only.refl _ _ | assumption | refine Only.drewN ?_ _ | refine Only.drew ?_ | refine Only.alloc ?_ _ | refine Only.setCell ?_ (by intro hh; exfalso; simp at hh; try omega) _ | refine Only.trans ?_ (by assumption)))) hq).mono ?_); rintro en w2 ⟨Am, Cm, As, Cs, Ah, Ch, Af, Cf, gm, gs, hs, us, rfl, hP, t2⟩; have s2 : w.heap.size + 2 ≤ w2.heap.size := Nat.le_trans s1 t2.size; have y2 := t2.cells_eq w.heap.size (by omega) (by simp); have y2' := t2.cells_eq (w.heap.size + 1) (by omega) (by simp); have z2' := t2.frozen_eq (w.heap.size + 1) (by omega) (by simp); have HP := Lib.hid hP; clear hP; have s2a : w.heap.size < w2.heap.size := (by omega); have s2b : w.heap.size + 1 < w2.heap.size := (by omega))
    | (go_at_call 33; (with_reducible refine (isWordOf_rd x.puzzle.moves.length _ l _ _ (Rp.keep hl (by with_reducible repeat (first | exact Only.refl _ _ | assumption | refine Only.drewN ?_ _ | refine Only.drew ?_ | refine Only.alloc ?_ _ | refine Only.setCell ?_ (by intro hh; exfalso; simp at hh; try omega) _ | refine Only.trans ?_ (by assumption)))) (by omega) (by omega)).mono ?_); rintro en w3 ⟨rfl, m3, rfl⟩)
    | fail "no arm")
  have hP := HP.out
  have hlt := hP.fr.lt
  have hge := hP.fr.ge
  have hd : ∀ b ∈ gm ++ (gs ++ (((Value.slice Ah x.history.length Ch).ownBlock.toList ++ hs.flatten) ++ ((Value.slice Af x.future.length Cf).ownBlock.toList ++ us.flatten))), b ∉ [w2.heap.size, w.heap.size + 1] := fun b hb hm => by
    have h5 := hlt b hb
    have h6 := hge b hb
    simp at hm
    omega
  exact bodyPost_ret (v := .tuple #[.agg #[.int .i64 x.puzzle.points, .string x.puzzle.names, .slice Am x.puzzle.moves.length Cm, .slice As x.state.length Cs, .slice Ah x.history.length Ch, .slice Af x.future.length Cf], .bool false]) (by simp [results, Tryz.results8, go_sem, y2', y1', s2b]) rfl ⟨[.int .i64 x.puzzle.points, .string x.puzzle.names, .slice Am x.puzzle.moves.length Cm, .slice As x.state.length Cs, .slice Ah x.history.length Ch, .slice Af x.future.length Cf], _, rfl, Rp.only (fp' := [w2.heap.size, w.heap.size + 1]) hP.rep (by with_reducible repeat (first | exact Only.refl _ _ | assumption | refine Only.drewN ?_ _ | refine Only.drew ?_ | refine Only.alloc ?_ _ | refine Only.setCell ?_ (by intro _; simp) _ | refine Only.trans ?_ (Only.weaken (by assumption) _))) hd, (hP.fr.only (fp' := [w2.heap.size, w.heap.size + 1]) (by with_reducible repeat (first | exact Only.refl _ _ | assumption | refine Only.drewN ?_ _ | refine Only.drew ?_ | refine Only.alloc ?_ _ | refine Only.setCell ?_ (by intro _; simp) _ | refine Only.trans ?_ (Only.weaken (by assumption) _))) hd).mono (by omega), (by with_reducible repeat (first | exact Only.refl _ _ | assumption | refine Only.drewN ?_ _ | refine Only.drew ?_ | refine Only.alloc ?_ _ | refine Only.setCell ?_ (by intro hh; exfalso; simp at hh; try omega) _ | refine Only.trans ?_ (by assumption)))⟩
set_option maxHeartbeats 4000000 in
theorem specPlayWord_yes (cs : List Value) (x : Session) (fp : List Nat) (vl : Value) (l : List Int) (fl : List Nat) (w : World) (h : Rp.rep w cs x fp) (hl : Rd w vl l fl) (hq : validSe x = true) (hw : validW x.puzzle.moves.length l = true) :
    Calls Tryz.prog 8 #[.agg cs.toArray, vl] w (SeRes (playW x l) true w) := by
  have h0 := h
  obtain ⟨c0, v1, v2, v3, f0, f1, f2, f3, rfl, rfl, k0, k1, k2, k3⟩ := h
  have q0 := k0
  obtain ⟨u2, rfl, p0, p1, h2⟩ := q0
  obtain ⟨A2, C2, _, _, rfl, -, -⟩ := h2.open_
  obtain ⟨A3, C3, _, _, rfl, -, -⟩ := k1.open_
  obtain ⟨A4, C4, _, _, rfl, -, -⟩ := k2.open_
  obtain ⟨A5, C5, _, _, rfl, -, -⟩ := k3.open_
  obtain ⟨al, cl, rfl, IL⟩ := hl.ints
  have hlb := IL.bound
  clear IL
  obtain ⟨hst, hml, -, -, hhl, hh2, -, -⟩ := validSe_facts hq
  obtain ⟨hl200, hlt⟩ := validW_ltrs hml hw
  have Hst := Lib.hid hst
  have Hh2 := Lib.hid hh2
  have Hlt := Lib.hid hlt
  clear hst hh2 hlt
  go_enter Tryz.func8, Tryz.ntmps8
  go_wp2_with (first
    | (go_at_call 10; (with_reducible refine (specIsValidSession_any [.int .i64 x.puzzle.points, .string x.puzzle.names, .slice A2 x.puzzle.moves.length C2, .slice A3 x.state.length C3, .slice A4 x.history.length C4, .slice A5 x.future.length C5] x _ _ (Rp.keep h0 (by with_reducible repeat (first | exact Only.refl _ _ | assumption | refine Only.drewN ?_ _ | refine Only.drew ?_ | refine Only.alloc ?_ _ | refine Only.setCell ?_ (by intro hh; exfalso; simp at hh; try omega) _ | refine Only.trans ?_ (by assumption))))).mono ?_); rintro en w1 ⟨rfl, t1⟩; have s1 : w.heap.size + 2 ≤ w1.heap.size := (by have := t1.size; simp at this; omega); have y1 := t1.cells_eq w.heap.size (by simp; omega) (by simp); have y1' := t1.cells_eq (w.heap.size + 1) (by simp) (by simp); have z1' := t1.frozen_eq (w.heap.size + 1) (by simp) (by simp))
    | (go_at_call 32; (with_reducible refine (copySession_any [.int .i64 x.puzzle.points, .string x.puzzle.names, .slice A2 x.puzzle.moves.length C2, .slice A3 x.state.length C3, .slice A4 x.history.length C4, .slice A5 x.future.length C5] x _ _ (Rp.keep h0 (by with_reducible repeat (first | exact Only.refl _ _ | assumption | refine Only.drewN ?_ _ | refine Only.drew ?_ | refine Only.alloc ?_ _ | refine Only.setCell ?_ (by intro hh; exfalso; simp at hh; try omega) _ | refine Only.trans ?_ (by assumption)))) hq).mono ?_); rintro en w2 ⟨Am, Cm, As, Cs, Ah, Ch, Af, Cf, gm, gs, hs, us, rfl, hP, t2⟩; have s2 : w.heap.size + 2 ≤ w2.heap.size := Nat.le_trans s1 t2.size; have y2 := t2.cells_eq w.heap.size (by omega) (by simp); have y2' := t2.cells_eq (w.heap.size + 1) (by omega) (by simp); have z2' := t2.frozen_eq (w.heap.size + 1) (by omega) (by simp); have HP := Lib.hid hP; clear hP; have s2a : w.heap.size < w2.heap.size := (by omega); have s2b : w.heap.size + 1 < w2.heap.size := (by omega))
    | (go_at_call 33; (with_reducible refine (isWordOf_rd x.puzzle.moves.length _ l _ _ (Rp.keep hl (by with_reducible repeat (first | exact Only.refl _ _ | assumption | refine Only.drewN ?_ _ | refine Only.drew ?_ | refine Only.alloc ?_ _ | refine Only.setCell ?_ (by intro hh; exfalso; simp at hh; try omega) _ | refine Only.trans ?_ (by assumption)))) (by omega) (by omega)).mono ?_); rintro en w3 ⟨rfl, m3, rfl⟩)
    | (go_at_call 34; (with_reducible refine (playIn_any x l Am As Ah Af Cm Cs Ch Cf x.history.length x.future.length _ gm gs fl _ (Rp.keep HP.out.mv (by with_reducible repeat (first | exact Only.refl _ _ | assumption | refine Only.drewN ?_ _ | refine Only.drew ?_ | refine Only.alloc ?_ _ | refine Only.setCell ?_ (by intro hh; exfalso; simp at hh; try omega) _ | refine Only.trans ?_ (by assumption)))) (Rp.keep HP.out.st (by with_reducible repeat (first | exact Only.refl _ _ | assumption | refine Only.drewN ?_ _ | refine Only.drew ?_ | refine Only.alloc ?_ _ | refine Only.setCell ?_ (by intro hh; exfalso; simp at hh; try omega) _ | refine Only.trans ?_ (by assumption)))) (Rp.keep hl (by with_reducible repeat (first | exact Only.refl _ _ | assumption | refine Only.drewN ?_ _ | refine Only.drew ?_ | refine Only.alloc ?_ _ | refine Only.setCell ?_ (by intro hh; exfalso; simp at hh; try omega) _ | refine Only.trans ?_ (by assumption)))) Hst.out Hlt.out).mono ?_); rintro en w4 ⟨A, C, g4, rfl, r4, F4, t4⟩; have s4 : w2.heap.size + 1 ≤ w4.heap.size := (by have := t4.size; simp at this; omega); have s4a : w.heap.size + 1 < w4.heap.size := (by omega); have s4b : w2.heap.size < w4.heap.size := (by omega); have B4 : Blk w4 w2.heap.size [.int .i64 x.puzzle.points, .string x.puzzle.names, .slice Am x.puzzle.moves.length Cm, .slice As x.state.length Cs, .slice Ah x.history.length Ch, .slice Af x.future.length Cf] := Blk.keep (Blk.new w2 _ 29) ((Only.ofDrewN _ m3 []).trans t4); have c40 := B4.cell 0 rfl; have c41 := B4.cell 1 rfl; have c42 := B4.cell 2 rfl; have c43 := B4.cell 3 rfl; have c44 := B4.cell 4 rfl; have c45 := B4.cell 5 rfl; have z4 := B4.frozen; have HB4 := Lib.hid B4; clear B4; have y4' := t4.cells_eq (w.heap.size + 1) (by simp; omega) (by simp); have z4' := t4.frozen_eq (w.heap.size + 1) (by simp; omega) (by simp))
    | (go_at_call 35; (with_reducible refine (pushWord_rd _ _ x.history l _ fl _ (Rp.keep (HP.out.hi.rd (by decide)) (by with_reducible repeat (first | exact Only.refl _ _ | assumption | refine Only.drewN ?_ _ | refine Only.drew ?_ | refine Only.alloc ?_ _ | refine Only.setCell ?_ (by intro hh; exfalso; simp at hh; try omega) _ | refine Only.trans ?_ (by assumption)))) (Rp.keep hl (by with_reducible repeat (first | exact Only.refl _ _ | assumption | refine Only.drewN ?_ _ | refine Only.drew ?_ | refine Only.alloc ?_ _ | refine Only.setCell ?_ (by intro hh; exfalso; simp at hh; try omega) _ | refine Only.trans ?_ (by assumption)))) hhl Hh2.out (by omega)).mono ?_); rintro en w5 ⟨v5, g5, rfl, r5, F5, t5⟩; obtain ⟨A5', C5', _, _, rfl, -, -⟩ := r5.open_; have s5 : w4.heap.size ≤ w5.heap.size := (by have := t5.size; simpa using this); have s5a : w.heap.size + 1 < w5.heap.size := (by omega); have s5b : w2.heap.size < w5.heap.size := (by omega); have B5 := Blk.keep (Blk.set (Blk.set (Blk.set (Blk.set (Blk.set (Blk.set HB4.out 0 (.int .i64 x.puzzle.points)) 1 (.string x.puzzle.names)) 2 (.slice Am x.puzzle.moves.length Cm)) 3 (.slice A (appW x.puzzle x.state l).length C)) 4 (.slice Ah x.history.length Ch)) 5 (.slice Af x.future.length Cf)) t5; have c50 := B5.cell 0 rfl; have c51 := B5.cell 1 rfl; have c52 := B5.cell 2 rfl; have c53 := B5.cell 3 rfl; have c54 := B5.cell 4 rfl; have c55 := B5.cell 5 rfl; have z5 := B5.frozen; clear B5; have y5' := t5.cells_eq (w.heap.size + 1) (by simp; omega) (by simp); have z5' := t5.frozen_eq (w.heap.size + 1) (by simp; omega) (by simp))
    | fail "no arm")
  have FM := HP.out.fr.left
  have e3 : ((w2.alloc (.cells #[.int .i64 x.puzzle.points, .string x.puzzle.names, .slice Am x.puzzle.moves.length Cm, .slice As x.state.length Cs, .slice Ah x.history.length Ch, .slice Af x.future.length Cf] 29)).drewN m3).heap.size = w2.heap.size + 1 := by simp
  have G4 : ∀ b ∈ g4, w2.heap.size + 1 ≤ b := fun b hb => by have := F4.ge b hb; omega
  have G5 : ∀ b ∈ g5, w4.heap.size ≤ b := fun b hb => by have := F5.ge b hb; simpa using this
  have dm : ∀ b ∈ gm, b ∉ [w2.heap.size, w.heap.size + 1] := fun b hb hm => by
    have h5 := FM.lt b hb
    have h6 := FM.ge b hb
    simp at hm
    omega
  have d4 : ∀ b ∈ g4, b ∉ [w2.heap.size, w.heap.size + 1] := fun b hb hm => by
    have h5 := G4 b hb
    simp at hm
    omega
  have d5 : ∀ b ∈ g5, b ∉ [w2.heap.size, w.heap.size + 1] := fun b hb hm => by
    have h5 := G5 b hb
    simp at hm
    omega
  refine bodyPost_ret (v := .tuple #[.agg #[.int .i64 x.puzzle.points, .string x.puzzle.names, .slice Am x.puzzle.moves.length Cm, .slice A (appW x.puzzle x.state l).length C, .slice A5' (pushW x.history l).length C5', .slice (some ⟨w5.heap.size, 0, none⟩) 0 0], .bool true]) (by simp [results, Tryz.results8, go_sem, y5', y4', y2', y1', s2b, s5a]) rfl ⟨[.int .i64 x.puzzle.points, .string x.puzzle.names, .slice Am x.puzzle.moves.length Cm, .slice A (appW x.puzzle x.state l).length C, .slice A5' (pushW x.history l).length C5', .slice (some ⟨w5.heap.size, 0, none⟩) 0 0], gm ++ (g4 ++ (g5 ++ [])), rfl,
    ⟨[.int .i64 x.puzzle.points, .string x.puzzle.names, .slice Am x.puzzle.moves.length Cm], _, _, _, gm, g4, g5, [], rfl, rfl, ⟨_, rfl, p0, p1, Rp.only (fp' := [w2.heap.size, w.heap.size + 1]) HP.out.mv (by with_reducible repeat (first | exact Only.refl _ _ | assumption | refine Only.drewN ?_ _ | refine Only.drew ?_ | refine Only.alloc ?_ _ | refine Only.setCell ?_ (by intro _; simp) _ | refine Only.trans ?_ (Only.weaken (by assumption) _))) dm⟩, Rp.only (fp' := [w2.heap.size, w.heap.size + 1]) r4 (by with_reducible repeat (first | exact Only.refl _ _ | assumption | refine Only.drewN ?_ _ | refine Only.drew ?_ | refine Only.alloc ?_ _ | refine Only.setCell ?_ (by intro _; simp) _ | refine Only.trans ?_ (Only.weaken (by assumption) _))) d4, Rp.only (fp' := [w2.heap.size, w.heap.size + 1]) r5 (by with_reducible repeat (first | exact Only.refl _ _ | assumption | refine Only.drewN ?_ _ | refine Only.drew ?_ | refine Only.alloc ?_ _ | refine Only.setCell ?_ (by intro _; simp) _ | refine Only.trans ?_ (Only.weaken (by assumption) _))) d5, (SeqA.nil _ _ (cap := 0) (by simp [maxLen])).rd⟩, ?_, ?_⟩
  · exact (Fresh.append (B' := w2.heap.size + 1) (FM.only (fp' := [w2.heap.size, w.heap.size + 1]) (by with_reducible repeat (first | exact Only.refl _ _ | assumption | refine Only.drewN ?_ _ | refine Only.drew ?_ | refine Only.alloc ?_ _ | refine Only.setCell ?_ (by intro _; simp) _ | refine Only.trans ?_ (Only.weaken (by assumption) _))) dm) (Fresh.append (B' := w4.heap.size) ((F4.only (fp' := [w2.heap.size, w.heap.size + 1]) (by with_reducible repeat (first | exact Only.refl _ _ | assumption | refine Only.drewN ?_ _ | refine Only.drew ?_ | refine Only.alloc ?_ _ | refine Only.setCell ?_ (by intro _; simp) _ | refine Only.trans ?_ (Only.weaken (by assumption) _))) d4).mono (by omega)) (Fresh.append (B' := w5.heap.size) ((F5.only (fp' := [w2.heap.size, w.heap.size + 1]) (by with_reducible repeat (first | exact Only.refl _ _ | assumption | refine Only.drewN ?_ _ | refine Only.drew ?_ | refine Only.alloc ?_ _ | refine Only.setCell ?_ (by intro _; simp) _ | refine Only.trans ?_ (Only.weaken (by assumption) _))) d5).mono (by simp)) (Fresh.nil _ _) s5 (fun b hb => F5.lt b hb)) s4 (fun b hb => F4.lt b hb)) (by have := t2.size; omega) (fun b hb => by have := FM.lt b hb; omega)).mono (by omega)
  · exact (by with_reducible repeat (first | exact Only.refl _ _ | assumption | refine Only.drewN ?_ _ | refine Only.drew ?_ | refine Only.alloc ?_ _ | refine Only.setCell ?_ (by intro hh; exfalso; simp at hh; try omega) _ | refine Only.trans ?_ (by assumption)))
set_option maxHeartbeats 4000000 in
theorem implPlayWord_no (cs : List Value) (x : Session) (fp : List Nat) (vl : Value) (l : List Int) (fl : List Nat) (w : World) (h : Rp.rep w cs x fp) (hl : Rd w vl l fl) (hq : validSe x = false) :
    Calls Tryz.prog 7 #[.agg cs.toArray, vl] w (SeRes noSess false w) := by
  have h0 := h
  obtain ⟨c0, v1, v2, v3, f0, f1, f2, f3, rfl, rfl, k0, k1, k2, k3⟩ := h
  have q0 := k0
  obtain ⟨u2, rfl, p0, p1, h2⟩ := q0
  obtain ⟨A2, C2, _, _, rfl, -, -⟩ := h2.open_
  obtain ⟨A3, C3, _, _, rfl, -, -⟩ := k1.open_
  obtain ⟨A4, C4, _, _, rfl, -, -⟩ := k2.open_
  obtain ⟨A5, C5, _, _, rfl, -, -⟩ := k3.open_
  obtain ⟨al, cl, rfl, IL⟩ := hl.ints
  have hlb := IL.bound
  clear IL
  go_enter Tryz.func7, Tryz.ntmps7
  go_wp2_with (first
    | (go_at_call 9; (with_reducible refine (implIsValidSession_any [.int .i64 x.puzzle.points, .string x.puzzle.names, .slice A2 x.puzzle.moves.length C2, .slice A3 x.state.length C3, .slice A4 x.history.length C4, .slice A5 x.future.length C5] x _ _ (Rp.keep h0 (by with_reducible repeat (first | exact Only.refl _ _ | assumption | refine Only.drewN ?_ _ | refine Only.drew ?_ | refine Only.alloc ?_ _ | refine Only.setCell ?_ (by intro hh; exfalso; simp at hh; try omega) _ | refine Only.trans ?_ (by assumption))))).mono ?_); rintro en w1 ⟨rfl, t1⟩; have s1 : w.heap.size + 2 ≤ w1.heap.size := (by have := t1.size; simp at this; omega); have y1 := t1.cells_eq w.heap.size (by simp; omega) (by simp); have y1' := t1.cells_eq (w.heap.size + 1) (by simp) (by simp); have z1' := t1.frozen_eq (w.heap.size + 1) (by simp) (by simp))
    | fail "no arm")
  exact bodyPost_ret (v := .tuple #[.agg #[.int .i64 0, .string ⟨#[]⟩, .slice none 0 0, .slice none 0 0, .slice none 0 0, .slice none 0 0], .bool false]) (by simp [results, Tryz.results7, go_sem, y1']) rfl ⟨[.int .i64 0, .string ⟨#[]⟩, .slice none 0 0, .slice none 0 0, .slice none 0 0, .slice none 0 0], [], rfl, noSess_rep _, Fresh.nil _ _, (by with_reducible repeat (first | exact Only.refl _ _ | assumption | refine Only.drewN ?_ _ | refine Only.drew ?_ | refine Only.alloc ?_ _ | refine Only.setCell ?_ (by intro hh; exfalso; simp at hh; try omega) _ | refine Only.trans ?_ (by assumption)))⟩
set_option maxHeartbeats 4000000 in
theorem implPlayWord_bad (cs : List Value) (x : Session) (fp : List Nat) (vl : Value) (l : List Int) (fl : List Nat) (w : World) (h : Rp.rep w cs x fp) (hl : Rd w vl l fl) (hq : validSe x = true) (hw : validW x.puzzle.moves.length l = false) :
    Calls Tryz.prog 7 #[.agg cs.toArray, vl] w (SeRes x false w) := by
  have h0 := h
  obtain ⟨c0, v1, v2, v3, f0, f1, f2, f3, rfl, rfl, k0, k1, k2, k3⟩ := h
  have q0 := k0
  obtain ⟨u2, rfl, p0, p1, h2⟩ := q0
  obtain ⟨A2, C2, _, _, rfl, -, -⟩ := h2.open_
  obtain ⟨A3, C3, _, _, rfl, -, -⟩ := k1.open_
  obtain ⟨A4, C4, _, _, rfl, -, -⟩ := k2.open_
  obtain ⟨A5, C5, _, _, rfl, -, -⟩ := k3.open_
  obtain ⟨al, cl, rfl, IL⟩ := hl.ints
  have hlb := IL.bound
  clear IL
  have hml := (validSe_facts hq).2.1
  go_enter Tryz.func7, Tryz.ntmps7
  go_wp2_with (first
    | (go_at_call 9; (with_reducible refine (implIsValidSession_any [.int .i64 x.puzzle.points, .string x.puzzle.names, .slice A2 x.puzzle.moves.length C2, .slice A3 x.state.length C3, .slice A4 x.history.length C4, .slice A5 x.future.length C5] x _ _ (Rp.keep h0 (by with_reducible repeat (first | exact Only.refl _ _ | assumption | refine Only.drewN ?_ _ | refine Only.drew ?_ | refine Only.alloc ?_ _ | refine Only.setCell ?_ (by intro hh; exfalso; simp at hh; try omega) _ | refine Only.trans ?_ (by assumption))))).mono ?_); rintro en w1 ⟨rfl, t1⟩; have s1 : w.heap.size + 2 ≤ w1.heap.size := (by have := t1.size; simp at this; omega); have y1 := t1.cells_eq w.heap.size (by simp; omega) (by simp); have y1' := t1.cells_eq (w.heap.size + 1) (by simp) (by simp); have z1' := t1.frozen_eq (w.heap.size + 1) (by simp) (by simp))
    | (go_at_call 28; (with_reducible refine (cloneSession_any [.int .i64 x.puzzle.points, .string x.puzzle.names, .slice A2 x.puzzle.moves.length C2, .slice A3 x.state.length C3, .slice A4 x.history.length C4, .slice A5 x.future.length C5] x _ _ (Rp.keep h0 (by with_reducible repeat (first | exact Only.refl _ _ | assumption | refine Only.drewN ?_ _ | refine Only.drew ?_ | refine Only.alloc ?_ _ | refine Only.setCell ?_ (by intro hh; exfalso; simp at hh; try omega) _ | refine Only.trans ?_ (by assumption)))) hq).mono ?_); rintro en w2 ⟨Am, Cm, As, Cs, Ah, Ch, Af, Cf, gm, gs, hs, us, rfl, hP, t2⟩; have s2 : w.heap.size + 2 ≤ w2.heap.size := Nat.le_trans s1 t2.size; have y2 := t2.cells_eq w.heap.size (by omega) (by simp); have y2' := t2.cells_eq (w.heap.size + 1) (by omega) (by simp); have z2' := t2.frozen_eq (w.heap.size + 1) (by omega) (by simp); have HP := Lib.hid hP; clear hP; have s2a : w.heap.size < w2.heap.size := (by omega); have s2b : w.heap.size + 1 < w2.heap.size := (by omega))
    | (go_at_call 29; (with_reducible refine (implPIsWord_any [.int .i64 x.puzzle.points, .string x.puzzle.names, .slice A2 x.puzzle.moves.length C2] x.puzzle _ _ l _ _ (Rp.keep k0 (by with_reducible repeat (first | exact Only.refl _ _ | assumption | refine Only.drewN ?_ _ | refine Only.drew ?_ | refine Only.alloc ?_ _ | refine Only.setCell ?_ (by intro hh; exfalso; simp at hh; try omega) _ | refine Only.trans ?_ (by assumption)))) (Rp.keep hl (by with_reducible repeat (first | exact Only.refl _ _ | assumption | refine Only.drewN ?_ _ | refine Only.drew ?_ | refine Only.alloc ?_ _ | refine Only.setCell ?_ (by intro hh; exfalso; simp at hh; try omega) _ | refine Only.trans ?_ (by assumption)))) (by omega)).mono ?_); rintro en w3 ⟨rfl, t3⟩; have s3 : w2.heap.size + 1 ≤ w3.heap.size := (by have := t3.size; simpa using this); have s3a : w.heap.size + 1 < w3.heap.size := (by omega); have s3b : w2.heap.size < w3.heap.size := (by omega); have s3c : w.heap.size < w3.heap.size := (by omega); have B3 : Blk w3 w2.heap.size [.int .i64 x.puzzle.points, .string x.puzzle.names, .slice Am x.puzzle.moves.length Cm, .slice As x.state.length Cs, .slice Ah x.history.length Ch, .slice Af x.future.length Cf] := Blk.keep (Blk.new w2 _ 29) t3; have c30 := B3.cell 0 rfl; have c31 := B3.cell 1 rfl; have c32 := B3.cell 2 rfl; have c33 := B3.cell 3 rfl; have c34 := B3.cell 4 rfl; have c35 := B3.cell 5 rfl; have z3 := B3.frozen; have HB3 := Lib.hid B3; clear B3; have y3 := t3.cells_eq w.heap.size (by simp; omega) (by simp); have y3' := t3.cells_eq (w.heap.size + 1) (by simp; omega) (by simp); have z3' := t3.frozen_eq (w.heap.size + 1) (by simp; omega) (by simp))
    | fail "no arm")
  have hP := HP.out
  have hlt := hP.fr.lt
  have hge := hP.fr.ge
  have hd : ∀ b ∈ gm ++ (gs ++ (((Value.slice Ah x.history.length Ch).ownBlock.toList ++ hs.flatten) ++ ((Value.slice Af x.future.length Cf).ownBlock.toList ++ us.flatten))), b ∉ [w2.heap.size, w.heap.size + 1] := fun b hb hm => by
    have h5 := hlt b hb
    have h6 := hge b hb
    simp at hm
    omega
  exact bodyPost_ret (v := .tuple #[.agg #[.int .i64 x.puzzle.points, .string x.puzzle.names, .slice Am x.puzzle.moves.length Cm, .slice As x.state.length Cs, .slice Ah x.history.length Ch, .slice Af x.future.length Cf], .bool false]) (by simp [results, Tryz.results7, go_sem, y3', y2', y1', s2b]) rfl ⟨[.int .i64 x.puzzle.points, .string x.puzzle.names, .slice Am x.puzzle.moves.length Cm, .slice As x.state.length Cs, .slice Ah x.history.length Ch, .slice Af x.future.length Cf], _, rfl, Rp.only (fp' := [w2.heap.size, w.heap.size + 1]) hP.rep (by with_reducible repeat (first | exact Only.refl _ _ | assumption | refine Only.drewN ?_ _ | refine Only.drew ?_ | refine Only.alloc ?_ _ | refine Only.setCell ?_ (by intro _; simp) _ | refine Only.trans ?_ (Only.weaken (by assumption) _))) hd, (hP.fr.only (fp' := [w2.heap.size, w.heap.size + 1]) (by with_reducible repeat (first | exact Only.refl _ _ | assumption | refine Only.drewN ?_ _ | refine Only.drew ?_ | refine Only.alloc ?_ _ | refine Only.setCell ?_ (by intro _; simp) _ | refine Only.trans ?_ (Only.weaken (by assumption) _))) hd).mono (by omega), (by with_reducible repeat (first | exact Only.refl _ _ | assumption | refine Only.drewN ?_ _ | refine Only.drew ?_ | refine Only.alloc ?_ _ | refine Only.setCell ?_ (by intro hh; exfalso; simp at hh; try omega) _ | refine Only.trans ?_ (by assumption)))⟩
set_option maxHeartbeats 4000000 in
theorem implPlayWord_yes (cs : List Value) (x : Session) (fp : List Nat) (vl : Value) (l : List Int) (fl : List Nat) (w : World) (h : Rp.rep w cs x fp) (hl : Rd w vl l fl) (hq : validSe x = true) (hw : validW x.puzzle.moves.length l = true) :
    Calls Tryz.prog 7 #[.agg cs.toArray, vl] w (SeRes (playW x l) true w) := by
  have h0 := h
  obtain ⟨c0, v1, v2, v3, f0, f1, f2, f3, rfl, rfl, k0, k1, k2, k3⟩ := h
  have q0 := k0
  obtain ⟨u2, rfl, p0, p1, h2⟩ := q0
  obtain ⟨A2, C2, _, _, rfl, -, -⟩ := h2.open_
  obtain ⟨A3, C3, _, _, rfl, -, -⟩ := k1.open_
  obtain ⟨A4, C4, _, _, rfl, -, -⟩ := k2.open_
  obtain ⟨A5, C5, _, _, rfl, -, -⟩ := k3.open_
  obtain ⟨al, cl, rfl, IL⟩ := hl.ints
  have hlb := IL.bound
  clear IL
  obtain ⟨hst, hml, -, -, hhl, -, -, -⟩ := validSe_facts hq
  obtain ⟨hl200, hlt⟩ := validW_ltrs hml hw
  have Hst := Lib.hid hst
  have Hlt := Lib.hid hlt
  clear hst hlt
  go_enter Tryz.func7, Tryz.ntmps7
  go_wp2_with (first
    | (go_at_call 9; (with_reducible refine (implIsValidSession_any [.int .i64 x.puzzle.points, .string x.puzzle.names, .slice A2 x.puzzle.moves.length C2, .slice A3 x.state.length C3, .slice A4 x.history.length C4, .slice A5 x.future.length C5] x _ _ (Rp.keep h0 (by with_reducible repeat (first | exact Only.refl _ _ | assumption | refine Only.drewN ?_ _ | refine Only.drew ?_ | refine Only.alloc ?_ _ | refine Only.setCell ?_ (by intro hh; exfalso; simp at hh; try omega) _ | refine Only.trans ?_ (by assumption))))).mono ?_); rintro en w1 ⟨rfl, t1⟩; have s1 : w.heap.size + 2 ≤ w1.heap.size := (by have := t1.size; simp at this; omega); have y1 := t1.cells_eq w.heap.size (by simp; omega) (by simp); have y1' := t1.cells_eq (w.heap.size + 1) (by simp) (by simp); have z1' := t1.frozen_eq (w.heap.size + 1) (by simp) (by simp))
    | (go_at_call 28; (with_reducible refine (cloneSession_any [.int .i64 x.puzzle.points, .string x.puzzle.names, .slice A2 x.puzzle.moves.length C2, .slice A3 x.state.length C3, .slice A4 x.history.length C4, .slice A5 x.future.length C5] x _ _ (Rp.keep h0 (by with_reducible repeat (first | exact Only.refl _ _ | assumption | refine Only.drewN ?_ _ | refine Only.drew ?_ | refine Only.alloc ?_ _ | refine Only.setCell ?_ (by intro hh; exfalso; simp at hh; try omega) _ | refine Only.trans ?_ (by assumption)))) hq).mono ?_); rintro en w2 ⟨Am, Cm, As, Cs, Ah, Ch, Af, Cf, gm, gs, hs, us, rfl, hP, t2⟩; have s2 : w.heap.size + 2 ≤ w2.heap.size := Nat.le_trans s1 t2.size; have y2 := t2.cells_eq w.heap.size (by omega) (by simp); have y2' := t2.cells_eq (w.heap.size + 1) (by omega) (by simp); have z2' := t2.frozen_eq (w.heap.size + 1) (by omega) (by simp); have HP := Lib.hid hP; clear hP; have s2a : w.heap.size < w2.heap.size := (by omega); have s2b : w.heap.size + 1 < w2.heap.size := (by omega))
    | (go_at_call 29; (with_reducible refine (implPIsWord_any [.int .i64 x.puzzle.points, .string x.puzzle.names, .slice A2 x.puzzle.moves.length C2] x.puzzle _ _ l _ _ (Rp.keep k0 (by with_reducible repeat (first | exact Only.refl _ _ | assumption | refine Only.drewN ?_ _ | refine Only.drew ?_ | refine Only.alloc ?_ _ | refine Only.setCell ?_ (by intro hh; exfalso; simp at hh; try omega) _ | refine Only.trans ?_ (by assumption)))) (Rp.keep hl (by with_reducible repeat (first | exact Only.refl _ _ | assumption | refine Only.drewN ?_ _ | refine Only.drew ?_ | refine Only.alloc ?_ _ | refine Only.setCell ?_ (by intro hh; exfalso; simp at hh; try omega) _ | refine Only.trans ?_ (by assumption)))) (by omega)).mono ?_); rintro en w3 ⟨rfl, t3⟩; have s3 : w2.heap.size + 1 ≤ w3.heap.size := (by have := t3.size; simpa using this); have s3a : w.heap.size + 1 < w3.heap.size := (by omega); have s3b : w2.heap.size < w3.heap.size := (by omega); have s3c : w.heap.size < w3.heap.size := (by omega); have B3 : Blk w3 w2.heap.size [.int .i64 x.puzzle.points, .string x.puzzle.names, .slice Am x.puzzle.moves.length Cm, .slice As x.state.length Cs, .slice Ah x.history.length Ch, .slice Af x.future.length Cf] := Blk.keep (Blk.new w2 _ 29) t3; have c30 := B3.cell 0 rfl; have c31 := B3.cell 1 rfl; have c32 := B3.cell 2 rfl; have c33 := B3.cell 3 rfl; have c34 := B3.cell 4 rfl; have c35 := B3.cell 5 rfl; have z3 := B3.frozen; have HB3 := Lib.hid B3; clear B3; have y3 := t3.cells_eq w.heap.size (by simp; omega) (by simp); have y3' := t3.cells_eq (w.heap.size + 1) (by simp; omega) (by simp); have z3' := t3.frozen_eq (w.heap.size + 1) (by simp; omega) (by simp))
    | (go_at_call 30; (with_reducible refine (implApply_any [.int .i64 x.puzzle.points, .string x.puzzle.names, .slice A2 x.puzzle.moves.length C2] x.puzzle _ _ _ x.state l _ _ _ (Rp.keep k0 (by with_reducible repeat (first | exact Only.refl _ _ | assumption | refine Only.drewN ?_ _ | refine Only.drew ?_ | refine Only.alloc ?_ _ | refine Only.setCell ?_ (by intro hh; exfalso; simp at hh; try omega) _ | refine Only.trans ?_ (by assumption)))) (Rp.keep k1 (by with_reducible repeat (first | exact Only.refl _ _ | assumption | refine Only.drewN ?_ _ | refine Only.drew ?_ | refine Only.alloc ?_ _ | refine Only.setCell ?_ (by intro hh; exfalso; simp at hh; try omega) _ | refine Only.trans ?_ (by assumption)))) (Rp.keep hl (by with_reducible repeat (first | exact Only.refl _ _ | assumption | refine Only.drewN ?_ _ | refine Only.drew ?_ | refine Only.alloc ?_ _ | refine Only.setCell ?_ (by intro hh; exfalso; simp at hh; try omega) _ | refine Only.trans ?_ (by assumption)))) Hst.out Hlt.out).mono ?_); rintro en w4 ⟨v4, g4, rfl, r4, F4, t4⟩; obtain ⟨A, C, _, _, rfl, -, -⟩ := r4.open_; have s4 : w3.heap.size ≤ w4.heap.size := t4.size; have s4a : w.heap.size + 1 < w4.heap.size := (by omega); have s4b : w2.heap.size < w4.heap.size := (by omega); have B4 := Blk.keep HB3.out t4; have c40 := B4.cell 0 rfl; have c41 := B4.cell 1 rfl; have c42 := B4.cell 2 rfl; have c43 := B4.cell 3 rfl; have c44 := B4.cell 4 rfl; have c45 := B4.cell 5 rfl; have z4 := B4.frozen; have HB4 := Lib.hid B4; clear B4; have y4' := t4.cells_eq (w.heap.size + 1) (by omega) (by simp); have z4' := t4.frozen_eq (w.heap.size + 1) (by omega) (by simp))
    | (go_at_call 31; (with_reducible refine (pushed_acc (B := w1.heap.size) (.slice Ah x.history.length Ch) _ x.history l hs fl _ (HP.out.hi.keep (by with_reducible repeat (first | exact Only.refl _ _ | assumption | refine Only.drewN ?_ _ | refine Only.drew ?_ | refine Only.alloc ?_ _ | refine Only.setCell ?_ (by intro hh; exfalso; simp at hh; try omega) _ | refine Only.trans ?_ (by assumption)))) (Fresh.keep HP.out.fr.right.right.left.right (by with_reducible repeat (first | exact Only.refl _ _ | assumption | refine Only.drewN ?_ _ | refine Only.drew ?_ | refine Only.alloc ?_ _ | refine Only.setCell ?_ (by intro hh; exfalso; simp at hh; try omega) _ | refine Only.trans ?_ (by assumption)))) (Rp.keep hl (by with_reducible repeat (first | exact Only.refl _ _ | assumption | refine Only.drewN ?_ _ | refine Only.drew ?_ | refine Only.alloc ?_ _ | refine Only.setCell ?_ (by intro hh; exfalso; simp at hh; try omega) _ | refine Only.trans ?_ (by assumption)))) (by have := t2.size; simp; omega) hhl (by omega)).mono ?_); rintro en w5 ⟨v5, g5, rfl, r5, F5, hs5, t5⟩; obtain ⟨A5', C5', _, _, rfl, -, -⟩ := r5.open_; have hvo : ∀ b ∈ (Value.slice Ah x.history.length Ch).ownBlock.toList, w1.heap.size ≤ b ∧ b < w2.heap.size := (fun b hb => HP.out.hi.ownlt b (by simpa using hb)); have hvg : w2.heap.size ∉ (Value.slice Ah x.history.length Ch).ownBlock.toList := (fun hm => by have := (hvo _ hm).2; omega); have hvb : w.heap.size + 1 ∉ (Value.slice Ah x.history.length Ch).ownBlock.toList := (fun hm => by have := (hvo _ hm).1; omega); have s5 : w4.heap.size ≤ w5.heap.size := (by have := t5.size; simpa using this); have s5a : w.heap.size + 1 < w5.heap.size := (by omega); have s5b : w2.heap.size < w5.heap.size := (by omega); have B5 := Blk.only (Blk.set HB4.out 3 (.slice A (appW x.puzzle x.state l).length C)) t5 hvg; have c50 := B5.cell 0 rfl; have c51 := B5.cell 1 rfl; have c52 := B5.cell 2 rfl; have c53 := B5.cell 3 rfl; have c54 := B5.cell 4 rfl; have c55 := B5.cell 5 rfl; have z5 := B5.frozen; clear B5; have y5' := t5.cells_eq (w.heap.size + 1) (by simp; omega) hvb; have z5' := t5.frozen_eq (w.heap.size + 1) (by simp; omega) hvb; have Hvo := Lib.hid hvo; clear hvo hvg hvb)
    | fail "no arm")
  have hP := HP.out
  have G4 : ∀ b ∈ g4, w2.heap.size + 1 ≤ b := fun b hb => by have := F4.ge b hb; omega
  have Gm : ∀ b ∈ gm, b < w2.heap.size := fun b hb => hP.fr.left.lt b hb
  have K24 : Only [] w2 (w4.setCell ⟨w2.heap.size, 3, none⟩ (.slice A (appW x.puzzle x.state l).length C)) := (by with_reducible repeat (first | exact Only.refl _ _ | assumption | refine Only.drewN ?_ _ | refine Only.drew ?_ | refine Only.alloc ?_ _ | refine Only.setCell ?_ (by intro hh; exfalso; simp at hh; try omega) _ | refine Only.trans ?_ (by assumption)))
  have T4 : Only [] w (w4.setCell ⟨w2.heap.size, 3, none⟩ (.slice A (appW x.puzzle x.state l).length C)) := (by with_reducible repeat (first | exact Only.refl _ _ | assumption | refine Only.drewN ?_ _ | refine Only.drew ?_ | refine Only.alloc ?_ _ | refine Only.setCell ?_ (by intro hh; exfalso; simp at hh; try omega) _ | refine Only.trans ?_ (by assumption)))
  have T5 : Only [] w w5 := T4.then_ t5 (fun b hb hl => by have := (Hvo.out b hb).1; omega)
  have F4' := F4.only (w' := (w4.setCell ⟨w2.heap.size, 3, none⟩ (.slice A (appW x.puzzle x.state l).length C))) (fp' := [w2.heap.size]) (by with_reducible repeat (first | exact Only.refl _ _ | assumption | refine Only.drewN ?_ _ | refine Only.drew ?_ | refine Only.alloc ?_ _ | refine Only.setCell ?_ (by intro _; simp) _ | refine Only.trans ?_ (Only.weaken (by assumption) _))) (fun b hb hm => by have := G4 b hb; simp at hm; omega)
  have r4' := Rp.only (w' := (w4.setCell ⟨w2.heap.size, 3, none⟩ (.slice A (appW x.puzzle x.state l).length C))) (fp' := [w2.heap.size]) r4 (by with_reducible repeat (first | exact Only.refl _ _ | assumption | refine Only.drewN ?_ _ | refine Only.drew ?_ | refine Only.alloc ?_ _ | refine Only.setCell ?_ (by intro _; simp) _ | refine Only.trans ?_ (Only.weaken (by assumption) _))) (fun b hb hm => by have := G4 b hb; simp at hm; omega)
  have F6 := hP.fr.repl K24 (by simp) (F4'.mono (by have := t2.size; omega)) (fun b hb => .inr (by have := G4 b hb; omega))
  have dH : ∀ b ∈ gm, b ∉ (Value.slice Ah x.history.length Ch).ownBlock.toList := fun b hb hm => (nd_app hP.fr.nd).2.2.1 b hb (List.mem_append_right _ (List.mem_append_left _ (List.mem_append_left _ hm)))
  have F7 := Fresh.repl (pre := gm ++ g4) (by rw [List.append_assoc]; exact F6) t5 (fun b hb => List.mem_append_left _ hb) F5 hs5
  have F8 := F7.sublist (((List.Sublist.refl (gm ++ g4)).append ((List.Sublist.refl g5).append (List.nil_sublist _))))
  have hW4 : (w4.setCell ⟨w2.heap.size, 3, none⟩ (.slice A (appW x.puzzle x.state l).length C)).heap.size = w4.heap.size := by simp
  have d8 : ∀ b ∈ gm ++ g4 ++ (g5 ++ []), b ∉ [w2.heap.size, w.heap.size + 1] := fun b hb hm => by
    have h6 := F8.ge b hb
    have h7 : b = w2.heap.size := by
      simp at hm
      rcases hm with h | h <;> omega
    rcases List.mem_append.1 hb with h8 | h8
    · rcases List.mem_append.1 h8 with h9 | h9
      · have := Gm b h9; omega
      · have := G4 b h9; omega
    · rcases hs5 b (by simpa using h8) with h9 | h9
      · have := hP.fr.right.right.left.lt b h9; omega
      · omega
  rw [List.append_assoc] at F8 d8
  have e1 : ∀ b ∈ gm, b ∉ [w2.heap.size, w.heap.size + 1] := fun b hb => d8 b (List.mem_append_left _ hb)
  have e2 : ∀ b ∈ g4, b ∉ [w2.heap.size, w.heap.size + 1] := fun b hb => d8 b (List.mem_append_right _ (List.mem_append_left _ hb))
  have e3 : ∀ b ∈ g5, b ∉ [w2.heap.size, w.heap.size + 1] := fun b hb => d8 b (List.mem_append_right _ (List.mem_append_right _ (List.mem_append_left _ hb)))
  refine bodyPost_ret (v := .tuple #[.agg #[.int .i64 x.puzzle.points, .string x.puzzle.names, .slice Am x.puzzle.moves.length Cm, .slice A (appW x.puzzle x.state l).length C, .slice A5' (pushW x.history l).length C5', .slice none 0 0], .bool true]) (by simp [results, Tryz.results7, go_sem, y5', y4', y3', y2', y1', s2b]) rfl ⟨[.int .i64 x.puzzle.points, .string x.puzzle.names, .slice Am x.puzzle.moves.length Cm, .slice A (appW x.puzzle x.state l).length C, .slice A5' (pushW x.history l).length C5', .slice none 0 0], gm ++ (g4 ++ (g5 ++ [])), rfl,
    ⟨[.int .i64 x.puzzle.points, .string x.puzzle.names, .slice Am x.puzzle.moves.length Cm], _, _, _, gm, g4, g5, [], rfl, rfl, ⟨_, rfl, p0, p1, Rp.only (fp' := [w2.heap.size, w.heap.size + 1]) (Rp.only (Rp.keep hP.mv K24) t5 dH) (by with_reducible repeat (first | exact Only.refl _ _ | assumption | refine Only.drewN ?_ _ | refine Only.drew ?_ | refine Only.alloc ?_ _ | refine Only.setCell ?_ (by intro _; simp) _ | refine Only.trans ?_ (Only.weaken (by assumption) _))) e1⟩, Rp.only (fp' := [w2.heap.size, w.heap.size + 1]) (Rp.only r4' t5 (fun b hb hm => by have := G4 b hb; have := (Hvo.out b hm).2; omega)) (by with_reducible repeat (first | exact Only.refl _ _ | assumption | refine Only.drewN ?_ _ | refine Only.drew ?_ | refine Only.alloc ?_ _ | refine Only.setCell ?_ (by intro _; simp) _ | refine Only.trans ?_ (Only.weaken (by assumption) _))) e2, Rp.only (fp' := [w2.heap.size, w.heap.size + 1]) r5 (by with_reducible repeat (first | exact Only.refl _ _ | assumption | refine Only.drewN ?_ _ | refine Only.drew ?_ | refine Only.alloc ?_ _ | refine Only.setCell ?_ (by intro _; simp) _ | refine Only.trans ?_ (Only.weaken (by assumption) _))) e3, nil_rd _⟩, ?_, ?_⟩
  · exact (F8.only (fp' := [w2.heap.size, w.heap.size + 1]) (by with_reducible repeat (first | exact Only.refl _ _ | assumption | refine Only.drewN ?_ _ | refine Only.drew ?_ | refine Only.alloc ?_ _ | refine Only.setCell ?_ (by intro _; simp) _ | refine Only.trans ?_ (Only.weaken (by assumption) _))) d8).mono (by omega)
  · exact (by with_reducible repeat (first | exact Only.refl _ _ | assumption | refine Only.drewN ?_ _ | refine Only.drew ?_ | refine Only.alloc ?_ _ | refine Only.setCell ?_ (by intro hh; exfalso; simp at hh; try omega) _ | refine Only.trans ?_ (by assumption)))
end Go.Proofs.YtajkhdbdkjhilaaGreat

namespace Go.Proofs.YtajkhdbdkjhilaaGreat
open Go.RowKit
set_option maxRecDepth 10000

/-- the last word; what is ahead of it -/
def lastW (ws : List (List Int)) : List Int := ws.getD (ws.length - 1) []
def restW (ws : List (List Int)) : List (List Int) := ws.take (ws.length - 1)
theorem lastW_get {ws : List (List Int)} (h : 0 < ws.length) : lastW ws = ws[ws.length - 1] := by
  unfold lastW; rw [List.getD_eq_getElem?_getD, List.getElem?_eq_getElem (by omega)]; rfl
theorem lastW_mem {ws : List (List Int)} (h : 0 < ws.length) : lastW ws ∈ ws := by rw [lastW_get h]; exact List.getElem_mem _
theorem validSe_letters {x : Session} (h : validSe x = true) (l : List Int) (hl : l ∈ x.history ∨ l ∈ x.future) : validW x.puzzle.moves.length l = true := by
  unfold validSe at h
  rw [Bool.and_eq_true, Bool.and_eq_true] at h
  rcases hl with hl | hl
  · exact (wordsB_len h.2.1).2 l hl
  · exact (wordsB_len h.2.2).2 l hl
theorem restW_len (ws : List (List Int)) : (restW ws).length = ws.length - 1 := by simp [restW]
theorem restW_mem {ws : List (List Int)} {y : List Int} (h : y ∈ restW ws) : y ∈ ws := List.mem_of_mem_take h
section
variable {B : Nat} {e : TypeId} {w : World} {v : Value} {l : List (List Int)} {fs : List (List Nat)}
/-- the last word of a history of the call's own, and the history without it -/
theorem Acc.last (h : Acc B e w v l fs) (hF : Fresh B w fs.flatten) (hl : 0 < l.length) :
    ∃ g c u fu fr, v = .slice (some ⟨g, 0, none⟩) l.length c ∧ l.length ≤ c ∧ c ≤ maxLen ∧ w.cell? ⟨g, l.length - 1, none⟩ = some u ∧ Rd w u (lastW l) fu ∧ (∀ b ∈ fu, b ∈ fs.flatten) ∧
      SeqA w (some ⟨g, 0, none⟩) c l v.ownBlock.toList fs ∧ Rd w (.slice (some ⟨g, 0, none⟩) (l.length - 1) c) (restW l) fr ∧ Fresh B w fr ∧ fr.Sublist (v.ownBlock.toList ++ fs.flatten) := by
  obtain ⟨css, ho, hcl, hr⟩ := h.own
  obtain ⟨a, cap, hv, -, hI⟩ := own_seq (xs := l) (fps := fs) ho (by decide) hcl h.fl hr
  obtain ⟨b, off, u, e1, e2, hc, hu⟩ := hI.atRow (l.length - 1) (by omega)
  have e3 : off = 0 := by
    rcases ho.2 with ⟨h1, h2⟩ | ⟨g, cp, cur, h1, -⟩
    · omega
    · rw [hv] at h1
      injection h1 with h1 _ _
      rw [e1] at h1
      injection h1 with h1
      injection h1
  subst e1
  subst e3
  rw [Nat.zero_add] at hc
  have hsub : (v.ownBlock.toList ++ (fs.take (l.length - 1)).flatten).Sublist (v.ownBlock.toList ++ fs.flatten) := List.Sublist.append (List.Sublist.refl _) (flatten_take fs _)
  refine ⟨b, cap, u, _, _, hv, hI.len, hI.cap, hc, by rw [lastW_get hl]; exact hu, fun x hx => mem_flatten_get (j := l.length - 1) (by rw [h.fl]; omega) hx, hI, ?_, (h.fresh hF).sublist hsub, hsub⟩
  have := (hI.take (l.length - 1)).rd
  rwa [show (l.take (l.length - 1)).length = l.length - 1 by simp] at this
end
section
variable {B : Nat} {w w' : World} {a b c d m' fpw : List Nat}
theorem Fresh.at4 (h : Fresh B w (a ++ (b ++ (c ++ d)))) (ho : Only fpw w w') (hf : ∀ x ∈ fpw, x ∈ d) (F' : Fresh B w' m') (hs : ∀ x ∈ m', x ∈ d ∨ w.heap.size ≤ x) : Fresh B w' (a ++ (b ++ (c ++ m'))) := by
  have := Fresh.repl (pre := a ++ (b ++ c)) (mid := d) (post := []) (by simpa [List.append_assoc] using h) ho hf F' hs
  simpa [List.append_assoc] using this
theorem Fresh.parts (h : Fresh B w (a ++ (b ++ (c ++ d)))) : (∀ x ∈ a, x ∉ c ∧ x ∉ d) ∧ (∀ x ∈ b, x ∉ c ∧ x ∉ d) ∧ (∀ x ∈ c, x ∉ d) := by
  have n1 := List.nodup_append.1 h.nd
  have n2 := List.nodup_append.1 n1.2.1
  have n3 := List.nodup_append.1 n2.2.1
  refine ⟨fun x hx => ⟨fun hm => n1.2.2 x hx x (by simp [hm]) rfl, fun hm => n1.2.2 x hx x (by simp [hm]) rfl⟩, fun x hx => ⟨fun hm => n2.2.2 x hx x (by simp [hm]) rfl, fun hm => n2.2.2 x hx x (by simp [hm]) rfl⟩, fun x hx hm => n3.2.2 x hx x hm rfl⟩
/-- own memory of four parts -/
theorem Fresh.of4 (Fa : Fresh B w a) (Fb : Fresh B w b) (Fc : Fresh B w c) (Fd : Fresh B w d) (ab : ∀ x ∈ a, x ∉ b) (ac : ∀ x ∈ a, x ∉ c) (ad : ∀ x ∈ a, x ∉ d) (bc : ∀ x ∈ b, x ∉ c) (bd : ∀ x ∈ b, x ∉ d) (cd : ∀ x ∈ c, x ∉ d) : Fresh B w (a ++ (b ++ (c ++ d))) := by
  have mk : ∀ {p q : List Nat}, Fresh B w p → Fresh B w q → (∀ x ∈ p, x ∉ q) → Fresh B w (p ++ q) := fun hp hq hd =>
    ⟨List.nodup_append.2 ⟨hp.nd, hq.nd, fun x hx y hy e => hd x hx (e ▸ hy)⟩, fun x hx => (List.mem_append.1 hx).elim (hp.ge x) (hq.ge x), hp.own.append hq.own⟩
  refine mk Fa (mk Fb (mk Fc Fd cd) fun x hx hm => ?_) fun x hx hm => ?_
  · rcases List.mem_append.1 hm with h | h
    · exact bc x hx h
    · exact bd x hx h
  · rcases List.mem_append.1 hm with h | h
    · exact ab x hx h
    · rcases List.mem_append.1 h with h | h
      · exact ac x hx h
      · exact ad x hx h
end
set_option maxHeartbeats 1000000 in
theorem popped_any (b cap : Nat) (l : List (List Int)) (u : Value) (w : World) (hl : 0 < l.length) (hc : l.length ≤ cap) (hm : cap ≤ maxLen) (hu : w.cell? ⟨b, l.length - 1, none⟩ = some u) :
    Calls Tryz.prog 42 #[.slice (some ⟨b, 0, none⟩) l.length cap] w fun e w' => e = .returned (.tuple #[.slice (some ⟨b, 0, none⟩) (l.length - 1) cap, u]) ∧ Drew w w' := by
  unfold maxLen at hm
  have e1 : (0 : Int) ≤ (l.length : Int) - 1 := by omega
  have e2 : ((l.length : Int) - 1).toNat = l.length - 1 := by omega
  have e3 : (l.length : Int) - 1 < (l.length : Int) := by omega
  have e4 : (l.length : Int) - 1 ≤ (cap : Int) := by omega
  have e5 : (1 : Int) ≤ (l.length : Int) := by omega
  go_enter Tryz.func42, Tryz.ntmps42
  go_wp2
  go_quiet (fail)
  go_wp2
  go_ret2
  exact ⟨rfl, ⟨nq, rfl⟩⟩
end Go.Proofs.YtajkhdbdkjhilaaGreat
