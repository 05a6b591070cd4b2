/- RedoWord: the reference's and the program's. (Printed by mkredo.py.) Inverse words: the reference's and the program's. UndoWord: the reference's and the program's. (Printed by mkredo.py.) The members of a stabilizer chain: how many there are. -/
import Derived.Test.YtajkhdbdkjhilaaGreatRowSessionsG11
import Derived.RangeFuncBox
import Derived.RangeFuncLeaves
import Derived.RangeFuncWrites
import Derived.RangeFuncNested
import Derived.Shelf.Abstract
import Derived.OwnWalkIn
import Derived.TacticsInMore
import Derived.LoopNIn
import Derived.LoopIn
import Derived.Maps.AppendAt
import Derived.Test.YtajkhdbdkjhilaaGreatRowSessionsG4
namespace Go.Proofs.YtajkhdbdkjhilaaGreat
open Go.RowKit
set_option maxRecDepth 10000

def redoW (x : Session) : Session := ⟨x.puzzle, appW x.puzzle x.state (lastW x.future), pushW x.history (lastW x.future), restW x.future⟩
set_option maxHeartbeats 4000000 in
theorem implRedoWord_yes (cs : List Value) (x : Session) (fp : List Nat) (w : World) (h : Rp.rep w cs x fp) (hq : validSe x = true) (hw : x.future.length ≠ 0) :
    Calls Tryz.prog 13 #[.agg cs.toArray] w (SeRes (redoW x) true w) := by
  have h0 := h
  obtain ⟨c0, v1, v2, v3, f0, f1, f2, f3, rfl, rfl, k0, k1, k2, k3⟩ := h
  have q0 := k0
  obtain ⟨u2, rfl, p0, p1, h2⟩ := q0
  obtain ⟨A2, C2, _, _, rfl, -, -⟩ := h2.open_
  obtain ⟨A3, C3, _, _, rfl, -, -⟩ := k1.open_
  obtain ⟨A4, C4, _, _, rfl, -, -⟩ := k2.open_
  obtain ⟨A5, C5, _, _, rfl, -, -⟩ := k3.open_
  obtain ⟨hst, hml, -, -, hhl, hh2, hul, hu2⟩ := validSe_facts hq
  have hpos : 0 < x.future.length := by omega
  have hlw := validSe_letters hq (lastW x.future) (.inr (lastW_mem hpos))
  obtain ⟨hl200, hlt⟩ := validW_ltrs hml hlw
  have e1 : (0 : Int) ≤ (x.future.length : Int) - 1 := by omega
  have e2 : ((x.future.length : Int) - 1).toNat = x.future.length - 1 := by omega
  have e3 : (x.future.length : Int) - 1 < (x.future.length : Int) := by omega
  have e5 : (1 : Int) ≤ (x.future.length : Int) := by omega
  have e6 : ((x.future.length : Int) == 0) = false := by rw [beq_eq_false_iff_ne]; omega
  have e7 : x.future.length ≤ 40 := by omega
  have Hst := Lib.hid hst
  have Hd2 := Lib.hid hh2
  have Hs2 := Lib.hid hu2
  have Hlt := Lib.hid hlt
  have hbd : ∀ y ∈ lastW x.future, -1000 ≤ y ∧ y ≤ 1000 := fun y hy => by have := mem_ltrs.1 (hlt y hy); omega
  have Hbd := Lib.hid hbd
  clear hst hh2 hu2 hlt hlw hw hbd
  go_enter Tryz.func13, Tryz.ntmps13
  go_wp2_with (first
    | (go_at_call 9; (with_reducible refine (implIsValidSession_any [.int .i64 x.puzzle.points, .string x.puzzle.names, .slice A2 x.puzzle.moves.length C2, .slice A3 x.state.length C3, .slice A4 x.history.length C4, .slice A5 x.future.length C5] x _ _ (Rp.keep h0 (by with_reducible repeat (first | exact Only.refl _ _ | assumption | refine Only.drewN ?_ _ | refine Only.drew ?_ | refine Only.alloc ?_ _ | refine Only.setCell ?_ (by intro hh; exfalso; simp at hh; try omega) _ | refine Only.trans ?_ (by assumption))))).mono ?_); rintro en w1 ⟨rfl, t1⟩; have s1 : w.heap.size + 2 ≤ w1.heap.size := (by have := t1.size; simp at this; omega); have y1 := t1.cells_eq w.heap.size (by simp; omega) (by simp); have y1' := t1.cells_eq (w.heap.size + 1) (by simp) (by simp); have z1' := t1.frozen_eq (w.heap.size + 1) (by simp) (by simp))
    | (go_at_call 28; (with_reducible refine (cloneSession_any [.int .i64 x.puzzle.points, .string x.puzzle.names, .slice A2 x.puzzle.moves.length C2, .slice A3 x.state.length C3, .slice A4 x.history.length C4, .slice A5 x.future.length C5] x _ _ (Rp.keep h0 (by with_reducible repeat (first | exact Only.refl _ _ | assumption | refine Only.drewN ?_ _ | refine Only.drew ?_ | refine Only.alloc ?_ _ | refine Only.setCell ?_ (by intro hh; exfalso; simp at hh; try omega) _ | refine Only.trans ?_ (by assumption)))) hq).mono ?_); rintro en w2 ⟨Am, Cm, As, Cs, Ah, Ch, Af, Cf, gm, gs, hs, us, rfl, hP, t2⟩; have s2 : w.heap.size + 2 ≤ w2.heap.size := Nat.le_trans s1 t2.size; have y2 := t2.cells_eq w.heap.size (by omega) (by simp); have y2' := t2.cells_eq (w.heap.size + 1) (by omega) (by simp); have z2' := t2.frozen_eq (w.heap.size + 1) (by omega) (by simp); have HP := Lib.hid hP; clear hP; have s2a : w.heap.size < w2.heap.size := (by omega); have s2b : w.heap.size + 1 < w2.heap.size := (by omega); obtain ⟨gF, cF, u, fu, fr, eF, kl1, kl2, cu, ru, hfu, SF, rr, Fr, hfr⟩ := HP.out.fu.last HP.out.fr.right.right.right.right hpos; injection eF with eA _ eC; subst eA; subst eC; obtain ⟨aU, cU, rfl, -⟩ := ru.ints; have sF : gF < w2.heap.size := (HP.out.fu.ownlt gF rfl).2; have sFg : gF ≠ w2.heap.size := (by omega); have e4 : (x.future.length : Int) - 1 ≤ (Cf : Int) := (by omega); have Hhfu := Lib.hid hfu; have HSF := Lib.hid SF; have Hhfr := Lib.hid hfr; have HFr := Lib.hid Fr; clear hfu SF hfr Fr)
    | (go_at_call 42; (with_reducible refine (popped_any gF Cf x.future (.slice aU (lastW x.future).length cU) _ hpos kl1 kl2 (Only.cell (fp := []) (by with_reducible repeat (first | exact Only.refl _ _ | assumption | refine Only.drewN ?_ _ | refine Only.drew ?_ | refine Only.alloc ?_ _ | refine Only.setCell ?_ (by intro hh; exfalso; simp at hh; try omega) _ | refine Only.trans ?_ (by assumption))) (by simp) cu)).mono ?_); rintro en w3 ⟨rfl, m3, rfl⟩)
    | (go_at_call 43; (with_reducible refine (cloneLists_rd _ (restW x.future) fr _ (Rp.keep rr (by with_reducible repeat (first | exact Only.refl _ _ | assumption | refine Only.drewN ?_ _ | refine Only.drew ?_ | refine Only.alloc ?_ _ | refine Only.setCell ?_ (by intro hh; exfalso; simp at hh; try omega) _ | refine Only.trans ?_ (by assumption)))) (by rw [restW_len]; omega) (fun y hy => Hs2.out y (restW_mem hy))).mono ?_); rintro en w4 ⟨v4, g3, rfl, r3, F3, t4⟩; obtain ⟨A3', C3', _, _, rfl, -, -⟩ := r3.open_; have s4 : w2.heap.size + 1 ≤ w4.heap.size := (by have := t4.size; simpa using this); have s4a : w.heap.size + 1 < w4.heap.size := (by omega); have s4c : w.heap.size < w4.heap.size := (by omega); have s4b : w2.heap.size < w4.heap.size := (by omega); have B4 : Blk w4 w2.heap.size [.int .i64 x.puzzle.points, .string x.puzzle.names, .slice Am x.puzzle.moves.length Cm, .slice As x.state.length Cs, .slice Ah x.history.length Ch, .slice (some ⟨gF, 0, none⟩) x.future.length Cf] := Blk.keep (Blk.new w2 _ 29) ((Only.ofDrewN _ m3 []).trans t4); have c40 := B4.cell 0 rfl; have c41 := B4.cell 1 rfl; have c42 := B4.cell 2 rfl; have c43 := B4.cell 3 rfl; have c44 := B4.cell 4 rfl; have c45 := B4.cell 5 rfl; have z4 := B4.frozen; have HB4 := Lib.hid B4; clear B4; have y4 := t4.cells_eq w.heap.size (by simp; omega) (by simp); have y4' := t4.cells_eq (w.heap.size + 1) (by simp; omega) (by simp); have z4' := t4.frozen_eq (w.heap.size + 1) (by simp; omega) (by simp); have T4 : Only [] w (w4.setCell ⟨w2.heap.size, 5, none⟩ (.slice A3' (restW x.future).length C3')) := (by with_reducible repeat (first | exact Only.refl _ _ | assumption | refine Only.drewN ?_ _ | refine Only.drew ?_ | refine Only.alloc ?_ _ | refine Only.setCell ?_ (by intro hh; exfalso; simp at hh; try omega) _ | refine Only.trans ?_ (by assumption))); have K4 : Only [] w2 (w4.setCell ⟨w2.heap.size, 5, none⟩ (.slice A3' (restW x.future).length C3')) := (by with_reducible repeat (first | exact Only.refl _ _ | assumption | refine Only.drewN ?_ _ | refine Only.drew ?_ | refine Only.alloc ?_ _ | refine Only.setCell ?_ (by intro hh; exfalso; simp at hh; try omega) _ | refine Only.trans ?_ (by assumption))))
    | (go_at_call 31; (with_reducible refine (pushed_acc (B := w1.heap.size) (Value.slice Ah x.history.length Ch) _ x.history (lastW x.future) hs fu _ (HP.out.hi.keep (by with_reducible repeat (first | exact Only.refl _ _ | assumption | refine Only.drewN ?_ _ | refine Only.drew ?_ | refine Only.alloc ?_ _ | refine Only.setCell ?_ (by intro hh; exfalso; simp at hh; try omega) _ | refine Only.trans ?_ (by assumption)))) (Fresh.keep HP.out.fr.right.right.left.right (by with_reducible repeat (first | exact Only.refl _ _ | assumption | refine Only.drewN ?_ _ | refine Only.drew ?_ | refine Only.alloc ?_ _ | refine Only.setCell ?_ (by intro hh; exfalso; simp at hh; try omega) _ | refine Only.trans ?_ (by assumption)))) (Rp.keep ru (by with_reducible repeat (first | exact Only.refl _ _ | assumption | refine Only.drewN ?_ _ | refine Only.drew ?_ | refine Only.alloc ?_ _ | refine Only.setCell ?_ (by intro hh; exfalso; simp at hh; try omega) _ | refine Only.trans ?_ (by assumption)))) (by have := t2.size; simp; omega) hhl (by omega)).mono ?_); rintro en w5 ⟨v5, g5, rfl, r5, F5, hs5, t5⟩; obtain ⟨A5', C5', _, _, rfl, -, -⟩ := r5.open_; have hvo : ∀ b ∈ (Value.slice Ah x.history.length Ch).ownBlock.toList, w1.heap.size ≤ b ∧ b < w2.heap.size := (fun b hb => HP.out.hi.ownlt b (by simpa using hb)); have hvg : w2.heap.size ∉ (Value.slice Ah x.history.length Ch).ownBlock.toList := (fun hm => by have := (hvo _ hm).2; omega); have hvb : w.heap.size + 1 ∉ (Value.slice Ah x.history.length Ch).ownBlock.toList := (fun hm => by have := (hvo _ hm).1; omega); have hvc : w.heap.size ∉ (Value.slice Ah x.history.length Ch).ownBlock.toList := (fun hm => by have := (hvo _ hm).1; omega); have s5 : w4.heap.size ≤ w5.heap.size := (by have := t5.size; simpa using this); have s5a : w.heap.size + 1 < w5.heap.size := (by omega); have s5c : w.heap.size < w5.heap.size := (by omega); have s5b : w2.heap.size < w5.heap.size := (by omega); have B5 := Blk.only (Blk.set HB4.out 5 (.slice A3' (restW x.future).length C3')) t5 hvg; have c50 := B5.cell 0 rfl; have c51 := B5.cell 1 rfl; have c52 := B5.cell 2 rfl; have c53 := B5.cell 3 rfl; have c54 := B5.cell 4 rfl; have c55 := B5.cell 5 rfl; have z5 := B5.frozen; have HB5 := Lib.hid B5; clear B5; have y5 := t5.cells_eq w.heap.size (by simp; omega) hvc; have y5' := t5.cells_eq (w.heap.size + 1) (by simp; omega) hvb; have z5' := t5.frozen_eq (w.heap.size + 1) (by simp; omega) hvb; have T5 : Only [] w w5 := T4.then_ t5 (fun b hb hl => by have := (hvo b hb).1; omega); have dfu : ∀ b ∈ fu, b ∉ (Value.slice Ah x.history.length Ch).ownBlock.toList := (fun b hb hm => HP.out.fr.parts.2.2 b (List.mem_append_left _ hm) (List.mem_append_right _ (Hhfu.out b hb))); have ru5 := Rp.only (Rp.keep ru K4) t5 dfu; have Hvo := Lib.hid hvo; clear hvo hvg hvb hvc dfu)
    | (go_at_call 30; (with_reducible refine (implApply_any [.int .i64 x.puzzle.points, .string x.puzzle.names, .slice A2 x.puzzle.moves.length C2] x.puzzle _ _ _ x.state (lastW x.future) _ _ _ (Rp.keep k0 (by with_reducible repeat (first | exact Only.refl _ _ | assumption | refine Only.drewN ?_ _ | refine Only.drew ?_ | refine Only.alloc ?_ _ | refine Only.setCell ?_ (by intro hh; exfalso; simp at hh; try omega) _ | refine Only.trans ?_ (by assumption)))) (Rp.keep k1 (by with_reducible repeat (first | exact Only.refl _ _ | assumption | refine Only.drewN ?_ _ | refine Only.drew ?_ | refine Only.alloc ?_ _ | refine Only.setCell ?_ (by intro hh; exfalso; simp at hh; try omega) _ | refine Only.trans ?_ (by assumption)))) (Rp.only (fp' := [w2.heap.size]) ru5 (by with_reducible repeat (first | exact Only.refl _ _ | assumption | refine Only.drewN ?_ _ | refine Only.drew ?_ | refine Only.alloc ?_ _ | refine Only.setCell ?_ (by intro _; simp) _ | refine Only.trans ?_ (Only.weaken (by assumption) _))) (fun b hb hm => by have h5 := HP.out.fr.lt b (List.mem_append_right _ (List.mem_append_right _ (List.mem_append_right _ (List.mem_append_right _ (Hhfu.out b hb))))); simp at hm; omega)) Hst.out Hlt.out).mono ?_); rintro en w6 ⟨v6, g6, rfl, r6, F6, t6⟩; obtain ⟨A6', C6', _, _, rfl, -, -⟩ := r6.open_; have s6 : w5.heap.size ≤ w6.heap.size := (by have := t6.size; simpa using this); have s6a : w.heap.size + 1 < w6.heap.size := (by omega); have s6b : w2.heap.size < w6.heap.size := (by omega); have B6 := Blk.keep (Blk.set HB5.out 4 (.slice A5' (pushW x.history (lastW x.future)).length C5')) t6; have c60 := B6.cell 0 rfl; have c61 := B6.cell 1 rfl; have c62 := B6.cell 2 rfl; have c63 := B6.cell 3 rfl; have c64 := B6.cell 4 rfl; have c65 := B6.cell 5 rfl; have z6 := B6.frozen; clear B6; have y6' := t6.cells_eq (w.heap.size + 1) (by simp; omega) (by simp); have z6' := t6.frozen_eq (w.heap.size + 1) (by simp; omega) (by simp))
    | fail "no arm")
  have hP := HP.out
  have G3 : ∀ b ∈ g3, w2.heap.size + 1 ≤ b := fun b hb => by have := F3.ge b hb; simpa using this
  have L3 := F3.lt
  have G6 : ∀ b ∈ g6, w5.heap.size ≤ b := fun b hb => by have := F6.ge b hb; first | omega | simpa using this
  have L5 := F5.lt
  have FM := hP.fr.left
  have Lm : ∀ b ∈ gm, w1.heap.size ≤ b ∧ b < w2.heap.size := fun b hb => ⟨FM.ge b hb, FM.lt b hb⟩
  have hW4 : (w4.setCell ⟨w2.heap.size, 5, none⟩ (.slice A3' (restW x.future).length C3')).heap.size = w4.heap.size := by simp
  have dH : ∀ b ∈ gm, b ∉ (Value.slice Ah x.history.length Ch).ownBlock.toList := fun b hb hm => (hP.fr.parts.1 b hb).1 (List.mem_append_left _ hm)
  have d3H : ∀ b ∈ g3, b ∉ (Value.slice Ah x.history.length Ch).ownBlock.toList := fun b hb hm => by have := G3 b hb; have := (Hvo.out b hm).2; omega
  have d3g : ∀ b ∈ g3, b ∉ [w2.heap.size] := fun b hb hm => by have := G3 b hb; simp at hm; omega
  have mv5 := Rp.only (Rp.keep hP.mv K4) t5 dH
  have FM5 := (FM.keep K4).only t5 dH
  have r35 := Rp.only (Rp.only (w' := (w4.setCell ⟨w2.heap.size, 5, none⟩ (.slice A3' (restW x.future).length C3'))) (fp' := [w2.heap.size]) r3 (by with_reducible repeat (first | exact Only.refl _ _ | assumption | refine Only.drewN ?_ _ | refine Only.drew ?_ | refine Only.alloc ?_ _ | refine Only.setCell ?_ (by intro _; simp) _ | refine Only.trans ?_ (Only.weaken (by assumption) _))) d3g) t5 d3H
  have F35 := (F3.only (w' := (w4.setCell ⟨w2.heap.size, 5, none⟩ (.slice A3' (restW x.future).length C3'))) (fp' := [w2.heap.size]) (by with_reducible repeat (first | exact Only.refl _ _ | assumption | refine Only.drewN ?_ _ | refine Only.drew ?_ | refine Only.alloc ?_ _ | refine Only.setCell ?_ (by intro _; simp) _ | refine Only.trans ?_ (Only.weaken (by assumption) _))) d3g).only t5 d3H
  have hs6 : ∀ b ∈ g5, b ∉ gm ∧ b ∉ g3 ∧ b ≠ w2.heap.size ∧ w1.heap.size ≤ b := fun b hb => by
    rcases hs5 b hb with h5 | h5
    · have h6 := hP.fr.right.right.left.lt b h5
      refine ⟨fun hm => (hP.fr.parts.1 b hm).1 h5, fun hm => by have := G3 b hm; omega, by omega, F5.ge b hb⟩
    · refine ⟨fun hm => by have := (Lm b hm).2; omega, fun hm => by have := L3 b hm; omega, by omega, F5.ge b hb⟩
  have dm : ∀ b ∈ gm, b ∉ [w2.heap.size, w.heap.size + 1] := fun b hb hm => by have := Lm b hb; simp at hm; omega
  have d3 : ∀ b ∈ g3, b ∉ [w2.heap.size, w.heap.size + 1] := fun b hb hm => by have := G3 b hb; simp at hm; omega
  have d5 : ∀ b ∈ g5, b ∉ [w2.heap.size, w.heap.size + 1] := fun b hb hm => by have := hs6 b hb; simp at hm; omega
  have d6 : ∀ b ∈ g6, b ∉ [w2.heap.size, w.heap.size + 1] := fun b hb hm => by have := G6 b hb; simp at hm; omega
  refine bodyPost_ret (v := .tuple #[.agg #[.int .i64 x.puzzle.points, .string x.puzzle.names, .slice Am x.puzzle.moves.length Cm, .slice A6' (appW x.puzzle x.state (lastW x.future)).length C6', .slice A5' (pushW x.history (lastW x.future)).length C5', .slice A3' (restW x.future).length C3'], .bool true]) (by simp [results, Tryz.results13, go_sem, y6', y5', y4', y2', y1', s2b]) rfl ⟨[.int .i64 x.puzzle.points, .string x.puzzle.names, .slice Am x.puzzle.moves.length Cm, .slice A6' (appW x.puzzle x.state (lastW x.future)).length C6', .slice A5' (pushW x.history (lastW x.future)).length C5', .slice A3' (restW x.future).length C3'], gm ++ (g6 ++ (g5 ++ g3)), rfl,
    ⟨[.int .i64 x.puzzle.points, .string x.puzzle.names, .slice Am x.puzzle.moves.length Cm], _, _, _, gm, g6, g5, g3, rfl, rfl, ⟨_, rfl, p0, p1, Rp.only (fp' := [w2.heap.size, w.heap.size + 1]) mv5 (by with_reducible repeat (first | exact Only.refl _ _ | assumption | refine Only.drewN ?_ _ | refine Only.drew ?_ | refine Only.alloc ?_ _ | refine Only.setCell ?_ (by intro _; simp) _ | refine Only.trans ?_ (Only.weaken (by assumption) _))) dm⟩, Rp.only (fp' := [w2.heap.size, w.heap.size + 1]) r6 (by with_reducible repeat (first | exact Only.refl _ _ | assumption | refine Only.drewN ?_ _ | refine Only.drew ?_ | refine Only.alloc ?_ _ | refine Only.setCell ?_ (by intro _; simp) _ | refine Only.trans ?_ (Only.weaken (by assumption) _))) d6, Rp.only (fp' := [w2.heap.size, w.heap.size + 1]) r5 (by with_reducible repeat (first | exact Only.refl _ _ | assumption | refine Only.drewN ?_ _ | refine Only.drew ?_ | refine Only.alloc ?_ _ | refine Only.setCell ?_ (by intro _; simp) _ | refine Only.trans ?_ (Only.weaken (by assumption) _))) d5, Rp.only (fp' := [w2.heap.size, w.heap.size + 1]) r35 (by with_reducible repeat (first | exact Only.refl _ _ | assumption | refine Only.drewN ?_ _ | refine Only.drew ?_ | refine Only.alloc ?_ _ | refine Only.setCell ?_ (by intro _; simp) _ | refine Only.trans ?_ (Only.weaken (by assumption) _))) d3⟩, ?_, ?_⟩
  · exact Fresh.of4 ((FM5.only (fp' := [w2.heap.size, w.heap.size + 1]) (by with_reducible repeat (first | exact Only.refl _ _ | assumption | refine Only.drewN ?_ _ | refine Only.drew ?_ | refine Only.alloc ?_ _ | refine Only.setCell ?_ (by intro _; simp) _ | refine Only.trans ?_ (Only.weaken (by assumption) _))) dm).mono (by omega)) ((F6.only (fp' := [w2.heap.size, w.heap.size + 1]) (by with_reducible repeat (first | exact Only.refl _ _ | assumption | refine Only.drewN ?_ _ | refine Only.drew ?_ | refine Only.alloc ?_ _ | refine Only.setCell ?_ (by intro _; simp) _ | refine Only.trans ?_ (Only.weaken (by assumption) _))) d6).mono (by first | omega | (simp; omega))) ((F5.only (fp' := [w2.heap.size, w.heap.size + 1]) (by with_reducible repeat (first | exact Only.refl _ _ | assumption | refine Only.drewN ?_ _ | refine Only.drew ?_ | refine Only.alloc ?_ _ | refine Only.setCell ?_ (by intro _; simp) _ | refine Only.trans ?_ (Only.weaken (by assumption) _))) d5).mono (by omega)) ((F35.only (fp' := [w2.heap.size, w.heap.size + 1]) (by with_reducible repeat (first | exact Only.refl _ _ | assumption | refine Only.drewN ?_ _ | refine Only.drew ?_ | refine Only.alloc ?_ _ | refine Only.setCell ?_ (by intro _; simp) _ | refine Only.trans ?_ (Only.weaken (by assumption) _))) d3).mono (by simp; omega)) (fun b hb hm => by have := Lm b hb; have := G6 b hm; omega) (fun b hb hm => (hs6 b hm).1 hb) (fun b hb hm => by have := Lm b hb; have := G3 b hm; omega) (fun b hb hm => by have := G6 b hb; have := L5 b hm; omega) (fun b hb hm => by have := G6 b hb; have := L3 b hm; omega) (fun b hb hm => (hs6 b hb).2.1 hm)
  · exact (by with_reducible repeat (first | exact Only.refl _ _ | assumption | refine Only.drewN ?_ _ | refine Only.drew ?_ | refine Only.alloc ?_ _ | refine Only.setCell ?_ (by intro hh; exfalso; simp at hh; try omega) _ | refine Only.trans ?_ (by assumption)))
end Go.Proofs.YtajkhdbdkjhilaaGreat

namespace Go.Proofs.YtajkhdbdkjhilaaGreat
open Go.RowKit Go.Shelf
set_option maxRecDepth 10000

/-- the inverse letters of a word in reverse order -/
def invW (l : List Int) : List Int := (l.map fun x => -x).reverse
theorem invW_len (l : List Int) : (invW l).length = l.length := by simp [invW]
theorem invW_ltrs {m : Nat} {l : List Int} (h : ∀ x ∈ l, x ∈ ltrs m) : ∀ x ∈ invW l, x ∈ ltrs m := by
  intro x hx
  unfold invW at hx
  rw [List.mem_reverse, List.mem_map] at hx
  obtain ⟨y, hy, rfl⟩ := hx
  have := mem_ltrs.1 (h y hy)
  rw [mem_ltrs]; omega
/-- its first k letters -/
def invTk (l : List Int) (k : Nat) : List Int := (invW l).take k
theorem invTk_succ {l : List Int} {k : Nat} (h : k < l.length) : invTk l (k + 1) = invTk l k ++ [-(l[l.length - 1 - k]'(by omega))] := by
  unfold invTk
  have h1 : k < (invW l).length := by rw [invW_len]; exact h
  rw [take_succ_get _ k h1]
  congr 2
  simp [invW]
theorem invTk_len {l : List Int} {k : Nat} (h : k ≤ l.length) : (invTk l k).length = k := by unfold invTk; rw [List.length_take, invW_len]; omega
theorem invW_i64 {l : List Int} (h : ∀ x ∈ l, -1000 ≤ x ∧ x ≤ 1000) : ∀ x ∈ invW l, I64 x := by
  intro x hx
  unfold invW at hx
  rw [List.mem_reverse, List.mem_map] at hx
  obtain ⟨y, hy, rfl⟩ := hx
  have := h y hy
  unfold I64; omega
set_option maxHeartbeats 1000000 in
theorem specInvW_rd (v : Value) (l : List Int) (fp : List Nat) (w : World) (h : Rd w v l fp) (hb : ∀ x ∈ l, -1000 ≤ x ∧ x ≤ 1000) (hl : l.length ≤ 1000) :
    Calls Tryz.prog 108 #[v] w fun e w' => ∃ v fp', e = .returned v ∧ Rd w' v (invW l) fp' ∧ Fresh w.heap.size w' fp' ∧ Only [] w w' := by
  obtain ⟨i0, hi, hz0, hz1, hz2⟩ := info_parts Tryz.info2
  obtain ⟨a, cap, rfl, IL⟩ := h.ints
  have Hb := Lib.hid hb
  clear hb
  go_enter Tryz.func108, Tryz.ntmps108
  go_wp2
  go_loopw [3, 4] (fun o i wr => ∃ (k : Nat) (fs : List (List Nat)), k ≤ l.length ∧ i = .int .i64 ((l.length : Int) - 1 - k) ∧ Acc w.heap.size 2 wr o (invTk l k) fs ∧ Fresh w.heap.size wr fs.flatten ∧ Only [] w wr)
    (fun _ i _ => (intOf i + 1).toNat)
  case atStart => exact ⟨0, [], Nat.zero_le _, by simp, by simpa [invTk] using Acc.made w w.heap.size _ rfl (Nat.le_refl _), Fresh.nil _ _, (Only.refl _ _).alloc _⟩
  case round =>
    obtain ⟨k, fs, hk, rfl, hA, hF, hK⟩ := hrel
    by_cases hlt : k < l.length
    · have hsz := hK.size
      have e1 : (0 : Int) ≤ (l.length : Int) - 1 - k := by omega
      have e2 : ((l.length : Int) - 1 - k).toNat = l.length - 1 - k := by omega
      have e3 : (l.length : Int) - 1 - k < (l.length : Int) := by omega
      obtain ⟨b, off, rfl, -, hc0⟩ := IL.at_ (l.length - 1 - k) (by omega)
      have hc := hK.cell (by simp) hc0
      obtain ⟨y, hy⟩ : ∃ y, y = l[l.length - 1 - k] := ⟨_, rfl⟩
      rw [← hy] at hc
      have hbd := Hb.out l[l.length - 1 - k] (List.getElem_mem _)
      rw [← hy] at hbd
      have hb1 := hbd.1
      have hb2 := hbd.2
      have hst := invTk_succ hlt
      rw [← hy] at hst
      have Hst := Lib.hid hst
      have hlen := invTk_len hk
      have hlj : (invTk l k).length + 1 ≤ 1073741824 := by omega
      have Hlj := Lib.hid hlj
      have HI : Hid (I64 (-y)) := Lib.hid (by unfold I64; omega)
      clear hc0 hbd hst hlen hlj hy
      go_wp2_with ((at_builtin; refine wpList_pushF rfl _ _ 27 rfl w.heap.size 2 i0 _ 8 Tryz.underlying27 hi hz0 hz1 hz2 rfl (by decide) (by decide) wr _ (invTk l k) fs rfl hA hF ((Only.refl _ _).alloc _) hsz wr.heap.size 1 [.int .i64 (-y)] (-y) [] rfl (lit_src wr [.int .i64 (-y)] _ rfl) (by intro u hu; simp at hu; subst hu; rfl) (int_rd _ HI.out) (Fresh.nil _ _) Hlj.out w (hK.alloc _) (Nat.le_refl _) ?_; intro v3 w3 hA3 hF3 hK3 _))
      go_roundw
      case rel => exact ⟨k + 1, _, by omega, by congr 1; omega, by rw [Hst.out]; exact hA3, hF3, hK3⟩
      case measure => simp [intOf]; omega
    · obtain rfl : k = l.length := by omega
      have e1 : (l.length : Int) - 1 - (l.length : Int) < 0 := by omega
      have hall : invTk l l.length = invW l := by unfold invTk; rw [List.take_of_length_le (by rw [invW_len]; omega)]
      rw [hall] at hA
      have HA := Lib.hid hA
      clear hA hall
      go_wp2
      go_ret
      exact ⟨_, _, rfl, HA.out.rd (by decide), HA.out.fresh hF, hK⟩
/-- what a round of the loop leaves alone -/
def KeepB (n₀ m : Nat) (A B : World) : Prop := ∀ k, k < n₀ → k ≠ m → B.heap[k]? = A.heap[k]?
theorem KeepB.refl (n₀ m : Nat) (A : World) : KeepB n₀ m A A := fun _ _ _ => rfl
theorem KeepB.trans {n₀ m : Nat} {A B C : World} (h : KeepB n₀ m A B) (k : KeepB n₀ m B C) : KeepB n₀ m A C := fun i hi hn => (k i hi hn).trans (h i hi hn)
theorem KeepB.cell {n₀ m : Nat} {A B : World} (h : KeepB n₀ m A B) {b o : Nat} (hb : b < n₀) (hm : b ≠ m) {v : Value} (hc : A.cell? ⟨b, o, none⟩ = some v) : B.cell? ⟨b, o, none⟩ = some v :=
  (World.cell?_of_block (h b hb hm)).trans hc
theorem keepB_b {n₀ m : Nat} {w : World} (hn : n₀ ≤ w.heap.size) (W : World) (l : Nat) (o o' : Obj) (hl : w.heap.size ≤ l) (h : W.heap[l]? = some o) (_ : o.isCells = false) (_ : o.isWalk = false) : KeepB n₀ m W (W.putObj l o') := fun k hk _ =>
  (grownBy_putObj' W l o').block k (Nat.lt_trans (Nat.lt_of_lt_of_le hk (Nat.le_trans hn hl)) (Array.getElem?_eq_some_iff.1 h).1) (fun e => by cases e; omega)
/-- what has come when k rounds are over -/
def uptoF {α : Type} (f : Nat → α) (k : Nat) : List α := (List.range k).map f
theorem uptoF_succ {α : Type} (f : Nat → α) (k : Nat) : uptoF f (k + 1) = uptoF f k ++ [f k] := by simp [uptoF, List.range_succ]
theorem uptoF_length {α : Type} (f : Nat → α) (k : Nat) : (uptoF f k).length = k := by simp [uptoF]
def bwAt (l : List Int) (j : Nat) : Nat × Int := (l.length - 1 - j, l[l.length - 1 - j]?.getD 0)
set_option maxRecDepth 100000 in
set_option maxHeartbeats 2000000 in
theorem bw1_in (n : Nat) (hn : 1 ≤ n) (lp Bs n₀ m cap : Nat) (a : Option Addr) (l : List Int) (hll : l.length ≤ 1000) (hBn : Bs < n₀) (hBm : Bs ≠ m) (J Jx : List (Nat × Int) → World → Prop)
    (hY : ∀ pre x W, J pre W → pre.length < l.length → YieldAt Fence.wide (n - 1) Tryz.prog lp #[.int .i64 (x.1 : Int), .int .i64 x.2] W fun e W' =>
      (e = .returned (.bool true) ∧ J (pre ++ [x]) W' ∧ KeepB n₀ m W W') ∨ (e = .returned (.bool false) ∧ Jx (pre ++ [x]) W'))
    (W : World) (hBs : W.cell? ⟨Bs, 0, none⟩ = some (.slice a l.length cap)) (hc : ∀ j, j < l.length → ∃ b off, a = some ⟨b, off, none⟩ ∧ b < n₀ ∧ b ≠ m ∧ W.cell? ⟨b, off + j, none⟩ = some (.int .i64 (l[j]?.getD 0))) (h0 : J [] W) :
    CallsIn Fence.wide n Tryz.prog 121 #[.func (.yield lp) #[] #[], .pointer (some ⟨Bs, 0, none⟩)] W fun e W' => (∃ v, e = .returned v) ∧
      ((∃ ys, ys = uptoF (bwAt l) l.length ∧ J ys W') ∨ (∃ pre, (∃ k, k ≤ l.length ∧ pre = uptoF (bwAt l) k) ∧ Jx pre W')) := by
  have hsem := @Oper.semAt_some
  refine callsIn_of_wp Tryz.func121 rfl trivial ?_ rfl
  simp only [Tryz.ntmps121, List.size_toArray, List.length_cons, List.length_nil, Nat.reduceAdd, Nat.reduceSub, Array.replicate_succ, Array.replicate_zero, List.push_toArray, List.append_toArray, List.nil_append, List.cons_append]
  gi_wp2
  gi_loopw [3] (fun i wr => ∃ k : Nat, k ≤ l.length ∧ i = .int .i64 ((l.length : Int) - 1 - k) ∧ J (uptoF (bwAt l) k) wr ∧ KeepB n₀ m W wr)
    (fun i _ => (intOf i + 1).toNat)
  case atStart => exact ⟨0, Nat.zero_le _, by simp, h0, KeepB.refl _ _ _⟩
  case round =>
    obtain ⟨k, hk, rfl, hJs, hnx⟩ := hrel
    have hBs' := hnx.cell hBn hBm hBs
    by_cases hlt : k < l.length
    · obtain ⟨b, off, rfl, hb, hbm, hcx0⟩ := hc (l.length - 1 - k) (by omega)
      have hcx := hnx.cell hb hbm hcx0
      clear hcx0
      have e1 : (0 : Int) ≤ (l.length : Int) - 1 - k := by omega
      have e2 : ((l.length : Int) - 1 - k).toNat = l.length - 1 - k := by omega
      have e3 : (l.length : Int) - 1 - k < (l.length : Int) := by omega
      have e4 : ((l.length - 1 - k : Nat) : Int) = (l.length : Int) - 1 - k := by omega
      obtain ⟨fn, tmps, assign, body, hy, hR⟩ := hY _ (bwAt l k) wr hJs (by rw [uptoF_length]; exact hlt)
      dsimp only [bwAt] at hy
      rw [e4] at hy
      gi_wp2
      refine hR.mono ?_
      rintro e W3 (⟨rfl, hJ3, hk3⟩ | ⟨rfl, hJx3⟩)
      · gi_wp2
        go_roundw
        case rel => exact ⟨k + 1, by omega, by congr 1; omega, by rw [uptoF_succ]; exact hJ3, hnx.trans hk3⟩
        case measure => simp [intOf]; omega
      · gi_wp2
        refine bodyPost_ret (results_none rfl _ _ _) rfl ?_
        exact ⟨⟨_, rfl⟩, .inr ⟨_, ⟨k + 1, by omega, (uptoF_succ _ _).symm⟩, hJx3⟩⟩
    · obtain rfl : k = l.length := by omega
      have e1 : (l.length : Int) - 1 - (l.length : Int) < 0 := by omega
      gi_wp2
      go_end0
      exact ⟨⟨_, rfl⟩, .inl ⟨_, rfl, hJs⟩⟩
set_option maxHeartbeats 1000000 in
theorem bw_in (n : Nat) (a : Option Addr) (len cap : Nat) (w : World) :
    CallsIn Fence.wide n Tryz.prog 84 #[.slice a len cap] w fun e w' => e = .returned (.func (.func 121) #[] #[.pointer (some ⟨w.heap.size, 0, none⟩)]) ∧ w' = w.alloc (.cells #[.slice a len cap] 27) := by
  refine callsIn_of_wp Tryz.func84 rfl trivial ?_ rfl
  simp only [Tryz.ntmps84, List.size_toArray, List.length_cons, List.length_nil, Nat.reduceAdd, Nat.reduceSub, Array.replicate_succ, Array.replicate_zero, List.push_toArray, List.append_toArray, List.nil_append, List.cons_append]
  gi_wp2
  go_ret
  exact ⟨rfl, rfl⟩
theorem bw_stops (n : Nat) (hn : 1 ≤ n) (Bs n₀ m cap : Nat) (a : Option Addr) (l : List Int) (hll : l.length ≤ 1000) (w : World) (hBs : Bs < w.heap.size) (hn₀ : n₀ ≤ w.heap.size) (hBn : Bs < n₀) (hBm : Bs ≠ m)
    (hc : w.cell? ⟨Bs, 0, none⟩ = some (.slice a l.length cap)) (hI : ∀ j, j < l.length → ∃ b off, a = some ⟨b, off, none⟩ ∧ b < n₀ ∧ b ≠ m ∧ w.cell? ⟨b, off + j, none⟩ = some (.int .i64 (l[j]?.getD 0))) :
    SeqStopsK Fence.wide n Tryz.prog 121 #[.pointer (some ⟨Bs, 0, none⟩)] (fun x : Nat × Int => #[Value.int .i64 (x.1 : Int), Value.int .i64 x.2]) (KeepB n₀ m) (fun ys => ys = uptoF (bwAt l) l.length)
      (fun pre => ∃ k, k ≤ l.length ∧ pre = uptoF (bwAt l) k) l.length w := fun lp J Jx W hW _ _ hY h0 =>
  bw1_in n hn lp Bs n₀ m cap a l hll hBn hBm J Jx hY W ((hW.cell (p := ⟨Bs, 0, none⟩) hBs).trans hc) (fun j hj => by
    obtain ⟨b, off, e1, e2, e3, e4⟩ := hI j hj
    exact ⟨b, off, e1, e2, e3, (hW.cell (p := ⟨b, off + j, none⟩) (Nat.lt_of_lt_of_le e2 hn₀)).trans e4⟩) h0
def negs (pre : List (Nat × Int)) : List Int := pre.map fun p => wrap64 (-p.2)
theorem negs_snoc (pre : List (Nat × Int)) (x : Nat × Int) : negs (pre ++ [x]) = negs pre ++ [wrap64 (-x.2)] := by simp [negs]
theorem uptoF_inv {l : List Int} (hb : ∀ x ∈ l, -1000 ≤ x ∧ x ≤ 1000) : ∀ k, k ≤ l.length → negs (uptoF (bwAt l) k) = invTk l k := by
  intro k
  induction k with
  | zero => intro _; simp [uptoF, invTk, negs]
  | succ k ih =>
    intro hk
    rw [uptoF_succ, negs_snoc, ih (by omega), invTk_succ (by omega)]
    have h1 : (bwAt l k).2 = l[l.length - 1 - k] := by
      show l[l.length - 1 - k]?.getD 0 = _
      rw [List.getElem?_eq_getElem (by omega)]; rfl
    rw [h1]
    have := hb l[l.length - 1 - k] (List.getElem_mem _)
    rw [wrap64_lit _ (by omega) (by omega)]
set_option maxRecDepth 100000 in
set_option maxHeartbeats 4000000 in
theorem implInvW_in (a : Option Addr) (cap : Nat) (l : List Int) (fp : List Nat) (w : World) (IL : IntsA w a cap l fp) (hb : ∀ x ∈ l, -1000 ≤ x ∧ x ≤ 1000) (hl : l.length ≤ 1000) :
    CallsIn Fence.wide 5 Tryz.prog 44 #[.slice a l.length cap] w fun e W' => ∃ v, e = .returned v ∧ W'.ownsRow w.heap.size 2 1 v (invW l).length ((invW l).map (Value.int .i64)) ∧ Below w.heap.size w W' := by
  have hsem := @Oper.semAt_some
  obtain ⟨i0, hi, hz0, hz1, hz2⟩ := info_parts Tryz.info2
  refine callsIn_of_wp_marks Tryz.func44 rfl trivial ?_ rfl
  simp only [Tryz.ntmps44, List.size_toArray, List.length_cons, List.length_nil, Nat.reduceAdd, Nat.reduceSub, Array.replicate_succ, Array.replicate_zero, List.push_toArray, List.append_toArray, List.nil_append, List.cons_append]
  gi_wp2_with (refine ⟨trivial, ?_⟩; gi_at_call 84; refine (bw_in _ _ _ _ _).mono ?_; rintro e w' ⟨rfl, rfl⟩)
  have bO := Boxed.new w 27 (.slice none 0 0)
  have bN := Boxed.new (w.alloc (.cells #[.slice none 0 0] 27)) 27 (.slice a l.length cap)
  rw [World.size_alloc] at bN
  have hB0 : Below w.heap.size w ((w.alloc (.cells #[.slice none 0 0] 27)).alloc (.cells #[.slice a l.length cap] 27)) := ((Below.refl _ w).alloc (Nat.le_refl _) _).alloc (by simp) _
  refine wpIn_rangeFunc_ownG rfl (by omega) (gf := 121) (lb := #[.pointer (some ⟨w.heap.size + 1, 0, none⟩)]) rfl trivial (enters_of Tryz.func121 (by kernel_rfl) rfl)
    (bw_stops 4 (by omega) (w.heap.size + 1) (w.heap.size + 2) w.heap.size cap a l hl _ (by simp) (by simp) (by omega) (by omega) bN.cell (fun j hj => by
      obtain ⟨b, off, e1, e2, e3⟩ := IL.at_ j hj
      have hbl := IL.lt b (by rw [e2]; simp)
      exact ⟨b, off, e1, by omega, by omega, (hB0.cell (p := ⟨b, off + j, none⟩) hbl).trans (by rw [e3, List.getElem?_eq_getElem hj]; rfl)⟩)) KeepB.trans (keepB_b (by simp)) (Below.refl _ _) (fun _ => rfl)
    (fun pre W => (∃ v, Boxed W w.heap.size 27 v ∧ W.ownsRow w.heap.size 2 1 v (negs pre).length ((negs pre).map (Value.int .i64)) ∧ True) ∧ (Boxed W (w.heap.size + 1) 27 (.slice a l.length cap) ∧ Below w.heap.size w W))
    (fun _ _ _ => False)
    (OwnFrom.and (Own.from (holdsRow_own w.heap.size w.heap.size 27 2 1 (fun pre => (negs pre).length) (fun pre => (negs pre).map (Value.int .i64)) (fun _ _ => True)) _) (OwnFrom.and (Own.from (boxed_own (w.heap.size + 1) 27 (fun _ => .slice a l.length cap)) _) (ownFrom_below (Nat.le_refl _) (by simp; omega))))
    (fun _ _ _ _ _ hs _ _ => hs)
    ⟨⟨_, bO.alloc _, World.ownsRow_nil _ _ _ _, trivial⟩, bN, hB0⟩
    (fun x => { tmps := #[.slice a l.length cap, undef, .slice none 0 0, .pointer (some ⟨w.heap.size, 0, none⟩), undef, .int .i64 x.2, .slice a l.length cap, .func (.func 121) #[] #[.pointer (some ⟨w.heap.size + 1, 0, none⟩)], .int .i64 (x.1 : Int), .int .i64 x.2, undef, undef, undef, undef, undef, undef], defers := [] }) ?assign ?body ?done ?stop
  case assign =>
    intro l x W K hK
    gi_wp2
    exact hK
  case body =>
    rintro l' pre x W ⟨⟨v, hv, hrow, -⟩, hN, hB⟩ hlt
    have hc := hv.cell
    have hpl : (negs pre).length ≤ pre.length := by simp [negs]
    have hnr := hN.not_row (by decide) hrow
    have hol := hrow.lt
    gi_wp2_with (gi_at_builtin; refine wpListIn_append_own _ rfl _ _ 27 rfl w.heap.size 2 i0 (.int .i64 0) 1 8 Tryz.underlying27 hi hz0 hz1 hz2 rfl (by decide) _ _ _ rfl (hrow.alloc _) ⟨W.heap.size, 0, none⟩ 1 1 [.int .i64 (wrap64 (-x.2))] rfl rfl (cell_one_new _ _ _) (by simp [Value.oneCell']) (by unfold maxLen; omega) (by omega) (by have := hB.size; simp; omega) ?_; intro v' w1 hown' hgrow _; obtain ⟨g', cap', rfl⟩ := ownsRow_succ hown'; obtain ⟨hv1, hv2, hr2, hk2, hb2⟩ := hv.appended (by decide) hrow hB.size (Nat.le_refl _) hown' hgrow; have hc1 := hv1.cell; have hf1 := hv1.frozen)
    have hkk : ∀ k, k < w.heap.size + 2 → k ≠ w.heap.size → w1.heap[k]? = W.heap[k]? := fun k hk hkn => by
      have h1 := hN.lt
      rw [hgrow.block k (by simp; omega) (fun e => by
        by_cases h2 : k = w.heap.size + 1
        · subst h2; exact hnr e
        · have := (hol k e.symm).1; omega)]
      exact Below.heap_alloc _ _ _ (by omega)
    have hKB : KeepB (w.heap.size + 2) w.heap.size W (w1.setCell ⟨w.heap.size, 0, none⟩ (.slice (some ⟨g', 0, none⟩) ((negs pre).length + 1) cap')) := fun k hk hkn => by
      rw [Below.heap_setCell _ _ _ _ hkn]; exact hkk k hk hkn
    have hN2 : Boxed (w1.setCell ⟨w.heap.size, 0, none⟩ (.slice (some ⟨g', 0, none⟩) ((negs pre).length + 1) cap')) (w.heap.size + 1) 27 (.slice a l.length cap) := (hKB (w.heap.size + 1) (by omega) (by omega)).trans hN
    exact ⟨hk2.from _, hKB, ⟨_, hv2, by rw [negs_snoc, List.length_append, List.map_append]; exact hr2, trivial⟩, hN2, hB.trans hb2⟩
  case done =>
    rintro D ys W hD rfl ⟨⟨v, hv, hrow, -⟩, -, hB⟩ hK
    have hc := hv.cell
    gi_wp2
    refine ⟨by simp, .inl ⟨_, _, rfl, run_takeDeferred hK, ?_⟩⟩
    have hall : negs (uptoF (bwAt l) l.length) = invW l := by
      rw [uptoF_inv hb _ (Nat.le_refl _)]; unfold invTk; rw [List.take_of_length_le (by rw [invW_len]; omega)]
    rw [hall] at hrow
    exact ⟨_, results_tmp rfl _ _ _, v, rfl, ownsRow_putObj hrow _ hK rfl, hB.trans (belowK_b (w := w) (Nat.le_refl _) W D _ _ (by simp at hD; omega) hK rfl rfl)⟩
  case stop =>
    rintro D c pre W _ _ h _
    exact h.elim
theorem implInvW_rd (v : Value) (l : List Int) (fp : List Nat) (w : World) (h : Rd w v l fp) (hb : ∀ x ∈ l, -1000 ≤ x ∧ x ≤ 1000) (hl : l.length ≤ 1000) :
    Calls Tryz.prog 44 #[v] w fun e w' => ∃ v fp', e = .returned v ∧ Rd w' v (invW l) fp' ∧ Fresh w.heap.size w' fp' ∧ Only [] w w' := by
  obtain ⟨a, cap, rfl, IL⟩ := h.ints
  refine (callsIn_wide.1 (implInvW_in a cap l fp w IL hb hl)).mono ?_
  rintro e w' ⟨v, rfl, hO, hB⟩
  obtain ⟨a', cap', hv, -, hI, hF⟩ := own_ints hO (invW_i64 hb)
  have hr := hI.rd
  rw [← hv] at hr
  exact ⟨_, _, rfl, hr, hF, Only.ofBelow hB []⟩
end Go.Proofs.YtajkhdbdkjhilaaGreat

namespace Go.Proofs.YtajkhdbdkjhilaaGreat
open Go.RowKit
set_option maxRecDepth 10000

def undoW (x : Session) : Session := ⟨x.puzzle, appW x.puzzle x.state (invW (lastW x.history)), restW x.history, pushW x.future (lastW x.history)⟩
set_option maxHeartbeats 4000000 in
theorem implUndoWord_yes (cs : List Value) (x : Session) (fp : List Nat) (w : World) (h : Rp.rep w cs x fp) (hq : validSe x = true) (hw : x.history.length ≠ 0) :
    Calls Tryz.prog 12 #[.agg cs.toArray] w (SeRes (undoW x) true w) := by
  have h0 := h
  obtain ⟨c0, v1, v2, v3, f0, f1, f2, f3, rfl, rfl, k0, k1, k2, k3⟩ := h
  have q0 := k0
  obtain ⟨u2, rfl, p0, p1, h2⟩ := q0
  obtain ⟨A2, C2, _, _, rfl, -, -⟩ := h2.open_
  obtain ⟨A3, C3, _, _, rfl, -, -⟩ := k1.open_
  obtain ⟨A4, C4, _, _, rfl, -, -⟩ := k2.open_
  obtain ⟨A5, C5, _, _, rfl, -, -⟩ := k3.open_
  obtain ⟨hst, hml, -, -, hhl, hh2, hul, hu2⟩ := validSe_facts hq
  have hpos : 0 < x.history.length := by omega
  have hlw := validSe_letters hq (lastW x.history) (.inl (lastW_mem hpos))
  obtain ⟨hl200, hlt⟩ := validW_ltrs hml hlw
  have e1 : (0 : Int) ≤ (x.history.length : Int) - 1 := by omega
  have e2 : ((x.history.length : Int) - 1).toNat = x.history.length - 1 := by omega
  have e3 : (x.history.length : Int) - 1 < (x.history.length : Int) := by omega
  have e5 : (1 : Int) ≤ (x.history.length : Int) := by omega
  have e6 : ((x.history.length : Int) == 0) = false := by rw [beq_eq_false_iff_ne]; omega
  have e7 : x.history.length ≤ 40 := by omega
  have Hst := Lib.hid hst
  have Hd2 := Lib.hid hu2
  have Hs2 := Lib.hid hh2
  have Hlt := Lib.hid (invW_ltrs hlt)
  have hbd : ∀ y ∈ lastW x.history, -1000 ≤ y ∧ y ≤ 1000 := fun y hy => by have := mem_ltrs.1 (hlt y hy); omega
  have Hbd := Lib.hid hbd
  clear hst hh2 hu2 hlt hlw hw hbd
  go_enter Tryz.func12, Tryz.ntmps12
  go_wp2_with (first
    | (go_at_call 9; (with_reducible refine (implIsValidSession_any [.int .i64 x.puzzle.points, .string x.puzzle.names, .slice A2 x.puzzle.moves.length C2, .slice A3 x.state.length C3, .slice A4 x.history.length C4, .slice A5 x.future.length C5] x _ _ (Rp.keep h0 (by with_reducible repeat (first | exact Only.refl _ _ | assumption | refine Only.drewN ?_ _ | refine Only.drew ?_ | refine Only.alloc ?_ _ | refine Only.setCell ?_ (by intro hh; exfalso; simp at hh; try omega) _ | refine Only.trans ?_ (by assumption))))).mono ?_); rintro en w1 ⟨rfl, t1⟩; have s1 : w.heap.size + 2 ≤ w1.heap.size := (by have := t1.size; simp at this; omega); have y1 := t1.cells_eq w.heap.size (by simp; omega) (by simp); have y1' := t1.cells_eq (w.heap.size + 1) (by simp) (by simp); have z1' := t1.frozen_eq (w.heap.size + 1) (by simp) (by simp))
    | (go_at_call 28; (with_reducible refine (cloneSession_any [.int .i64 x.puzzle.points, .string x.puzzle.names, .slice A2 x.puzzle.moves.length C2, .slice A3 x.state.length C3, .slice A4 x.history.length C4, .slice A5 x.future.length C5] x _ _ (Rp.keep h0 (by with_reducible repeat (first | exact Only.refl _ _ | assumption | refine Only.drewN ?_ _ | refine Only.drew ?_ | refine Only.alloc ?_ _ | refine Only.setCell ?_ (by intro hh; exfalso; simp at hh; try omega) _ | refine Only.trans ?_ (by assumption)))) hq).mono ?_); rintro en w2 ⟨Am, Cm, As, Cs, Ah, Ch, Af, Cf, gm, gs, hs, us, rfl, hP, t2⟩; have s2 : w.heap.size + 2 ≤ w2.heap.size := Nat.le_trans s1 t2.size; have y2 := t2.cells_eq w.heap.size (by omega) (by simp); have y2' := t2.cells_eq (w.heap.size + 1) (by omega) (by simp); have z2' := t2.frozen_eq (w.heap.size + 1) (by omega) (by simp); have HP := Lib.hid hP; clear hP; have s2a : w.heap.size < w2.heap.size := (by omega); have s2b : w.heap.size + 1 < w2.heap.size := (by omega); obtain ⟨gF, cF, u, fu, fr, eF, kl1, kl2, cu, ru, hfu, SF, rr, Fr, hfr⟩ := HP.out.hi.last HP.out.fr.right.right.left.right hpos; injection eF with eA _ eC; subst eA; subst eC; obtain ⟨aU, cU, rfl, -⟩ := ru.ints; have sF : gF < w2.heap.size := (HP.out.hi.ownlt gF rfl).2; have sFg : gF ≠ w2.heap.size := (by omega); have e4 : (x.history.length : Int) - 1 ≤ (Ch : Int) := (by omega); have Hhfu := Lib.hid hfu; have HSF := Lib.hid SF; have Hhfr := Lib.hid hfr; have HFr := Lib.hid Fr; clear hfu SF hfr Fr)
    | (go_at_call 42; (with_reducible refine (popped_any gF Ch x.history (.slice aU (lastW x.history).length cU) _ hpos kl1 kl2 (Only.cell (fp := []) (by with_reducible repeat (first | exact Only.refl _ _ | assumption | refine Only.drewN ?_ _ | refine Only.drew ?_ | refine Only.alloc ?_ _ | refine Only.setCell ?_ (by intro hh; exfalso; simp at hh; try omega) _ | refine Only.trans ?_ (by assumption))) (by simp) cu)).mono ?_); rintro en w3 ⟨rfl, m3, rfl⟩)
    | (go_at_call 43; (with_reducible refine (cloneLists_rd _ (restW x.history) fr _ (Rp.keep rr (by with_reducible repeat (first | exact Only.refl _ _ | assumption | refine Only.drewN ?_ _ | refine Only.drew ?_ | refine Only.alloc ?_ _ | refine Only.setCell ?_ (by intro hh; exfalso; simp at hh; try omega) _ | refine Only.trans ?_ (by assumption)))) (by rw [restW_len]; omega) (fun y hy => Hs2.out y (restW_mem hy))).mono ?_); rintro en w4 ⟨v4, g3, rfl, r3, F3, t4⟩; obtain ⟨A3', C3', _, _, rfl, -, -⟩ := r3.open_; have s4 : w2.heap.size + 1 ≤ w4.heap.size := (by have := t4.size; simpa using this); have s4a : w.heap.size + 1 < w4.heap.size := (by omega); have s4c : w.heap.size < w4.heap.size := (by omega); have s4b : w2.heap.size < w4.heap.size := (by omega); have B4 : Blk w4 w2.heap.size [.int .i64 x.puzzle.points, .string x.puzzle.names, .slice Am x.puzzle.moves.length Cm, .slice As x.state.length Cs, .slice (some ⟨gF, 0, none⟩) x.history.length Ch, .slice Af x.future.length Cf] := Blk.keep (Blk.new w2 _ 29) ((Only.ofDrewN _ m3 []).trans t4); have c40 := B4.cell 0 rfl; have c41 := B4.cell 1 rfl; have c42 := B4.cell 2 rfl; have c43 := B4.cell 3 rfl; have c44 := B4.cell 4 rfl; have c45 := B4.cell 5 rfl; have z4 := B4.frozen; have HB4 := Lib.hid B4; clear B4; have y4 := t4.cells_eq w.heap.size (by simp; omega) (by simp); have y4' := t4.cells_eq (w.heap.size + 1) (by simp; omega) (by simp); have z4' := t4.frozen_eq (w.heap.size + 1) (by simp; omega) (by simp); have T4 : Only [] w (w4.setCell ⟨w2.heap.size, 4, none⟩ (.slice A3' (restW x.history).length C3')) := (by with_reducible repeat (first | exact Only.refl _ _ | assumption | refine Only.drewN ?_ _ | refine Only.drew ?_ | refine Only.alloc ?_ _ | refine Only.setCell ?_ (by intro hh; exfalso; simp at hh; try omega) _ | refine Only.trans ?_ (by assumption))); have K4 : Only [] w2 (w4.setCell ⟨w2.heap.size, 4, none⟩ (.slice A3' (restW x.history).length C3')) := (by with_reducible repeat (first | exact Only.refl _ _ | assumption | refine Only.drewN ?_ _ | refine Only.drew ?_ | refine Only.alloc ?_ _ | refine Only.setCell ?_ (by intro hh; exfalso; simp at hh; try omega) _ | refine Only.trans ?_ (by assumption))))
    | (go_at_call 31; (with_reducible refine (pushed_acc (B := w1.heap.size) (Value.slice Af x.future.length Cf) _ x.future (lastW x.history) us fu _ (HP.out.fu.keep (by with_reducible repeat (first | exact Only.refl _ _ | assumption | refine Only.drewN ?_ _ | refine Only.drew ?_ | refine Only.alloc ?_ _ | refine Only.setCell ?_ (by intro hh; exfalso; simp at hh; try omega) _ | refine Only.trans ?_ (by assumption)))) (Fresh.keep HP.out.fr.right.right.right.right (by with_reducible repeat (first | exact Only.refl _ _ | assumption | refine Only.drewN ?_ _ | refine Only.drew ?_ | refine Only.alloc ?_ _ | refine Only.setCell ?_ (by intro hh; exfalso; simp at hh; try omega) _ | refine Only.trans ?_ (by assumption)))) (Rp.keep ru (by with_reducible repeat (first | exact Only.refl _ _ | assumption | refine Only.drewN ?_ _ | refine Only.drew ?_ | refine Only.alloc ?_ _ | refine Only.setCell ?_ (by intro hh; exfalso; simp at hh; try omega) _ | refine Only.trans ?_ (by assumption)))) (by have := t2.size; simp; omega) hul (by omega)).mono ?_); rintro en w5 ⟨v5, g5, rfl, r5, F5, hs5, t5⟩; obtain ⟨A5', C5', _, _, rfl, -, -⟩ := r5.open_; have hvo : ∀ b ∈ (Value.slice Af x.future.length Cf).ownBlock.toList, w1.heap.size ≤ b ∧ b < w2.heap.size := (fun b hb => HP.out.fu.ownlt b (by simpa using hb)); have hvg : w2.heap.size ∉ (Value.slice Af x.future.length Cf).ownBlock.toList := (fun hm => by have := (hvo _ hm).2; omega); have hvb : w.heap.size + 1 ∉ (Value.slice Af x.future.length Cf).ownBlock.toList := (fun hm => by have := (hvo _ hm).1; omega); have hvc : w.heap.size ∉ (Value.slice Af x.future.length Cf).ownBlock.toList := (fun hm => by have := (hvo _ hm).1; omega); have s5 : w4.heap.size ≤ w5.heap.size := (by have := t5.size; simpa using this); have s5a : w.heap.size + 1 < w5.heap.size := (by omega); have s5c : w.heap.size < w5.heap.size := (by omega); have s5b : w2.heap.size < w5.heap.size := (by omega); have B5 := Blk.only (Blk.set HB4.out 4 (.slice A3' (restW x.history).length C3')) t5 hvg; have c50 := B5.cell 0 rfl; have c51 := B5.cell 1 rfl; have c52 := B5.cell 2 rfl; have c53 := B5.cell 3 rfl; have c54 := B5.cell 4 rfl; have c55 := B5.cell 5 rfl; have z5 := B5.frozen; have HB5 := Lib.hid B5; clear B5; have y5 := t5.cells_eq w.heap.size (by simp; omega) hvc; have y5' := t5.cells_eq (w.heap.size + 1) (by simp; omega) hvb; have z5' := t5.frozen_eq (w.heap.size + 1) (by simp; omega) hvb; have T5 : Only [] w w5 := T4.then_ t5 (fun b hb hl => by have := (hvo b hb).1; omega); have dfu : ∀ b ∈ fu, b ∉ (Value.slice Af x.future.length Cf).ownBlock.toList := (fun b hb hm => HP.out.fr.parts.2.2 b (List.mem_append_right _ (Hhfu.out b hb)) (List.mem_append_left _ hm)); have ru5 := Rp.only (Rp.keep ru K4) t5 dfu; have Hvo := Lib.hid hvo; clear hvo hvg hvb hvc dfu)
    | fail "no arm")
  go_region_law (first
    | (go_simp; go_at_call 44; (with_reducible refine (implInvW_rd _ (lastW x.history) _ _ (Rp.only (fp' := [w2.heap.size]) ru5 (by with_reducible repeat (first | exact Only.refl _ _ | assumption | refine Only.drewN ?_ _ | refine Only.drew ?_ | refine Only.alloc ?_ _ | refine Only.setCell ?_ (by intro _; simp) _ | refine Only.trans ?_ (Only.weaken (by assumption) _))) (fun b hb hm => by have h5 := HP.out.fr.lt b (List.mem_append_right _ (List.mem_append_right _ (List.mem_append_left _ (List.mem_append_right _ (Hhfu.out b hb))))); simp at hm; omega)) Hbd.out (by omega)).mono ?_); rintro en w7 ⟨v7, g7, rfl, r7, F7, t7⟩; obtain ⟨a7, c7, rfl, -⟩ := r7.ints; have s7 : w5.heap.size ≤ w7.heap.size := (by have := t7.size; simpa using this); have s7a : w.heap.size + 1 < w7.heap.size := (by omega); have s7b : w2.heap.size < w7.heap.size := (by omega); have s7c : w.heap.size < w7.heap.size := (by omega); have B7 := Blk.keep (Blk.set HB5.out 5 (.slice A5' (pushW x.future (lastW x.history)).length C5')) ((Only.refl [] _).drew.trans t7); have c70 := B7.cell 0 rfl; have c71 := B7.cell 1 rfl; have c72 := B7.cell 2 rfl; have c73 := B7.cell 3 rfl; have c74 := B7.cell 4 rfl; have c75 := B7.cell 5 rfl; have z7 := B7.frozen; have HB7 := Lib.hid B7; clear B7; have y7 := t7.cells_eq w.heap.size (by simp; omega) (by simp); have y7' := t7.cells_eq (w.heap.size + 1) (by simp; omega) (by simp); have z7' := t7.frozen_eq (w.heap.size + 1) (by simp; omega) (by simp))
    | (go_simp; go_at_call 30; (with_reducible refine (implApply_any [.int .i64 x.puzzle.points, .string x.puzzle.names, .slice A2 x.puzzle.moves.length C2] x.puzzle _ _ _ x.state (invW (lastW x.history)) _ _ _ (Rp.keep k0 (by with_reducible repeat (first | exact Only.refl _ _ | assumption | refine Only.drewN ?_ _ | refine Only.drew ?_ | refine Only.alloc ?_ _ | refine Only.setCell ?_ (by intro hh; exfalso; simp at hh; try omega) _ | refine Only.trans ?_ (by assumption)))) (Rp.keep k1 (by with_reducible repeat (first | exact Only.refl _ _ | assumption | refine Only.drewN ?_ _ | refine Only.drew ?_ | refine Only.alloc ?_ _ | refine Only.setCell ?_ (by intro hh; exfalso; simp at hh; try omega) _ | refine Only.trans ?_ (by assumption)))) r7 Hst.out Hlt.out).mono ?_); rintro en w6 ⟨v6, g6, rfl, r6, F6, t6⟩; obtain ⟨A6', C6', _, _, rfl, -, -⟩ := r6.open_; have s6 : w5.heap.size ≤ w6.heap.size := Nat.le_trans s7 t6.size; have s6a : w.heap.size + 1 < w6.heap.size := (by omega); have s6b : w2.heap.size < w6.heap.size := (by omega); have B6 := Blk.keep HB7.out t6; have c60 := B6.cell 0 rfl; have c61 := B6.cell 1 rfl; have c62 := B6.cell 2 rfl; have c63 := B6.cell 3 rfl; have c64 := B6.cell 4 rfl; have c65 := B6.cell 5 rfl; have z6 := B6.frozen; clear B6; have y6' := t6.cells_eq (w.heap.size + 1) (by omega) (by simp); have z6' := t6.frozen_eq (w.heap.size + 1) (by omega) (by simp))
    | fail "no arm")
  all_goals go_wp2
  all_goals
    have hP := HP.out
    have G3 : ∀ b ∈ g3, w2.heap.size + 1 ≤ b := fun b hb => by have := F3.ge b hb; simpa using this
    have L3 := F3.lt
    have G6 : ∀ b ∈ g6, w5.heap.size ≤ b := fun b hb => by have := F6.ge b hb; first | omega | simpa using this
    have L5 := F5.lt
    have FM := hP.fr.left
    have Lm : ∀ b ∈ gm, w1.heap.size ≤ b ∧ b < w2.heap.size := fun b hb => ⟨FM.ge b hb, FM.lt b hb⟩
    have hW4 : (w4.setCell ⟨w2.heap.size, 4, none⟩ (.slice A3' (restW x.history).length C3')).heap.size = w4.heap.size := by simp
    have dH : ∀ b ∈ gm, b ∉ (Value.slice Af x.future.length Cf).ownBlock.toList := fun b hb hm => (hP.fr.parts.1 b hb).2 (List.mem_append_left _ hm)
    have d3H : ∀ b ∈ g3, b ∉ (Value.slice Af x.future.length Cf).ownBlock.toList := fun b hb hm => by have := G3 b hb; have := (Hvo.out b hm).2; omega
    have d3g : ∀ b ∈ g3, b ∉ [w2.heap.size] := fun b hb hm => by have := G3 b hb; simp at hm; omega
    have mv5 := Rp.only (Rp.keep hP.mv K4) t5 dH
    have FM5 := (FM.keep K4).only t5 dH
    have r35 := Rp.only (Rp.only (w' := (w4.setCell ⟨w2.heap.size, 4, none⟩ (.slice A3' (restW x.history).length C3'))) (fp' := [w2.heap.size]) r3 (by with_reducible repeat (first | exact Only.refl _ _ | assumption | refine Only.drewN ?_ _ | refine Only.drew ?_ | refine Only.alloc ?_ _ | refine Only.setCell ?_ (by intro _; simp) _ | refine Only.trans ?_ (Only.weaken (by assumption) _))) d3g) t5 d3H
    have F35 := (F3.only (w' := (w4.setCell ⟨w2.heap.size, 4, none⟩ (.slice A3' (restW x.history).length C3'))) (fp' := [w2.heap.size]) (by with_reducible repeat (first | exact Only.refl _ _ | assumption | refine Only.drewN ?_ _ | refine Only.drew ?_ | refine Only.alloc ?_ _ | refine Only.setCell ?_ (by intro _; simp) _ | refine Only.trans ?_ (Only.weaken (by assumption) _))) d3g).only t5 d3H
    have hs6 : ∀ b ∈ g5, b ∉ gm ∧ b ∉ g3 ∧ b ≠ w2.heap.size ∧ w1.heap.size ≤ b := fun b hb => by
      rcases hs5 b hb with h5 | h5
      · have h6 := hP.fr.right.right.right.lt b h5
        refine ⟨fun hm => (hP.fr.parts.1 b hm).2 h5, fun hm => by have := G3 b hm; omega, by omega, F5.ge b hb⟩
      · refine ⟨fun hm => by have := (Lm b hm).2; omega, fun hm => by have := L3 b hm; omega, by omega, F5.ge b hb⟩
    have dm : ∀ b ∈ gm, b ∉ [w2.heap.size, w.heap.size + 1] := fun b hb hm => by have := Lm b hb; simp at hm; omega
    have d3 : ∀ b ∈ g3, b ∉ [w2.heap.size, w.heap.size + 1] := fun b hb hm => by have := G3 b hb; simp at hm; omega
    have d5 : ∀ b ∈ g5, b ∉ [w2.heap.size, w.heap.size + 1] := fun b hb hm => by have := hs6 b hb; simp at hm; omega
    have d6 : ∀ b ∈ g6, b ∉ [w2.heap.size, w.heap.size + 1] := fun b hb hm => by have := G6 b hb; simp at hm; omega
    refine bodyPost_ret (v := .tuple #[.agg #[.int .i64 x.puzzle.points, .string x.puzzle.names, .slice Am x.puzzle.moves.length Cm, .slice A6' (appW x.puzzle x.state (invW (lastW x.history))).length C6', .slice A3' (restW x.history).length C3', .slice A5' (pushW x.future (lastW x.history)).length C5'], .bool true]) (by simp [results, Tryz.results12, go_sem, y6', y7', y5', y4', y2', y1', s2b]) rfl ⟨[.int .i64 x.puzzle.points, .string x.puzzle.names, .slice Am x.puzzle.moves.length Cm, .slice A6' (appW x.puzzle x.state (invW (lastW x.history))).length C6', .slice A3' (restW x.history).length C3', .slice A5' (pushW x.future (lastW x.history)).length C5'], gm ++ (g6 ++ (g3 ++ g5)), rfl,
      ⟨[.int .i64 x.puzzle.points, .string x.puzzle.names, .slice Am x.puzzle.moves.length Cm], _, _, _, gm, g6, g3, g5, rfl, rfl, ⟨_, rfl, p0, p1, Rp.only (fp' := [w2.heap.size, w.heap.size + 1]) mv5 (by with_reducible repeat (first | exact Only.refl _ _ | assumption | refine Only.drewN ?_ _ | refine Only.drew ?_ | refine Only.alloc ?_ _ | refine Only.setCell ?_ (by intro _; simp) _ | refine Only.trans ?_ (Only.weaken (by assumption) _))) dm⟩, Rp.only (fp' := [w2.heap.size, w.heap.size + 1]) r6 (by with_reducible repeat (first | exact Only.refl _ _ | assumption | refine Only.drewN ?_ _ | refine Only.drew ?_ | refine Only.alloc ?_ _ | refine Only.setCell ?_ (by intro _; simp) _ | refine Only.trans ?_ (Only.weaken (by assumption) _))) d6, Rp.only (fp' := [w2.heap.size, w.heap.size + 1]) r35 (by with_reducible repeat (first | exact Only.refl _ _ | assumption | refine Only.drewN ?_ _ | refine Only.drew ?_ | refine Only.alloc ?_ _ | refine Only.setCell ?_ (by intro _; simp) _ | refine Only.trans ?_ (Only.weaken (by assumption) _))) d3, Rp.only (fp' := [w2.heap.size, w.heap.size + 1]) r5 (by with_reducible repeat (first | exact Only.refl _ _ | assumption | refine Only.drewN ?_ _ | refine Only.drew ?_ | refine Only.alloc ?_ _ | refine Only.setCell ?_ (by intro _; simp) _ | refine Only.trans ?_ (Only.weaken (by assumption) _))) d5⟩, ?_, ?_⟩
    · exact Fresh.of4 ((FM5.only (fp' := [w2.heap.size, w.heap.size + 1]) (by with_reducible repeat (first | exact Only.refl _ _ | assumption | refine Only.drewN ?_ _ | refine Only.drew ?_ | refine Only.alloc ?_ _ | refine Only.setCell ?_ (by intro _; simp) _ | refine Only.trans ?_ (Only.weaken (by assumption) _))) dm).mono (by omega)) ((F6.only (fp' := [w2.heap.size, w.heap.size + 1]) (by with_reducible repeat (first | exact Only.refl _ _ | assumption | refine Only.drewN ?_ _ | refine Only.drew ?_ | refine Only.alloc ?_ _ | refine Only.setCell ?_ (by intro _; simp) _ | refine Only.trans ?_ (Only.weaken (by assumption) _))) d6).mono (by first | omega | (simp; omega))) ((F35.only (fp' := [w2.heap.size, w.heap.size + 1]) (by with_reducible repeat (first | exact Only.refl _ _ | assumption | refine Only.drewN ?_ _ | refine Only.drew ?_ | refine Only.alloc ?_ _ | refine Only.setCell ?_ (by intro _; simp) _ | refine Only.trans ?_ (Only.weaken (by assumption) _))) d3).mono (by simp; omega)) ((F5.only (fp' := [w2.heap.size, w.heap.size + 1]) (by with_reducible repeat (first | exact Only.refl _ _ | assumption | refine Only.drewN ?_ _ | refine Only.drew ?_ | refine Only.alloc ?_ _ | refine Only.setCell ?_ (by intro _; simp) _ | refine Only.trans ?_ (Only.weaken (by assumption) _))) d5).mono (by omega)) (fun b hb hm => by have := Lm b hb; have := G6 b hm; omega) (fun b hb hm => by have := Lm b hb; have := G3 b hm; omega) (fun b hb hm => (hs6 b hm).1 hb) (fun b hb hm => by have := G6 b hb; have := L3 b hm; omega) (fun b hb hm => by have := G6 b hb; have := L5 b hm; omega) (fun b hb hm => (hs6 b hm).2.1 hb)
    · exact (by with_reducible repeat (first | exact Only.refl _ _ | assumption | refine Only.drewN ?_ _ | refine Only.drew ?_ | refine Only.alloc ?_ _ | refine Only.setCell ?_ (by intro hh; exfalso; simp at hh; try omega) _ | refine Only.trans ?_ (by assumption)))
end Go.Proofs.YtajkhdbdkjhilaaGreat

namespace PM
section
variable {n : Nat} {gens : List (List Int)} {G : Gens} {T : Rows} (h : Chain n gens G T) (hn : 0 < n) (hp : ∀ g ∈ gens, PN n g)
end
theorem cntR_pos {n k : Nat} {T : Rows} (hw : WF n T) (hk : k < n) : 1 ≤ cntR n T k := by
  unfold cntR
  refine List.length_pos_of_mem (a := (k : Int)) ?_
  rw [List.mem_filter, decide_eq_true_iff, mem_pts]
  exact ⟨by omega, by rw [hw.one k hk]; exact pts_ne (by omega)⟩
end PM
