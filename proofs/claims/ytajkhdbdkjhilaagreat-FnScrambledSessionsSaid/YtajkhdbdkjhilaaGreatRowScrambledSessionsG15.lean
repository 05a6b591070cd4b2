/- The reference's PlayWord, UndoWord, RedoWord, ScrambleSession, NewSession, with histories that can be appended to (the draws of sessions; laws 50, 55). (Printed by mksesa.py.) -/
import Derived.Test.YtajkhdbdkjhilaaGreatRowScrambledSessionsG10
import Derived.Test.YtajkhdbdkjhilaaGreatRowScrambledSessionsG12
import Derived.Test.YtajkhdbdkjhilaaGreatRowScrambledSessionsG14
namespace Go.Proofs.YtajkhdbdkjhilaaGreat
open Go.RowKit
set_option maxRecDepth 10000

/-- a session of the call's own that can be appended to, and a Bool -/
def SeResA (eI : TypeId) (x : Session) (b : Bool) (w : World) (e : Ending) (w' : World) : Prop :=
  ∃ vm vs vh vf fm fs hs us, e = .returned (.tuple #[.agg #[.int .i64 x.puzzle.points, .string x.puzzle.names, vm, vs, vh, vf], .bool b]) ∧ SeP eI w.heap.size w' x vm vs vh vf fm fs hs us ∧ Only [] w w'
theorem SeResA.mk {eI : TypeId} {x : Session} {b : Bool} {w w' : World} {vm vs vh vf : Value} {fm fs : List Nat} {hs us : List (List Nat)} (h : SeP eI w.heap.size w' x vm vs vh vf fm fs hs us) (k : Only [] w w') : SeResA eI x b w (.returned (.tuple #[.agg #[.int .i64 x.puzzle.points, .string x.puzzle.names, vm, vs, vh, vf], .bool b])) w' := ⟨vm, vs, vh, vf, fm, fs, hs, us, rfl, h, k⟩
theorem SeP.no (eI : TypeId) (B : Nat) (w : World) : SeP eI B w noSess (.slice none 0 0) (.slice none 0 0) (.slice none 0 0) (.slice none 0 0) [] [] [] [] :=
  ⟨⟨by show I64 0; unfold I64; omega, by show (0 : Nat) ≤ maxLen; omega⟩, nil_rd _, nil_rd _, Acc.nil _ _ _, Acc.nil _ _ _, Fresh.nil _ _⟩
theorem SeP.nil2 {eI : TypeId} {B : Nat} {w : World} {p : Puzzle} {s : List Int} {vm vs : Value} {fm fs : List Nat} (nm : I64 p.points ∧ p.names.size ≤ maxLen) (r1 : Rd w vm p.moves fm) (r2 : Rd w vs s fs) (F : Fresh B w (fm ++ fs)) : SeP eI B w ⟨p, s, [], []⟩ vm vs (.slice none 0 0) (.slice none 0 0) fm fs [] [] :=
  ⟨nm, r1, r2, Acc.nil _ _ _, Acc.nil _ _ _, by
    show Fresh B w (fm ++ (fs ++ (([] ++ []) ++ ([] ++ []))))
    simpa using F⟩
/-- a history without its last word -/
theorem Acc.rest {B : Nat} {e : TypeId} {w : World} {g c : Nat} {l : List (List Int)} {fs : List (List Nat)} (h : Acc B e w (.slice (some ⟨g, 0, none⟩) l.length c) l fs) : Acc B e w (.slice (some ⟨g, 0, none⟩) (l.length - 1) c) (restW l) (fs.take (l.length - 1)) := by
  obtain ⟨⟨css, ho, hcl, hr⟩, hf, ha⟩ := h
  have hs : ∀ cs ∈ css, cs.length = 1 := fun cs hcs => by
    obtain ⟨k, hk, rfl⟩ := List.getElem_of_mem hcs
    have := Rp.len (hr k hk (by omega) (by omega))
    exact this
  have hfl : ∀ (L : List (List Value)), (∀ cs ∈ L, cs.length = 1) → ∀ k, (L.take k).flatten = L.flatten.take k := fun L => by
    induction L with
    | nil => intro _ k; simp
    | cons x L ih =>
      intro h k
      have hx := h x (by simp)
      cases k with
      | zero => simp
      | succ k =>
        rw [List.take_succ_cons, List.flatten_cons, List.flatten_cons, ih (fun cs hcs => h cs (by simp [hcs])) k, List.take_append, hx, show x.take (k + 1) = x from List.take_of_length_le (by omega), Nat.add_sub_cancel]
  refine ⟨⟨css.take (l.length - 1), ⟨?_, ?_⟩, by rw [List.length_take, hcl]; unfold restW; rw [List.length_take], fun k h1 h2 h3 => ?_⟩, by rw [List.length_take, hf]; unfold restW; rw [List.length_take], fun q hq hm => ?_⟩
  · rw [hfl css hs, List.length_take, ho.1]; unfold restW; rw [List.length_take]; have e : Rp.size (List Int) = 1 := rfl; rw [e]; omega
  · rcases ho.2 with ⟨h1, h2⟩ | ⟨g', cp, cur, h1, hb, hg, hn, hc, hz, ht⟩
    · cases h1
    · injection h1 with h1 _ h4
      injection h1 with h1
      injection h1 with h1 _ _
      subst h1
      subst h4
      have e : Rp.size (List Int) = 1 := rfl
      have hrl : (restW l).length = l.length - 1 := restW_len l
      refine .inr ⟨g, c, cur, by rw [hrl], hb, hg, by rw [hrl]; omega, hc, hz, ?_⟩
      rw [hfl css hs, ← ht, hrl, e, List.take_take]
      congr 1
      omega
  · have h4 : k < l.length := by unfold restW at h2; rw [List.length_take] at h2; omega
    have := hr k (by omega) h4 (by omega)
    simpa [restW, List.getElem_take] using this
  · exact ha q (by rw [← hq]; rfl) ((flatten_take fs _).subset hm)
set_option maxHeartbeats 4000000 in
theorem pushWord_acc (vl vy : Value) (l : List (List Int)) (y : List Int) (fl fy : List Nat) (w : World) (hl : Rd w vl l fl) (hy : Rd w vy y fy) (hll : l.length ≤ 39) (hl2 : ∀ x ∈ l, x.length ≤ 2097152) (hyl : y.length ≤ 1073741824) :
    Calls Tryz.prog 35 #[vl, vy] w fun e w' => ∃ v fs', e = .returned v ∧ Acc w.heap.size 27 w' v (pushW l y) fs' ∧ Fresh w.heap.size w' fs'.flatten ∧ Only [] w w' := by
  obtain ⟨i1, hi, hz0, hz1, hz2⟩ := info_parts Tryz.info22
  obtain ⟨al, cl, obl, fpsl, rfl, -, Sl⟩ := hl.open_
  have HSl := Lib.hid Sl
  have Hl2 := Lib.hid hl2
  clear Sl hl2
  have hap : (l ++ [y]).length = l.length + 1 := by simp
  have Hap := Lib.hid hap
  clear hap
  have hlong : ¬ 40 < l.length + 1 := by omega
  go_enter Tryz.func35, Tryz.ntmps35
  go_wp2_with (first
    | (go_at_call 76; (with_reducible refine (copyLists_acc al cl l obl fpsl _ HSl.out (by omega) Hl2.out).mono ?_); rintro e w1 ⟨v1, fs1, rfl, A1, F1, t1⟩; obtain ⟨a1, c1, rfl⟩ := A1.form)
    | (go_at_call 75; (with_reducible refine (copyInts_rd _ y _ _ (Rp.keep hy t1) hyl).mono ?_); rintro e w2 ⟨v2, f2, rfl, r2, F2, t2⟩; obtain ⟨a2, c2, rfl, -⟩ := r2.ints)
    | (at_builtin; refine wpList_pushF rfl _ _ 24 rfl w.heap.size 27 i1 _ 24 Tryz.underlying24 hi hz0 hz1 hz2 rfl (by decide) (by decide) w1 _ l fs1 rfl A1 F1 (t2.alloc _) t1.size w2.heap.size 1 [.slice a2 y.length c2] y f2 rfl (lit_src w2 [.slice a2 y.length c2] _ rfl) (by intro u hu; simp at hu; subst hu; rfl) (Rp.keep r2 ((Only.refl _ _).alloc _)) (F2.keep ((Only.refl _ _).alloc _)) (by omega) w ((t1.trans t2).alloc _) (Nat.le_refl _) ?_; intro v3 w3 hA3 hF3 hK3 _; obtain ⟨a3, c3, rfl⟩ := hA3.form; rw [Hap.out] at hA3)
    | fail "no arm")
  go_ret
  exact ⟨_, _, rfl, by rw [pushW_short hlong]; exact hA3, hF3, hK3⟩
set_option maxHeartbeats 8000000 in
theorem specPlayWord_noA (cs : List Value) (x : Session) (fp : List Nat) (vl : Value) (l : List Int) (fl : List Nat) (w : World) (h : Rp.rep w cs x fp) (hl : Rd w vl l fl) (hq : validSe x = false) :
    Calls Tryz.prog 8 #[.agg cs.toArray, vl] w (SeResA 27 noSess false w) := by
  have h0 := h
  obtain ⟨c0, v1, v2, v3, f0, f1, f2, f3, rfl, rfl, k0, k1, k2, k3⟩ := h
  have q0 := k0
  obtain ⟨u2, rfl, p0, p1, h2⟩ := q0
  obtain ⟨A2, C2, _, _, rfl, -, -⟩ := h2.open_
  obtain ⟨A3, C3, _, _, rfl, -, -⟩ := k1.open_
  obtain ⟨A4, C4, _, _, rfl, -, -⟩ := k2.open_
  obtain ⟨A5, C5, _, _, rfl, -, -⟩ := k3.open_
  obtain ⟨al, cl, rfl, IL⟩ := hl.ints
  have hlb := IL.bound
  clear IL
  go_enter Tryz.func8, Tryz.ntmps8
  go_wp2_with (first
    | (go_at_call 10; (with_reducible refine (specIsValidSession_any [.int .i64 x.puzzle.points, .string x.puzzle.names, .slice A2 x.puzzle.moves.length C2, .slice A3 x.state.length C3, .slice A4 x.history.length C4, .slice A5 x.future.length C5] x _ _ (Rp.keep h0 (by with_reducible repeat (first | exact Only.refl _ _ | assumption | refine Only.drewN ?_ _ | refine Only.drew ?_ | refine Only.alloc ?_ _ | refine Only.setCell ?_ (by intro hh; exfalso; simp at hh; try omega) _ | refine Only.trans ?_ (by assumption))))).mono ?_); rintro en w1 ⟨rfl, t1⟩; have s1 : w.heap.size + 2 ≤ w1.heap.size := (by have := t1.size; simp at this; omega); have y1 := t1.cells_eq w.heap.size (by simp; omega) (by simp); have y1' := t1.cells_eq (w.heap.size + 1) (by simp) (by simp); have z1' := t1.frozen_eq (w.heap.size + 1) (by simp) (by simp))
    | fail "no arm")
  exact bodyPost_ret (v := .tuple #[.agg #[.int .i64 0, .string ⟨#[]⟩, .slice none 0 0, .slice none 0 0, .slice none 0 0, .slice none 0 0], .bool false]) (by simp [results, Tryz.results8, go_sem, y1']) rfl (SeResA.mk (x := noSess) (SeP.no _ _ _) (by with_reducible repeat (first | exact Only.refl _ _ | assumption | refine Only.drewN ?_ _ | refine Only.drew ?_ | refine Only.alloc ?_ _ | refine Only.setCell ?_ (by intro hh; exfalso; simp at hh; try omega) _ | refine Only.trans ?_ (by assumption))))
set_option maxHeartbeats 8000000 in
theorem specPlayWord_badA (cs : List Value) (x : Session) (fp : List Nat) (vl : Value) (l : List Int) (fl : List Nat) (w : World) (h : Rp.rep w cs x fp) (hl : Rd w vl l fl) (hq : validSe x = true) (hw : validW x.puzzle.moves.length l = false) :
    Calls Tryz.prog 8 #[.agg cs.toArray, vl] w (SeResA 27 x false w) := by
  have h0 := h
  obtain ⟨c0, v1, v2, v3, f0, f1, f2, f3, rfl, rfl, k0, k1, k2, k3⟩ := h
  have q0 := k0
  obtain ⟨u2, rfl, p0, p1, h2⟩ := q0
  obtain ⟨A2, C2, _, _, rfl, -, -⟩ := h2.open_
  obtain ⟨A3, C3, _, _, rfl, -, -⟩ := k1.open_
  obtain ⟨A4, C4, _, _, rfl, -, -⟩ := k2.open_
  obtain ⟨A5, C5, _, _, rfl, -, -⟩ := k3.open_
  obtain ⟨al, cl, rfl, IL⟩ := hl.ints
  have hlb := IL.bound
  clear IL
  have hml := (validSe_facts hq).2.1
  go_enter Tryz.func8, Tryz.ntmps8
  go_wp2_with (first
    | (go_at_call 10; (with_reducible refine (specIsValidSession_any [.int .i64 x.puzzle.points, .string x.puzzle.names, .slice A2 x.puzzle.moves.length C2, .slice A3 x.state.length C3, .slice A4 x.history.length C4, .slice A5 x.future.length C5] x _ _ (Rp.keep h0 (by with_reducible repeat (first | exact Only.refl _ _ | assumption | refine Only.drewN ?_ _ | refine Only.drew ?_ | refine Only.alloc ?_ _ | refine Only.setCell ?_ (by intro hh; exfalso; simp at hh; try omega) _ | refine Only.trans ?_ (by assumption))))).mono ?_); rintro en w1 ⟨rfl, t1⟩; have s1 : w.heap.size + 2 ≤ w1.heap.size := (by have := t1.size; simp at this; omega); have y1 := t1.cells_eq w.heap.size (by simp; omega) (by simp); have y1' := t1.cells_eq (w.heap.size + 1) (by simp) (by simp); have z1' := t1.frozen_eq (w.heap.size + 1) (by simp) (by simp))
    | (go_at_call 32; (with_reducible refine (copySession_any [.int .i64 x.puzzle.points, .string x.puzzle.names, .slice A2 x.puzzle.moves.length C2, .slice A3 x.state.length C3, .slice A4 x.history.length C4, .slice A5 x.future.length C5] x _ _ (Rp.keep h0 (by with_reducible repeat (first | exact Only.refl _ _ | assumption | refine Only.drewN ?_ _ | refine Only.drew ?_ | refine Only.alloc ?_ _ | refine Only.setCell ?_ (by intro hh; exfalso; simp at hh; try omega) _ | refine Only.trans ?_ (by assumption)))) hq).mono ?_); rintro en w2 ⟨Am, Cm, As, Cs, Ah, Ch, Af, Cf, gm, gs, hs, us, rfl, hP, t2⟩; have s2 : w.heap.size + 2 ≤ w2.heap.size := Nat.le_trans s1 t2.size; have y2 := t2.cells_eq w.heap.size (by omega) (by simp); have y2' := t2.cells_eq (w.heap.size + 1) (by omega) (by simp); have z2' := t2.frozen_eq (w.heap.size + 1) (by omega) (by simp); have HP := Lib.hid hP; clear hP; have s2a : w.heap.size < w2.heap.size := (by omega); have s2b : w.heap.size + 1 < w2.heap.size := (by omega))
    | (go_at_call 33; (with_reducible refine (isWordOf_rd x.puzzle.moves.length _ l _ _ (Rp.keep hl (by with_reducible repeat (first | exact Only.refl _ _ | assumption | refine Only.drewN ?_ _ | refine Only.drew ?_ | refine Only.alloc ?_ _ | refine Only.setCell ?_ (by intro hh; exfalso; simp at hh; try omega) _ | refine Only.trans ?_ (by assumption)))) (by omega) (by omega)).mono ?_); rintro en w3 ⟨rfl, m3, rfl⟩)
    | fail "no arm")
  have hP := HP.out
  exact bodyPost_ret (v := .tuple #[.agg #[.int .i64 x.puzzle.points, .string x.puzzle.names, .slice Am x.puzzle.moves.length Cm, .slice As x.state.length Cs, .slice Ah x.history.length Ch, .slice Af x.future.length Cf], .bool false]) (by simp [results, Tryz.results8, go_sem, y2', y1', s2b]) rfl (SeResA.mk ((hP.only (fp := [w2.heap.size, w.heap.size + 1]) (by with_reducible repeat (first | exact Only.refl _ _ | assumption | refine Only.drewN ?_ _ | refine Only.drew ?_ | refine Only.alloc ?_ _ | refine Only.setCell ?_ (by intro _; simp) _ | refine Only.trans ?_ (Only.weaken (by assumption) _))) (fun b hb => by simp at hb; omega)).mono (by omega)) (by with_reducible repeat (first | exact Only.refl _ _ | assumption | refine Only.drewN ?_ _ | refine Only.drew ?_ | refine Only.alloc ?_ _ | refine Only.setCell ?_ (by intro hh; exfalso; simp at hh; try omega) _ | refine Only.trans ?_ (by assumption))))
set_option maxHeartbeats 8000000 in
theorem specUndoWord_noA (cs : List Value) (x : Session) (fp : List Nat) (w : World) (h : Rp.rep w cs x fp) (hq : validSe x = false) :
    Calls Tryz.prog 62 #[.agg cs.toArray] w (SeResA 27 noSess false w) := by
  have h0 := h
  obtain ⟨c0, v1, v2, v3, f0, f1, f2, f3, rfl, rfl, k0, k1, k2, k3⟩ := h
  have q0 := k0
  obtain ⟨u2, rfl, p0, p1, h2⟩ := q0
  obtain ⟨A2, C2, _, _, rfl, -, -⟩ := h2.open_
  obtain ⟨A3, C3, _, _, rfl, -, -⟩ := k1.open_
  obtain ⟨A4, C4, _, _, rfl, -, -⟩ := k2.open_
  obtain ⟨A5, C5, _, _, rfl, -, -⟩ := k3.open_
  go_enter Tryz.func62, Tryz.ntmps62
  go_wp2_with (first
    | (go_at_call 10; (with_reducible refine (specIsValidSession_any [.int .i64 x.puzzle.points, .string x.puzzle.names, .slice A2 x.puzzle.moves.length C2, .slice A3 x.state.length C3, .slice A4 x.history.length C4, .slice A5 x.future.length C5] x _ _ (Rp.keep h0 (by with_reducible repeat (first | exact Only.refl _ _ | assumption | refine Only.drewN ?_ _ | refine Only.drew ?_ | refine Only.alloc ?_ _ | refine Only.setCell ?_ (by intro hh; exfalso; simp at hh; try omega) _ | refine Only.trans ?_ (by assumption))))).mono ?_); rintro en w1 ⟨rfl, t1⟩; have s1 : w.heap.size + 2 ≤ w1.heap.size := (by have := t1.size; simp at this; omega); have y1 := t1.cells_eq w.heap.size (by simp; omega) (by simp); have y1' := t1.cells_eq (w.heap.size + 1) (by simp) (by simp); have z1' := t1.frozen_eq (w.heap.size + 1) (by simp) (by simp))
    | fail "no arm")
  exact bodyPost_ret (v := .tuple #[.agg #[.int .i64 0, .string ⟨#[]⟩, .slice none 0 0, .slice none 0 0, .slice none 0 0, .slice none 0 0], .bool false]) (by simp [results, Tryz.results62, go_sem, y1']) rfl (SeResA.mk (x := noSess) (SeP.no _ _ _) (by with_reducible repeat (first | exact Only.refl _ _ | assumption | refine Only.drewN ?_ _ | refine Only.drew ?_ | refine Only.alloc ?_ _ | refine Only.setCell ?_ (by intro hh; exfalso; simp at hh; try omega) _ | refine Only.trans ?_ (by assumption))))
set_option maxHeartbeats 8000000 in
theorem specUndoWord_badA (cs : List Value) (x : Session) (fp : List Nat) (w : World) (h : Rp.rep w cs x fp) (hq : validSe x = true) (hw : x.history.length = 0) :
    Calls Tryz.prog 62 #[.agg cs.toArray] w (SeResA 27 x false w) := by
  have h0 := h
  obtain ⟨c0, v1, v2, v3, f0, f1, f2, f3, rfl, rfl, k0, k1, k2, k3⟩ := h
  have q0 := k0
  obtain ⟨u2, rfl, p0, p1, h2⟩ := q0
  obtain ⟨A2, C2, _, _, rfl, -, -⟩ := h2.open_
  obtain ⟨A3, C3, _, _, rfl, -, -⟩ := k1.open_
  obtain ⟨A4, C4, _, _, rfl, -, -⟩ := k2.open_
  obtain ⟨A5, C5, _, _, rfl, -, -⟩ := k3.open_
  have e6 : ((x.history.length : Int) == 0) = true := by simp [hw]
  have e7 : x.history.length ≤ 40 := by omega
  clear hw
  go_enter Tryz.func62, Tryz.ntmps62
  go_wp2_with (first
    | (go_at_call 10; (with_reducible refine (specIsValidSession_any [.int .i64 x.puzzle.points, .string x.puzzle.names, .slice A2 x.puzzle.moves.length C2, .slice A3 x.state.length C3, .slice A4 x.history.length C4, .slice A5 x.future.length C5] x _ _ (Rp.keep h0 (by with_reducible repeat (first | exact Only.refl _ _ | assumption | refine Only.drewN ?_ _ | refine Only.drew ?_ | refine Only.alloc ?_ _ | refine Only.setCell ?_ (by intro hh; exfalso; simp at hh; try omega) _ | refine Only.trans ?_ (by assumption))))).mono ?_); rintro en w1 ⟨rfl, t1⟩; have s1 : w.heap.size + 2 ≤ w1.heap.size := (by have := t1.size; simp at this; omega); have y1 := t1.cells_eq w.heap.size (by simp; omega) (by simp); have y1' := t1.cells_eq (w.heap.size + 1) (by simp) (by simp); have z1' := t1.frozen_eq (w.heap.size + 1) (by simp) (by simp))
    | (go_at_call 32; (with_reducible refine (copySession_any [.int .i64 x.puzzle.points, .string x.puzzle.names, .slice A2 x.puzzle.moves.length C2, .slice A3 x.state.length C3, .slice A4 x.history.length C4, .slice A5 x.future.length C5] x _ _ (Rp.keep h0 (by with_reducible repeat (first | exact Only.refl _ _ | assumption | refine Only.drewN ?_ _ | refine Only.drew ?_ | refine Only.alloc ?_ _ | refine Only.setCell ?_ (by intro hh; exfalso; simp at hh; try omega) _ | refine Only.trans ?_ (by assumption)))) hq).mono ?_); rintro en w2 ⟨Am, Cm, As, Cs, Ah, Ch, Af, Cf, gm, gs, hs, us, rfl, hP, t2⟩; have s2 : w.heap.size + 2 ≤ w2.heap.size := Nat.le_trans s1 t2.size; have y2 := t2.cells_eq w.heap.size (by omega) (by simp); have y2' := t2.cells_eq (w.heap.size + 1) (by omega) (by simp); have z2' := t2.frozen_eq (w.heap.size + 1) (by omega) (by simp); have HP := Lib.hid hP; clear hP; have s2a : w.heap.size < w2.heap.size := (by omega); have s2b : w.heap.size + 1 < w2.heap.size := (by omega))
    | fail "no arm")
  have hP := HP.out
  exact bodyPost_ret (v := .tuple #[.agg #[.int .i64 x.puzzle.points, .string x.puzzle.names, .slice Am x.puzzle.moves.length Cm, .slice As x.state.length Cs, .slice Ah x.history.length Ch, .slice Af x.future.length Cf], .bool false]) (by simp [results, Tryz.results62, go_sem, y2', y1', s2b]) rfl (SeResA.mk ((hP.only (fp := [w2.heap.size, w.heap.size + 1]) (by with_reducible repeat (first | exact Only.refl _ _ | assumption | refine Only.drewN ?_ _ | refine Only.drew ?_ | refine Only.alloc ?_ _ | refine Only.setCell ?_ (by intro _; simp) _ | refine Only.trans ?_ (Only.weaken (by assumption) _))) (fun b hb => by simp at hb; omega)).mono (by omega)) (by with_reducible repeat (first | exact Only.refl _ _ | assumption | refine Only.drewN ?_ _ | refine Only.drew ?_ | refine Only.alloc ?_ _ | refine Only.setCell ?_ (by intro hh; exfalso; simp at hh; try omega) _ | refine Only.trans ?_ (by assumption))))
set_option maxHeartbeats 8000000 in
theorem specRedoWord_noA (cs : List Value) (x : Session) (fp : List Nat) (w : World) (h : Rp.rep w cs x fp) (hq : validSe x = false) :
    Calls Tryz.prog 63 #[.agg cs.toArray] w (SeResA 27 noSess false w) := by
  have h0 := h
  obtain ⟨c0, v1, v2, v3, f0, f1, f2, f3, rfl, rfl, k0, k1, k2, k3⟩ := h
  have q0 := k0
  obtain ⟨u2, rfl, p0, p1, h2⟩ := q0
  obtain ⟨A2, C2, _, _, rfl, -, -⟩ := h2.open_
  obtain ⟨A3, C3, _, _, rfl, -, -⟩ := k1.open_
  obtain ⟨A4, C4, _, _, rfl, -, -⟩ := k2.open_
  obtain ⟨A5, C5, _, _, rfl, -, -⟩ := k3.open_
  go_enter Tryz.func63, Tryz.ntmps63
  go_wp2_with (first
    | (go_at_call 10; (with_reducible refine (specIsValidSession_any [.int .i64 x.puzzle.points, .string x.puzzle.names, .slice A2 x.puzzle.moves.length C2, .slice A3 x.state.length C3, .slice A4 x.history.length C4, .slice A5 x.future.length C5] x _ _ (Rp.keep h0 (by with_reducible repeat (first | exact Only.refl _ _ | assumption | refine Only.drewN ?_ _ | refine Only.drew ?_ | refine Only.alloc ?_ _ | refine Only.setCell ?_ (by intro hh; exfalso; simp at hh; try omega) _ | refine Only.trans ?_ (by assumption))))).mono ?_); rintro en w1 ⟨rfl, t1⟩; have s1 : w.heap.size + 2 ≤ w1.heap.size := (by have := t1.size; simp at this; omega); have y1 := t1.cells_eq w.heap.size (by simp; omega) (by simp); have y1' := t1.cells_eq (w.heap.size + 1) (by simp) (by simp); have z1' := t1.frozen_eq (w.heap.size + 1) (by simp) (by simp))
    | fail "no arm")
  exact bodyPost_ret (v := .tuple #[.agg #[.int .i64 0, .string ⟨#[]⟩, .slice none 0 0, .slice none 0 0, .slice none 0 0, .slice none 0 0], .bool false]) (by simp [results, Tryz.results63, go_sem, y1']) rfl (SeResA.mk (x := noSess) (SeP.no _ _ _) (by with_reducible repeat (first | exact Only.refl _ _ | assumption | refine Only.drewN ?_ _ | refine Only.drew ?_ | refine Only.alloc ?_ _ | refine Only.setCell ?_ (by intro hh; exfalso; simp at hh; try omega) _ | refine Only.trans ?_ (by assumption))))
set_option maxHeartbeats 8000000 in
theorem specRedoWord_badA (cs : List Value) (x : Session) (fp : List Nat) (w : World) (h : Rp.rep w cs x fp) (hq : validSe x = true) (hw : x.future.length = 0) :
    Calls Tryz.prog 63 #[.agg cs.toArray] w (SeResA 27 x false w) := by
  have h0 := h
  obtain ⟨c0, v1, v2, v3, f0, f1, f2, f3, rfl, rfl, k0, k1, k2, k3⟩ := h
  have q0 := k0
  obtain ⟨u2, rfl, p0, p1, h2⟩ := q0
  obtain ⟨A2, C2, _, _, rfl, -, -⟩ := h2.open_
  obtain ⟨A3, C3, _, _, rfl, -, -⟩ := k1.open_
  obtain ⟨A4, C4, _, _, rfl, -, -⟩ := k2.open_
  obtain ⟨A5, C5, _, _, rfl, -, -⟩ := k3.open_
  have e6 : ((x.future.length : Int) == 0) = true := by simp [hw]
  have e7 : x.future.length ≤ 40 := by omega
  clear hw
  go_enter Tryz.func63, Tryz.ntmps63
  go_wp2_with (first
    | (go_at_call 10; (with_reducible refine (specIsValidSession_any [.int .i64 x.puzzle.points, .string x.puzzle.names, .slice A2 x.puzzle.moves.length C2, .slice A3 x.state.length C3, .slice A4 x.history.length C4, .slice A5 x.future.length C5] x _ _ (Rp.keep h0 (by with_reducible repeat (first | exact Only.refl _ _ | assumption | refine Only.drewN ?_ _ | refine Only.drew ?_ | refine Only.alloc ?_ _ | refine Only.setCell ?_ (by intro hh; exfalso; simp at hh; try omega) _ | refine Only.trans ?_ (by assumption))))).mono ?_); rintro en w1 ⟨rfl, t1⟩; have s1 : w.heap.size + 2 ≤ w1.heap.size := (by have := t1.size; simp at this; omega); have y1 := t1.cells_eq w.heap.size (by simp; omega) (by simp); have y1' := t1.cells_eq (w.heap.size + 1) (by simp) (by simp); have z1' := t1.frozen_eq (w.heap.size + 1) (by simp) (by simp))
    | (go_at_call 32; (with_reducible refine (copySession_any [.int .i64 x.puzzle.points, .string x.puzzle.names, .slice A2 x.puzzle.moves.length C2, .slice A3 x.state.length C3, .slice A4 x.history.length C4, .slice A5 x.future.length C5] x _ _ (Rp.keep h0 (by with_reducible repeat (first | exact Only.refl _ _ | assumption | refine Only.drewN ?_ _ | refine Only.drew ?_ | refine Only.alloc ?_ _ | refine Only.setCell ?_ (by intro hh; exfalso; simp at hh; try omega) _ | refine Only.trans ?_ (by assumption)))) hq).mono ?_); rintro en w2 ⟨Am, Cm, As, Cs, Ah, Ch, Af, Cf, gm, gs, hs, us, rfl, hP, t2⟩; have s2 : w.heap.size + 2 ≤ w2.heap.size := Nat.le_trans s1 t2.size; have y2 := t2.cells_eq w.heap.size (by omega) (by simp); have y2' := t2.cells_eq (w.heap.size + 1) (by omega) (by simp); have z2' := t2.frozen_eq (w.heap.size + 1) (by omega) (by simp); have HP := Lib.hid hP; clear hP; have s2a : w.heap.size < w2.heap.size := (by omega); have s2b : w.heap.size + 1 < w2.heap.size := (by omega))
    | fail "no arm")
  have hP := HP.out
  exact bodyPost_ret (v := .tuple #[.agg #[.int .i64 x.puzzle.points, .string x.puzzle.names, .slice Am x.puzzle.moves.length Cm, .slice As x.state.length Cs, .slice Ah x.history.length Ch, .slice Af x.future.length Cf], .bool false]) (by simp [results, Tryz.results63, go_sem, y2', y1', s2b]) rfl (SeResA.mk ((hP.only (fp := [w2.heap.size, w.heap.size + 1]) (by with_reducible repeat (first | exact Only.refl _ _ | assumption | refine Only.drewN ?_ _ | refine Only.drew ?_ | refine Only.alloc ?_ _ | refine Only.setCell ?_ (by intro _; simp) _ | refine Only.trans ?_ (Only.weaken (by assumption) _))) (fun b hb => by simp at hb; omega)).mono (by omega)) (by with_reducible repeat (first | exact Only.refl _ _ | assumption | refine Only.drewN ?_ _ | refine Only.drew ?_ | refine Only.alloc ?_ _ | refine Only.setCell ?_ (by intro hh; exfalso; simp at hh; try omega) _ | refine Only.trans ?_ (by assumption))))
set_option maxHeartbeats 8000000 in
theorem specPlayWord_yesA (cs : List Value) (x : Session) (fp : List Nat) (vl : Value) (l : List Int) (fl : List Nat) (w : World) (h : Rp.rep w cs x fp) (hl : Rd w vl l fl) (hq : validSe x = true) (hw : validW x.puzzle.moves.length l = true) (hh39 : x.history.length ≤ 39) :
    Calls Tryz.prog 8 #[.agg cs.toArray, vl] w (SeResA 27 (playW x l) true w) := by
  have h0 := h
  obtain ⟨c0, v1, v2, v3, f0, f1, f2, f3, rfl, rfl, k0, k1, k2, k3⟩ := h
  have q0 := k0
  obtain ⟨u2, rfl, p0, p1, h2⟩ := q0
  obtain ⟨A2, C2, _, _, rfl, -, -⟩ := h2.open_
  obtain ⟨A3, C3, _, _, rfl, -, -⟩ := k1.open_
  obtain ⟨A4, C4, _, _, rfl, -, -⟩ := k2.open_
  obtain ⟨A5, C5, _, _, rfl, -, -⟩ := k3.open_
  obtain ⟨al, cl, rfl, IL⟩ := hl.ints
  have hlb := IL.bound
  clear IL
  obtain ⟨hst, hml, -, -, hhl, hh2, -, -⟩ := validSe_facts hq
  obtain ⟨hl200, hlt⟩ := validW_ltrs hml hw
  have Hst := Lib.hid hst
  have Hh2 := Lib.hid hh2
  have Hlt := Lib.hid hlt
  clear hst hh2 hlt
  go_enter Tryz.func8, Tryz.ntmps8
  go_wp2_with (first
    | (go_at_call 10; (with_reducible refine (specIsValidSession_any [.int .i64 x.puzzle.points, .string x.puzzle.names, .slice A2 x.puzzle.moves.length C2, .slice A3 x.state.length C3, .slice A4 x.history.length C4, .slice A5 x.future.length C5] x _ _ (Rp.keep h0 (by with_reducible repeat (first | exact Only.refl _ _ | assumption | refine Only.drewN ?_ _ | refine Only.drew ?_ | refine Only.alloc ?_ _ | refine Only.setCell ?_ (by intro hh; exfalso; simp at hh; try omega) _ | refine Only.trans ?_ (by assumption))))).mono ?_); rintro en w1 ⟨rfl, t1⟩; have s1 : w.heap.size + 2 ≤ w1.heap.size := (by have := t1.size; simp at this; omega); have y1 := t1.cells_eq w.heap.size (by simp; omega) (by simp); have y1' := t1.cells_eq (w.heap.size + 1) (by simp) (by simp); have z1' := t1.frozen_eq (w.heap.size + 1) (by simp) (by simp))
    | (go_at_call 32; (with_reducible refine (copySession_any [.int .i64 x.puzzle.points, .string x.puzzle.names, .slice A2 x.puzzle.moves.length C2, .slice A3 x.state.length C3, .slice A4 x.history.length C4, .slice A5 x.future.length C5] x _ _ (Rp.keep h0 (by with_reducible repeat (first | exact Only.refl _ _ | assumption | refine Only.drewN ?_ _ | refine Only.drew ?_ | refine Only.alloc ?_ _ | refine Only.setCell ?_ (by intro hh; exfalso; simp at hh; try omega) _ | refine Only.trans ?_ (by assumption)))) hq).mono ?_); rintro en w2 ⟨Am, Cm, As, Cs, Ah, Ch, Af, Cf, gm, gs, hs, us, rfl, hP, t2⟩; have s2 : w.heap.size + 2 ≤ w2.heap.size := Nat.le_trans s1 t2.size; have y2 := t2.cells_eq w.heap.size (by omega) (by simp); have y2' := t2.cells_eq (w.heap.size + 1) (by omega) (by simp); have z2' := t2.frozen_eq (w.heap.size + 1) (by omega) (by simp); have HP := Lib.hid hP; clear hP; have s2a : w.heap.size < w2.heap.size := (by omega); have s2b : w.heap.size + 1 < w2.heap.size := (by omega))
    | (go_at_call 33; (with_reducible refine (isWordOf_rd x.puzzle.moves.length _ l _ _ (Rp.keep hl (by with_reducible repeat (first | exact Only.refl _ _ | assumption | refine Only.drewN ?_ _ | refine Only.drew ?_ | refine Only.alloc ?_ _ | refine Only.setCell ?_ (by intro hh; exfalso; simp at hh; try omega) _ | refine Only.trans ?_ (by assumption)))) (by omega) (by omega)).mono ?_); rintro en w3 ⟨rfl, m3, rfl⟩)
    | (go_at_call 34; (with_reducible refine (playIn_any x l Am As Ah Af Cm Cs Ch Cf x.history.length x.future.length _ gm gs fl _ (Rp.keep HP.out.mv (by with_reducible repeat (first | exact Only.refl _ _ | assumption | refine Only.drewN ?_ _ | refine Only.drew ?_ | refine Only.alloc ?_ _ | refine Only.setCell ?_ (by intro hh; exfalso; simp at hh; try omega) _ | refine Only.trans ?_ (by assumption)))) (Rp.keep HP.out.st (by with_reducible repeat (first | exact Only.refl _ _ | assumption | refine Only.drewN ?_ _ | refine Only.drew ?_ | refine Only.alloc ?_ _ | refine Only.setCell ?_ (by intro hh; exfalso; simp at hh; try omega) _ | refine Only.trans ?_ (by assumption)))) (Rp.keep hl (by with_reducible repeat (first | exact Only.refl _ _ | assumption | refine Only.drewN ?_ _ | refine Only.drew ?_ | refine Only.alloc ?_ _ | refine Only.setCell ?_ (by intro hh; exfalso; simp at hh; try omega) _ | refine Only.trans ?_ (by assumption)))) Hst.out Hlt.out).mono ?_); rintro en w4 ⟨A, C, g4, rfl, r4, F4, t4⟩; have s4 : w2.heap.size + 1 ≤ w4.heap.size := (by have := t4.size; simp at this; omega); have s4a : w.heap.size + 1 < w4.heap.size := (by omega); have s4b : w2.heap.size < w4.heap.size := (by omega); have B4 : Blk w4 w2.heap.size [.int .i64 x.puzzle.points, .string x.puzzle.names, .slice Am x.puzzle.moves.length Cm, .slice As x.state.length Cs, .slice Ah x.history.length Ch, .slice Af x.future.length Cf] := Blk.keep (Blk.new w2 _ 29) ((Only.ofDrewN _ m3 []).trans t4); have c40 := B4.cell 0 rfl; have c41 := B4.cell 1 rfl; have c42 := B4.cell 2 rfl; have c43 := B4.cell 3 rfl; have c44 := B4.cell 4 rfl; have c45 := B4.cell 5 rfl; have z4 := B4.frozen; have HB4 := Lib.hid B4; clear B4; have y4' := t4.cells_eq (w.heap.size + 1) (by simp; omega) (by simp); have z4' := t4.frozen_eq (w.heap.size + 1) (by simp; omega) (by simp))
    | (go_at_call 35; (with_reducible refine (pushWord_acc _ _ x.history l _ fl _ (Rp.keep (HP.out.hi.rd (by decide)) (by with_reducible repeat (first | exact Only.refl _ _ | assumption | refine Only.drewN ?_ _ | refine Only.drew ?_ | refine Only.alloc ?_ _ | refine Only.setCell ?_ (by intro hh; exfalso; simp at hh; try omega) _ | refine Only.trans ?_ (by assumption)))) (Rp.keep hl (by with_reducible repeat (first | exact Only.refl _ _ | assumption | refine Only.drewN ?_ _ | refine Only.drew ?_ | refine Only.alloc ?_ _ | refine Only.setCell ?_ (by intro hh; exfalso; simp at hh; try omega) _ | refine Only.trans ?_ (by assumption)))) hh39 Hh2.out (by omega)).mono ?_); rintro en w5 ⟨v5, hs5, rfl, A5, FF5, t5⟩; have r5 := A5.rd (by decide); have F5 := A5.fresh FF5; obtain ⟨A5', C5', _, _, rfl, -, -⟩ := r5.open_; have HA5 := Lib.hid A5; clear A5; have s5 : w4.heap.size ≤ w5.heap.size := (by have := t5.size; simpa using this); have s5a : w.heap.size + 1 < w5.heap.size := (by omega); have s5b : w2.heap.size < w5.heap.size := (by omega); have B5 := Blk.keep (Blk.set (Blk.set (Blk.set (Blk.set (Blk.set (Blk.set HB4.out 0 (.int .i64 x.puzzle.points)) 1 (.string x.puzzle.names)) 2 (.slice Am x.puzzle.moves.length Cm)) 3 (.slice A (appW x.puzzle x.state l).length C)) 4 (.slice Ah x.history.length Ch)) 5 (.slice Af x.future.length Cf)) t5; have c50 := B5.cell 0 rfl; have c51 := B5.cell 1 rfl; have c52 := B5.cell 2 rfl; have c53 := B5.cell 3 rfl; have c54 := B5.cell 4 rfl; have c55 := B5.cell 5 rfl; have z5 := B5.frozen; clear B5; have y5' := t5.cells_eq (w.heap.size + 1) (by simp; omega) (by simp); have z5' := t5.frozen_eq (w.heap.size + 1) (by simp; omega) (by simp))
    | fail "no arm")
  have FM := HP.out.fr.left
  have e3 : ((w2.alloc (.cells #[.int .i64 x.puzzle.points, .string x.puzzle.names, .slice Am x.puzzle.moves.length Cm, .slice As x.state.length Cs, .slice Ah x.history.length Ch, .slice Af x.future.length Cf] 29)).drewN m3).heap.size = w2.heap.size + 1 := by simp
  have G4 : ∀ b ∈ g4, w2.heap.size + 1 ≤ b := fun b hb => by have := F4.ge b hb; omega
  have G5 : ∀ b ∈ ((Value.slice A5' (pushW x.history l).length C5').ownBlock.toList ++ hs5.flatten), w4.heap.size ≤ b := fun b hb => by have := F5.ge b hb; simpa using this
  have dm : ∀ b ∈ gm, b ∉ [w2.heap.size, w.heap.size + 1] := fun b hb hm => by
    have h5 := FM.lt b hb
    have h6 := FM.ge b hb
    simp at hm
    omega
  have d4 : ∀ b ∈ g4, b ∉ [w2.heap.size, w.heap.size + 1] := fun b hb hm => by
    have h5 := G4 b hb
    simp at hm
    omega
  have d5 : ∀ b ∈ ((Value.slice A5' (pushW x.history l).length C5').ownBlock.toList ++ hs5.flatten), b ∉ [w2.heap.size, w.heap.size + 1] := fun b hb hm => by
    have h5 := G5 b hb
    simp at hm
    omega
  have hO5 : ∀ q, (Value.slice A5' (pushW x.history l).length C5').ownBlock = some q → q ∉ [w2.heap.size, w.heap.size + 1] := fun q hq => d5 q (List.mem_append_left _ (by simp [hq]))
  have hR5 : ∀ q ∈ hs5.flatten, q ∉ [w2.heap.size, w.heap.size + 1] := fun q hq => d5 q (List.mem_append_right _ hq)
  refine bodyPost_ret (v := .tuple #[.agg #[.int .i64 x.puzzle.points, .string x.puzzle.names, .slice Am x.puzzle.moves.length Cm, .slice A (appW x.puzzle x.state l).length C, .slice A5' (pushW x.history l).length C5', .slice (some ⟨w5.heap.size, 0, none⟩) 0 0], .bool true]) (by simp [results, Tryz.results8, go_sem, y5', y4', y2', y1', s2b, s5a]) rfl ?_
  refine SeResA.mk (x := playW x l) ⟨⟨p0, p1⟩, Rp.only (fp' := [w2.heap.size, w.heap.size + 1]) HP.out.mv (by with_reducible repeat (first | exact Only.refl _ _ | assumption | refine Only.drewN ?_ _ | refine Only.drew ?_ | refine Only.alloc ?_ _ | refine Only.setCell ?_ (by intro _; simp) _ | refine Only.trans ?_ (Only.weaken (by assumption) _))) dm, Rp.only (fp' := [w2.heap.size, w.heap.size + 1]) r4 (by with_reducible repeat (first | exact Only.refl _ _ | assumption | refine Only.drewN ?_ _ | refine Only.drew ?_ | refine Only.alloc ?_ _ | refine Only.setCell ?_ (by intro _; simp) _ | refine Only.trans ?_ (Only.weaken (by assumption) _))) d4, Acc.mono (Acc.only (fp := [w2.heap.size, w.heap.size + 1]) HA5.out (by with_reducible repeat (first | exact Only.refl _ _ | assumption | refine Only.drewN ?_ _ | refine Only.drew ?_ | refine Only.alloc ?_ _ | refine Only.setCell ?_ (by intro _; simp) _ | refine Only.trans ?_ (Only.weaken (by assumption) _))) hR5 hO5) (by simp; omega), Acc.made _ _ _ (by simp) (by omega), ?_⟩ ?_
  · exact (Fresh.append (B' := w2.heap.size + 1) (FM.only (fp' := [w2.heap.size, w.heap.size + 1]) (by with_reducible repeat (first | exact Only.refl _ _ | assumption | refine Only.drewN ?_ _ | refine Only.drew ?_ | refine Only.alloc ?_ _ | refine Only.setCell ?_ (by intro _; simp) _ | refine Only.trans ?_ (Only.weaken (by assumption) _))) dm) (Fresh.append (B' := w4.heap.size) ((F4.only (fp' := [w2.heap.size, w.heap.size + 1]) (by with_reducible repeat (first | exact Only.refl _ _ | assumption | refine Only.drewN ?_ _ | refine Only.drew ?_ | refine Only.alloc ?_ _ | refine Only.setCell ?_ (by intro _; simp) _ | refine Only.trans ?_ (Only.weaken (by assumption) _))) d4).mono (by omega)) (Fresh.append (B' := w5.heap.size) ((F5.only (fp' := [w2.heap.size, w.heap.size + 1]) (by with_reducible repeat (first | exact Only.refl _ _ | assumption | refine Only.drewN ?_ _ | refine Only.drew ?_ | refine Only.alloc ?_ _ | refine Only.setCell ?_ (by intro _; simp) _ | refine Only.trans ?_ (Only.weaken (by assumption) _))) d5).mono (by simp)) ((Acc.made (α := List Int) _ w5.heap.size 27 (by simp) (by simp)).fresh (Fresh.nil _ _)) s5 (fun b hb => F5.lt b hb)) s4 (fun b hb => F4.lt b hb)) (by have := t2.size; omega) (fun b hb => by have := FM.lt b hb; omega)).mono (by omega)
  · exact (by with_reducible repeat (first | exact Only.refl _ _ | assumption | refine Only.drewN ?_ _ | refine Only.drew ?_ | refine Only.alloc ?_ _ | refine Only.setCell ?_ (by intro hh; exfalso; simp at hh; try omega) _ | refine Only.trans ?_ (by assumption)))
set_option maxHeartbeats 8000000 in
theorem specUndoWord_yesA (cs : List Value) (x : Session) (fp : List Nat) (w : World) (h : Rp.rep w cs x fp) (hq : validSe x = true) (hw : x.history.length ≠ 0) (hh39 : x.future.length ≤ 39) :
    Calls Tryz.prog 62 #[.agg cs.toArray] w (SeResA 27 (undoW x) true w) := by
  have h0 := h
  obtain ⟨c0, v1, v2, v3, f0, f1, f2, f3, rfl, rfl, k0, k1, k2, k3⟩ := h
  have q0 := k0
  obtain ⟨u2, rfl, p0, p1, h2⟩ := q0
  obtain ⟨A2, C2, _, _, rfl, -, -⟩ := h2.open_
  obtain ⟨A3, C3, _, _, rfl, -, -⟩ := k1.open_
  obtain ⟨A4, C4, _, _, rfl, -, -⟩ := k2.open_
  obtain ⟨A5, C5, _, _, rfl, -, -⟩ := k3.open_
  obtain ⟨hst, hml, -, -, hhl, hh2, hul, hu2⟩ := validSe_facts hq
  have hpos : 0 < x.history.length := by omega
  have hlw := validSe_letters hq (lastW x.history) (.inl (lastW_mem hpos))
  obtain ⟨hl200, hlt⟩ := validW_ltrs hml hlw
  have e1 : (0 : Int) ≤ (x.history.length : Int) - 1 := by omega
  have e2 : ((x.history.length : Int) - 1).toNat = x.history.length - 1 := by omega
  have e3 : (x.history.length : Int) - 1 < (x.history.length : Int) := by omega
  have e5 : (1 : Int) ≤ (x.history.length : Int) := by omega
  have e6 : ((x.history.length : Int) == 0) = false := by rw [beq_eq_false_iff_ne]; omega
  have e7 : x.history.length ≤ 40 := by omega
  have Hst := Lib.hid hst
  have Hd2 := Lib.hid hu2
  have Hs2 := Lib.hid hh2
  have Hlt := Lib.hid (invW_ltrs hlt)
  have hbd : ∀ y ∈ lastW x.history, -1000 ≤ y ∧ y ≤ 1000 := fun y hy => by have := mem_ltrs.1 (hlt y hy); omega
  have Hbd := Lib.hid hbd
  clear hst hh2 hu2 hlt hlw hw hbd
  go_enter Tryz.func62, Tryz.ntmps62
  go_wp2_with (first
    | (go_at_call 10; (with_reducible refine (specIsValidSession_any [.int .i64 x.puzzle.points, .string x.puzzle.names, .slice A2 x.puzzle.moves.length C2, .slice A3 x.state.length C3, .slice A4 x.history.length C4, .slice A5 x.future.length C5] x _ _ (Rp.keep h0 (by with_reducible repeat (first | exact Only.refl _ _ | assumption | refine Only.drewN ?_ _ | refine Only.drew ?_ | refine Only.alloc ?_ _ | refine Only.setCell ?_ (by intro hh; exfalso; simp at hh; try omega) _ | refine Only.trans ?_ (by assumption))))).mono ?_); rintro en w1 ⟨rfl, t1⟩; have s1 : w.heap.size + 2 ≤ w1.heap.size := (by have := t1.size; simp at this; omega); have y1 := t1.cells_eq w.heap.size (by simp; omega) (by simp); have y1' := t1.cells_eq (w.heap.size + 1) (by simp) (by simp); have z1' := t1.frozen_eq (w.heap.size + 1) (by simp) (by simp))
    | (go_at_call 32; (with_reducible refine (copySession_any [.int .i64 x.puzzle.points, .string x.puzzle.names, .slice A2 x.puzzle.moves.length C2, .slice A3 x.state.length C3, .slice A4 x.history.length C4, .slice A5 x.future.length C5] x _ _ (Rp.keep h0 (by with_reducible repeat (first | exact Only.refl _ _ | assumption | refine Only.drewN ?_ _ | refine Only.drew ?_ | refine Only.alloc ?_ _ | refine Only.setCell ?_ (by intro hh; exfalso; simp at hh; try omega) _ | refine Only.trans ?_ (by assumption)))) hq).mono ?_); rintro en w2 ⟨Am, Cm, As, Cs, Ah, Ch, Af, Cf, gm, gs, hs, us, rfl, hP, t2⟩; have s2 : w.heap.size + 2 ≤ w2.heap.size := Nat.le_trans s1 t2.size; have y2 := t2.cells_eq w.heap.size (by omega) (by simp); have y2' := t2.cells_eq (w.heap.size + 1) (by omega) (by simp); have z2' := t2.frozen_eq (w.heap.size + 1) (by omega) (by simp); have HP := Lib.hid hP; clear hP; have s2a : w.heap.size < w2.heap.size := (by omega); have s2b : w.heap.size + 1 < w2.heap.size := (by omega); obtain ⟨gF, cF, u, fu, fr, eF, kl1, kl2, cu, ru, hfu, SF, rr, Fr, hfr⟩ := HP.out.hi.last HP.out.fr.right.right.left.right hpos; injection eF with eA _ eC; subst eA; subst eC; obtain ⟨aU, cU, rfl, -⟩ := ru.ints; have sF : gF < w2.heap.size := (HP.out.hi.ownlt gF rfl).2; have sFg : gF ≠ w2.heap.size := (by omega); have e4 : (x.history.length : Int) - 1 ≤ (Ch : Int) := (by omega); have Hhfu := Lib.hid hfu; have HSF := Lib.hid SF; have Hhfr := Lib.hid hfr; have HFr := Lib.hid Fr; clear hfu SF hfr Fr)
    | fail "no arm")
  go_region_law (first
    | (go_simp; go_at_call 108; (with_reducible refine (specInvW_rd _ (lastW x.history) _ _ (Rp.keep ru (by with_reducible repeat (first | exact Only.refl _ _ | assumption | refine Only.drewN ?_ _ | refine Only.drew ?_ | refine Only.alloc ?_ _ | refine Only.setCell ?_ (by intro hh; exfalso; simp at hh; try omega) _ | refine Only.trans ?_ (by assumption)))) Hbd.out (by omega)).mono ?_); rintro en w3 ⟨v3, g3, rfl, r3, F3, t3⟩; obtain ⟨a3, c3, rfl, -⟩ := r3.ints; have s3 : w2.heap.size + 1 ≤ w3.heap.size := (by have := t3.size; simpa using this); have s3a : w.heap.size + 1 < w3.heap.size := (by omega); have s3b : w2.heap.size < w3.heap.size := (by omega); have B3 : Blk w3 w2.heap.size [.int .i64 x.puzzle.points, .string x.puzzle.names, .slice Am x.puzzle.moves.length Cm, .slice As x.state.length Cs, .slice (some ⟨gF, 0, none⟩) x.history.length Ch, .slice Af x.future.length Cf] := Blk.keep (Blk.new w2 _ 29) ((Only.refl [] _).drew.trans t3); have c30 := B3.cell 0 rfl; have c31 := B3.cell 1 rfl; have c32 := B3.cell 2 rfl; have c33 := B3.cell 3 rfl; have c34 := B3.cell 4 rfl; have c35 := B3.cell 5 rfl; have z3 := B3.frozen; have HB3 := Lib.hid B3; clear B3; have y3' := t3.cells_eq (w.heap.size + 1) (by simp; omega) (by simp); have z3' := t3.frozen_eq (w.heap.size + 1) (by simp; omega) (by simp))
    | (go_simp; go_at_call 34; (with_reducible refine (playIn_any x (invW (lastW x.history)) Am As (some ⟨gF, 0, none⟩) Af Cm Cs Ch Cf x.history.length x.future.length _ gm gs _ _ (Rp.keep HP.out.mv (by with_reducible repeat (first | exact Only.refl _ _ | assumption | refine Only.drewN ?_ _ | refine Only.drew ?_ | refine Only.alloc ?_ _ | refine Only.setCell ?_ (by intro hh; exfalso; simp at hh; try omega) _ | refine Only.trans ?_ (by assumption)))) (Rp.keep HP.out.st (by with_reducible repeat (first | exact Only.refl _ _ | assumption | refine Only.drewN ?_ _ | refine Only.drew ?_ | refine Only.alloc ?_ _ | refine Only.setCell ?_ (by intro hh; exfalso; simp at hh; try omega) _ | refine Only.trans ?_ (by assumption)))) r3 Hst.out Hlt.out).mono ?_); rintro en w4 ⟨A, C, g4, rfl, r4, F4, t4⟩; have s4 : w2.heap.size + 1 ≤ w4.heap.size := Nat.le_trans s3 t4.size; have s4a : w.heap.size + 1 < w4.heap.size := (by omega); have s4b : w2.heap.size < w4.heap.size := (by omega); have B4 := Blk.keep HB3.out t4; have c40 := B4.cell 0 rfl; have c41 := B4.cell 1 rfl; have c42 := B4.cell 2 rfl; have c43 := B4.cell 3 rfl; have c44 := B4.cell 4 rfl; have c45 := B4.cell 5 rfl; have z4 := B4.frozen; have HB4 := Lib.hid B4; clear B4; have y4' := t4.cells_eq (w.heap.size + 1) (by omega) (by simp); have z4' := t4.frozen_eq (w.heap.size + 1) (by omega) (by simp))
    | fail "no arm")
  all_goals go_wp2_with (first
    | (go_at_call 35; (with_reducible refine (pushWord_acc _ _ x.future (lastW x.history) _ _ _ (Rp.keep (HP.out.fu.rd (by decide)) (by with_reducible repeat (first | exact Only.refl _ _ | assumption | refine Only.drewN ?_ _ | refine Only.drew ?_ | refine Only.alloc ?_ _ | refine Only.setCell ?_ (by intro hh; exfalso; simp at hh; try omega) _ | refine Only.trans ?_ (by assumption)))) (Rp.keep ru (by with_reducible repeat (first | exact Only.refl _ _ | assumption | refine Only.drewN ?_ _ | refine Only.drew ?_ | refine Only.alloc ?_ _ | refine Only.setCell ?_ (by intro hh; exfalso; simp at hh; try omega) _ | refine Only.trans ?_ (by assumption)))) hh39 Hd2.out (by omega)).mono ?_); rintro en w5 ⟨v5, hs5, rfl, A5, FF5, t5⟩; have r5 := A5.rd (by decide); have F5 := A5.fresh FF5; obtain ⟨A5', C5', _, _, rfl, -, -⟩ := r5.open_; have HA5 := Lib.hid A5; clear A5; have s5 : w4.heap.size ≤ w5.heap.size := (by have := t5.size; simpa using this); have s5a : w.heap.size + 1 < w5.heap.size := (by omega); have s5b : w2.heap.size < w5.heap.size := (by omega); have B5 := Blk.keep (Blk.set (Blk.set (Blk.set (Blk.set (Blk.set (Blk.set HB4.out 0 (.int .i64 x.puzzle.points)) 1 (.string x.puzzle.names)) 2 (.slice Am x.puzzle.moves.length Cm)) 3 (.slice A (appW x.puzzle x.state (invW (lastW x.history))).length C)) 4 (.slice (some ⟨gF, 0, none⟩) x.history.length Ch)) 5 (.slice Af x.future.length Cf)) t5; have c50 := B5.cell 0 rfl; have c51 := B5.cell 1 rfl; have c52 := B5.cell 2 rfl; have c53 := B5.cell 3 rfl; have c54 := B5.cell 4 rfl; have c55 := B5.cell 5 rfl; have z5 := B5.frozen; clear B5; have y5' := t5.cells_eq (w.heap.size + 1) (by simp; omega) (by simp); have z5' := t5.frozen_eq (w.heap.size + 1) (by simp; omega) (by simp))
    | fail "no arm")
  all_goals
    have hAr := Acc.rest (l := x.history) HP.out.hi
    have HFr2 := hAr.fresh (Fresh.sublist (HP.out.fr.right.right.left.right) (flatten_take _ _))
    have hsubR : ∀ b ∈ ((Value.slice (some ⟨gF, 0, none⟩) (x.history.length - 1) Ch).ownBlock.toList ++ (hs.take (x.history.length - 1)).flatten), b ∈ (Value.slice (some ⟨gF, 0, none⟩) x.history.length Ch).ownBlock.toList ++ hs.flatten := fun b hb => by
      rcases List.mem_append.1 hb with hb | hb
      · exact List.mem_append_left _ hb
      · exact List.mem_append_right _ ((flatten_take _ _).subset hb)
    have G4 : ∀ b ∈ g4, w2.heap.size + 1 ≤ b := fun b hb => by have := F4.ge b hb; first | omega | (simp at this; omega)
    have G5 : ∀ b ∈ ((Value.slice A5' (pushW x.future (lastW x.history)).length C5').ownBlock.toList ++ hs5.flatten), w4.heap.size ≤ b := fun b hb => by have := F5.ge b hb; simpa using this
    have L4 := F4.lt
    have FM := HP.out.fr.left
    have Lm : ∀ b ∈ gm, w1.heap.size ≤ b ∧ b < w2.heap.size := fun b hb => ⟨FM.ge b hb, FM.lt b hb⟩
    have Lr : ∀ b ∈ ((Value.slice (some ⟨gF, 0, none⟩) (x.history.length - 1) Ch).ownBlock.toList ++ (hs.take (x.history.length - 1)).flatten), w1.heap.size ≤ b ∧ b < w2.heap.size := fun b hb => ⟨HFr2.ge b hb, HFr2.lt b hb⟩
    have dm : ∀ b ∈ gm, b ∉ [w2.heap.size, w.heap.size + 1] := fun b hb hm => by have := Lm b hb; simp at hm; omega
    have d4 : ∀ b ∈ g4, b ∉ [w2.heap.size, w.heap.size + 1] := fun b hb hm => by have := G4 b hb; simp at hm; omega
    have d5 : ∀ b ∈ ((Value.slice A5' (pushW x.future (lastW x.history)).length C5').ownBlock.toList ++ hs5.flatten), b ∉ [w2.heap.size, w.heap.size + 1] := fun b hb hm => by have := G5 b hb; simp at hm; omega
    have dr : ∀ b ∈ ((Value.slice (some ⟨gF, 0, none⟩) (x.history.length - 1) Ch).ownBlock.toList ++ (hs.take (x.history.length - 1)).flatten), b ∉ [w2.heap.size, w.heap.size + 1] := fun b hb hm => by have := Lr b hb; simp at hm; omega
    have hrl := restW_len x.history
    have hO5 : ∀ q, (Value.slice A5' (pushW x.future (lastW x.history)).length C5').ownBlock = some q → q ∉ [w2.heap.size, w.heap.size + 1] := fun q hq => d5 q (List.mem_append_left _ (by simp [hq]))
    have hR5 : ∀ q ∈ hs5.flatten, q ∉ [w2.heap.size, w.heap.size + 1] := fun q hq => d5 q (List.mem_append_right _ hq)
    have hOr : ∀ q, (Value.slice (some ⟨gF, 0, none⟩) (x.history.length - 1) Ch).ownBlock = some q → q ∉ [w2.heap.size, w.heap.size + 1] := fun q hq => dr q (List.mem_append_left _ (by simp [hq]))
    have hRr : ∀ q ∈ (hs.take (x.history.length - 1)).flatten, q ∉ [w2.heap.size, w.heap.size + 1] := fun q hq => dr q (List.mem_append_right _ hq)
    refine bodyPost_ret (v := .tuple #[.agg #[.int .i64 x.puzzle.points, .string x.puzzle.names, .slice Am x.puzzle.moves.length Cm, .slice A (appW x.puzzle x.state (invW (lastW x.history))).length C, .slice (some ⟨gF, 0, none⟩) (x.history.length - 1) Ch, .slice A5' (pushW x.future (lastW x.history)).length C5'], .bool true]) (by simp [results, Tryz.results62, go_sem, y5', y4', y3', y2', y1', s2b]) rfl (SeResA.mk (x := undoW x) ⟨⟨p0, p1⟩, Rp.only (fp' := [w2.heap.size, w.heap.size + 1]) HP.out.mv (by with_reducible repeat (first | exact Only.refl _ _ | assumption | refine Only.drewN ?_ _ | refine Only.drew ?_ | refine Only.alloc ?_ _ | refine Only.setCell ?_ (by intro _; simp) _ | refine Only.trans ?_ (Only.weaken (by assumption) _))) dm, Rp.only (fp' := [w2.heap.size, w.heap.size + 1]) r4 (by with_reducible repeat (first | exact Only.refl _ _ | assumption | refine Only.drewN ?_ _ | refine Only.drew ?_ | refine Only.alloc ?_ _ | refine Only.setCell ?_ (by intro _; simp) _ | refine Only.trans ?_ (Only.weaken (by assumption) _))) d4, Acc.mono (Acc.only (fp := [w2.heap.size, w.heap.size + 1]) hAr (by with_reducible repeat (first | exact Only.refl _ _ | assumption | refine Only.drewN ?_ _ | refine Only.drew ?_ | refine Only.alloc ?_ _ | refine Only.setCell ?_ (by intro _; simp) _ | refine Only.trans ?_ (Only.weaken (by assumption) _))) hRr hOr) (by omega), Acc.mono (Acc.only (fp := [w2.heap.size, w.heap.size + 1]) HA5.out (by with_reducible repeat (first | exact Only.refl _ _ | assumption | refine Only.drewN ?_ _ | refine Only.drew ?_ | refine Only.alloc ?_ _ | refine Only.setCell ?_ (by intro _; simp) _ | refine Only.trans ?_ (Only.weaken (by assumption) _))) hR5 hO5) (by simp; omega), ?_⟩ ?_)
    · exact Fresh.of4 ((FM.only (fp' := [w2.heap.size, w.heap.size + 1]) (by with_reducible repeat (first | exact Only.refl _ _ | assumption | refine Only.drewN ?_ _ | refine Only.drew ?_ | refine Only.alloc ?_ _ | refine Only.setCell ?_ (by intro _; simp) _ | refine Only.trans ?_ (Only.weaken (by assumption) _))) dm).mono (by omega)) ((F4.only (fp' := [w2.heap.size, w.heap.size + 1]) (by with_reducible repeat (first | exact Only.refl _ _ | assumption | refine Only.drewN ?_ _ | refine Only.drew ?_ | refine Only.alloc ?_ _ | refine Only.setCell ?_ (by intro _; simp) _ | refine Only.trans ?_ (Only.weaken (by assumption) _))) d4).mono (by first | omega | (simp; omega))) ((HFr2.only (fp' := [w2.heap.size, w.heap.size + 1]) (by with_reducible repeat (first | exact Only.refl _ _ | assumption | refine Only.drewN ?_ _ | refine Only.drew ?_ | refine Only.alloc ?_ _ | refine Only.setCell ?_ (by intro _; simp) _ | refine Only.trans ?_ (Only.weaken (by assumption) _))) dr).mono (by omega)) ((F5.only (fp' := [w2.heap.size, w.heap.size + 1]) (by with_reducible repeat (first | exact Only.refl _ _ | assumption | refine Only.drewN ?_ _ | refine Only.drew ?_ | refine Only.alloc ?_ _ | refine Only.setCell ?_ (by intro _; simp) _ | refine Only.trans ?_ (Only.weaken (by assumption) _))) d5).mono (by simp; omega)) (fun b hb hm => by have := Lm b hb; have := G4 b hm; omega) (fun b hb hm => (HP.out.fr.parts.1 b hb).1 (hsubR b hm)) (fun b hb hm => by have := Lm b hb; have := G5 b hm; omega) (fun b hb hm => by have := G4 b hb; have := Lr b hm; omega) (fun b hb hm => by have := L4 b hb; have := G5 b hm; omega) (fun b hb hm => by have := Lr b hb; have := G5 b hm; omega)
    · exact (by with_reducible repeat (first | exact Only.refl _ _ | assumption | refine Only.drewN ?_ _ | refine Only.drew ?_ | refine Only.alloc ?_ _ | refine Only.setCell ?_ (by intro hh; exfalso; simp at hh; try omega) _ | refine Only.trans ?_ (by assumption)))
set_option maxHeartbeats 8000000 in
theorem specRedoWord_yesA (cs : List Value) (x : Session) (fp : List Nat) (w : World) (h : Rp.rep w cs x fp) (hq : validSe x = true) (hw : x.future.length ≠ 0) (hh39 : x.history.length ≤ 39) :
    Calls Tryz.prog 63 #[.agg cs.toArray] w (SeResA 27 (redoW x) true w) := by
  have h0 := h
  obtain ⟨c0, v1, v2, v3, f0, f1, f2, f3, rfl, rfl, k0, k1, k2, k3⟩ := h
  have q0 := k0
  obtain ⟨u2, rfl, p0, p1, h2⟩ := q0
  obtain ⟨A2, C2, _, _, rfl, -, -⟩ := h2.open_
  obtain ⟨A3, C3, _, _, rfl, -, -⟩ := k1.open_
  obtain ⟨A4, C4, _, _, rfl, -, -⟩ := k2.open_
  obtain ⟨A5, C5, _, _, rfl, -, -⟩ := k3.open_
  obtain ⟨hst, hml, -, -, hhl, hh2, hul, hu2⟩ := validSe_facts hq
  have hpos : 0 < x.future.length := by omega
  have hlw := validSe_letters hq (lastW x.future) (.inr (lastW_mem hpos))
  obtain ⟨hl200, hlt⟩ := validW_ltrs hml hlw
  have e1 : (0 : Int) ≤ (x.future.length : Int) - 1 := by omega
  have e2 : ((x.future.length : Int) - 1).toNat = x.future.length - 1 := by omega
  have e3 : (x.future.length : Int) - 1 < (x.future.length : Int) := by omega
  have e5 : (1 : Int) ≤ (x.future.length : Int) := by omega
  have e6 : ((x.future.length : Int) == 0) = false := by rw [beq_eq_false_iff_ne]; omega
  have e7 : x.future.length ≤ 40 := by omega
  have Hst := Lib.hid hst
  have Hd2 := Lib.hid hh2
  have Hs2 := Lib.hid hu2
  have Hlt := Lib.hid hlt
  have hbd : ∀ y ∈ lastW x.future, -1000 ≤ y ∧ y ≤ 1000 := fun y hy => by have := mem_ltrs.1 (hlt y hy); omega
  have Hbd := Lib.hid hbd
  clear hst hh2 hu2 hlt hlw hw hbd
  go_enter Tryz.func63, Tryz.ntmps63
  go_wp2_with (first
    | (go_at_call 10; (with_reducible refine (specIsValidSession_any [.int .i64 x.puzzle.points, .string x.puzzle.names, .slice A2 x.puzzle.moves.length C2, .slice A3 x.state.length C3, .slice A4 x.history.length C4, .slice A5 x.future.length C5] x _ _ (Rp.keep h0 (by with_reducible repeat (first | exact Only.refl _ _ | assumption | refine Only.drewN ?_ _ | refine Only.drew ?_ | refine Only.alloc ?_ _ | refine Only.setCell ?_ (by intro hh; exfalso; simp at hh; try omega) _ | refine Only.trans ?_ (by assumption))))).mono ?_); rintro en w1 ⟨rfl, t1⟩; have s1 : w.heap.size + 2 ≤ w1.heap.size := (by have := t1.size; simp at this; omega); have y1 := t1.cells_eq w.heap.size (by simp; omega) (by simp); have y1' := t1.cells_eq (w.heap.size + 1) (by simp) (by simp); have z1' := t1.frozen_eq (w.heap.size + 1) (by simp) (by simp))
    | (go_at_call 32; (with_reducible refine (copySession_any [.int .i64 x.puzzle.points, .string x.puzzle.names, .slice A2 x.puzzle.moves.length C2, .slice A3 x.state.length C3, .slice A4 x.history.length C4, .slice A5 x.future.length C5] x _ _ (Rp.keep h0 (by with_reducible repeat (first | exact Only.refl _ _ | assumption | refine Only.drewN ?_ _ | refine Only.drew ?_ | refine Only.alloc ?_ _ | refine Only.setCell ?_ (by intro hh; exfalso; simp at hh; try omega) _ | refine Only.trans ?_ (by assumption)))) hq).mono ?_); rintro en w2 ⟨Am, Cm, As, Cs, Ah, Ch, Af, Cf, gm, gs, hs, us, rfl, hP, t2⟩; have s2 : w.heap.size + 2 ≤ w2.heap.size := Nat.le_trans s1 t2.size; have y2 := t2.cells_eq w.heap.size (by omega) (by simp); have y2' := t2.cells_eq (w.heap.size + 1) (by omega) (by simp); have z2' := t2.frozen_eq (w.heap.size + 1) (by omega) (by simp); have HP := Lib.hid hP; clear hP; have s2a : w.heap.size < w2.heap.size := (by omega); have s2b : w.heap.size + 1 < w2.heap.size := (by omega); obtain ⟨gF, cF, u, fu, fr, eF, kl1, kl2, cu, ru, hfu, SF, rr, Fr, hfr⟩ := HP.out.fu.last HP.out.fr.right.right.right.right hpos; injection eF with eA _ eC; subst eA; subst eC; obtain ⟨aU, cU, rfl, -⟩ := ru.ints; have sF : gF < w2.heap.size := (HP.out.fu.ownlt gF rfl).2; have sFg : gF ≠ w2.heap.size := (by omega); have e4 : (x.future.length : Int) - 1 ≤ (Cf : Int) := (by omega); have Hhfu := Lib.hid hfu; have HSF := Lib.hid SF; have Hhfr := Lib.hid hfr; have HFr := Lib.hid Fr; clear hfu SF hfr Fr)
    | (go_at_call 34; (with_reducible refine (playIn_any x (lastW x.future) Am As Ah (some ⟨gF, 0, none⟩) Cm Cs Ch Cf x.history.length x.future.length _ gm gs _ _ (Rp.keep HP.out.mv (by with_reducible repeat (first | exact Only.refl _ _ | assumption | refine Only.drewN ?_ _ | refine Only.drew ?_ | refine Only.alloc ?_ _ | refine Only.setCell ?_ (by intro hh; exfalso; simp at hh; try omega) _ | refine Only.trans ?_ (by assumption)))) (Rp.keep HP.out.st (by with_reducible repeat (first | exact Only.refl _ _ | assumption | refine Only.drewN ?_ _ | refine Only.drew ?_ | refine Only.alloc ?_ _ | refine Only.setCell ?_ (by intro hh; exfalso; simp at hh; try omega) _ | refine Only.trans ?_ (by assumption)))) (Rp.keep ru (by with_reducible repeat (first | exact Only.refl _ _ | assumption | refine Only.drewN ?_ _ | refine Only.drew ?_ | refine Only.alloc ?_ _ | refine Only.setCell ?_ (by intro hh; exfalso; simp at hh; try omega) _ | refine Only.trans ?_ (by assumption)))) Hst.out Hlt.out).mono ?_); rintro en w4 ⟨A, C, g4, rfl, r4, F4, t4⟩; have s4 : w2.heap.size + 1 ≤ w4.heap.size := (by have := t4.size; simp at this; omega); have s4a : w.heap.size + 1 < w4.heap.size := (by omega); have s4b : w2.heap.size < w4.heap.size := (by omega); have B4 : Blk w4 w2.heap.size [.int .i64 x.puzzle.points, .string x.puzzle.names, .slice Am x.puzzle.moves.length Cm, .slice As x.state.length Cs, .slice Ah x.history.length Ch, .slice (some ⟨gF, 0, none⟩) x.future.length Cf] := Blk.keep (Blk.new w2 _ 29) t4; have c40 := B4.cell 0 rfl; have c41 := B4.cell 1 rfl; have c42 := B4.cell 2 rfl; have c43 := B4.cell 3 rfl; have c44 := B4.cell 4 rfl; have c45 := B4.cell 5 rfl; have z4 := B4.frozen; have HB4 := Lib.hid B4; clear B4; have y4' := t4.cells_eq (w.heap.size + 1) (by simp; omega) (by simp); have z4' := t4.frozen_eq (w.heap.size + 1) (by simp; omega) (by simp))
    | (go_at_call 35; (with_reducible refine (pushWord_acc _ _ x.history (lastW x.future) _ _ _ (Rp.keep (HP.out.hi.rd (by decide)) (by with_reducible repeat (first | exact Only.refl _ _ | assumption | refine Only.drewN ?_ _ | refine Only.drew ?_ | refine Only.alloc ?_ _ | refine Only.setCell ?_ (by intro hh; exfalso; simp at hh; try omega) _ | refine Only.trans ?_ (by assumption)))) (Rp.keep ru (by with_reducible repeat (first | exact Only.refl _ _ | assumption | refine Only.drewN ?_ _ | refine Only.drew ?_ | refine Only.alloc ?_ _ | refine Only.setCell ?_ (by intro hh; exfalso; simp at hh; try omega) _ | refine Only.trans ?_ (by assumption)))) hh39 Hd2.out (by omega)).mono ?_); rintro en w5 ⟨v5, hs5, rfl, A5, FF5, t5⟩; have r5 := A5.rd (by decide); have F5 := A5.fresh FF5; obtain ⟨A5', C5', _, _, rfl, -, -⟩ := r5.open_; have HA5 := Lib.hid A5; clear A5; have s5 : w4.heap.size ≤ w5.heap.size := (by have := t5.size; simpa using this); have s5a : w.heap.size + 1 < w5.heap.size := (by omega); have s5b : w2.heap.size < w5.heap.size := (by omega); have B5 := Blk.keep (Blk.set (Blk.set (Blk.set (Blk.set (Blk.set (Blk.set HB4.out 0 (.int .i64 x.puzzle.points)) 1 (.string x.puzzle.names)) 2 (.slice Am x.puzzle.moves.length Cm)) 3 (.slice A (appW x.puzzle x.state (lastW x.future)).length C)) 4 (.slice Ah x.history.length Ch)) 5 (.slice (some ⟨gF, 0, none⟩) x.future.length Cf)) t5; have c50 := B5.cell 0 rfl; have c51 := B5.cell 1 rfl; have c52 := B5.cell 2 rfl; have c53 := B5.cell 3 rfl; have c54 := B5.cell 4 rfl; have c55 := B5.cell 5 rfl; have z5 := B5.frozen; clear B5; have y5' := t5.cells_eq (w.heap.size + 1) (by simp; omega) (by simp); have z5' := t5.frozen_eq (w.heap.size + 1) (by simp; omega) (by simp))
    | fail "no arm")
  have hAr := Acc.rest (l := x.future) HP.out.fu
  have HFr2 := hAr.fresh (Fresh.sublist (HP.out.fr.right.right.right.right) (flatten_take _ _))
  have hsubR : ∀ b ∈ ((Value.slice (some ⟨gF, 0, none⟩) (x.future.length - 1) Cf).ownBlock.toList ++ (us.take (x.future.length - 1)).flatten), b ∈ (Value.slice (some ⟨gF, 0, none⟩) x.future.length Cf).ownBlock.toList ++ us.flatten := fun b hb => by
    rcases List.mem_append.1 hb with hb | hb
    · exact List.mem_append_left _ hb
    · exact List.mem_append_right _ ((flatten_take _ _).subset hb)
  have G4 : ∀ b ∈ g4, w2.heap.size + 1 ≤ b := fun b hb => by have := F4.ge b hb; first | omega | (simp at this; omega)
  have G5 : ∀ b ∈ ((Value.slice A5' (pushW x.history (lastW x.future)).length C5').ownBlock.toList ++ hs5.flatten), w4.heap.size ≤ b := fun b hb => by have := F5.ge b hb; simpa using this
  have L4 := F4.lt
  have FM := HP.out.fr.left
  have Lm : ∀ b ∈ gm, w1.heap.size ≤ b ∧ b < w2.heap.size := fun b hb => ⟨FM.ge b hb, FM.lt b hb⟩
  have Lr : ∀ b ∈ ((Value.slice (some ⟨gF, 0, none⟩) (x.future.length - 1) Cf).ownBlock.toList ++ (us.take (x.future.length - 1)).flatten), w1.heap.size ≤ b ∧ b < w2.heap.size := fun b hb => ⟨HFr2.ge b hb, HFr2.lt b hb⟩
  have dm : ∀ b ∈ gm, b ∉ [w2.heap.size, w.heap.size + 1] := fun b hb hm => by have := Lm b hb; simp at hm; omega
  have d4 : ∀ b ∈ g4, b ∉ [w2.heap.size, w.heap.size + 1] := fun b hb hm => by have := G4 b hb; simp at hm; omega
  have d5 : ∀ b ∈ ((Value.slice A5' (pushW x.history (lastW x.future)).length C5').ownBlock.toList ++ hs5.flatten), b ∉ [w2.heap.size, w.heap.size + 1] := fun b hb hm => by have := G5 b hb; simp at hm; omega
  have dr : ∀ b ∈ ((Value.slice (some ⟨gF, 0, none⟩) (x.future.length - 1) Cf).ownBlock.toList ++ (us.take (x.future.length - 1)).flatten), b ∉ [w2.heap.size, w.heap.size + 1] := fun b hb hm => by have := Lr b hb; simp at hm; omega
  have hrl := restW_len x.future
  have hO5 : ∀ q, (Value.slice A5' (pushW x.history (lastW x.future)).length C5').ownBlock = some q → q ∉ [w2.heap.size, w.heap.size + 1] := fun q hq => d5 q (List.mem_append_left _ (by simp [hq]))
  have hR5 : ∀ q ∈ hs5.flatten, q ∉ [w2.heap.size, w.heap.size + 1] := fun q hq => d5 q (List.mem_append_right _ hq)
  have hOr : ∀ q, (Value.slice (some ⟨gF, 0, none⟩) (x.future.length - 1) Cf).ownBlock = some q → q ∉ [w2.heap.size, w.heap.size + 1] := fun q hq => dr q (List.mem_append_left _ (by simp [hq]))
  have hRr : ∀ q ∈ (us.take (x.future.length - 1)).flatten, q ∉ [w2.heap.size, w.heap.size + 1] := fun q hq => dr q (List.mem_append_right _ hq)
  refine bodyPost_ret (v := .tuple #[.agg #[.int .i64 x.puzzle.points, .string x.puzzle.names, .slice Am x.puzzle.moves.length Cm, .slice A (appW x.puzzle x.state (lastW x.future)).length C, .slice A5' (pushW x.history (lastW x.future)).length C5', .slice (some ⟨gF, 0, none⟩) (x.future.length - 1) Cf], .bool true]) (by simp [results, Tryz.results63, go_sem, y5', y4', y2', y1', s2b]) rfl (SeResA.mk (x := redoW x) ⟨⟨p0, p1⟩, Rp.only (fp' := [w2.heap.size, w.heap.size + 1]) HP.out.mv (by with_reducible repeat (first | exact Only.refl _ _ | assumption | refine Only.drewN ?_ _ | refine Only.drew ?_ | refine Only.alloc ?_ _ | refine Only.setCell ?_ (by intro _; simp) _ | refine Only.trans ?_ (Only.weaken (by assumption) _))) dm, Rp.only (fp' := [w2.heap.size, w.heap.size + 1]) r4 (by with_reducible repeat (first | exact Only.refl _ _ | assumption | refine Only.drewN ?_ _ | refine Only.drew ?_ | refine Only.alloc ?_ _ | refine Only.setCell ?_ (by intro _; simp) _ | refine Only.trans ?_ (Only.weaken (by assumption) _))) d4, Acc.mono (Acc.only (fp := [w2.heap.size, w.heap.size + 1]) HA5.out (by with_reducible repeat (first | exact Only.refl _ _ | assumption | refine Only.drewN ?_ _ | refine Only.drew ?_ | refine Only.alloc ?_ _ | refine Only.setCell ?_ (by intro _; simp) _ | refine Only.trans ?_ (Only.weaken (by assumption) _))) hR5 hO5) (by simp; omega), Acc.mono (Acc.only (fp := [w2.heap.size, w.heap.size + 1]) hAr (by with_reducible repeat (first | exact Only.refl _ _ | assumption | refine Only.drewN ?_ _ | refine Only.drew ?_ | refine Only.alloc ?_ _ | refine Only.setCell ?_ (by intro _; simp) _ | refine Only.trans ?_ (Only.weaken (by assumption) _))) hRr hOr) (by omega), ?_⟩ ?_)
  · exact Fresh.of4 ((FM.only (fp' := [w2.heap.size, w.heap.size + 1]) (by with_reducible repeat (first | exact Only.refl _ _ | assumption | refine Only.drewN ?_ _ | refine Only.drew ?_ | refine Only.alloc ?_ _ | refine Only.setCell ?_ (by intro _; simp) _ | refine Only.trans ?_ (Only.weaken (by assumption) _))) dm).mono (by omega)) ((F4.only (fp' := [w2.heap.size, w.heap.size + 1]) (by with_reducible repeat (first | exact Only.refl _ _ | assumption | refine Only.drewN ?_ _ | refine Only.drew ?_ | refine Only.alloc ?_ _ | refine Only.setCell ?_ (by intro _; simp) _ | refine Only.trans ?_ (Only.weaken (by assumption) _))) d4).mono (by first | omega | (simp; omega))) ((F5.only (fp' := [w2.heap.size, w.heap.size + 1]) (by with_reducible repeat (first | exact Only.refl _ _ | assumption | refine Only.drewN ?_ _ | refine Only.drew ?_ | refine Only.alloc ?_ _ | refine Only.setCell ?_ (by intro _; simp) _ | refine Only.trans ?_ (Only.weaken (by assumption) _))) d5).mono (by simp; omega)) ((HFr2.only (fp' := [w2.heap.size, w.heap.size + 1]) (by with_reducible repeat (first | exact Only.refl _ _ | assumption | refine Only.drewN ?_ _ | refine Only.drew ?_ | refine Only.alloc ?_ _ | refine Only.setCell ?_ (by intro _; simp) _ | refine Only.trans ?_ (Only.weaken (by assumption) _))) dr).mono (by omega)) (fun b hb hm => by have := Lm b hb; have := G4 b hm; omega) (fun b hb hm => by have := Lm b hb; have := G5 b hm; omega) (fun b hb hm => (HP.out.fr.parts.1 b hb).2 (hsubR b hm)) (fun b hb hm => by have := L4 b hb; have := G5 b hm; omega) (fun b hb hm => by have := G4 b hb; have := Lr b hm; omega) (fun b hb hm => by have := G5 b hb; have := Lr b hm; omega)
  · exact (by with_reducible repeat (first | exact Only.refl _ _ | assumption | refine Only.drewN ?_ _ | refine Only.drew ?_ | refine Only.alloc ?_ _ | refine Only.setCell ?_ (by intro hh; exfalso; simp at hh; try omega) _ | refine Only.trans ?_ (by assumption)))
set_option maxHeartbeats 8000000 in
theorem specScramble_anyA (cs : List Value) (x : Session) (fp : List Nat) (seed : Int) (w : World) (h : Rp.rep w cs x fp) (hs : I64 seed) :
    Calls Tryz.prog 64 #[.agg cs.toArray, .int .i64 seed] w (SeResA 27 (scrS x seed).1 (scrS x seed).2 w) := by
  have h0 := h
  obtain ⟨c0, v1, v2, v3, f0, f1, f2, f3, rfl, rfl, k0, k1, k2, k3⟩ := h
  have q0 := k0
  obtain ⟨u2, rfl, p0, p1, h2⟩ := q0
  obtain ⟨A2, C2, _, _, rfl, -, -⟩ := h2.open_
  obtain ⟨A3, C3, _, _, rfl, -, -⟩ := k1.open_
  obtain ⟨A4, C4, _, _, rfl, -, -⟩ := k2.open_
  obtain ⟨A5, C5, _, _, rfl, -, -⟩ := k3.open_
  rcases hq : validSe x
  · have hp : scrS x seed = (noSess, false) := by unfold scrS; rw [if_neg (by simp [hq])]
    have Hp := Lib.hid hp; clear hp
    go_enter Tryz.func64, Tryz.ntmps64
    go_wp2_with (first
      | (go_at_call 10; (with_reducible refine (specIsValidSession_any [.int .i64 x.puzzle.points, .string x.puzzle.names, .slice A2 x.puzzle.moves.length C2, .slice A3 x.state.length C3, .slice A4 x.history.length C4, .slice A5 x.future.length C5] x _ _ (Rp.keep h0 (by with_reducible repeat (first | exact Only.refl _ _ | assumption | refine Only.drewN ?_ _ | refine Only.drew ?_ | refine Only.alloc ?_ _ | refine Only.setCell ?_ (by intro hh; exfalso; simp at hh; try omega) _ | refine Only.trans ?_ (by assumption))))).mono ?_); rintro e w1 ⟨he, t1⟩; rw [hq] at he; subst he; have y1 := t1.cells_eq (w.heap.size + 1) (by simp) (by simp); have z1 := t1.frozen_eq (w.heap.size + 1) (by simp) (by simp); have s1 : w.heap.size + 1 < w1.heap.size := (by have := t1.size; simp at this; omega))
      | fail "no arm")
    refine bodyPost_ret (v := .tuple #[.agg #[.int .i64 0, .string ⟨#[]⟩, .slice none 0 0, .slice none 0 0, .slice none 0 0, .slice none 0 0], .bool false]) (by simp [results, Tryz.results64, go_sem, y1]) rfl (by rw [Hp.out]; exact SeResA.mk (x := noSess) (SeP.no _ _ _) (by with_reducible repeat (first | exact Only.refl _ _ | assumption | refine Only.drewN ?_ _ | refine Only.drew ?_ | refine Only.alloc ?_ _ | refine Only.setCell ?_ (by intro hh; exfalso; simp at hh; try omega) _ | refine Only.trans ?_ (by assumption))))
  · obtain ⟨R, hR⟩ : ∃ R, R = randM x.puzzle.points.toNat x.puzzle.moves seed := ⟨_, rfl⟩
    have hp : scrS x seed = (⟨x.puzzle, R, [], []⟩, true) := by unfold scrS; rw [if_pos hq, hR]
    have hgs := validSe_gens hq
    obtain ⟨-, hl8, hl2, -⟩ := validSe_facts hq
    have hl : x.puzzle.moves.length ≤ 2097152 := by omega
    obtain ⟨⟨g1, g2⟩, g3, g4⟩ := gensB_iff.1 hgs
    have hRl : R.length ≤ 1000000 := by rw [hR]; have := randM_len (seed := seed) (by omega : 0 < x.puzzle.points.toNat) g4; omega
    have Hp := Lib.hid hp
    have HR := Lib.hid hR
    have Hgs := Lib.hid hgs
    clear hp hR hgs g4
    go_enter Tryz.func64, Tryz.ntmps64
    go_wp2_with (first
      | (go_at_call 10; (with_reducible refine (specIsValidSession_any [.int .i64 x.puzzle.points, .string x.puzzle.names, .slice A2 x.puzzle.moves.length C2, .slice A3 x.state.length C3, .slice A4 x.history.length C4, .slice A5 x.future.length C5] x _ _ (Rp.keep h0 (by with_reducible repeat (first | exact Only.refl _ _ | assumption | refine Only.drewN ?_ _ | refine Only.drew ?_ | refine Only.alloc ?_ _ | refine Only.setCell ?_ (by intro hh; exfalso; simp at hh; try omega) _ | refine Only.trans ?_ (by assumption))))).mono ?_); rintro e w1 ⟨he, t1⟩; rw [hq] at he; subst he; have x1 := t1.cells_eq w.heap.size (by simp; omega) (by simp); have y1 := t1.cells_eq (w.heap.size + 1) (by simp) (by simp); have z1 := t1.frozen_eq (w.heap.size + 1) (by simp) (by simp); have s1 : w.heap.size + 1 < w1.heap.size := (by have := t1.size; simp at this; omega); have K1 : Only [] w w1 := (by with_reducible repeat (first | exact Only.refl _ _ | assumption | refine Only.drewN ?_ _ | refine Only.drew ?_ | refine Only.alloc ?_ _ | refine Only.setCell ?_ (by intro hh; exfalso; simp at hh; try omega) _ | refine Only.trans ?_ (by assumption))))
      | (go_at_call 109; (with_reducible refine (specRM_i x.puzzle.points _ x.puzzle.moves _ seed w1 (Rp.keep h2 K1) Hgs.out hs).mono ?_); rintro e w2 ⟨u3, g5, rfl, r2, F2, t2⟩; rw [← HR.out] at r2; obtain ⟨A6, C6, _, _, rfl, -, -⟩ := r2.open_; have x2 := t2.cells_eq w.heap.size (by omega) (by simp); have y2 := t2.cells_eq (w.heap.size + 1) s1 (by simp); have z2 := t2.frozen_eq (w.heap.size + 1) s1 (by simp); have s2 : w.heap.size + 1 < w2.heap.size := Nat.lt_of_lt_of_le s1 t2.size; have K2 : Only [] w w2 := K1.trans t2)
      | (go_at_call 74; (with_reducible refine (copyPuzzle_any [.int .i64 x.puzzle.points, .string x.puzzle.names, .slice A2 x.puzzle.moves.length C2] x.puzzle _ w2 (Rp.keep k0 K2) hl hl2).mono ?_); rintro e w3 ⟨u4, g6, rfl, r3, F3, t3⟩; have q3 := r3; obtain ⟨u5, rfl, -, -, q4⟩ := q3; obtain ⟨A7, C7, _, _, rfl, -⟩ := q4.open_; have y3 := t3.cells_eq (w.heap.size + 1) s2 (by simp); have z3 := t3.frozen_eq (w.heap.size + 1) s2 (by simp); have s3 : w.heap.size + 1 < w3.heap.size := Nat.lt_of_lt_of_le s2 t3.size)
      | fail "no arm")
    have T3 : Only [] w w3 := K2.trans t3
    have hW : Only [w.heap.size + 1] w3 ((((((w3.setCell ⟨w.heap.size + 1, 0, none⟩ (.int .i64 x.puzzle.points)).setCell ⟨w.heap.size + 1, 1, none⟩ (.string x.puzzle.names)).setCell ⟨w.heap.size + 1, 2, none⟩ (.slice A7 x.puzzle.moves.length C7)).setCell ⟨w.heap.size + 1, 3, none⟩ (.slice A6 R.length C6)).setCell ⟨w.heap.size + 1, 4, none⟩ (.slice none 0 0)).setCell ⟨w.heap.size + 1, 5, none⟩ (.slice none 0 0)) := (by with_reducible repeat (first | exact Only.refl _ _ | assumption | refine Only.drewN ?_ _ | refine Only.drew ?_ | refine Only.alloc ?_ _ | refine Only.setCell ?_ (by intro _; simp) _ | refine Only.trans ?_ (Only.weaken (by assumption) _)))
    have G1 : ∀ b' ∈ g6, w.heap.size + 2 ≤ b' := fun b' hb => by have := F3.ge b' hb; omega
    have G2 : ∀ b' ∈ g5, w.heap.size + 2 ≤ b' := fun b' hb => by have := F2.ge b' hb; omega
    have n1 := Rp.only r3 hW (fun b' hb hm => by have := G1 b' hb; simp at hm; omega)
    have n2 := Rp.only (Rp.keep r2 t3) hW (fun b' hb hm => by have := G2 b' hb; simp at hm; omega)
    have n3 := (Fresh.append (F2.keep t3) F3 t2.size (fun b' hb => F2.lt b' hb)).only hW (fun b' hb hm => by
      simp at hm
      rcases List.mem_append.1 hb with hb | hb
      · have := G2 b' hb; omega
      · have := G1 b' hb; omega)
    have n5 := Fresh.mono (B' := w.heap.size) n3.comm (by omega)
    obtain ⟨_, en1, -, -, n1m⟩ := n1
    injection en1 with _ en1
    injection en1 with _ en1
    injection en1 with en1 _
    subst en1
    refine bodyPost_ret (v := .tuple #[.agg #[.int .i64 x.puzzle.points, .string x.puzzle.names, .slice A7 x.puzzle.moves.length C7, .slice A6 R.length C6, .slice none 0 0, .slice none 0 0], .bool true]) (by simp [results, Tryz.results64, go_sem, y3, y2, y1]) rfl (by rw [Hp.out]; exact SeResA.mk (x := ⟨x.puzzle, R, [], []⟩) (SeP.nil2 ⟨p0, p1⟩ n1m n2 n5) (Only.own1 T3 hW (Nat.le_succ _)))
set_option maxHeartbeats 8000000 in
theorem specNewSession_anyA (cs : List Value) (x : Puzzle) (fp : List Nat) (w : World) (h : Rp.rep w cs x fp) :
    Calls Tryz.prog 60 #[.agg cs.toArray] w (SeResA 27 (newSess x) (validPz x) w) := by
  have h0 := h
  obtain ⟨v2, rfl, p0, p1, h2⟩ := h
  obtain ⟨A2, C2, _, _, rfl, -⟩ := h2.open_
  rcases hq : validPz x
  · have hp : newSess x = noSess := by unfold newSess; rw [if_neg (by simp [hq])]
    have Hp := Lib.hid hp; clear hp
    go_enter Tryz.func60, Tryz.ntmps60
    go_wp2_with ((go_at_call 85; (with_reducible refine (specIsValidPuzzle_any [.int .i64 x.points, .string x.names, .slice A2 x.moves.length C2] x _ _ (Rp.keep h0 (by with_reducible repeat (first | exact Only.refl _ _ | assumption | refine Only.drewN ?_ _ | refine Only.drew ?_ | refine Only.alloc ?_ _ | refine Only.setCell ?_ (by intro hh; exfalso; simp at hh; try omega) _ | refine Only.trans ?_ (by assumption))))).mono ?_); rintro e w1 ⟨rfl, t1⟩; have y1 := t1.cells_eq (w.heap.size + 1) (by simp) (by simp); have z1 := t1.frozen_eq (w.heap.size + 1) (by simp) (by simp); have s1 : w.heap.size + 1 < w1.heap.size := (by have := t1.size; simp at this; omega)))
    exact bodyPost_ret (v := .tuple #[.agg #[.int .i64 0, .string ⟨#[]⟩, .slice none 0 0, .slice none 0 0, .slice none 0 0, .slice none 0 0], .bool false]) (by simp [results, Tryz.results60, go_sem, y1]) rfl (by rw [Hp.out]; exact SeResA.mk (x := noSess) (SeP.no _ _ _) (by with_reducible repeat (first | exact Only.refl _ _ | assumption | refine Only.drewN ?_ _ | refine Only.drew ?_ | refine Only.alloc ?_ _ | refine Only.setCell ?_ (by intro hh; exfalso; simp at hh; try omega) _ | refine Only.trans ?_ (by assumption))))
  have hp : newSess x = ⟨x, PM.pts x.points.toNat, [], []⟩ := by unfold newSess; rw [if_pos hq]
  obtain ⟨g1, g2, g3, g4⟩ := validPz_gens hq
  have hl : x.moves.length ≤ 2097152 := by omega
  have hl2 : ∀ y ∈ x.moves, y.length ≤ 2097152 := fun y hy => by have := (g4 y hy).1; omega
  have Hp := Lib.hid hp; clear hp g4
  go_enter Tryz.func60, Tryz.ntmps60
  go_wp2_with fail
  with_reducible refine (specIsValidPuzzle_any [.int .i64 x.points, .string x.names, .slice A2 x.moves.length C2] x _ _ (Rp.keep h0 (by with_reducible repeat (first | exact Only.refl _ _ | assumption | refine Only.drewN ?_ _ | refine Only.drew ?_ | refine Only.alloc ?_ _ | refine Only.setCell ?_ (by intro hh; exfalso; simp at hh; try omega) _ | refine Only.trans ?_ (by assumption))))).mono ?_
  rintro e w1 ⟨rfl, t1⟩
  have T1 : Only [] w w1 := (by with_reducible repeat (first | exact Only.refl _ _ | assumption | refine Only.drewN ?_ _ | refine Only.drew ?_ | refine Only.alloc ?_ _ | refine Only.setCell ?_ (by intro hh; exfalso; simp at hh; try omega) _ | refine Only.trans ?_ (by assumption)))
  have hB : Blk w1 w.heap.size [.int .i64 x.points, .string x.names, .slice A2 x.moves.length C2] := Blk.keep (Blk.keep (Blk.new_at rfl) ((Only.refl _ _).alloc _)) t1
  have HB := Lib.hid hB; clear hB
  have y1 := t1.cells_eq (w.heap.size + 1) (by simp) (by simp)
  have z1 := t1.frozen_eq (w.heap.size + 1) (by simp) (by simp)
  have s1 : w.heap.size + 1 < w1.heap.size := by have := t1.size; simp at this; omega
  rw [hq]
  go_upto_region 3 with fail
  go_region_held3 (fun w' => Only [w.heap.size + 1] w1 w' ∧ w'.cell? ⟨w.heap.size, 0, none⟩ = some (.int .i64 x.points) ∧ w'.cell? ⟨w.heap.size, 1, none⟩ = some (.string x.names) ∧ w'.cell? ⟨w.heap.size, 2, none⟩ = some (.slice A2 x.moves.length C2)) ((refine and_of ?_ (fun h__ => ⟨(Blk.only HB.out h__ (by simp)).cell 0 rfl, (Blk.only HB.out h__ (by simp)).cell 1 rfl, (Blk.only HB.out h__ (by simp)).cell 2 rfl⟩); first | exact (Only.refl _ _).drew | exact Only.keepThen (And.left (by assumption)) (by assumption) | exact Only.setCell (Only.setCell (Only.setCell (Only.setCell (Only.setCell (Only.setCell (And.left (by assumption)) (by intro _; simp) _) (by intro _; simp) _) (by intro _; simp) _) (by intro _; simp) _) (by intro _; simp) _) (by intro _; simp) _)) (first
    | (go_at_call 74; (with_reducible refine (copyPuzzle_any [.int .i64 x.points, .string x.names, .slice A2 x.moves.length C2] x _ _ (Rp.keep h0 (Only.own1 T1 (And.left (by assumption)) (Nat.le_succ _))) hl hl2).mono ?_); rintro e w2 ⟨u1, f1, rfl, r1, F1, t2⟩; have q1 := r1; obtain ⟨v1, rfl, -, -, k1⟩ := q1; obtain ⟨A1, C1, _, _, rfl, -⟩ := k1.open_; have y2 := t2.cells_eq (w.heap.size + 1) s1 (by simp); have z2 := t2.frozen_eq (w.heap.size + 1) s1 (by simp); have s2 : w.heap.size + 1 < w2.heap.size := Nat.lt_of_lt_of_le s1 t2.size)
    | (go_at_call 59; (with_reducible refine (specIdentity_i x.points _ (by omega) (by omega)).mono ?_); rintro e w3 ⟨u2, f2, rfl, r2, F2, t3⟩; obtain ⟨A2', C2', _, _, rfl, -⟩ := r2.open_; have y3 := t3.cells_eq (w.heap.size + 1) s2 (by simp); have z3 := t3.frozen_eq (w.heap.size + 1) s2 (by simp); have s3 : w.heap.size + 1 < w3.heap.size := Nat.lt_of_lt_of_le s2 t3.size)
    | fail "no arm")
  go_wp2
  have G1 : ∀ b' ∈ f1, w.heap.size + 2 ≤ b' := fun b' hb => by have := F1.ge b' hb; simp at this; omega
  have G2 : ∀ b' ∈ f2, w.heap.size + 2 ≤ b' := fun b' hb => by have := F2.ge b' hb; omega
  have T3 : Only [] w w3 := T1.trans (((Only.refl _ _).drew.trans t2).trans t3)
  have hW : Only [w.heap.size + 1] w3 ((((((w3.setCell ⟨w.heap.size + 1, 0, none⟩ (.int .i64 x.points)).setCell ⟨w.heap.size + 1, 1, none⟩ (.string x.names)).setCell ⟨w.heap.size + 1, 2, none⟩ (.slice A1 x.moves.length C1)).setCell ⟨w.heap.size + 1, 3, none⟩ (.slice A2' (PM.pts x.points.toNat).length C2')).setCell ⟨w.heap.size + 1, 4, none⟩ (.slice none 0 0)).setCell ⟨w.heap.size + 1, 5, none⟩ (.slice none 0 0)) := (by with_reducible repeat (first | exact Only.refl _ _ | assumption | refine Only.drewN ?_ _ | refine Only.drew ?_ | refine Only.alloc ?_ _ | refine Only.setCell ?_ (by intro _; simp) _ | refine Only.trans ?_ (Only.weaken (by assumption) _)))
  have n1 := Rp.only (Rp.keep r1 t3) hW (fun b' hb hm => by have := G1 b' hb; simp at hm; omega)
  have n2 := Rp.only r2 hW (fun b' hb hm => by have := G2 b' hb; simp at hm; omega)
  have n3 := (Fresh.append (F1.keep t3) F2 t2.size (fun b' hb => F1.lt b' hb)).only hW (fun b' hb hm => by
    simp at hm
    rcases List.mem_append.1 hb with hb | hb
    · have := G1 b' hb; omega
    · have := G2 b' hb; omega)
  obtain ⟨_, en1, -, -, n1m⟩ := n1
  injection en1 with _ en1
  injection en1 with _ en1
  injection en1 with en1 _
  subst en1
  exact bodyPost_ret (v := .tuple #[.agg #[.int .i64 x.points, .string x.names, .slice A1 x.moves.length C1, .slice A2' (PM.pts x.points.toNat).length C2', .slice none 0 0, .slice none 0 0], .bool true]) (by simp [results, Tryz.results60, go_sem, y3, y2, y1, s1, s2, s3]) rfl (by rw [Hp.out]; exact SeResA.mk (x := ⟨x, PM.pts x.points.toNat, [], []⟩) (SeP.nil2 ⟨p0, p1⟩ n1m n2 (Fresh.mono n3 (by simp; omega))) (Only.own1 T3 hW (Nat.le_succ _)))
end Go.Proofs.YtajkhdbdkjhilaaGreat
