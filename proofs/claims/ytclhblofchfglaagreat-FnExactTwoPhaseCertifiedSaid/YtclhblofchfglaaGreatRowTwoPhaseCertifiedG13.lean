/- The reference's search of all states (laws 20, 38). The reference's depth of a state, its distance (laws 20, 38). The reference's phases: move subsets, both searches (laws 46, 51, 57, 58). -/
import Derived.Test.YtclhblofchfglaaGreatRowTwoPhaseCertifiedG11
import Derived.Test.YtclhblofchfglaaGreatRowTwoPhaseCertifiedG10
import Derived.Deep.DeepCutAuto
import Derived.Deep.RegionLaw
import Derived.Test.YtclhblofchfglaaGreatRowTwoPhaseCertifiedG12
import Derived.Test.YtclhblofchfglaaGreatRowTwoPhaseCertifiedG5
namespace Go.Proofs.YtclhblofchfglaaGreat
open Go.RowKit
set_option maxRecDepth 10000

theorem expl_from {x : Puzzle} (hv : validPz x = true) {wh : Bool} {L : List (List Int)} {D : List Int} (h : bFrom x 3001 0 ([PM.pts x.points.toNat], [0]) = if wh = true then some (L, D) else none) : expl x = if wh = true then some ⟨PM.pts x.points.toNat, L, D⟩ else none := by
  unfold expl bTab
  rw [bfs16_yes (by rw [hv, pts_track hv]; rfl), h]
  cases wh <;> rfl
/-- v is the search that found the entries of t; its memory lies from B on -/
def SrF (B : Nat) (w : World) (x : Puzzle) (t : Table) (v : Value) : Prop := ∃ A1 A2 A3 C1 C2 C3 so ob fps fd fz, v = .agg #[.slice A1 t.patterns.length C1, .slice A2 t.distances.length C2, .slice A3 (List.length so) C3, .bool true] ∧ SrR w A1 A2 A3 C1 C2 C3 t.patterns t.distances so ob fps fd fz ∧ Srt x.points.toNat t.patterns so ∧ ∀ g ∈ (ob ++ fps.flatten) ++ (fd ++ fz), B ≤ g
theorem SrF.only {B : Nat} {w w' : World} {x : Puzzle} {t : Table} {v : Value} {fp : List Nat} (h : SrF B w x t v) (ho : Only fp w w') (hd : ∀ g ∈ fp, g < B) : SrF B w' x t v := by
  obtain ⟨A1, A2, A3, C1, C2, C3, so, ob, fps, fd, fz, h1, h2, h3, h4⟩ := h
  exact ⟨A1, A2, A3, C1, C2, C3, so, ob, fps, fd, fz, h1, h2.only ho (fun g hg hm => by have := h4 g hg; have := hd g hm; omega), h3, h4⟩
theorem SrF.keep {B : Nat} {w w' : World} {x : Puzzle} {t : Table} {v : Value} (h : SrF B w x t v) (ho : Only [] w w') : SrF B w' x t v := h.only ho (by simp)
theorem SrF.mono {B B' : Nat} {w : World} {x : Puzzle} {t : Table} {v : Value} (h : SrF B w x t v) (hB : B' ≤ B) : SrF B' w x t v := by
  obtain ⟨A1, A2, A3, C1, C2, C3, so, ob, fps, fd, fz, h1, h2, h3, h4⟩ := h
  exact ⟨A1, A2, A3, C1, C2, C3, so, ob, fps, fd, fz, h1, h2, h3, fun g hg => Nat.le_trans hB (h4 g hg)⟩
theorem SrR.lt {w : World} {A1 A2 A3 : Option Addr} {C1 C2 C3 : Nat} {L : List (List Int)} {D : List Int} {so : List Nat} {ob : List Nat} {fps : List (List Nat)} {fd fs : List Nat} (h : SrR w A1 A2 A3 C1 C2 C3 L D so ob fps fd fs) : ∀ g ∈ (ob ++ fps.flatten) ++ (fd ++ fs), g < w.heap.size := fun g hg => by
  rcases List.mem_append.1 hg with hg | hg
  · exact h.ls.lt_all g hg
  · rcases List.mem_append.1 hg with hg | hg
    · exact h.dp.lt g hg
    · exact h.st.lt g hg
/-- the search's variable behind the search of all states -/
def SS1 (W wx : World) (x : Puzzle) (s4 : Value) : Prop :=
  ∃ g A1 A2 A3 C1 C2 C3 wh L D so ob fps fd fz, s4 = .pointer (some ⟨g, 0, none⟩) ∧ Blk wx g [.slice A1 (List.length L) C1, .slice A2 (List.length D) C2, .slice A3 (List.length so) C3, .bool wh] ∧ SrR wx A1 A2 A3 C1 C2 C3 L D so ob fps fd fz ∧
    (expl x = if wh = true then some ⟨PM.pts x.points.toNat, L, D⟩ else none) ∧ Srt x.points.toNat L so ∧ (∀ g' ∈ (ob ++ fps.flatten) ++ (fd ++ fz), W.heap.size ≤ g') ∧ Only [] W wx ∧ W.heap.size ≤ g
section
variable {W w5 : World} {x : Puzzle} {g : Nat} {A1 A2 A3 : Option Addr} {C1 C2 C3 : Nat} {wh : Bool} {L : List (List Int)} {D : List Int} {so : List Nat} {ob : List Nat} {fps : List (List Nat)} {fd fz : List Nat} {cs : List Value} {e : TypeId}
theorem SS1.of (hz : Blk w5 g cs) (hcs : cs.length = 4) (hK : Only [] W w5) (hr : SrR w5 A1 A2 A3 C1 C2 C3 L D so ob fps fd fz) (he : expl x = if wh = true then some ⟨PM.pts x.points.toNat, L, D⟩ else none) (hs : Srt x.points.toNat L so)
    (hb : ∀ g' ∈ (ob ++ fps.flatten) ++ (fd ++ fz), W.heap.size ≤ g') (hg : ∀ g' ∈ (ob ++ fps.flatten) ++ (fd ++ fz), g' ≠ g) (hW : W.heap.size ≤ g) :
    SS1 W ((((w5.setCell ⟨g, 0, none⟩ (.slice A1 L.length C1)).setCell ⟨g, 1, none⟩ (.slice A2 D.length C2)).setCell ⟨g, 2, none⟩ (.slice A3 so.length C3)).setCell ⟨g, 3, none⟩ (.bool wh)) x (.pointer (some ⟨g, 0, none⟩)) := by
  have ho : Only [g] w5 ((((w5.setCell ⟨g, 0, none⟩ (.slice A1 L.length C1)).setCell ⟨g, 1, none⟩ (.slice A2 D.length C2)).setCell ⟨g, 2, none⟩ (.slice A3 so.length C3)).setCell ⟨g, 3, none⟩ (.bool wh)) := ((((Only.refl _ _).setCell (by simp) _).setCell (by simp) _).setCell (by simp) _).setCell (by simp) _
  have hbk := (((hz.set 0 (.slice A1 L.length C1)).set 1 (.slice A2 D.length C2)).set 2 (.slice A3 so.length C3)).set 3 (.bool wh)
  refine ⟨g, A1, A2, A3, C1, C2, C3, wh, L, D, so, ob, fps, fd, fz, rfl, ?_, hr.only ho (fun b hm hq => hg b hm (by simpa using hq)), he, hs, hb, hK.then_ ho (by intro b hm hl; simp at hm; omega), hW⟩
  obtain ⟨u0, u1, u2, u3, rfl⟩ : ∃ u0 u1 u2 u3, cs = [u0, u1, u2, u3] := by
    match cs, hcs with
    | [u0, u1, u2, u3], _ => exact ⟨u0, u1, u2, u3, rfl⟩
  simpa only [List.set] using hbk
theorem SS1.of2 (hK : Only [] W w5) (hr : SrR w5 A1 A2 A3 C1 C2 C3 L D so ob fps fd fz) (he : expl x = if wh = true then some ⟨PM.pts x.points.toNat, L, D⟩ else none) (hs : Srt x.points.toNat L so)
    (hb : ∀ g' ∈ (ob ++ fps.flatten) ++ (fd ++ fz), W.heap.size ≤ g') (hg : g = w5.heap.size) :
    SS1 W (w5.alloc (.cells #[.slice A1 L.length C1, .slice A2 D.length C2, .slice A3 so.length C3, .bool wh] e)) x (.pointer (some ⟨g, 0, none⟩)) := by
  subst hg
  have ho : Only [] w5 (w5.alloc (.cells #[.slice A1 L.length C1, .slice A2 D.length C2, .slice A3 so.length C3, .bool wh] e)) := (Only.refl _ _).alloc _
  exact ⟨_, A1, A2, A3, C1, C2, C3, wh, L, D, so, ob, fps, fd, fz, rfl, Blk.new w5 [.slice A1 L.length C1, .slice A2 D.length C2, .slice A3 so.length C3, .bool wh] e, hr.keep ho, he, hs, hb, hK.trans ho, hK.size⟩
end
set_option maxHeartbeats 4000000 in
theorem searchStates_any (cs : List Value) (x : Puzzle) (fp : List Nat) (w : World) (h : Rp.rep w cs x fp) :
    Calls Tryz.prog 109 #[.agg cs.toArray] w fun e w' => ((expl x = none ∧ ∃ A1 n1 C1 A2 n2 C2 A3 n3 C3 wh,  e = .returned (.tuple #[.agg #[.slice A1 n1 C1, .slice A2 n2 C2, .slice A3 n3 C3, .bool wh], .bool false])) ∨ (∃ t, expl x = some t ∧ ∃ v, e = .returned (.tuple #[v, .bool true]) ∧ SrF w.heap.size w' x t v)) ∧ Only [] w w' := by
  have h0 := h
  obtain ⟨v2, rfl, p0, p1, h2⟩ := h
  obtain ⟨A2, C2, _, _, rfl, -, -⟩ := h2.open_
  clear h2 p0 p1
  have X0 : Blk ((w.alloc (.cells #[.int .i64 x.points, .string x.names, .slice A2 x.moves.length C2] 33)).alloc (.cells #[.slice none 0 0, .slice none 0 0, .slice none 0 0, .bool false] 85)) w.heap.size [.int .i64 x.points, .string x.names, .slice A2 x.moves.length C2] := (Blk.new w [.int .i64 x.points, .string x.names, .slice A2 x.moves.length C2] 33).keep ((Only.refl _ _).alloc _)
  have Y0 : Blk ((w.alloc (.cells #[.int .i64 x.points, .string x.names, .slice A2 x.moves.length C2] 33)).alloc (.cells #[.slice none 0 0, .slice none 0 0, .slice none 0 0, .bool false] 85)) (w.heap.size + 1) [.slice none 0 0, .slice none 0 0, .slice none 0 0, .bool false] := Blk.new_at (by simp)
  rcases hq : validPz x
  · have Hn := Lib.hid (expl_none hq)
    have Hq := Lib.hid hq
    clear hq
    go_enter Tryz.func109, Tryz.ntmps109
    go_wp2_with (first
      | (go_at_call 81; (with_reducible refine (specIsValidPuzzle_any [.int .i64 x.points, .string x.names, .slice A2 x.moves.length C2] x _ _ (Rp.keep h0 (by with_reducible repeat (first | exact Only.refl _ _ | assumption | refine Only.drewN ?_ _ | refine Only.drew ?_ | refine Only.alloc ?_ _ | refine Only.setCell ?_ (by intro hh; exfalso; simp at hh; try omega) _ | refine Only.trans ?_ (by assumption))))).mono ?_); rintro e w1 ⟨he, t1⟩; rw [Hq.out] at he; subst he; have Y1 := Y0.keep t1; have g0 := Y1.cell 0 rfl; have g1 := Y1.cell 1 rfl; have g2 := Y1.cell 2 rfl; have g3 := Y1.cell 3 rfl; have p0 := Y1.frozen 0; have p1 := Y1.frozen 1; have p2 := Y1.frozen 2; have p3 := Y1.frozen 3)
      | fail "no arm")
    have K1 : Only [] w w1 := (by with_reducible repeat (first | exact Only.refl _ _ | assumption | refine Only.drewN ?_ _ | refine Only.drew ?_ | refine Only.alloc ?_ _ | refine Only.setCell ?_ (by intro hh; exfalso; simp at hh; try omega) _ | refine Only.trans ?_ (by assumption)))
    have Yf := (((Y1.set 0 (.slice none 0 0)).set 1 (.slice none 0 0)).set 2 (.slice none 0 0)).set 3 (.bool false)
    have kf : Only [] w ((((w1.setCell ⟨w.heap.size + 1, 0, none⟩ (.slice none 0 0)).setCell ⟨w.heap.size + 1, 1, none⟩ (.slice none 0 0)).setCell ⟨w.heap.size + 1, 2, none⟩ (.slice none 0 0)).setCell ⟨w.heap.size + 1, 3, none⟩ (.bool false)) := K1.then_ (((((Only.refl [w.heap.size + 1] w1).setCell (by simp) _).setCell (by simp) _).setCell (by simp) _).setCell (by simp) _) (by simp)
    obtain ⟨wf, hwf⟩ : ∃ wf, wf = ((((w1.setCell ⟨w.heap.size + 1, 0, none⟩ (.slice none 0 0)).setCell ⟨w.heap.size + 1, 1, none⟩ (.slice none 0 0)).setCell ⟨w.heap.size + 1, 2, none⟩ (.slice none 0 0)).setCell ⟨w.heap.size + 1, 3, none⟩ (.bool false)) := ⟨_, rfl⟩
    rw [← hwf] at Yf kf ⊢
    simp only [List.set] at Yf
    clear hwf g0 g1 g2 g3 p0 p1 p2 p3
    have r0 := Yf.cell 0 rfl
    have r1 := Yf.cell 1 rfl
    have r2 := Yf.cell 2 rfl
    have r3 := Yf.cell 3 rfl
    exact bodyPost_ret (v := .tuple #[.agg #[.slice none 0 0, .slice none 0 0, .slice none 0 0, .bool false], .bool false]) (by simp [results, Tryz.results109, go_sem, r0, r1, r2, r3]) rfl ⟨.inl ⟨Hn.out, _, _, _, _, _, _, _, _, _, _, rfl⟩, kf⟩
  · have hf := validPz_facts hq
    obtain ⟨hp1, hp20, -, -⟩ := hf
    have Hq := Lib.hid hq
    have hpt := trackB_pat (pts_track hq)
    have Hp := Lib.hid hpt
    have hpl : (PM.pts x.points.toNat).length ≤ 1000 := by rw [PM.pts_len]; omega
    have Hpl := Lib.hid hpl
    clear hq hpt hpl
    go_enter Tryz.func109, Tryz.ntmps109
    go_upto_region 3 with (first
      | (go_at_call 81; (with_reducible refine (specIsValidPuzzle_any [.int .i64 x.points, .string x.names, .slice A2 x.moves.length C2] x _ _ (Rp.keep h0 (by with_reducible repeat (first | exact Only.refl _ _ | assumption | refine Only.drewN ?_ _ | refine Only.drew ?_ | refine Only.alloc ?_ _ | refine Only.setCell ?_ (by intro hh; exfalso; simp at hh; try omega) _ | refine Only.trans ?_ (by assumption))))).mono ?_); rintro e w1 ⟨he, t1⟩; rw [Hq.out] at he; subst he)
      | fail "no arm")
    have X1 := X0.keep t1
    have Y1 := Y0.keep t1
    have K1 : Only [] w w1 := (by with_reducible repeat (first | exact Only.refl _ _ | assumption | refine Only.drewN ?_ _ | refine Only.drew ?_ | refine Only.alloc ?_ _ | refine Only.setCell ?_ (by intro hh; exfalso; simp at hh; try omega) _ | refine Only.trans ?_ (by assumption)))
    have hs1 : w.heap.size + 2 ≤ w1.heap.size := by have := t1.size; simp at this; omega
    have g0 := X1.cell 0 rfl
    have g1 := X1.cell 1 rfl
    have g2 := X1.cell 2 rfl
    have ka := (Only.refl [] w1).alloc (.cells #[.slice none 0 0, .slice none 0 0, .slice none 0 0, .bool false] 85)
    have ga0 := ka.cell (by simp) g0
    have ga1 := ka.cell (by simp) g1
    have ga2 := ka.cell (by simp) g2
    clear X0 Y0 t1
    have hc4 : ([.slice none 0 0, .slice none 0 0, .slice none 0 0, .bool false] : List Value).length = 4 := rfl
    go_cut [4] (fun s4 wx => SS1 w1 wx x s4)
    case first =>
      go_region_law (first
        | (go_simp; go_at_call 156; (with_reducible refine (specIdentity_i x.points _ (by omega) (by omega)).mono ?_); rintro e w5 ⟨v5, f5, rfl, r5, F5, t5⟩; have hz5 := t5.size; (try simp at hz5); have X5 := X1.keep ((by with_reducible repeat (first | exact Only.refl _ _ | assumption | refine Only.drew ?_ | refine Only.alloc ?_ _ | refine Only.trans ?_ (by assumption))) : Only [] w1 w5); have q0 := X5.cell 0 rfl; have q1 := X5.cell 1 rfl; have q2 := X5.cell 2 rfl; have kb := (Only.refl [] w5).alloc (.cells #[.slice none 0 0, .slice none 0 0, .slice none 0 0, .bool false] 85); have qa0 := kb.cell (by simp) q0; have qa1 := kb.cell (by simp) q1; have qa2 := kb.cell (by simp) q2)
        | (go_simp; go_at_call 155; (with_reducible refine (searchFrom_srt [.int .i64 x.points, .string x.names, .slice A2 x.moves.length C2] x _ _ (PM.pts x.points.toNat) _ _ (Rp.keep h0 (by with_reducible repeat (first | exact Only.refl _ _ | assumption | refine Only.drewN ?_ _ | refine Only.drew ?_ | refine Only.alloc ?_ _ | refine Only.setCell ?_ (by intro hh; exfalso; simp at hh; try omega) _ | refine Only.trans ?_ (by assumption)))) (Rp.keep r5 (by with_reducible repeat (first | exact Only.refl _ _ | assumption | refine Only.drewN ?_ _ | refine Only.drew ?_ | refine Only.alloc ?_ _ | refine Only.setCell ?_ (by intro hh; exfalso; simp at hh; try omega) _ | refine Only.trans ?_ (by assumption)))) Hq.out Hp.out Hpl.out).mono ?_); rintro e w2 ⟨B1, B2, B3, D1, D2, D3, n3, wh, L, D, fL, fD, rfl, o1, o2, o3, t2, o4, o5, o6, o7, so, ob, fps, fd, fz, o8, o9, o10, o11⟩; have O3 := Lib.hid (expl_from Hq.out o3); have O10 := Lib.hid o10; have O11 := Lib.hid o11; subst o8; clear o3 o10 o11 o1 o2 o4 o5 o6 o7; have hz2 := t2.size; (try simp at hz2); first
        | (have Z := ((Blk.new w1 [.slice none 0 0, .slice none 0 0, .slice none 0 0, .bool false] 85).keep t5).keep t2; have g0 := Z.cell 0 rfl; have g1 := Z.cell 1 rfl; have g2 := Z.cell 2 rfl; have g3 := Z.cell 3 rfl; have p0 := Z.frozen 0; have p1 := Z.frozen 1; have p2 := Z.frozen 2; have p3 := Z.frozen 3)
        | (have Z := (((Blk.new w1 [.slice none 0 0, .slice none 0 0, .slice none 0 0, .bool false] 85).keep ((Only.refl [] _).drew)).keep t5).keep t2; have g0 := Z.cell 0 rfl; have g1 := Z.cell 1 rfl; have g2 := Z.cell 2 rfl; have g3 := Z.cell 3 rfl; have p0 := Z.frozen 0; have p1 := Z.frozen 1; have p2 := Z.frozen 2; have p3 := Z.frozen 3)
        | (have Z := ((Blk.new w5 [.slice none 0 0, .slice none 0 0, .slice none 0 0, .bool false] 85)).keep t2; have g0 := Z.cell 0 rfl; have g1 := Z.cell 1 rfl; have g2 := Z.cell 2 rfl; have g3 := Z.cell 3 rfl; have p0 := Z.frozen 0; have p1 := Z.frozen 1; have p2 := Z.frozen 2; have p3 := Z.frozen 3)
        | (have Z := ((Blk.new w5 [.slice none 0 0, .slice none 0 0, .slice none 0 0, .bool false] 85).keep ((Only.refl [] _).drew)).keep t2; have g0 := Z.cell 0 rfl; have g1 := Z.cell 1 rfl; have g2 := Z.cell 2 rfl; have g3 := Z.cell 3 rfl; have p0 := Z.frozen 0; have p1 := Z.frozen 1; have p2 := Z.frozen 2; have p3 := Z.frozen 3)
        | (have Z := Blk.new w2 [.slice none 0 0, .slice none 0 0, .slice none 0 0, .bool false] 85; have g0 := Z.cell 0 rfl; have g1 := Z.cell 1 rfl; have g2 := Z.cell 2 rfl; have g3 := Z.cell 3 rfl; have p0 := Z.frozen 0; have p1 := Z.frozen 1; have p2 := Z.frozen 2; have p3 := Z.frozen 3))
        | fail "no arm")
      all_goals go_wp2_with fail
      all_goals go_meet
      all_goals have KK5 : Only [] w1 w2 := (by with_reducible repeat (first | exact Only.refl _ _ | assumption | refine Only.drew ?_ | refine Only.alloc ?_ _ | refine Only.trans ?_ (by assumption)))
      all_goals have hK2 : w1.heap.size ≤ w5.heap.size := (by omega)
      all_goals have hbb : ∀ g' ∈ (ob ++ fps.flatten) ++ (fd ++ fz), w1.heap.size ≤ g' := (fun g' hg' => by have := O11.out g' hg'; first | omega | (simp at this; omega))
      all_goals have h10 := O10.out
      all_goals rw [PM.pts_len] at h10
      all_goals first
        | with_reducible exact SS1.of2 KK5 o9 O3.out h10 hbb rfl
        | with_reducible exact SS1.of Z hc4 KK5 o9 O3.out h10 hbb (fun g' hg' e' => by have := O11.out g' hg'; first | omega | (simp at this; omega)) (by omega)
    case rest =>
      have q7 := hcut
      clear hcut
      obtain ⟨b, B1, B2, B3, D1, D2, D3, wh, L, D, so, ob, fps, fd, fz, rfl, B4, o9', o3, o10, o11, K3', hbw⟩ := q7
      have O3 := Lib.hid o3
      have O10 := Lib.hid o10
      have K3 := K1.trans K3'
      have Y1 := Y1.keep K3'
      have hne : b ≠ w.heap.size + 1 := by omega
      have c0 := B4.cell 0 rfl
      have c1 := B4.cell 1 rfl
      have c2 := B4.cell 2 rfl
      have c3 := B4.cell 3 rfl
      clear o3 o10 g0 g1 g2 ga0 ga1 ga2 ka
      have g0 := Y1.cell 0 rfl
      have g1 := Y1.cell 1 rfl
      have g2 := Y1.cell 2 rfl
      have g3 := Y1.cell 3 rfl
      have p0 := Y1.frozen 0
      have p1 := Y1.frozen 1
      have p2 := Y1.frozen 2
      have p3 := Y1.frozen 3
      have Yf := (((Y1.set 0 (.slice B1 L.length D1)).set 1 (.slice B2 D.length D2)).set 2 (.slice B3 so.length D3)).set 3 (.bool wh)
      simp only [List.set] at Yf
      have r0 := Yf.cell 0 rfl
      have r1 := Yf.cell 1 rfl
      have r2 := Yf.cell 2 rfl
      have r3 := Yf.cell 3 rfl
      have hno : ∀ g ∈ (ob ++ fps.flatten) ++ (fd ++ fz), g ∉ [w.heap.size + 1] := fun g hg hm => by have := o11 g hg; simp at hm; omega
      have hpost : ∀ wf, Only [w.heap.size + 1] wc wf → (((expl x = none ∧ ∃ A1 n1 C1 A2 n2 C2 A3 n3 C3 wh', (Ending.returned (.tuple #[.agg #[.slice B1 L.length D1, .slice B2 D.length D2, .slice B3 so.length D3, .bool wh], .bool wh]) : Ending) = .returned (.tuple #[.agg #[.slice A1 n1 C1, .slice A2 n2 C2, .slice A3 n3 C3, .bool wh'], .bool false])) ∨ (∃ t, expl x = some t ∧ ∃ v, (Ending.returned (.tuple #[.agg #[.slice B1 L.length D1, .slice B2 D.length D2, .slice B3 so.length D3, .bool wh], .bool wh]) : Ending) = .returned (.tuple #[v, .bool true]) ∧ SrF w.heap.size wf x t v)) ∧ Only [] w wf) := fun wf ho => by
        refine ⟨?_, K3.then_ ho (by simp)⟩
        have h3 := O3.out
        have h10 := O10.out
        cases wh with
        | false => exact .inl ⟨by simpa using h3, _, _, _, _, _, _, _, _, _, _, rfl⟩
        | true => exact .inr ⟨⟨PM.pts x.points.toNat, L, D⟩, by simpa using h3, _, rfl, B1, B2, B3, D1, D2, D3, so, ob, fps, fd, fz, rfl, o9'.only ho hno, h10, fun g hg => Nat.le_trans K1.size (o11 g hg)⟩
      have Hpost := Lib.hid hpost
      clear hpost
      go_wp2
      go_region
      all_goals go_wp2
      all_goals exact bodyPost_ret (v := .tuple #[.agg #[.slice B1 L.length D1, .slice B2 D.length D2, .slice B3 so.length D3, .bool wh], .bool wh]) (by simp [results, Tryz.results109, go_sem, r0, r1, r2, r3]) rfl (Hpost.out _ (by with_reducible repeat (first | exact Only.refl _ _ | refine Only.drew ?_ | refine Only.setCell ?_ (by simp) _)))
end Go.Proofs.YtclhblofchfglaaGreat

namespace Go.Proofs.YtclhblofchfglaaGreat
open Go.RowKit
set_option maxRecDepth 10000

theorem searchIndex_yes (A1 A2 A3 : Option Addr) (C1 C2 C3 : Nat) (wh : Bool) (L : List (List Int)) (D : List Int) (so : List Nat) (ob : List Nat) (fps : List (List Nat)) (fd fs : List Nat) (m : Nat) (v : Value) (s : List Int) (f : List Nat) (w : World)
    (h : SrR w A1 A2 A3 C1 C2 C3 L D so ob fps fd fs) (hS : Srt m L so) (hv : Rd w v s f) (hs : s.length = m) (hL : L.length ≤ 3000) (i : Nat) (hi : i < L.length) (hg : L.getD i [] = s) (hnd : L.Nodup) :
    Calls Tryz.prog 126 #[.agg #[.slice A1 L.length C1, .slice A2 D.length C2, .slice A3 so.length C3, .bool wh], v] w fun e w' => e = .returned (.int .i64 i) ∧ Only [] w w' := by
  refine (searchIndex_at A1 A2 A3 C1 C2 C3 wh L D so ob fps fd fs m v s f w h hS hv hs hL).mono ?_
  rintro e w' ⟨r, rfl, h1, h2, h3⟩
  have hm : s ∈ L := by rw [← hg, getD_get hi]; exact List.getElem_mem hi
  rcases h2 with rfl | ⟨k, rfl, hk, hg2⟩
  · have := h1.2 hm; omega
  · rw [getD_get hk] at hg2
    rw [getD_get hi] at hg
    have := nodup_at hnd hk hi (hg2.trans hg.symm)
    subst this
    exact ⟨rfl, h3⟩
theorem searchIndex_no (A1 A2 A3 : Option Addr) (C1 C2 C3 : Nat) (wh : Bool) (L : List (List Int)) (D : List Int) (so : List Nat) (ob : List Nat) (fps : List (List Nat)) (fd fs : List Nat) (m : Nat) (v : Value) (s : List Int) (f : List Nat) (w : World)
    (h : SrR w A1 A2 A3 C1 C2 C3 L D so ob fps fd fs) (hS : Srt m L so) (hv : Rd w v s f) (hs : s.length = m) (hL : L.length ≤ 3000) (hn : s ∉ L) :
    Calls Tryz.prog 126 #[.agg #[.slice A1 L.length C1, .slice A2 D.length C2, .slice A3 so.length C3, .bool wh], v] w fun e w' => e = .returned (.int .i64 (-1)) ∧ Only [] w w' := by
  refine (searchIndex_at A1 A2 A3 C1 C2 C3 wh L D so ob fps fd fs m v s f w h hS hv hs hL).mono ?_
  rintro e w' ⟨r, rfl, h1, h2, h3⟩
  rcases h2 with rfl | ⟨k, rfl, hk, hg2⟩
  · exact ⟨rfl, h3⟩
  · exact absurd (h1.1 (by omega)) hn
/-- the depth of a list that a search has met, -1 if it has not -/
def depT (t : Table) (s : List Int) : Int := if s ∈ t.patterns then atD t (idxL t.patterns s) else -1
theorem depT_yes {x : Puzzle} {t : Table} (hb : Built x t) {i : Nat} (hi : i < t.patterns.length) : depT t (t.patterns.getD i []) = t.distances.getD i 0 := by
  unfold depT
  rw [if_pos (by rw [getD_get hi]; exact List.getElem_mem hi), hb.idx hi]
  unfold atD
  rw [Int.toNat_natCast]
theorem depT_no {t : Table} {s : List Int} (h : s ∉ t.patterns) : depT t s = -1 := if_neg h
set_option maxHeartbeats 2000000 in
theorem depthOf_any (x : Puzzle) (t : Table) (v u : Value) (s : List Int) (f : List Nat) (w : World) {B : Nat} (h : SrF B w x t v) (hb : Built x t) (hu : Rd w u s f) (hs : s.length = x.points.toNat) :
    Calls Tryz.prog 134 #[v, u] w fun e w' => e = .returned (.int .i64 (depT t s)) ∧ Only [] w w' := by
  obtain ⟨A1, A2, A3, C1, C2, C3, so, ob, fps, fd, fz, rfl, hR, hS, -⟩ := h
  have hL := hb.ll
  have hdl : t.distances.length = t.patterns.length := hb.bi.dl
  have hnd : t.patterns.Nodup := hb.bi.nd
  have HS := Lib.hid hS
  have Hnd := Lib.hid hnd
  have Hb := Lib.hid hb
  have Hs := Lib.hid hs
  have Hdl := Lib.hid hdl
  clear hS hnd hb hs hdl
  have hB := Blk.new w [.slice A1 t.patterns.length C1, .slice A2 t.distances.length C2, .slice A3 so.length C3, .bool true] 85
  by_cases hm : s ∈ t.patterns
  · obtain ⟨i, hi, e⟩ := List.getElem_of_mem hm
    have hg : t.patterns.getD i [] = s := by rw [getD_get hi, e]
    have hd := depT_yes Hb.out hi
    rw [hg] at hd
    have hid : i < t.distances.length := by rw [Hdl.out]; exact hi
    obtain ⟨b2, off2, rfl, -, hc0⟩ := hR.dp.at_ i hid
    have hdv : t.distances.getD i 0 = t.distances[i] := getD_get hid
    have Hd := Lib.hid (hd.trans hdv)
    have Hg := Lib.hid hg
    clear hm e hg hd hdv
    go_enter Tryz.func134, Tryz.ntmps134
    go_wp2_with (first
      | (go_at_call 126; (with_reducible refine (searchIndex_yes A1 (some ⟨b2, off2, none⟩) A3 C1 C2 C3 true t.patterns t.distances so ob fps fd fz x.points.toNat _ s f _ (hR.keep (by with_reducible repeat (first | exact Only.refl _ _ | assumption | refine Only.drewN ?_ _ | refine Only.drew ?_ | refine Only.alloc ?_ _ | refine Only.setCell ?_ (by intro hh; exfalso; simp at hh; try omega) _ | refine Only.trans ?_ (by assumption)))) HS.out (Rp.keep hu (by with_reducible repeat (first | exact Only.refl _ _ | assumption | refine Only.drewN ?_ _ | refine Only.drew ?_ | refine Only.alloc ?_ _ | refine Only.setCell ?_ (by intro hh; exfalso; simp at hh; try omega) _ | refine Only.trans ?_ (by assumption)))) Hs.out hL i hi Hg.out Hnd.out).mono ?_); rintro e w1 ⟨rfl, t1⟩; have y1 := (hB.keep t1).cell 1 rfl; have y2 := (((Only.refl [] w).alloc _).trans t1).cell (by simp) hc0)
      | fail "no arm")
    go_ret
    exact ⟨ret_int Hd.out.symm, (by with_reducible repeat (first | exact Only.refl _ _ | assumption | refine Only.drewN ?_ _ | refine Only.drew ?_ | refine Only.alloc ?_ _ | refine Only.setCell ?_ (by intro hh; exfalso; simp at hh; try omega) _ | refine Only.trans ?_ (by assumption)))⟩
  · have Hd := Lib.hid (depT_no hm)
    have Hm := Lib.hid hm
    clear hm
    go_enter Tryz.func134, Tryz.ntmps134
    go_wp2_with (first
      | (go_at_call 126; (with_reducible refine (searchIndex_no A1 A2 A3 C1 C2 C3 true t.patterns t.distances so ob fps fd fz x.points.toNat _ s f _ (hR.keep (by with_reducible repeat (first | exact Only.refl _ _ | assumption | refine Only.drewN ?_ _ | refine Only.drew ?_ | refine Only.alloc ?_ _ | refine Only.setCell ?_ (by intro hh; exfalso; simp at hh; try omega) _ | refine Only.trans ?_ (by assumption)))) HS.out (Rp.keep hu (by with_reducible repeat (first | exact Only.refl _ _ | assumption | refine Only.drewN ?_ _ | refine Only.drew ?_ | refine Only.alloc ?_ _ | refine Only.setCell ?_ (by intro hh; exfalso; simp at hh; try omega) _ | refine Only.trans ?_ (by assumption)))) Hs.out hL Hm.out).mono ?_); rintro e w1 ⟨rfl, t1⟩; have y1 := (hB.keep t1).cell 1 rfl)
      | fail "no arm")
    go_ret
    exact ⟨ret_int Hd.out.symm, (by with_reducible repeat (first | exact Only.refl _ _ | assumption | refine Only.drewN ?_ _ | refine Only.drew ?_ | refine Only.alloc ?_ _ | refine Only.setCell ?_ (by intro hh; exfalso; simp at hh; try omega) _ | refine Only.trans ?_ (by assumption)))⟩
theorem searchStates_no (cs : List Value) (x : Puzzle) (fp : List Nat) (w : World) (h : Rp.rep w cs x fp) (he : expl x = none) :
    Calls Tryz.prog 109 #[.agg cs.toArray] w fun e w' => ∃ A1 n1 C1 A2 n2 C2 A3 n3 C3 wh, e = .returned (.tuple #[.agg #[.slice A1 n1 C1, .slice A2 n2 C2, .slice A3 n3 C3, .bool wh], .bool false]) ∧ Only [] w w' := by
  refine (searchStates_any cs x fp w h).mono ?_
  rintro e w' ⟨⟨-, A1, n1, C1, A2, n2, C2, A3, n3, C3, wh, rfl⟩ | ⟨t, h1, -⟩, ho⟩
  · exact ⟨A1, n1, C1, A2, n2, C2, A3, n3, C3, wh, rfl, ho⟩
  · rw [he] at h1; cases h1
theorem searchStates_yes (cs : List Value) (x : Puzzle) (t : Table) (fp : List Nat) (w : World) (h : Rp.rep w cs x fp) (he : expl x = some t) :
    Calls Tryz.prog 109 #[.agg cs.toArray] w fun e w' => ∃ A1 n1 C1 A2 n2 C2 A3 n3 C3 wh, e = .returned (.tuple #[.agg #[.slice A1 n1 C1, .slice A2 n2 C2, .slice A3 n3 C3, .bool wh], .bool true]) ∧ SrF w.heap.size w' x t (.agg #[.slice A1 n1 C1, .slice A2 n2 C2, .slice A3 n3 C3, .bool wh]) ∧ Only [] w w' := by
  refine (searchStates_any cs x fp w h).mono ?_
  rintro e w' ⟨⟨h1, -⟩ | ⟨t', h1, v, rfl, h2⟩, ho⟩
  · rw [he] at h1; cases h1
  · rw [he] at h1
    injection h1 with h1
    subst h1
    have h3 := h2
    obtain ⟨A1, A2, A3, C1, C2, C3, so, ob, fps, fd, fz, rfl, -⟩ := h3
    exact ⟨_, _, _, _, _, _, _, _, _, _, rfl, h2, ho⟩
theorem store4 {w1 : World} {r : Nat} {o0 o1 o2 o3 : Value} (hR : Blk w1 r [o0, o1, o2, o3]) (a b c d : Value) :
    Blk ((((w1.setCell ⟨r, 0, none⟩ a).setCell ⟨r, 1, none⟩ b).setCell ⟨r, 2, none⟩ c).setCell ⟨r, 3, none⟩ d) r [a, b, c, d] ∧
    Only [r] w1 ((((w1.setCell ⟨r, 0, none⟩ a).setCell ⟨r, 1, none⟩ b).setCell ⟨r, 2, none⟩ c).setCell ⟨r, 3, none⟩ d) := by
  refine ⟨?_, ((((Only.refl _ _).setCell (by simp) _).setCell (by simp) _).setCell (by simp) _).setCell (by simp) _⟩
  exact (((hR.set 0 a).set 1 b).set 2 c).set 3 d
end Go.Proofs.YtclhblofchfglaaGreat

namespace Go.Proofs.YtclhblofchfglaaGreat
open Go.RowKit
set_option maxRecDepth 10000

set_option maxHeartbeats 1000000 in
theorem specIsMoveSubset_any (cs : List Value) (x : Puzzle) (fp : List Nat) (v : Value) (sub : List Int) (fs0 : List Nat) (w : World) (h : Rp.rep w cs x fp) (hs : Rd w v sub fs0) :
    Calls Tryz.prog 124 #[.agg cs.toArray, v] w fun e w' => e = .returned (.bool (validPz x && trackB x.moves.length sub)) ∧ Only [] w w' := by
  have h0 := h
  obtain ⟨v2, rfl, p0, p1, h2⟩ := h
  have X0 : Blk (w.alloc (.cells #[.int .i64 x.points, .string x.names, v2] 33)) w.heap.size [.int .i64 x.points, .string x.names, v2] := Blk.new w [.int .i64 x.points, .string x.names, v2] 33
  rcases hv : validPz x
  · have Hv := Lib.hid hv
    clear hv p0 p1
    go_enter Tryz.func124, Tryz.ntmps124
    go_wp2_with (first
      | (go_at_call 81; (with_reducible refine (specIsValidPuzzle_any [.int .i64 x.points, .string x.names, v2] x _ _ (Rp.keep h0 (by with_reducible repeat (first | exact Only.refl _ _ | assumption | refine Only.drewN ?_ _ | refine Only.drew ?_ | refine Only.alloc ?_ _ | refine Only.setCell ?_ (by intro hh; exfalso; simp at hh; try omega) _ | refine Only.trans ?_ (by assumption))))).mono ?_); rintro e w1 ⟨he, t1⟩; rw [Hv.out] at he; subst he)
      | fail "no arm")
    go_ret
    exact ⟨rfl, (by with_reducible repeat (first | exact Only.refl _ _ | assumption | refine Only.drewN ?_ _ | refine Only.drew ?_ | refine Only.alloc ?_ _ | refine Only.setCell ?_ (by intro hh; exfalso; simp at hh; try omega) _ | refine Only.trans ?_ (by assumption)))⟩
  · obtain ⟨q1, q20, q8, -⟩ := validPz_facts hv
    have Hv := Lib.hid hv
    obtain ⟨aM, cM, obM, fpM, rfl, -, SM⟩ := h2.open_
    have hbM := SM.bound
    obtain ⟨r, hr⟩ : ∃ r, r = trackB x.moves.length sub := ⟨_, rfl⟩
    have Hr := Lib.hid hr
    rw [← hr]
    clear hv hr p0 p1
    go_enter Tryz.func124, Tryz.ntmps124
    go_wp2_with (first
      | (go_at_call 81; (with_reducible refine (specIsValidPuzzle_any [.int .i64 x.points, .string x.names, .slice aM x.moves.length cM] x _ _ (Rp.keep h0 (by with_reducible repeat (first | exact Only.refl _ _ | assumption | refine Only.drewN ?_ _ | refine Only.drew ?_ | refine Only.alloc ?_ _ | refine Only.setCell ?_ (by intro hh; exfalso; simp at hh; try omega) _ | refine Only.trans ?_ (by assumption))))).mono ?_); rintro e w1 ⟨he, t1⟩; rw [Hv.out] at he; subst he; have X1 := X0.keep t1; have x2 := X1.cell 2 rfl; have K1 : Only [] w w1 := (by with_reducible repeat (first | exact Only.refl _ _ | assumption | refine Only.drewN ?_ _ | refine Only.drew ?_ | refine Only.alloc ?_ _ | refine Only.setCell ?_ (by intro hh; exfalso; simp at hh; try omega) _ | refine Only.trans ?_ (by assumption))))
      | (go_at_call 107; (with_reducible refine (isPointList_rd (x.moves.length : Int) v sub _ w1 (Rp.keep hs K1) (by omega) (by omega)).mono ?_); rintro e w3 ⟨he, d3⟩; rw [← Hr.out] at he; subst he; have t3 := d3.only [])
      | fail "no arm")
    go_ret
    exact ⟨rfl, K1.trans t3⟩
theorem store44 {W : World} {r1 r2 : Nat} {a b c d a' b' c' d' : Value} (h1 : Blk W r1 [a, b, c, d]) (h2 : Blk W r2 [a', b', c', d']) (hne : r1 ≠ r2) (p q r s p' q' r' s' : Value) :
    Blk ((((((((W.setCell ⟨r1, 0, none⟩ p).setCell ⟨r1, 1, none⟩ q).setCell ⟨r1, 2, none⟩ r).setCell ⟨r1, 3, none⟩ s).setCell ⟨r2, 0, none⟩ p').setCell ⟨r2, 1, none⟩ q').setCell ⟨r2, 2, none⟩ r').setCell ⟨r2, 3, none⟩ s') r1 [p, q, r, s] ∧
    Blk ((((((((W.setCell ⟨r1, 0, none⟩ p).setCell ⟨r1, 1, none⟩ q).setCell ⟨r1, 2, none⟩ r).setCell ⟨r1, 3, none⟩ s).setCell ⟨r2, 0, none⟩ p').setCell ⟨r2, 1, none⟩ q').setCell ⟨r2, 2, none⟩ r').setCell ⟨r2, 3, none⟩ s') r2 [p', q', r', s'] ∧
    Only [r1, r2] W ((((((((W.setCell ⟨r1, 0, none⟩ p).setCell ⟨r1, 1, none⟩ q).setCell ⟨r1, 2, none⟩ r).setCell ⟨r1, 3, none⟩ s).setCell ⟨r2, 0, none⟩ p').setCell ⟨r2, 1, none⟩ q').setCell ⟨r2, 2, none⟩ r').setCell ⟨r2, 3, none⟩ s') := by
  obtain ⟨k1, o1⟩ := store4 h1 p q r s
  have h2' := h2.only o1 (by simp; omega)
  obtain ⟨k2, o2⟩ := store4 h2' p' q' r' s'
  exact ⟨k1.only o2 (by simp; omega), k2, (o1.mono (by simp)).trans (o2.mono (by simp))⟩
set_option maxHeartbeats 4000000 in
theorem searchBoth_bad (cs : List Value) (x : Puzzle) (fp : List Nat) (v : Value) (sub : List Int) (fs0 : List Nat) (w : World) (h : Rp.rep w cs x fp) (hs : Rd w v sub fs0) (hn : ((expl x).isSome && trackB x.moves.length sub) = false) :
    Calls Tryz.prog 70 #[.agg cs.toArray, v] w fun e w' => ∃ A1 n1 C1 A2 n2 C2 A3 n3 C3 wh, e = .returned (.tuple #[.agg #[.slice A1 n1 C1, .slice A2 n2 C2, .slice A3 n3 C3, .bool wh], .agg #[.slice A1 n1 C1, .slice A2 n2 C2, .slice A3 n3 C3, .bool wh], .bool false]) ∧ Only [] w w' := by
  have h0 := h
  obtain ⟨v2, rfl, p0, p1, h2⟩ := h
  clear p0 p1 h2
  have KA : Only [] w ((w.alloc (.cells #[.int .i64 x.points, .string x.names, v2] 33)).alloc (.cells #[.slice none 0 0, .slice none 0 0, .slice none 0 0, .bool false] 85)) := ((Only.refl _ _).alloc _).alloc _
  have X0 : Blk (((w.alloc (.cells #[.int .i64 x.points, .string x.names, v2] 33)).alloc (.cells #[.slice none 0 0, .slice none 0 0, .slice none 0 0, .bool false] 85)).alloc (.cells #[.slice none 0 0, .slice none 0 0, .slice none 0 0, .bool false] 85)) w.heap.size [.int .i64 x.points, .string x.names, v2] := ((Blk.new w [.int .i64 x.points, .string x.names, v2] 33).keep ((Only.refl _ _).alloc _)).keep ((Only.refl _ _).alloc _)
  have R4 : Blk (((w.alloc (.cells #[.int .i64 x.points, .string x.names, v2] 33)).alloc (.cells #[.slice none 0 0, .slice none 0 0, .slice none 0 0, .bool false] 85)).alloc (.cells #[.slice none 0 0, .slice none 0 0, .slice none 0 0, .bool false] 85)) (w.heap.size + 1) [.slice none 0 0, .slice none 0 0, .slice none 0 0, .bool false] := (Blk.new_at (w := w.alloc (.cells #[.int .i64 x.points, .string x.names, v2] 33)) (cs := [.slice none 0 0, .slice none 0 0, .slice none 0 0, .bool false]) (by simp)).keep ((Only.refl _ _).alloc _)
  have R5 : Blk (((w.alloc (.cells #[.int .i64 x.points, .string x.names, v2] 33)).alloc (.cells #[.slice none 0 0, .slice none 0 0, .slice none 0 0, .bool false] 85)).alloc (.cells #[.slice none 0 0, .slice none 0 0, .slice none 0 0, .bool false] 85)) (w.heap.size + 1 + 1) [.slice none 0 0, .slice none 0 0, .slice none 0 0, .bool false] := Blk.new_at (by simp)
  rcases hx : expl x with _ | t
  · have Hn := Lib.hid hx
    clear hn hx
    go_enter Tryz.func70, Tryz.ntmps70
    go_upto_region 3 with (first
      | (go_at_call 109; (with_reducible refine (searchStates_no [.int .i64 x.points, .string x.names, v2] x _ _ (Rp.keep h0 (by with_reducible repeat (first | exact Only.refl _ _ | assumption | refine Only.drewN ?_ _ | refine Only.drew ?_ | refine Only.alloc ?_ _ | refine Only.setCell ?_ (by intro hh; exfalso; simp at hh; try omega) _ | refine Only.trans ?_ (by assumption)))) Hn.out).mono ?_); rintro e w1 ⟨A1, n1, C1, A2, n2, C2, A3, n3, C3, wh, rfl, t1⟩; have Z := Blk.new w1 [.slice none 0 0, .slice none 0 0, .slice none 0 0, .bool false] 85; have z0 := Z.cell 0 rfl; have z1 := Z.cell 1 rfl; have z2 := Z.cell 2 rfl; have z3 := Z.cell 3 rfl; have zp0 := Z.frozen 0; have zp1 := Z.frozen 1; have zp2 := Z.frozen 2; have zp3 := Z.frozen 3)
      | fail "no arm")
    obtain ⟨W3, hW3⟩ : ∃ W3, W3 = w1.alloc (.cells #[.slice A1 n1 C1, .slice A2 n2 C2, .slice A3 n3 C3, .bool wh] 85) := ⟨_, rfl⟩
    have k3 : Only [] w1 W3 := by rw [hW3]; exact (Only.refl _ _).alloc _
    have F3 : Blk W3 w1.heap.size [.slice A1 n1 C1, .slice A2 n2 C2, .slice A3 n3 C3, .bool wh] := by rw [hW3]; exact Blk.new w1 _ _
    have KW : Only [] w W3 := by rw [hW3]; exact (by with_reducible repeat (first | exact Only.refl _ _ | assumption | refine Only.drewN ?_ _ | refine Only.drew ?_ | refine Only.alloc ?_ _ | refine Only.setCell ?_ (by intro hh; exfalso; simp at hh; try omega) _ | refine Only.trans ?_ (by assumption)))
    have G3 := F3
    have R43 := (R4.keep t1).keep k3
    have R53 := (R5.keep t1).keep k3
    have hzz1 := t1.size
    simp at hzz1
    have hna1 : ¬ w1.heap.size = w.heap.size + 1 := by omega
    have hnb1 : ¬ w.heap.size + 1 = w1.heap.size := by omega
    have hna2 : ¬ w1.heap.size = w.heap.size + 1 + 1 := by omega
    have hnb2 : ¬ w.heap.size + 1 + 1 = w1.heap.size := by omega
    rw [← hW3]
    clear hW3 Z z0 z1 z2 z3 zp0 zp1 zp2 zp3 R4 R5 k3 t1 KA X0
    have F4 := F3
    have G4 := G3
    have R44 := R43
    have R54 := R53
    have a0 := F4.cell 0 rfl
    have a1 := F4.cell 1 rfl
    have a2 := F4.cell 2 rfl
    have a3 := F4.cell 3 rfl
    have c0 := R44.cell 0 rfl
    have c1 := R44.cell 1 rfl
    have c2 := R44.cell 2 rfl
    have c3 := R44.cell 3 rfl
    have d0 := R54.cell 0 rfl
    have d1 := R54.cell 1 rfl
    have d2 := R54.cell 2 rfl
    have d3 := R54.cell 3 rfl
    have p0 := R44.frozen 0
    have p1 := R44.frozen 1
    have p2 := R44.frozen 2
    have p3 := R44.frozen 3
    have q0 := R54.frozen 0
    have q1 := R54.frozen 1
    have q2 := R54.frozen 2
    have q3 := R54.frozen 3
    have kd : Only [] W3 W3.drew := (Only.refl _ _).drew
    have F5 := F3.keep kd
    have G5 := G3.keep kd
    have R45 := R43.keep kd
    have R55 := R53.keep kd
    have aa0 := F5.cell 0 rfl
    have aa1 := F5.cell 1 rfl
    have aa2 := F5.cell 2 rfl
    have aa3 := F5.cell 3 rfl
    have bb0 := G5.cell 0 rfl
    have bb1 := G5.cell 1 rfl
    have bb2 := G5.cell 2 rfl
    have bb3 := G5.cell 3 rfl
    have cc0 := R45.cell 0 rfl
    have cc1 := R45.cell 1 rfl
    have cc2 := R45.cell 2 rfl
    have cc3 := R45.cell 3 rfl
    have dd0 := R55.cell 0 rfl
    have dd1 := R55.cell 1 rfl
    have dd2 := R55.cell 2 rfl
    have dd3 := R55.cell 3 rfl
    have pp0 := R45.frozen 0
    have pp1 := R45.frozen 1
    have pp2 := R45.frozen 2
    have pp3 := R45.frozen 3
    have qq0 := R55.frozen 0
    have qq1 := R55.frozen 1
    have qq2 := R55.frozen 2
    have qq3 := R55.frozen 3
    go_wp2
    go_region_law (fail)
    all_goals go_wp2_with fail
    all_goals
      obtain ⟨Y4, Y5, kf⟩ := store44 R44 R54 (by omega) (.slice A1 n1 C1) (.slice A2 n2 C2) (.slice A3 n3 C3) (.bool wh) (.slice A1 n1 C1) (.slice A2 n2 C2) (.slice A3 n3 C3) (.bool wh)
      obtain ⟨wf, hwf⟩ : ∃ wf, wf = ((((((((W3.setCell ⟨w.heap.size + 1, 0, none⟩ (.slice A1 n1 C1)).setCell ⟨w.heap.size + 1, 1, none⟩ (.slice A2 n2 C2)).setCell ⟨w.heap.size + 1, 2, none⟩ (.slice A3 n3 C3)).setCell ⟨w.heap.size + 1, 3, none⟩ (.bool wh)).setCell ⟨w.heap.size + 1 + 1, 0, none⟩ (.slice A1 n1 C1)).setCell ⟨w.heap.size + 1 + 1, 1, none⟩ (.slice A2 n2 C2)).setCell ⟨w.heap.size + 1 + 1, 2, none⟩ (.slice A3 n3 C3)).setCell ⟨w.heap.size + 1 + 1, 3, none⟩ (.bool wh)) := ⟨_, rfl⟩
      rw [← hwf] at Y4 Y5 kf ⊢
      clear hwf c0 d0 p0 q0 c1 d1 p1 q1 c2 d2 p2 q2 c3 d3 p3 q3
      have r0 := Y4.cell 0 rfl
      have r1 := Y4.cell 1 rfl
      have r2 := Y4.cell 2 rfl
      have r3 := Y4.cell 3 rfl
      have s0 := Y5.cell 0 rfl
      have s1 := Y5.cell 1 rfl
      have s2 := Y5.cell 2 rfl
      have s3 := Y5.cell 3 rfl
      have KF : Only [] w wf.drew := (KW.then_ kf (by simp; omega)).drew
      exact bodyPost_ret (v := .tuple #[.agg #[.slice A1 n1 C1, .slice A2 n2 C2, .slice A3 n3 C3, .bool wh], .agg #[.slice A1 n1 C1, .slice A2 n2 C2, .slice A3 n3 C3, .bool wh], .bool false]) (by simp [results, Tryz.results70, go_sem, r0, r1, r2, r3, s0, s1, s2, s3]) rfl ⟨A1, n1, C1, A2, n2, C2, A3, n3, C3, wh, rfl, KF⟩
  · have hq : (validPz x && trackB x.moves.length sub) = false := by
      rw [hx] at hn
      have : trackB x.moves.length sub = false := by simpa using hn
      rw [this]; simp
    have Hq := Lib.hid hq
    have He := Lib.hid hx
    clear hn hx hq
    go_enter Tryz.func70, Tryz.ntmps70
    go_upto_region 3 with (first
      | (go_at_call 109; (with_reducible refine (searchStates_yes [.int .i64 x.points, .string x.names, v2] x t _ _ (Rp.keep h0 (by with_reducible repeat (first | exact Only.refl _ _ | assumption | refine Only.drewN ?_ _ | refine Only.drew ?_ | refine Only.alloc ?_ _ | refine Only.setCell ?_ (by intro hh; exfalso; simp at hh; try omega) _ | refine Only.trans ?_ (by assumption)))) He.out).mono ?_); rintro e w1 ⟨A1, n1, C1, A2, n2, C2, A3, n3, C3, wh, rfl, -, t1⟩; have Z := Blk.new w1 [.slice none 0 0, .slice none 0 0, .slice none 0 0, .bool false] 85; have z0 := Z.cell 0 rfl; have z1 := Z.cell 1 rfl; have z2 := Z.cell 2 rfl; have z3 := Z.cell 3 rfl; have zp0 := Z.frozen 0; have zp1 := Z.frozen 1; have zp2 := Z.frozen 2; have zp3 := Z.frozen 3; have X1 := (X0.keep t1).keep ((Only.refl [] _).alloc (.cells #[.slice A1 n1 C1, .slice A2 n2 C2, .slice A3 n3 C3, .bool wh] 85)); have x0 := X1.cell 0 rfl; have x1 := X1.cell 1 rfl; have x2 := X1.cell 2 rfl)
      | (go_at_call 124; (with_reducible refine (specIsMoveSubset_any [.int .i64 x.points, .string x.names, v2] x _ v sub _ _ (Rp.keep h0 (by with_reducible repeat (first | exact Only.refl _ _ | assumption | refine Only.drewN ?_ _ | refine Only.drew ?_ | refine Only.alloc ?_ _ | refine Only.setCell ?_ (by intro hh; exfalso; simp at hh; try omega) _ | refine Only.trans ?_ (by assumption)))) (Rp.keep hs (by with_reducible repeat (first | exact Only.refl _ _ | assumption | refine Only.drewN ?_ _ | refine Only.drew ?_ | refine Only.alloc ?_ _ | refine Only.setCell ?_ (by intro hh; exfalso; simp at hh; try omega) _ | refine Only.trans ?_ (by assumption))))).mono ?_); rintro e w2 ⟨he, t2⟩; rw [Hq.out] at he; subst he)
      | fail "no arm")
    obtain ⟨W3, hW3⟩ : ∃ W3, W3 = w2 := ⟨_, rfl⟩
    have k3 : Only [] w1 W3 := by rw [hW3]; exact (by with_reducible repeat (first | exact Only.refl _ _ | assumption | refine Only.drewN ?_ _ | refine Only.drew ?_ | refine Only.alloc ?_ _ | refine Only.setCell ?_ (by intro hh; exfalso; simp at hh; try omega) _ | refine Only.trans ?_ (by assumption)))
    have F3 : Blk W3 w1.heap.size [.slice A1 n1 C1, .slice A2 n2 C2, .slice A3 n3 C3, .bool wh] := by rw [hW3]; exact (Blk.new w1 [.slice A1 n1 C1, .slice A2 n2 C2, .slice A3 n3 C3, .bool wh] 85).keep t2
    have KW : Only [] w W3 := by rw [hW3]; exact (by with_reducible repeat (first | exact Only.refl _ _ | assumption | refine Only.drewN ?_ _ | refine Only.drew ?_ | refine Only.alloc ?_ _ | refine Only.setCell ?_ (by intro hh; exfalso; simp at hh; try omega) _ | refine Only.trans ?_ (by assumption)))
    have G3 := F3
    have R43 := (R4.keep t1).keep k3
    have R53 := (R5.keep t1).keep k3
    have hzz1 := t1.size
    simp at hzz1
    have hna1 : ¬ w1.heap.size = w.heap.size + 1 := by omega
    have hnb1 : ¬ w.heap.size + 1 = w1.heap.size := by omega
    have hna2 : ¬ w1.heap.size = w.heap.size + 1 + 1 := by omega
    have hnb2 : ¬ w.heap.size + 1 + 1 = w1.heap.size := by omega
    rw [← hW3]
    clear hW3 t2 Z z0 z1 z2 z3 zp0 zp1 zp2 zp3 R4 R5 k3 t1 KA X0 X1 x0 x1 x2
    have F4 := F3
    have G4 := G3
    have R44 := R43
    have R54 := R53
    have a0 := F4.cell 0 rfl
    have a1 := F4.cell 1 rfl
    have a2 := F4.cell 2 rfl
    have a3 := F4.cell 3 rfl
    have c0 := R44.cell 0 rfl
    have c1 := R44.cell 1 rfl
    have c2 := R44.cell 2 rfl
    have c3 := R44.cell 3 rfl
    have d0 := R54.cell 0 rfl
    have d1 := R54.cell 1 rfl
    have d2 := R54.cell 2 rfl
    have d3 := R54.cell 3 rfl
    have p0 := R44.frozen 0
    have p1 := R44.frozen 1
    have p2 := R44.frozen 2
    have p3 := R44.frozen 3
    have q0 := R54.frozen 0
    have q1 := R54.frozen 1
    have q2 := R54.frozen 2
    have q3 := R54.frozen 3
    have kd : Only [] W3 W3.drew := (Only.refl _ _).drew
    have F5 := F3.keep kd
    have G5 := G3.keep kd
    have R45 := R43.keep kd
    have R55 := R53.keep kd
    have aa0 := F5.cell 0 rfl
    have aa1 := F5.cell 1 rfl
    have aa2 := F5.cell 2 rfl
    have aa3 := F5.cell 3 rfl
    have bb0 := G5.cell 0 rfl
    have bb1 := G5.cell 1 rfl
    have bb2 := G5.cell 2 rfl
    have bb3 := G5.cell 3 rfl
    have cc0 := R45.cell 0 rfl
    have cc1 := R45.cell 1 rfl
    have cc2 := R45.cell 2 rfl
    have cc3 := R45.cell 3 rfl
    have dd0 := R55.cell 0 rfl
    have dd1 := R55.cell 1 rfl
    have dd2 := R55.cell 2 rfl
    have dd3 := R55.cell 3 rfl
    have pp0 := R45.frozen 0
    have pp1 := R45.frozen 1
    have pp2 := R45.frozen 2
    have pp3 := R45.frozen 3
    have qq0 := R55.frozen 0
    have qq1 := R55.frozen 1
    have qq2 := R55.frozen 2
    have qq3 := R55.frozen 3
    go_wp2
    go_region_law (fail)
    all_goals go_wp2_with fail
    all_goals
      obtain ⟨Y4, Y5, kf⟩ := store44 R44 R54 (by omega) (.slice A1 n1 C1) (.slice A2 n2 C2) (.slice A3 n3 C3) (.bool wh) (.slice A1 n1 C1) (.slice A2 n2 C2) (.slice A3 n3 C3) (.bool wh)
      obtain ⟨wf, hwf⟩ : ∃ wf, wf = ((((((((W3.setCell ⟨w.heap.size + 1, 0, none⟩ (.slice A1 n1 C1)).setCell ⟨w.heap.size + 1, 1, none⟩ (.slice A2 n2 C2)).setCell ⟨w.heap.size + 1, 2, none⟩ (.slice A3 n3 C3)).setCell ⟨w.heap.size + 1, 3, none⟩ (.bool wh)).setCell ⟨w.heap.size + 1 + 1, 0, none⟩ (.slice A1 n1 C1)).setCell ⟨w.heap.size + 1 + 1, 1, none⟩ (.slice A2 n2 C2)).setCell ⟨w.heap.size + 1 + 1, 2, none⟩ (.slice A3 n3 C3)).setCell ⟨w.heap.size + 1 + 1, 3, none⟩ (.bool wh)) := ⟨_, rfl⟩
      rw [← hwf] at Y4 Y5 kf ⊢
      clear hwf c0 d0 p0 q0 c1 d1 p1 q1 c2 d2 p2 q2 c3 d3 p3 q3
      have r0 := Y4.cell 0 rfl
      have r1 := Y4.cell 1 rfl
      have r2 := Y4.cell 2 rfl
      have r3 := Y4.cell 3 rfl
      have s0 := Y5.cell 0 rfl
      have s1 := Y5.cell 1 rfl
      have s2 := Y5.cell 2 rfl
      have s3 := Y5.cell 3 rfl
      have KF : Only [] w wf.drew := (KW.then_ kf (by simp; omega)).drew
      exact bodyPost_ret (v := .tuple #[.agg #[.slice A1 n1 C1, .slice A2 n2 C2, .slice A3 n3 C3, .bool wh], .agg #[.slice A1 n1 C1, .slice A2 n2 C2, .slice A3 n3 C3, .bool wh], .bool false]) (by simp [results, Tryz.results70, go_sem, r0, r1, r2, r3, s0, s1, s2, s3]) rfl ⟨A1, n1, C1, A2, n2, C2, A3, n3, C3, wh, rfl, KF⟩
set_option maxHeartbeats 4000000 in
theorem searchBoth_yes (cs : List Value) (x : Puzzle) (t ts : Table) (fp : List Nat) (v : Value) (sub : List Int) (fs0 : List Nat) (w : World) (h : Rp.rep w cs x fp) (hs : Rd w v sub fs0) (he : expl x = some t) (ht : trackB x.moves.length sub = true) (h2 : expl (subP x sub) = some ts) :
    Calls Tryz.prog 70 #[.agg cs.toArray, v] w fun e w' => ∃ A1 n1 C1 A2 n2 C2 A3 n3 C3 wh A4 n4 C4 A5 n5 C5 A6 n6 C6 wg, e = .returned (.tuple #[.agg #[.slice A1 n1 C1, .slice A2 n2 C2, .slice A3 n3 C3, .bool wh], .agg #[.slice A4 n4 C4, .slice A5 n5 C5, .slice A6 n6 C6, .bool wg], .bool true]) ∧ SrF w.heap.size w' x t (.agg #[.slice A1 n1 C1, .slice A2 n2 C2, .slice A3 n3 C3, .bool wh]) ∧ SrF w.heap.size w' (subP x sub) ts (.agg #[.slice A4 n4 C4, .slice A5 n5 C5, .slice A6 n6 C6, .bool wg]) ∧ Only [] w w' := by
  have h0 := h
  obtain ⟨v2, rfl, p0, p1, h3⟩ := h
  clear p0 p1 h3
  have KA : Only [] w ((w.alloc (.cells #[.int .i64 x.points, .string x.names, v2] 33)).alloc (.cells #[.slice none 0 0, .slice none 0 0, .slice none 0 0, .bool false] 85)) := ((Only.refl _ _).alloc _).alloc _
  have X0 : Blk (((w.alloc (.cells #[.int .i64 x.points, .string x.names, v2] 33)).alloc (.cells #[.slice none 0 0, .slice none 0 0, .slice none 0 0, .bool false] 85)).alloc (.cells #[.slice none 0 0, .slice none 0 0, .slice none 0 0, .bool false] 85)) w.heap.size [.int .i64 x.points, .string x.names, v2] := ((Blk.new w [.int .i64 x.points, .string x.names, v2] 33).keep ((Only.refl _ _).alloc _)).keep ((Only.refl _ _).alloc _)
  have R4 : Blk (((w.alloc (.cells #[.int .i64 x.points, .string x.names, v2] 33)).alloc (.cells #[.slice none 0 0, .slice none 0 0, .slice none 0 0, .bool false] 85)).alloc (.cells #[.slice none 0 0, .slice none 0 0, .slice none 0 0, .bool false] 85)) (w.heap.size + 1) [.slice none 0 0, .slice none 0 0, .slice none 0 0, .bool false] := (Blk.new_at (w := w.alloc (.cells #[.int .i64 x.points, .string x.names, v2] 33)) (cs := [.slice none 0 0, .slice none 0 0, .slice none 0 0, .bool false]) (by simp)).keep ((Only.refl _ _).alloc _)
  have R5 : Blk (((w.alloc (.cells #[.int .i64 x.points, .string x.names, v2] 33)).alloc (.cells #[.slice none 0 0, .slice none 0 0, .slice none 0 0, .bool false] 85)).alloc (.cells #[.slice none 0 0, .slice none 0 0, .slice none 0 0, .bool false] 85)) (w.heap.size + 1 + 1) [.slice none 0 0, .slice none 0 0, .slice none 0 0, .bool false] := Blk.new_at (by simp)
  obtain ⟨hb, -⟩ := expl_built he
  have Hq := Lib.hid (show (validPz x && trackB x.moves.length sub) = true by rw [hb.v, ht]; rfl)
  have Hv := Lib.hid hb.v
  have Ht := Lib.hid ht
  have He := Lib.hid he
  have H2 := Lib.hid h2
  clear he ht h2 hb
  go_enter Tryz.func70, Tryz.ntmps70
  go_upto_region 5 with (first
    | (go_at_call 109; (with_reducible refine (searchStates_yes [.int .i64 x.points, .string x.names, v2] x t _ _ (Rp.keep h0 (by with_reducible repeat (first | exact Only.refl _ _ | assumption | refine Only.drewN ?_ _ | refine Only.drew ?_ | refine Only.alloc ?_ _ | refine Only.setCell ?_ (by intro hh; exfalso; simp at hh; try omega) _ | refine Only.trans ?_ (by assumption)))) He.out).mono ?_); rintro e w1 ⟨A1, n1, C1, A2, n2, C2, A3, n3, C3, wh, rfl, hF, t1⟩; have Z := Blk.new w1 [.slice none 0 0, .slice none 0 0, .slice none 0 0, .bool false] 85; have z0 := Z.cell 0 rfl; have z1 := Z.cell 1 rfl; have z2 := Z.cell 2 rfl; have z3 := Z.cell 3 rfl; have zp0 := Z.frozen 0; have zp1 := Z.frozen 1; have zp2 := Z.frozen 2; have zp3 := Z.frozen 3; have X1 := (X0.keep t1).keep ((Only.refl [] _).alloc (.cells #[.slice A1 n1 C1, .slice A2 n2 C2, .slice A3 n3 C3, .bool wh] 85)); have x0 := X1.cell 0 rfl; have x1 := X1.cell 1 rfl; have x2 := X1.cell 2 rfl)
    | (go_at_call 124; (with_reducible refine (specIsMoveSubset_any [.int .i64 x.points, .string x.names, v2] x _ v sub _ _ (Rp.keep h0 (by with_reducible repeat (first | exact Only.refl _ _ | assumption | refine Only.drewN ?_ _ | refine Only.drew ?_ | refine Only.alloc ?_ _ | refine Only.setCell ?_ (by intro hh; exfalso; simp at hh; try omega) _ | refine Only.trans ?_ (by assumption)))) (Rp.keep hs (by with_reducible repeat (first | exact Only.refl _ _ | assumption | refine Only.drewN ?_ _ | refine Only.drew ?_ | refine Only.alloc ?_ _ | refine Only.setCell ?_ (by intro hh; exfalso; simp at hh; try omega) _ | refine Only.trans ?_ (by assumption))))).mono ?_); rintro e w2 ⟨he, t2⟩; rw [Hq.out] at he; subst he; have X2 := X1.keep t2; have y0 := X2.cell 0 rfl; have y1 := X2.cell 1 rfl; have y2 := X2.cell 2 rfl)
    | (go_at_call 125; (with_reducible refine (restrictMoves_any [.int .i64 x.points, .string x.names, v2] x _ v sub _ _ (Rp.keep h0 (by with_reducible repeat (first | exact Only.refl _ _ | assumption | refine Only.drewN ?_ _ | refine Only.drew ?_ | refine Only.alloc ?_ _ | refine Only.setCell ?_ (by intro hh; exfalso; simp at hh; try omega) _ | refine Only.trans ?_ (by assumption)))) (Rp.keep hs (by with_reducible repeat (first | exact Only.refl _ _ | assumption | refine Only.drewN ?_ _ | refine Only.drew ?_ | refine Only.alloc ?_ _ | refine Only.setCell ?_ (by intro hh; exfalso; simp at hh; try omega) _ | refine Only.trans ?_ (by assumption)))) Hv.out Ht.out).mono ?_); rintro e w3 ⟨cs3, f3, rfl, r3, t3⟩)
    | (go_at_call 109; (with_reducible refine (searchStates_yes cs3 (subP x sub) ts _ w3 r3 H2.out).mono ?_); rintro e w4 ⟨A4, n4, C4, A5, n5, C5, A6, n6, C6, wg, rfl, hG, t4⟩; have Z' := Blk.new w4 [.slice none 0 0, .slice none 0 0, .slice none 0 0, .bool false] 85; have zz0 := Z'.cell 0 rfl; have zz1 := Z'.cell 1 rfl; have zz2 := Z'.cell 2 rfl; have zz3 := Z'.cell 3 rfl; have zzp0 := Z'.frozen 0; have zzp1 := Z'.frozen 1; have zzp2 := Z'.frozen 2; have zzp3 := Z'.frozen 3)
    | fail "no arm")
  obtain ⟨W3, hW3⟩ : ∃ W3, W3 = w4.alloc (.cells #[.slice A4 n4 C4, .slice A5 n5 C5, .slice A6 n6 C6, .bool wg] 85) := ⟨_, rfl⟩
  have k3 : Only [] w4 W3 := by rw [hW3]; exact (Only.refl _ _).alloc _
  have k23 := ((t2.trans t3).trans t4).trans k3
  have G3 : Blk W3 w4.heap.size [.slice A4 n4 C4, .slice A5 n5 C5, .slice A6 n6 C6, .bool wg] := by rw [hW3]; exact Blk.new w4 _ _
  have F3 : Blk W3 w1.heap.size [.slice A1 n1 C1, .slice A2 n2 C2, .slice A3 n3 C3, .bool wh] := (Blk.new w1 [.slice A1 n1 C1, .slice A2 n2 C2, .slice A3 n3 C3, .bool wh] 85).keep k23
  have KW : Only [] w W3 := by rw [hW3]; exact (by with_reducible repeat (first | exact Only.refl _ _ | assumption | refine Only.drewN ?_ _ | refine Only.drew ?_ | refine Only.alloc ?_ _ | refine Only.setCell ?_ (by intro hh; exfalso; simp at hh; try omega) _ | refine Only.trans ?_ (by assumption)))
  have k13 : Only [] w1 W3 := ((Only.refl [] w1).alloc _).trans k23
  have R43 := (R4.keep t1).keep k13
  have R53 := (R5.keep t1).keep k13
  have hz1 := t1.size
  have hz3 : w1.heap.size ≤ w3.heap.size := by have := (t2.trans t3).size; simp at this; omega
  simp at hz1
  have hF3 := hF.keep k13
  have hG3 := hG.keep k3
  have hzz1 := hz1
  have hzz4 := t4.size
  have hna1 : ¬ w1.heap.size = w.heap.size + 1 := by omega
  have hnb1 : ¬ w.heap.size + 1 = w1.heap.size := by omega
  have hna2 : ¬ w1.heap.size = w.heap.size + 1 + 1 := by omega
  have hnb2 : ¬ w.heap.size + 1 + 1 = w1.heap.size := by omega
  have hna3 : ¬ w4.heap.size = w.heap.size + 1 := by omega
  have hnb3 : ¬ w.heap.size + 1 = w4.heap.size := by omega
  have hna4 : ¬ w4.heap.size = w.heap.size + 1 + 1 := by omega
  have hnb4 : ¬ w.heap.size + 1 + 1 = w4.heap.size := by omega
  rw [← hW3]
  clear hW3 Z z0 z1 z2 z3 zp0 zp1 zp2 zp3 R4 R5 k3 t1 t2 t3 t4 KA X0 X1 x0 x1 x2 X2 y0 y1 y2 k23 k13 hF hG
  have F4 := F3
  have G4 := G3
  have R44 := R43
  have R54 := R53
  have a0 := F4.cell 0 rfl
  have a1 := F4.cell 1 rfl
  have a2 := F4.cell 2 rfl
  have a3 := F4.cell 3 rfl
  have b0 := G4.cell 0 rfl
  have b1 := G4.cell 1 rfl
  have b2 := G4.cell 2 rfl
  have b3 := G4.cell 3 rfl
  have c0 := R44.cell 0 rfl
  have c1 := R44.cell 1 rfl
  have c2 := R44.cell 2 rfl
  have c3 := R44.cell 3 rfl
  have d0 := R54.cell 0 rfl
  have d1 := R54.cell 1 rfl
  have d2 := R54.cell 2 rfl
  have d3 := R54.cell 3 rfl
  have p0 := R44.frozen 0
  have p1 := R44.frozen 1
  have p2 := R44.frozen 2
  have p3 := R44.frozen 3
  have q0 := R54.frozen 0
  have q1 := R54.frozen 1
  have q2 := R54.frozen 2
  have q3 := R54.frozen 3
  have kd : Only [] W3 W3.drew := (Only.refl _ _).drew
  have F5 := F3.keep kd
  have G5 := G3.keep kd
  have R45 := R43.keep kd
  have R55 := R53.keep kd
  have aa0 := F5.cell 0 rfl
  have aa1 := F5.cell 1 rfl
  have aa2 := F5.cell 2 rfl
  have aa3 := F5.cell 3 rfl
  have bb0 := G5.cell 0 rfl
  have bb1 := G5.cell 1 rfl
  have bb2 := G5.cell 2 rfl
  have bb3 := G5.cell 3 rfl
  have cc0 := R45.cell 0 rfl
  have cc1 := R45.cell 1 rfl
  have cc2 := R45.cell 2 rfl
  have cc3 := R45.cell 3 rfl
  have dd0 := R55.cell 0 rfl
  have dd1 := R55.cell 1 rfl
  have dd2 := R55.cell 2 rfl
  have dd3 := R55.cell 3 rfl
  have pp0 := R45.frozen 0
  have pp1 := R45.frozen 1
  have pp2 := R45.frozen 2
  have pp3 := R45.frozen 3
  have qq0 := R55.frozen 0
  have qq1 := R55.frozen 1
  have qq2 := R55.frozen 2
  have qq3 := R55.frozen 3
  go_wp2
  go_region_law (fail)
  all_goals go_wp2_with fail
  all_goals
    obtain ⟨Y4, Y5, kf⟩ := store44 R44 R54 (by omega) (.slice A1 n1 C1) (.slice A2 n2 C2) (.slice A3 n3 C3) (.bool wh) (.slice A4 n4 C4) (.slice A5 n5 C5) (.slice A6 n6 C6) (.bool wg)
    obtain ⟨wf, hwf⟩ : ∃ wf, wf = ((((((((W3.setCell ⟨w.heap.size + 1, 0, none⟩ (.slice A1 n1 C1)).setCell ⟨w.heap.size + 1, 1, none⟩ (.slice A2 n2 C2)).setCell ⟨w.heap.size + 1, 2, none⟩ (.slice A3 n3 C3)).setCell ⟨w.heap.size + 1, 3, none⟩ (.bool wh)).setCell ⟨w.heap.size + 1 + 1, 0, none⟩ (.slice A4 n4 C4)).setCell ⟨w.heap.size + 1 + 1, 1, none⟩ (.slice A5 n5 C5)).setCell ⟨w.heap.size + 1 + 1, 2, none⟩ (.slice A6 n6 C6)).setCell ⟨w.heap.size + 1 + 1, 3, none⟩ (.bool wg)) := ⟨_, rfl⟩
    rw [← hwf] at Y4 Y5 kf ⊢
    clear hwf c0 d0 p0 q0 c1 d1 p1 q1 c2 d2 p2 q2 c3 d3 p3 q3
    have r0 := Y4.cell 0 rfl
    have r1 := Y4.cell 1 rfl
    have r2 := Y4.cell 2 rfl
    have r3 := Y4.cell 3 rfl
    have s0 := Y5.cell 0 rfl
    have s1 := Y5.cell 1 rfl
    have s2 := Y5.cell 2 rfl
    have s3 := Y5.cell 3 rfl
    have KF : Only [] w wf.drew := (KW.then_ kf (by simp; omega)).drew
    exact bodyPost_ret (v := .tuple #[.agg #[.slice A1 n1 C1, .slice A2 n2 C2, .slice A3 n3 C3, .bool wh], .agg #[.slice A4 n4 C4, .slice A5 n5 C5, .slice A6 n6 C6, .bool wg], .bool true]) (by simp [results, Tryz.results70, go_sem, r0, r1, r2, r3, s0, s1, s2, s3]) rfl ⟨A1, n1, C1, A2, n2, C2, A3, n3, C3, wh, A4, n4, C4, A5, n5, C5, A6, n6, C6, wg, rfl, ((SrF.only hF3 kf (by intro b hb; simp at hb; rcases hb with rfl | rfl <;> (simp; try omega))).keep (Only.refl _ _).drew).mono (by simp; omega), ((SrF.only hG3 kf (by intro b hb; simp at hb; rcases hb with rfl | rfl <;> omega)).keep (Only.refl _ _).drew).mono (by omega), KF⟩
end Go.Proofs.YtclhblofchfglaaGreat
