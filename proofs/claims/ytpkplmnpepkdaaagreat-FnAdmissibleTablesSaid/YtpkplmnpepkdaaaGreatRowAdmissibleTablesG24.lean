/- The reference's search of all states (laws 20, 38). The reference's depth of a state, its distance (laws 20, 38). The law on admissible tables (law 49): its walk. (Printed by mkadmlaw.py.) -/
import Derived.Test.YtpkplmnpepkdaaaGreatRowAdmissibleTablesG12
import Derived.Test.YtpkplmnpepkdaaaGreatRowAdmissibleTablesG11
import Derived.Deep.DeepCutAuto
import Derived.Deep.RegionLaw
import Derived.Test.YtpkplmnpepkdaaaGreatRowAdmissibleTablesG23
import Derived.Test.YtpkplmnpepkdaaaGreatRowAdmissibleTablesG7
import Derived.Test.YtpkplmnpepkdaaaGreatRowAdmissibleTablesG5
namespace Go.Proofs.YtpkplmnpepkdaaaGreat
open Go.RowKit
set_option maxRecDepth 10000

theorem expl_from {x : Puzzle} (hv : validPz x = true) {wh : Bool} {L : List (List Int)} {D : List Int} (h : bFrom x 3001 0 ([PM.pts x.points.toNat], [0]) = if wh = true then some (L, D) else none) : expl x = if wh = true then some ⟨PM.pts x.points.toNat, L, D⟩ else none := by
  unfold expl bTab
  rw [bfs16_yes (by rw [hv, pts_track hv]; rfl), h]
  cases wh <;> rfl
/-- v is the search that found the entries of t; its memory lies from B on -/
def SrF (B : Nat) (w : World) (x : Puzzle) (t : Table) (v : Value) : Prop := ∃ A1 A2 A3 C1 C2 C3 so ob fps fd fz, v = .agg #[.slice A1 t.patterns.length C1, .slice A2 t.distances.length C2, .slice A3 (List.length so) C3, .bool true] ∧ SrR w A1 A2 A3 C1 C2 C3 t.patterns t.distances so ob fps fd fz ∧ Srt x.points.toNat t.patterns so ∧ ∀ g ∈ (ob ++ fps.flatten) ++ (fd ++ fz), B ≤ g
theorem SrF.only {B : Nat} {w w' : World} {x : Puzzle} {t : Table} {v : Value} {fp : List Nat} (h : SrF B w x t v) (ho : Only fp w w') (hd : ∀ g ∈ fp, g < B) : SrF B w' x t v := by
  obtain ⟨A1, A2, A3, C1, C2, C3, so, ob, fps, fd, fz, h1, h2, h3, h4⟩ := h
  exact ⟨A1, A2, A3, C1, C2, C3, so, ob, fps, fd, fz, h1, h2.only ho (fun g hg hm => by have := h4 g hg; have := hd g hm; omega), h3, h4⟩
theorem SrF.keep {B : Nat} {w w' : World} {x : Puzzle} {t : Table} {v : Value} (h : SrF B w x t v) (ho : Only [] w w') : SrF B w' x t v := h.only ho (by simp)
theorem SrF.mono {B B' : Nat} {w : World} {x : Puzzle} {t : Table} {v : Value} (h : SrF B w x t v) (hB : B' ≤ B) : SrF B' w x t v := by
  obtain ⟨A1, A2, A3, C1, C2, C3, so, ob, fps, fd, fz, h1, h2, h3, h4⟩ := h
  exact ⟨A1, A2, A3, C1, C2, C3, so, ob, fps, fd, fz, h1, h2, h3, fun g hg => Nat.le_trans hB (h4 g hg)⟩
/-- the search's variable behind the search of all states -/
def SS1 (W wx : World) (x : Puzzle) (s4 : Value) : Prop :=
  ∃ g A1 A2 A3 C1 C2 C3 wh L D so ob fps fd fz, s4 = .pointer (some ⟨g, 0, none⟩) ∧ Blk wx g [.slice A1 (List.length L) C1, .slice A2 (List.length D) C2, .slice A3 (List.length so) C3, .bool wh] ∧ SrR wx A1 A2 A3 C1 C2 C3 L D so ob fps fd fz ∧
    (expl x = if wh = true then some ⟨PM.pts x.points.toNat, L, D⟩ else none) ∧ Srt x.points.toNat L so ∧ (∀ g' ∈ (ob ++ fps.flatten) ++ (fd ++ fz), W.heap.size ≤ g') ∧ Only [] W wx ∧ W.heap.size ≤ g
section
variable {W w5 : World} {x : Puzzle} {g : Nat} {A1 A2 A3 : Option Addr} {C1 C2 C3 : Nat} {wh : Bool} {L : List (List Int)} {D : List Int} {so : List Nat} {ob : List Nat} {fps : List (List Nat)} {fd fz : List Nat} {cs : List Value} {e : TypeId}
theorem SS1.of (hz : Blk w5 g cs) (hcs : cs.length = 4) (hK : Only [] W w5) (hr : SrR w5 A1 A2 A3 C1 C2 C3 L D so ob fps fd fz) (he : expl x = if wh = true then some ⟨PM.pts x.points.toNat, L, D⟩ else none) (hs : Srt x.points.toNat L so)
    (hb : ∀ g' ∈ (ob ++ fps.flatten) ++ (fd ++ fz), W.heap.size ≤ g') (hg : ∀ g' ∈ (ob ++ fps.flatten) ++ (fd ++ fz), g' ≠ g) (hW : W.heap.size ≤ g) :
    SS1 W ((((w5.setCell ⟨g, 0, none⟩ (.slice A1 L.length C1)).setCell ⟨g, 1, none⟩ (.slice A2 D.length C2)).setCell ⟨g, 2, none⟩ (.slice A3 so.length C3)).setCell ⟨g, 3, none⟩ (.bool wh)) x (.pointer (some ⟨g, 0, none⟩)) := by
  have ho : Only [g] w5 ((((w5.setCell ⟨g, 0, none⟩ (.slice A1 L.length C1)).setCell ⟨g, 1, none⟩ (.slice A2 D.length C2)).setCell ⟨g, 2, none⟩ (.slice A3 so.length C3)).setCell ⟨g, 3, none⟩ (.bool wh)) := ((((Only.refl _ _).setCell (by simp) _).setCell (by simp) _).setCell (by simp) _).setCell (by simp) _
  have hbk := (((hz.set 0 (.slice A1 L.length C1)).set 1 (.slice A2 D.length C2)).set 2 (.slice A3 so.length C3)).set 3 (.bool wh)
  refine ⟨g, A1, A2, A3, C1, C2, C3, wh, L, D, so, ob, fps, fd, fz, rfl, ?_, hr.only ho (fun b hm hq => hg b hm (by simpa using hq)), he, hs, hb, hK.then_ ho (by intro b hm hl; simp at hm; omega), hW⟩
  obtain ⟨u0, u1, u2, u3, rfl⟩ : ∃ u0 u1 u2 u3, cs = [u0, u1, u2, u3] := by
    match cs, hcs with
    | [u0, u1, u2, u3], _ => exact ⟨u0, u1, u2, u3, rfl⟩
  simpa only [List.set] using hbk
theorem SS1.of2 (hK : Only [] W w5) (hr : SrR w5 A1 A2 A3 C1 C2 C3 L D so ob fps fd fz) (he : expl x = if wh = true then some ⟨PM.pts x.points.toNat, L, D⟩ else none) (hs : Srt x.points.toNat L so)
    (hb : ∀ g' ∈ (ob ++ fps.flatten) ++ (fd ++ fz), W.heap.size ≤ g') (hg : g = w5.heap.size) :
    SS1 W (w5.alloc (.cells #[.slice A1 L.length C1, .slice A2 D.length C2, .slice A3 so.length C3, .bool wh] e)) x (.pointer (some ⟨g, 0, none⟩)) := by
  subst hg
  have ho : Only [] w5 (w5.alloc (.cells #[.slice A1 L.length C1, .slice A2 D.length C2, .slice A3 so.length C3, .bool wh] e)) := (Only.refl _ _).alloc _
  exact ⟨_, A1, A2, A3, C1, C2, C3, wh, L, D, so, ob, fps, fd, fz, rfl, Blk.new w5 [.slice A1 L.length C1, .slice A2 D.length C2, .slice A3 so.length C3, .bool wh] e, hr.keep ho, he, hs, hb, hK.trans ho, hK.size⟩
end
set_option maxHeartbeats 4000000 in
theorem searchStates_any (cs : List Value) (x : Puzzle) (fp : List Nat) (w : World) (h : Rp.rep w cs x fp) :
    Calls Tryz.prog 67 #[.agg cs.toArray] w fun e w' => ((expl x = none ∧ ∃ A1 n1 C1 A2 n2 C2 A3 n3 C3 wh,  e = .returned (.tuple #[.agg #[.slice A1 n1 C1, .slice A2 n2 C2, .slice A3 n3 C3, .bool wh], .bool false])) ∨ (∃ t, expl x = some t ∧ ∃ v, e = .returned (.tuple #[v, .bool true]) ∧ SrF w.heap.size w' x t v)) ∧ Only [] w w' := by
  have h0 := h
  obtain ⟨v2, rfl, p0, p1, h2⟩ := h
  obtain ⟨A2, C2, _, _, rfl, -, -⟩ := h2.open_
  clear h2 p0 p1
  have X0 : Blk ((w.alloc (.cells #[.int .i64 x.points, .string x.names, .slice A2 x.moves.length C2] 26)).alloc (.cells #[.slice none 0 0, .slice none 0 0, .slice none 0 0, .bool false] 66)) w.heap.size [.int .i64 x.points, .string x.names, .slice A2 x.moves.length C2] := (Blk.new w [.int .i64 x.points, .string x.names, .slice A2 x.moves.length C2] 26).keep ((Only.refl _ _).alloc _)
  have Y0 : Blk ((w.alloc (.cells #[.int .i64 x.points, .string x.names, .slice A2 x.moves.length C2] 26)).alloc (.cells #[.slice none 0 0, .slice none 0 0, .slice none 0 0, .bool false] 66)) (w.heap.size + 1) [.slice none 0 0, .slice none 0 0, .slice none 0 0, .bool false] := Blk.new_at (by simp)
  rcases hq : validPz x
  · have Hn := Lib.hid (expl_none hq)
    have Hq := Lib.hid hq
    clear hq
    go_enter Tryz.func67, Tryz.ntmps67
    go_wp2_with (first
      | (go_at_call 20; (with_reducible refine (specIsValidPuzzle_any [.int .i64 x.points, .string x.names, .slice A2 x.moves.length C2] x _ _ (Rp.keep h0 (by with_reducible repeat (first | exact Only.refl _ _ | assumption | refine Only.drewN ?_ _ | refine Only.drew ?_ | refine Only.alloc ?_ _ | refine Only.setCell ?_ (by intro hh; exfalso; simp at hh; try omega) _ | refine Only.trans ?_ (by assumption))))).mono ?_); rintro e w1 ⟨he, t1⟩; rw [Hq.out] at he; subst he; have Y1 := Y0.keep t1; have g0 := Y1.cell 0 rfl; have g1 := Y1.cell 1 rfl; have g2 := Y1.cell 2 rfl; have g3 := Y1.cell 3 rfl; have p0 := Y1.frozen 0; have p1 := Y1.frozen 1; have p2 := Y1.frozen 2; have p3 := Y1.frozen 3)
      | fail "no arm")
    have K1 : Only [] w w1 := (by with_reducible repeat (first | exact Only.refl _ _ | assumption | refine Only.drewN ?_ _ | refine Only.drew ?_ | refine Only.alloc ?_ _ | refine Only.setCell ?_ (by intro hh; exfalso; simp at hh; try omega) _ | refine Only.trans ?_ (by assumption)))
    have Yf := (((Y1.set 0 (.slice none 0 0)).set 1 (.slice none 0 0)).set 2 (.slice none 0 0)).set 3 (.bool false)
    have kf : Only [] w ((((w1.setCell ⟨w.heap.size + 1, 0, none⟩ (.slice none 0 0)).setCell ⟨w.heap.size + 1, 1, none⟩ (.slice none 0 0)).setCell ⟨w.heap.size + 1, 2, none⟩ (.slice none 0 0)).setCell ⟨w.heap.size + 1, 3, none⟩ (.bool false)) := K1.then_ (((((Only.refl [w.heap.size + 1] w1).setCell (by simp) _).setCell (by simp) _).setCell (by simp) _).setCell (by simp) _) (by simp)
    obtain ⟨wf, hwf⟩ : ∃ wf, wf = ((((w1.setCell ⟨w.heap.size + 1, 0, none⟩ (.slice none 0 0)).setCell ⟨w.heap.size + 1, 1, none⟩ (.slice none 0 0)).setCell ⟨w.heap.size + 1, 2, none⟩ (.slice none 0 0)).setCell ⟨w.heap.size + 1, 3, none⟩ (.bool false)) := ⟨_, rfl⟩
    rw [← hwf] at Yf kf ⊢
    simp only [List.set] at Yf
    clear hwf g0 g1 g2 g3 p0 p1 p2 p3
    have r0 := Yf.cell 0 rfl
    have r1 := Yf.cell 1 rfl
    have r2 := Yf.cell 2 rfl
    have r3 := Yf.cell 3 rfl
    exact bodyPost_ret (v := .tuple #[.agg #[.slice none 0 0, .slice none 0 0, .slice none 0 0, .bool false], .bool false]) (by simp [results, Tryz.results67, go_sem, r0, r1, r2, r3]) rfl ⟨.inl ⟨Hn.out, _, _, _, _, _, _, _, _, _, _, rfl⟩, kf⟩
  · have hf := validPz_facts hq
    obtain ⟨hp1, hp20, -, -⟩ := hf
    have Hq := Lib.hid hq
    have hpt := trackB_pat (pts_track hq)
    have Hp := Lib.hid hpt
    have hpl : (PM.pts x.points.toNat).length ≤ 1000 := by rw [PM.pts_len]; omega
    have Hpl := Lib.hid hpl
    clear hq hpt hpl
    go_enter Tryz.func67, Tryz.ntmps67
    go_upto_region 3 with (first
      | (go_at_call 20; (with_reducible refine (specIsValidPuzzle_any [.int .i64 x.points, .string x.names, .slice A2 x.moves.length C2] x _ _ (Rp.keep h0 (by with_reducible repeat (first | exact Only.refl _ _ | assumption | refine Only.drewN ?_ _ | refine Only.drew ?_ | refine Only.alloc ?_ _ | refine Only.setCell ?_ (by intro hh; exfalso; simp at hh; try omega) _ | refine Only.trans ?_ (by assumption))))).mono ?_); rintro e w1 ⟨he, t1⟩; rw [Hq.out] at he; subst he)
      | fail "no arm")
    have X1 := X0.keep t1
    have Y1 := Y0.keep t1
    have K1 : Only [] w w1 := (by with_reducible repeat (first | exact Only.refl _ _ | assumption | refine Only.drewN ?_ _ | refine Only.drew ?_ | refine Only.alloc ?_ _ | refine Only.setCell ?_ (by intro hh; exfalso; simp at hh; try omega) _ | refine Only.trans ?_ (by assumption)))
    have hs1 : w.heap.size + 2 ≤ w1.heap.size := by have := t1.size; simp at this; omega
    have g0 := X1.cell 0 rfl
    have g1 := X1.cell 1 rfl
    have g2 := X1.cell 2 rfl
    have ka := (Only.refl [] w1).alloc (.cells #[.slice none 0 0, .slice none 0 0, .slice none 0 0, .bool false] 66)
    have ga0 := ka.cell (by simp) g0
    have ga1 := ka.cell (by simp) g1
    have ga2 := ka.cell (by simp) g2
    clear X0 Y0 t1
    have hc4 : ([.slice none 0 0, .slice none 0 0, .slice none 0 0, .bool false] : List Value).length = 4 := rfl
    go_cut [4] (fun s4 wx => SS1 w1 wx x s4)
    case first =>
      go_region_law (first
        | (go_simp; go_at_call 61; (with_reducible refine (specIdentity_i x.points _ (by omega) (by omega)).mono ?_); rintro e w5 ⟨v5, f5, rfl, r5, F5, t5⟩; have hz5 := t5.size; (try simp at hz5); have X5 := X1.keep ((by with_reducible repeat (first | exact Only.refl _ _ | assumption | refine Only.drew ?_ | refine Only.alloc ?_ _ | refine Only.trans ?_ (by assumption))) : Only [] w1 w5); have q0 := X5.cell 0 rfl; have q1 := X5.cell 1 rfl; have q2 := X5.cell 2 rfl; have kb := (Only.refl [] w5).alloc (.cells #[.slice none 0 0, .slice none 0 0, .slice none 0 0, .bool false] 66); have qa0 := kb.cell (by simp) q0; have qa1 := kb.cell (by simp) q1; have qa2 := kb.cell (by simp) q2)
        | (go_simp; go_at_call 93; (with_reducible refine (searchFrom_srt [.int .i64 x.points, .string x.names, .slice A2 x.moves.length C2] x _ _ (PM.pts x.points.toNat) _ _ (Rp.keep h0 (by with_reducible repeat (first | exact Only.refl _ _ | assumption | refine Only.drewN ?_ _ | refine Only.drew ?_ | refine Only.alloc ?_ _ | refine Only.setCell ?_ (by intro hh; exfalso; simp at hh; try omega) _ | refine Only.trans ?_ (by assumption)))) (Rp.keep r5 (by with_reducible repeat (first | exact Only.refl _ _ | assumption | refine Only.drewN ?_ _ | refine Only.drew ?_ | refine Only.alloc ?_ _ | refine Only.setCell ?_ (by intro hh; exfalso; simp at hh; try omega) _ | refine Only.trans ?_ (by assumption)))) Hq.out Hp.out Hpl.out).mono ?_); rintro e w2 ⟨B1, B2, B3, D1, D2, D3, n3, wh, L, D, fL, fD, rfl, o1, o2, o3, t2, o4, o5, o6, o7, so, ob, fps, fd, fz, o8, o9, o10, o11⟩; have O3 := Lib.hid (expl_from Hq.out o3); have O10 := Lib.hid o10; have O11 := Lib.hid o11; subst o8; clear o3 o10 o11 o1 o2 o4 o5 o6 o7; have hz2 := t2.size; (try simp at hz2); first
        | (have Z := ((Blk.new w1 [.slice none 0 0, .slice none 0 0, .slice none 0 0, .bool false] 66).keep t5).keep t2; have g0 := Z.cell 0 rfl; have g1 := Z.cell 1 rfl; have g2 := Z.cell 2 rfl; have g3 := Z.cell 3 rfl; have p0 := Z.frozen 0; have p1 := Z.frozen 1; have p2 := Z.frozen 2; have p3 := Z.frozen 3)
        | (have Z := (((Blk.new w1 [.slice none 0 0, .slice none 0 0, .slice none 0 0, .bool false] 66).keep ((Only.refl [] _).drew)).keep t5).keep t2; have g0 := Z.cell 0 rfl; have g1 := Z.cell 1 rfl; have g2 := Z.cell 2 rfl; have g3 := Z.cell 3 rfl; have p0 := Z.frozen 0; have p1 := Z.frozen 1; have p2 := Z.frozen 2; have p3 := Z.frozen 3)
        | (have Z := ((Blk.new w5 [.slice none 0 0, .slice none 0 0, .slice none 0 0, .bool false] 66)).keep t2; have g0 := Z.cell 0 rfl; have g1 := Z.cell 1 rfl; have g2 := Z.cell 2 rfl; have g3 := Z.cell 3 rfl; have p0 := Z.frozen 0; have p1 := Z.frozen 1; have p2 := Z.frozen 2; have p3 := Z.frozen 3)
        | (have Z := ((Blk.new w5 [.slice none 0 0, .slice none 0 0, .slice none 0 0, .bool false] 66).keep ((Only.refl [] _).drew)).keep t2; have g0 := Z.cell 0 rfl; have g1 := Z.cell 1 rfl; have g2 := Z.cell 2 rfl; have g3 := Z.cell 3 rfl; have p0 := Z.frozen 0; have p1 := Z.frozen 1; have p2 := Z.frozen 2; have p3 := Z.frozen 3)
        | (have Z := Blk.new w2 [.slice none 0 0, .slice none 0 0, .slice none 0 0, .bool false] 66; have g0 := Z.cell 0 rfl; have g1 := Z.cell 1 rfl; have g2 := Z.cell 2 rfl; have g3 := Z.cell 3 rfl; have p0 := Z.frozen 0; have p1 := Z.frozen 1; have p2 := Z.frozen 2; have p3 := Z.frozen 3))
        | fail "no arm")
      all_goals go_wp2_with fail
      all_goals go_meet
      all_goals have KK5 : Only [] w1 w2 := (by with_reducible repeat (first | exact Only.refl _ _ | assumption | refine Only.drew ?_ | refine Only.alloc ?_ _ | refine Only.trans ?_ (by assumption)))
      all_goals have hK2 : w1.heap.size ≤ w5.heap.size := (by omega)
      all_goals have hbb : ∀ g' ∈ (ob ++ fps.flatten) ++ (fd ++ fz), w1.heap.size ≤ g' := (fun g' hg' => by have := O11.out g' hg'; first | omega | (simp at this; omega))
      all_goals have h10 := O10.out
      all_goals rw [PM.pts_len] at h10
      all_goals first
        | with_reducible exact SS1.of2 KK5 o9 O3.out h10 hbb rfl
        | with_reducible exact SS1.of Z hc4 KK5 o9 O3.out h10 hbb (fun g' hg' e' => by have := O11.out g' hg'; first | omega | (simp at this; omega)) (by omega)
    case rest =>
      have q7 := hcut
      clear hcut
      obtain ⟨b, B1, B2, B3, D1, D2, D3, wh, L, D, so, ob, fps, fd, fz, rfl, B4, o9', o3, o10, o11, K3', hbw⟩ := q7
      have O3 := Lib.hid o3
      have O10 := Lib.hid o10
      have K3 := K1.trans K3'
      have Y1 := Y1.keep K3'
      have hne : b ≠ w.heap.size + 1 := by omega
      have c0 := B4.cell 0 rfl
      have c1 := B4.cell 1 rfl
      have c2 := B4.cell 2 rfl
      have c3 := B4.cell 3 rfl
      clear o3 o10 g0 g1 g2 ga0 ga1 ga2 ka
      have g0 := Y1.cell 0 rfl
      have g1 := Y1.cell 1 rfl
      have g2 := Y1.cell 2 rfl
      have g3 := Y1.cell 3 rfl
      have p0 := Y1.frozen 0
      have p1 := Y1.frozen 1
      have p2 := Y1.frozen 2
      have p3 := Y1.frozen 3
      have Yf := (((Y1.set 0 (.slice B1 L.length D1)).set 1 (.slice B2 D.length D2)).set 2 (.slice B3 so.length D3)).set 3 (.bool wh)
      simp only [List.set] at Yf
      have r0 := Yf.cell 0 rfl
      have r1 := Yf.cell 1 rfl
      have r2 := Yf.cell 2 rfl
      have r3 := Yf.cell 3 rfl
      have hno : ∀ g ∈ (ob ++ fps.flatten) ++ (fd ++ fz), g ∉ [w.heap.size + 1] := fun g hg hm => by have := o11 g hg; simp at hm; omega
      have hpost : ∀ wf, Only [w.heap.size + 1] wc wf → (((expl x = none ∧ ∃ A1 n1 C1 A2 n2 C2 A3 n3 C3 wh', (Ending.returned (.tuple #[.agg #[.slice B1 L.length D1, .slice B2 D.length D2, .slice B3 so.length D3, .bool wh], .bool wh]) : Ending) = .returned (.tuple #[.agg #[.slice A1 n1 C1, .slice A2 n2 C2, .slice A3 n3 C3, .bool wh'], .bool false])) ∨ (∃ t, expl x = some t ∧ ∃ v, (Ending.returned (.tuple #[.agg #[.slice B1 L.length D1, .slice B2 D.length D2, .slice B3 so.length D3, .bool wh], .bool wh]) : Ending) = .returned (.tuple #[v, .bool true]) ∧ SrF w.heap.size wf x t v)) ∧ Only [] w wf) := fun wf ho => by
        refine ⟨?_, K3.then_ ho (by simp)⟩
        have h3 := O3.out
        have h10 := O10.out
        cases wh with
        | false => exact .inl ⟨by simpa using h3, _, _, _, _, _, _, _, _, _, _, rfl⟩
        | true => exact .inr ⟨⟨PM.pts x.points.toNat, L, D⟩, by simpa using h3, _, rfl, B1, B2, B3, D1, D2, D3, so, ob, fps, fd, fz, rfl, o9'.only ho hno, h10, fun g hg => Nat.le_trans K1.size (o11 g hg)⟩
      have Hpost := Lib.hid hpost
      clear hpost
      go_wp2
      go_region
      all_goals go_wp2
      all_goals exact bodyPost_ret (v := .tuple #[.agg #[.slice B1 L.length D1, .slice B2 D.length D2, .slice B3 so.length D3, .bool wh], .bool wh]) (by simp [results, Tryz.results67, go_sem, r0, r1, r2, r3]) rfl (Hpost.out _ (by with_reducible repeat (first | exact Only.refl _ _ | refine Only.drew ?_ | refine Only.setCell ?_ (by simp) _)))
end Go.Proofs.YtpkplmnpepkdaaaGreat

namespace Go.Proofs.YtpkplmnpepkdaaaGreat
open Go.RowKit
set_option maxRecDepth 10000

theorem searchIndex_yes (A1 A2 A3 : Option Addr) (C1 C2 C3 : Nat) (wh : Bool) (L : List (List Int)) (D : List Int) (so : List Nat) (ob : List Nat) (fps : List (List Nat)) (fd fs : List Nat) (m : Nat) (v : Value) (s : List Int) (f : List Nat) (w : World)
    (h : SrR w A1 A2 A3 C1 C2 C3 L D so ob fps fd fs) (hS : Srt m L so) (hv : Rd w v s f) (hs : s.length = m) (hL : L.length ≤ 3000) (i : Nat) (hi : i < L.length) (hg : L.getD i [] = s) (hnd : L.Nodup) :
    Calls Tryz.prog 94 #[.agg #[.slice A1 L.length C1, .slice A2 D.length C2, .slice A3 so.length C3, .bool wh], v] w fun e w' => e = .returned (.int .i64 i) ∧ Only [] w w' := by
  refine (searchIndex_at A1 A2 A3 C1 C2 C3 wh L D so ob fps fd fs m v s f w h hS hv hs hL).mono ?_
  rintro e w' ⟨r, rfl, h1, h2, h3⟩
  have hm : s ∈ L := by rw [← hg, getD_get hi]; exact List.getElem_mem hi
  rcases h2 with rfl | ⟨k, rfl, hk, hg2⟩
  · have := h1.2 hm; omega
  · rw [getD_get hk] at hg2
    rw [getD_get hi] at hg
    have := nodup_at hnd hk hi (hg2.trans hg.symm)
    subst this
    exact ⟨rfl, h3⟩
theorem searchIndex_no (A1 A2 A3 : Option Addr) (C1 C2 C3 : Nat) (wh : Bool) (L : List (List Int)) (D : List Int) (so : List Nat) (ob : List Nat) (fps : List (List Nat)) (fd fs : List Nat) (m : Nat) (v : Value) (s : List Int) (f : List Nat) (w : World)
    (h : SrR w A1 A2 A3 C1 C2 C3 L D so ob fps fd fs) (hS : Srt m L so) (hv : Rd w v s f) (hs : s.length = m) (hL : L.length ≤ 3000) (hn : s ∉ L) :
    Calls Tryz.prog 94 #[.agg #[.slice A1 L.length C1, .slice A2 D.length C2, .slice A3 so.length C3, .bool wh], v] w fun e w' => e = .returned (.int .i64 (-1)) ∧ Only [] w w' := by
  refine (searchIndex_at A1 A2 A3 C1 C2 C3 wh L D so ob fps fd fs m v s f w h hS hv hs hL).mono ?_
  rintro e w' ⟨r, rfl, h1, h2, h3⟩
  rcases h2 with rfl | ⟨k, rfl, hk, hg2⟩
  · exact ⟨rfl, h3⟩
  · exact absurd (h1.1 (by omega)) hn
/-- the depth of a list that a search has met, -1 if it has not -/
def depT (t : Table) (s : List Int) : Int := if s ∈ t.patterns then atD t (idxL t.patterns s) else -1
theorem depT_yes {x : Puzzle} {t : Table} (hb : Built x t) {i : Nat} (hi : i < t.patterns.length) : depT t (t.patterns.getD i []) = t.distances.getD i 0 := by
  unfold depT
  rw [if_pos (by rw [getD_get hi]; exact List.getElem_mem hi), hb.idx hi]
  unfold atD
  rw [Int.toNat_natCast]
theorem depT_no {t : Table} {s : List Int} (h : s ∉ t.patterns) : depT t s = -1 := if_neg h
set_option maxHeartbeats 2000000 in
theorem depthOf_any (x : Puzzle) (t : Table) (v u : Value) (s : List Int) (f : List Nat) (w : World) {B : Nat} (h : SrF B w x t v) (hb : Built x t) (hu : Rd w u s f) (hs : s.length = x.points.toNat) :
    Calls Tryz.prog 68 #[v, u] w fun e w' => e = .returned (.int .i64 (depT t s)) ∧ Only [] w w' := by
  obtain ⟨A1, A2, A3, C1, C2, C3, so, ob, fps, fd, fz, rfl, hR, hS, -⟩ := h
  have hL := hb.ll
  have hdl : t.distances.length = t.patterns.length := hb.bi.dl
  have hnd : t.patterns.Nodup := hb.bi.nd
  have HS := Lib.hid hS
  have Hnd := Lib.hid hnd
  have Hb := Lib.hid hb
  have Hs := Lib.hid hs
  have Hdl := Lib.hid hdl
  clear hS hnd hb hs hdl
  have hB := Blk.new w [.slice A1 t.patterns.length C1, .slice A2 t.distances.length C2, .slice A3 so.length C3, .bool true] 66
  by_cases hm : s ∈ t.patterns
  · obtain ⟨i, hi, e⟩ := List.getElem_of_mem hm
    have hg : t.patterns.getD i [] = s := by rw [getD_get hi, e]
    have hd := depT_yes Hb.out hi
    rw [hg] at hd
    have hid : i < t.distances.length := by rw [Hdl.out]; exact hi
    obtain ⟨b2, off2, rfl, -, hc0⟩ := hR.dp.at_ i hid
    have hdv : t.distances.getD i 0 = t.distances[i] := getD_get hid
    have Hd := Lib.hid (hd.trans hdv)
    have Hg := Lib.hid hg
    clear hm e hg hd hdv
    go_enter Tryz.func68, Tryz.ntmps68
    go_wp2_with (first
      | (go_at_call 94; (with_reducible refine (searchIndex_yes A1 (some ⟨b2, off2, none⟩) A3 C1 C2 C3 true t.patterns t.distances so ob fps fd fz x.points.toNat _ s f _ (hR.keep (by with_reducible repeat (first | exact Only.refl _ _ | assumption | refine Only.drewN ?_ _ | refine Only.drew ?_ | refine Only.alloc ?_ _ | refine Only.setCell ?_ (by intro hh; exfalso; simp at hh; try omega) _ | refine Only.trans ?_ (by assumption)))) HS.out (Rp.keep hu (by with_reducible repeat (first | exact Only.refl _ _ | assumption | refine Only.drewN ?_ _ | refine Only.drew ?_ | refine Only.alloc ?_ _ | refine Only.setCell ?_ (by intro hh; exfalso; simp at hh; try omega) _ | refine Only.trans ?_ (by assumption)))) Hs.out hL i hi Hg.out Hnd.out).mono ?_); rintro e w1 ⟨rfl, t1⟩; have y1 := (hB.keep t1).cell 1 rfl; have y2 := (((Only.refl [] w).alloc _).trans t1).cell (by simp) hc0)
      | fail "no arm")
    go_ret
    exact ⟨ret_int Hd.out.symm, (by with_reducible repeat (first | exact Only.refl _ _ | assumption | refine Only.drewN ?_ _ | refine Only.drew ?_ | refine Only.alloc ?_ _ | refine Only.setCell ?_ (by intro hh; exfalso; simp at hh; try omega) _ | refine Only.trans ?_ (by assumption)))⟩
  · have Hd := Lib.hid (depT_no hm)
    have Hm := Lib.hid hm
    clear hm
    go_enter Tryz.func68, Tryz.ntmps68
    go_wp2_with (first
      | (go_at_call 94; (with_reducible refine (searchIndex_no A1 A2 A3 C1 C2 C3 true t.patterns t.distances so ob fps fd fz x.points.toNat _ s f _ (hR.keep (by with_reducible repeat (first | exact Only.refl _ _ | assumption | refine Only.drewN ?_ _ | refine Only.drew ?_ | refine Only.alloc ?_ _ | refine Only.setCell ?_ (by intro hh; exfalso; simp at hh; try omega) _ | refine Only.trans ?_ (by assumption)))) HS.out (Rp.keep hu (by with_reducible repeat (first | exact Only.refl _ _ | assumption | refine Only.drewN ?_ _ | refine Only.drew ?_ | refine Only.alloc ?_ _ | refine Only.setCell ?_ (by intro hh; exfalso; simp at hh; try omega) _ | refine Only.trans ?_ (by assumption)))) Hs.out hL Hm.out).mono ?_); rintro e w1 ⟨rfl, t1⟩; have y1 := (hB.keep t1).cell 1 rfl)
      | fail "no arm")
    go_ret
    exact ⟨ret_int Hd.out.symm, (by with_reducible repeat (first | exact Only.refl _ _ | assumption | refine Only.drewN ?_ _ | refine Only.drew ?_ | refine Only.alloc ?_ _ | refine Only.setCell ?_ (by intro hh; exfalso; simp at hh; try omega) _ | refine Only.trans ?_ (by assumption)))⟩
theorem searchStates_no (cs : List Value) (x : Puzzle) (fp : List Nat) (w : World) (h : Rp.rep w cs x fp) (he : expl x = none) :
    Calls Tryz.prog 67 #[.agg cs.toArray] w fun e w' => ∃ A1 n1 C1 A2 n2 C2 A3 n3 C3 wh, e = .returned (.tuple #[.agg #[.slice A1 n1 C1, .slice A2 n2 C2, .slice A3 n3 C3, .bool wh], .bool false]) ∧ Only [] w w' := by
  refine (searchStates_any cs x fp w h).mono ?_
  rintro e w' ⟨⟨-, A1, n1, C1, A2, n2, C2, A3, n3, C3, wh, rfl⟩ | ⟨t, h1, -⟩, ho⟩
  · exact ⟨A1, n1, C1, A2, n2, C2, A3, n3, C3, wh, rfl, ho⟩
  · rw [he] at h1; cases h1
theorem searchStates_yes (cs : List Value) (x : Puzzle) (t : Table) (fp : List Nat) (w : World) (h : Rp.rep w cs x fp) (he : expl x = some t) :
    Calls Tryz.prog 67 #[.agg cs.toArray] w fun e w' => ∃ A1 n1 C1 A2 n2 C2 A3 n3 C3 wh, e = .returned (.tuple #[.agg #[.slice A1 n1 C1, .slice A2 n2 C2, .slice A3 n3 C3, .bool wh], .bool true]) ∧ SrF w.heap.size w' x t (.agg #[.slice A1 n1 C1, .slice A2 n2 C2, .slice A3 n3 C3, .bool wh]) ∧ Only [] w w' := by
  refine (searchStates_any cs x fp w h).mono ?_
  rintro e w' ⟨⟨h1, -⟩ | ⟨t', h1, v, rfl, h2⟩, ho⟩
  · rw [he] at h1; cases h1
  · rw [he] at h1
    injection h1 with h1
    subst h1
    have h3 := h2
    obtain ⟨A1, A2, A3, C1, C2, C3, so, ob, fps, fd, fz, rfl, -⟩ := h3
    exact ⟨_, _, _, _, _, _, _, _, _, _, rfl, h2, ho⟩
theorem distX_dep {x : Puzzle} {t : Table} {s : List Int} (ht : expl x = some t) : distX x s = depT t s := by
  rcases hr : reachB x s
  · rw [distX_no hr, depT_no]
    intro hm
    rw [(expl_reach ht).1 hm] at hr; cases hr
  · unfold distX depT
    rw [ht, if_pos ((expl_reach ht).2 hr)]
    show (if reachB x s = true then _ else _) = _
    rw [if_pos hr]
theorem distX_nost {x : Puzzle} {s : List Int} (h : stateB x s = false) : distX x s = -1 := distX_no (by unfold reachB; rw [h]; rfl)
theorem store4 {w1 : World} {r : Nat} {o0 o1 o2 o3 : Value} (hR : Blk w1 r [o0, o1, o2, o3]) (a b c d : Value) :
    Blk ((((w1.setCell ⟨r, 0, none⟩ a).setCell ⟨r, 1, none⟩ b).setCell ⟨r, 2, none⟩ c).setCell ⟨r, 3, none⟩ d) r [a, b, c, d] ∧
    Only [r] w1 ((((w1.setCell ⟨r, 0, none⟩ a).setCell ⟨r, 1, none⟩ b).setCell ⟨r, 2, none⟩ c).setCell ⟨r, 3, none⟩ d) := by
  refine ⟨?_, ((((Only.refl _ _).setCell (by simp) _).setCell (by simp) _).setCell (by simp) _).setCell (by simp) _⟩
  exact (((hR.set 0 a).set 1 b).set 2 c).set 3 d
set_option maxHeartbeats 4000000 in
theorem searchState_any (cs : List Value) (x : Puzzle) (fp : List Nat) (v : Value) (s : List Int) (fs : List Nat) (w : World) (h : Rp.rep w cs x fp) (hs : Rd w v s fs) :
    Calls Tryz.prog 30 #[.agg cs.toArray, v] w fun e w' => ∃ A1 n1 C1 A2 n2 C2 A3 n3 C3 wh, e = .returned (.tuple #[.agg #[.slice A1 n1 C1, .slice A2 n2 C2, .slice A3 n3 C3, .bool wh], .int .i64 (distX x s), .bool (decide (0 ≤ distX x s))]) ∧ (∀ t, expl x = some t → SrF w.heap.size w' x t (.agg #[.slice A1 n1 C1, .slice A2 n2 C2, .slice A3 n3 C3, .bool wh])) ∧ Only [] w w' := by
  have h0 := h
  obtain ⟨v2, rfl, p0, p1, h2⟩ := h
  clear p0 p1 h2
  have X0 : Blk ((w.alloc (.cells #[.int .i64 x.points, .string x.names, v2] 26)).alloc (.cells #[.slice none 0 0, .slice none 0 0, .slice none 0 0, .bool false] 66)) w.heap.size [.int .i64 x.points, .string x.names, v2] := (Blk.new w [.int .i64 x.points, .string x.names, v2] 26).keep ((Only.refl _ _).alloc _)
  have Y0 : Blk ((w.alloc (.cells #[.int .i64 x.points, .string x.names, v2] 26)).alloc (.cells #[.slice none 0 0, .slice none 0 0, .slice none 0 0, .bool false] 66)) (w.heap.size + 1) [.slice none 0 0, .slice none 0 0, .slice none 0 0, .bool false] := Blk.new_at (by simp)
  rcases he : expl x with _ | t
  · have Hn := Lib.hid (distX_none (s := s) he)
    have He := Lib.hid he
    clear he
    go_enter Tryz.func30, Tryz.ntmps30
    go_wp2_with (first
      | (go_at_call 67; (with_reducible refine (searchStates_no [.int .i64 x.points, .string x.names, v2] x _ _ (Rp.keep h0 (by with_reducible repeat (first | exact Only.refl _ _ | assumption | refine Only.drewN ?_ _ | refine Only.drew ?_ | refine Only.alloc ?_ _ | refine Only.setCell ?_ (by intro hh; exfalso; simp at hh; try omega) _ | refine Only.trans ?_ (by assumption)))) He.out).mono ?_); rintro e w1 ⟨A1, n1, C1, A2, n2, C2, A3, n3, C3, wh, rfl, t1⟩; have Z := Blk.new w1 [.slice none 0 0, .slice none 0 0, .slice none 0 0, .bool false] 66; have z0 := Z.cell 0 rfl; have z1 := Z.cell 1 rfl; have z2 := Z.cell 2 rfl; have z3 := Z.cell 3 rfl; have zp0 := Z.frozen 0; have zp1 := Z.frozen 1; have zp2 := Z.frozen 2; have zp3 := Z.frozen 3; have Y1 := (Y0.keep t1).keep ((Only.refl [] _).alloc (.cells #[.slice A1 n1 C1, .slice A2 n2 C2, .slice A3 n3 C3, .bool wh] 66)); have U1 := Blk.new w1 [.slice A1 n1 C1, .slice A2 n2 C2, .slice A3 n3 C3, .bool wh] 66; have a0 := U1.cell 0 rfl; have a1 := U1.cell 1 rfl; have a2 := U1.cell 2 rfl; have a3 := U1.cell 3 rfl; have g0 := Y1.cell 0 rfl; have g1 := Y1.cell 1 rfl; have g2 := Y1.cell 2 rfl; have g3 := Y1.cell 3 rfl; have p0 := Y1.frozen 0; have p1 := Y1.frozen 1; have p2 := Y1.frozen 2; have p3 := Y1.frozen 3)
      | fail "no arm")
    have K1 : Only [] w (w1.alloc (.cells #[.slice A1 n1 C1, .slice A2 n2 C2, .slice A3 n3 C3, .bool wh] 66)) := (by with_reducible repeat (first | exact Only.refl _ _ | assumption | refine Only.drewN ?_ _ | refine Only.drew ?_ | refine Only.alloc ?_ _ | refine Only.setCell ?_ (by intro hh; exfalso; simp at hh; try omega) _ | refine Only.trans ?_ (by assumption)))
    obtain ⟨Yf, kf⟩ := store4 Y1 (.slice A1 n1 C1) (.slice A2 n2 C2) (.slice A3 n3 C3) (.bool wh)
    obtain ⟨wf, hwf⟩ : ∃ wf, wf = (((((w1.alloc (.cells #[.slice A1 n1 C1, .slice A2 n2 C2, .slice A3 n3 C3, .bool wh] 66)).setCell ⟨w.heap.size + 1, 0, none⟩ (.slice A1 n1 C1)).setCell ⟨w.heap.size + 1, 1, none⟩ (.slice A2 n2 C2)).setCell ⟨w.heap.size + 1, 2, none⟩ (.slice A3 n3 C3)).setCell ⟨w.heap.size + 1, 3, none⟩ (.bool wh)) := ⟨_, rfl⟩
    rw [← hwf] at Yf kf ⊢
    clear hwf g0 g1 g2 g3 p0 p1 p2 p3
    have r0 := Yf.cell 0 rfl
    have r1 := Yf.cell 1 rfl
    have r2 := Yf.cell 2 rfl
    have r3 := Yf.cell 3 rfl
    refine bodyPost_ret (v := .tuple #[.agg #[.slice A1 n1 C1, .slice A2 n2 C2, .slice A3 n3 C3, .bool wh], .int .i64 (-1), .bool false]) (by simp [results, Tryz.results30, go_sem, r0, r1, r2, r3]) rfl ⟨A1, n1, C1, A2, n2, C2, A3, n3, C3, wh, by rw [Hn.out]; rfl, fun t h9 => (by cases h9), K1.then_ kf (by simp)⟩
  · obtain ⟨hb, -⟩ := expl_built he
    have He := Lib.hid he
    have Hb := Lib.hid hb
    clear he hb
    rcases hq : stateB x s
    · have Hn := Lib.hid (distX_nost hq)
      have Hq := Lib.hid hq
      clear hq
      go_enter Tryz.func30, Tryz.ntmps30
      go_wp2_with (first
        | (go_at_call 67; (with_reducible refine (searchStates_yes [.int .i64 x.points, .string x.names, v2] x t _ _ (Rp.keep h0 (by with_reducible repeat (first | exact Only.refl _ _ | assumption | refine Only.drewN ?_ _ | refine Only.drew ?_ | refine Only.alloc ?_ _ | refine Only.setCell ?_ (by intro hh; exfalso; simp at hh; try omega) _ | refine Only.trans ?_ (by assumption)))) He.out).mono ?_); rintro e w1 ⟨A1, n1, C1, A2, n2, C2, A3, n3, C3, wh, rfl, hS, t1⟩; have Z := Blk.new w1 [.slice none 0 0, .slice none 0 0, .slice none 0 0, .bool false] 66; have z0 := Z.cell 0 rfl; have z1 := Z.cell 1 rfl; have z2 := Z.cell 2 rfl; have z3 := Z.cell 3 rfl; have zp0 := Z.frozen 0; have zp1 := Z.frozen 1; have zp2 := Z.frozen 2; have zp3 := Z.frozen 3; have X1 := (X0.keep t1).keep ((Only.refl [] _).alloc (.cells #[.slice A1 n1 C1, .slice A2 n2 C2, .slice A3 n3 C3, .bool wh] 66)); have x0 := X1.cell 0 rfl; have x1 := X1.cell 1 rfl; have x2 := X1.cell 2 rfl; have Y1 := (Y0.keep t1).keep ((Only.refl [] _).alloc (.cells #[.slice A1 n1 C1, .slice A2 n2 C2, .slice A3 n3 C3, .bool wh] 66)); have U1 := Blk.new w1 [.slice A1 n1 C1, .slice A2 n2 C2, .slice A3 n3 C3, .bool wh] 66)
        | (go_at_call 28; (with_reducible refine (specIsState_any [.int .i64 x.points, .string x.names, v2] x _ _ s _ _ (Rp.keep h0 (by with_reducible repeat (first | exact Only.refl _ _ | assumption | refine Only.drewN ?_ _ | refine Only.drew ?_ | refine Only.alloc ?_ _ | refine Only.setCell ?_ (by intro hh; exfalso; simp at hh; try omega) _ | refine Only.trans ?_ (by assumption)))) (Rp.keep hs (by with_reducible repeat (first | exact Only.refl _ _ | assumption | refine Only.drewN ?_ _ | refine Only.drew ?_ | refine Only.alloc ?_ _ | refine Only.setCell ?_ (by intro hh; exfalso; simp at hh; try omega) _ | refine Only.trans ?_ (by assumption))))).mono ?_); rintro e w2 ⟨he, t2⟩; rw [Hq.out] at he; subst he; have U2 := U1.keep t2; have Y2 := Y1.keep t2; have a0 := U2.cell 0 rfl; have a1 := U2.cell 1 rfl; have a2 := U2.cell 2 rfl; have a3 := U2.cell 3 rfl; have g0 := Y2.cell 0 rfl; have g1 := Y2.cell 1 rfl; have g2 := Y2.cell 2 rfl; have g3 := Y2.cell 3 rfl; have p0 := Y2.frozen 0; have p1 := Y2.frozen 1; have p2 := Y2.frozen 2; have p3 := Y2.frozen 3)
        | fail "no arm")
      have K1 : Only [] w w2 := (by with_reducible repeat (first | exact Only.refl _ _ | assumption | refine Only.drewN ?_ _ | refine Only.drew ?_ | refine Only.alloc ?_ _ | refine Only.setCell ?_ (by intro hh; exfalso; simp at hh; try omega) _ | refine Only.trans ?_ (by assumption)))
      have hS2 := SrF.keep hS (((Only.refl [] w1).alloc (.cells #[.slice A1 n1 C1, .slice A2 n2 C2, .slice A3 n3 C3, .bool wh] 66)).trans t2)
      have Y9 := Y2
      obtain ⟨Yf, kf⟩ := store4 Y9 (.slice A1 n1 C1) (.slice A2 n2 C2) (.slice A3 n3 C3) (.bool wh)
      obtain ⟨wf, hwf⟩ : ∃ wf, wf = ((((w2.setCell ⟨w.heap.size + 1, 0, none⟩ (.slice A1 n1 C1)).setCell ⟨w.heap.size + 1, 1, none⟩ (.slice A2 n2 C2)).setCell ⟨w.heap.size + 1, 2, none⟩ (.slice A3 n3 C3)).setCell ⟨w.heap.size + 1, 3, none⟩ (.bool wh)) := ⟨_, rfl⟩
      rw [← hwf] at Yf kf ⊢
      clear hwf g0 g1 g2 g3 p0 p1 p2 p3
      have r0 := Yf.cell 0 rfl
      have r1 := Yf.cell 1 rfl
      have r2 := Yf.cell 2 rfl
      have r3 := Yf.cell 3 rfl
      exact bodyPost_ret (v := .tuple #[.agg #[.slice A1 n1 C1, .slice A2 n2 C2, .slice A3 n3 C3, .bool wh], .int .i64 (-1), .bool false]) (by simp [results, Tryz.results30, go_sem, r0, r1, r2, r3]) rfl ⟨A1, n1, C1, A2, n2, C2, A3, n3, C3, wh, by rw [Hn.out]; rfl, fun t' h9 => (by injection h9 with h9; subst h9; exact (SrF.only hS2 kf (by intro b hb; simp at hb; subst hb; simp)).mono (by simp; omega)), K1.then_ kf (by simp)⟩
    · have hsl : s.length = x.points.toNat := (stateB_pn hq).2.2.2.1
      have Hq := Lib.hid hq
      have Hsl := Lib.hid hsl
      have Hd := Lib.hid (distX_dep (s := s) He.out)
      clear hq hsl
      go_enter Tryz.func30, Tryz.ntmps30
      go_wp2_with (first
        | (go_at_call 67; (with_reducible refine (searchStates_yes [.int .i64 x.points, .string x.names, v2] x t _ _ (Rp.keep h0 (by with_reducible repeat (first | exact Only.refl _ _ | assumption | refine Only.drewN ?_ _ | refine Only.drew ?_ | refine Only.alloc ?_ _ | refine Only.setCell ?_ (by intro hh; exfalso; simp at hh; try omega) _ | refine Only.trans ?_ (by assumption)))) He.out).mono ?_); rintro e w1 ⟨A1, n1, C1, A2, n2, C2, A3, n3, C3, wh, rfl, hS, t1⟩; have Z := Blk.new w1 [.slice none 0 0, .slice none 0 0, .slice none 0 0, .bool false] 66; have z0 := Z.cell 0 rfl; have z1 := Z.cell 1 rfl; have z2 := Z.cell 2 rfl; have z3 := Z.cell 3 rfl; have zp0 := Z.frozen 0; have zp1 := Z.frozen 1; have zp2 := Z.frozen 2; have zp3 := Z.frozen 3; have X1 := (X0.keep t1).keep ((Only.refl [] _).alloc (.cells #[.slice A1 n1 C1, .slice A2 n2 C2, .slice A3 n3 C3, .bool wh] 66)); have x0 := X1.cell 0 rfl; have x1 := X1.cell 1 rfl; have x2 := X1.cell 2 rfl; have Y1 := (Y0.keep t1).keep ((Only.refl [] _).alloc (.cells #[.slice A1 n1 C1, .slice A2 n2 C2, .slice A3 n3 C3, .bool wh] 66)); have U1 := Blk.new w1 [.slice A1 n1 C1, .slice A2 n2 C2, .slice A3 n3 C3, .bool wh] 66)
        | (go_at_call 28; (with_reducible refine (specIsState_any [.int .i64 x.points, .string x.names, v2] x _ _ s _ _ (Rp.keep h0 (by with_reducible repeat (first | exact Only.refl _ _ | assumption | refine Only.drewN ?_ _ | refine Only.drew ?_ | refine Only.alloc ?_ _ | refine Only.setCell ?_ (by intro hh; exfalso; simp at hh; try omega) _ | refine Only.trans ?_ (by assumption)))) (Rp.keep hs (by with_reducible repeat (first | exact Only.refl _ _ | assumption | refine Only.drewN ?_ _ | refine Only.drew ?_ | refine Only.alloc ?_ _ | refine Only.setCell ?_ (by intro hh; exfalso; simp at hh; try omega) _ | refine Only.trans ?_ (by assumption))))).mono ?_); rintro e w2 ⟨he, t2⟩; rw [Hq.out] at he; subst he; have U2 := U1.keep t2; have Y2 := Y1.keep t2; have b0 := U2.cell 0 rfl; have b1 := U2.cell 1 rfl; have b2 := U2.cell 2 rfl; have b3 := U2.cell 3 rfl; have hS2 := SrF.keep hS (((Only.refl [] w1).alloc (.cells #[.slice A1 n1 C1, .slice A2 n2 C2, .slice A3 n3 C3, .bool wh] 66)).trans t2))
        | (go_at_call 68; (with_reducible refine (depthOf_any x t _ _ s _ _ hS2 Hb.out (Rp.keep hs (by with_reducible repeat (first | exact Only.refl _ _ | assumption | refine Only.drewN ?_ _ | refine Only.drew ?_ | refine Only.alloc ?_ _ | refine Only.setCell ?_ (by intro hh; exfalso; simp at hh; try omega) _ | refine Only.trans ?_ (by assumption)))) Hsl.out).mono ?_); rintro e w3 ⟨he, t3⟩; rw [← Hd.out] at he; subst he; have U3 := U2.keep t3; have Y9 := Y2.keep t3; have a0 := U3.cell 0 rfl; have a1 := U3.cell 1 rfl; have a2 := U3.cell 2 rfl; have a3 := U3.cell 3 rfl; have g0 := Y9.cell 0 rfl; have g1 := Y9.cell 1 rfl; have g2 := Y9.cell 2 rfl; have g3 := Y9.cell 3 rfl; have p0 := Y9.frozen 0; have p1 := Y9.frozen 1; have p2 := Y9.frozen 2; have p3 := Y9.frozen 3)
        | fail "no arm")
      have K1 : Only [] w w3 := (by with_reducible repeat (first | exact Only.refl _ _ | assumption | refine Only.drewN ?_ _ | refine Only.drew ?_ | refine Only.alloc ?_ _ | refine Only.setCell ?_ (by intro hh; exfalso; simp at hh; try omega) _ | refine Only.trans ?_ (by assumption)))
      have hS3 := SrF.keep hS2 t3
      obtain ⟨Yf, kf⟩ := store4 Y9 (.slice A1 n1 C1) (.slice A2 n2 C2) (.slice A3 n3 C3) (.bool wh)
      obtain ⟨wf, hwf⟩ : ∃ wf, wf = ((((w3.setCell ⟨w.heap.size + 1, 0, none⟩ (.slice A1 n1 C1)).setCell ⟨w.heap.size + 1, 1, none⟩ (.slice A2 n2 C2)).setCell ⟨w.heap.size + 1, 2, none⟩ (.slice A3 n3 C3)).setCell ⟨w.heap.size + 1, 3, none⟩ (.bool wh)) := ⟨_, rfl⟩
      rw [← hwf] at Yf kf ⊢
      clear hwf g0 g1 g2 g3 p0 p1 p2 p3
      have r0 := Yf.cell 0 rfl
      have r1 := Yf.cell 1 rfl
      have r2 := Yf.cell 2 rfl
      have r3 := Yf.cell 3 rfl
      exact bodyPost_ret (v := .tuple #[.agg #[.slice A1 n1 C1, .slice A2 n2 C2, .slice A3 n3 C3, .bool wh], .int .i64 (distX x s), .bool (decide (0 ≤ distX x s))]) (by simp [results, Tryz.results30, go_sem, r0, r1, r2, r3]) rfl ⟨A1, n1, C1, A2, n2, C2, A3, n3, C3, wh, rfl, fun t' h9 => (by injection h9 with h9; subst h9; exact (SrF.only hS3 kf (by intro b hb; simp at hb; subst hb; simp)).mono (by simp; omega)), K1.then_ kf (by simp)⟩
set_option maxHeartbeats 4000000 in
theorem specDistance_any (cs : List Value) (x : Puzzle) (fp : List Nat) (v : Value) (s : List Int) (fs : List Nat) (w : World) (h : Rp.rep w cs x fp) (hs : Rd w v s fs) :
    Calls Tryz.prog 13 #[.agg cs.toArray, v] w fun e w' => e = .returned (.int .i64 (distX x s)) ∧ Only [] w w' := by
  have h0 := h
  obtain ⟨v2, rfl, p0, p1, h2⟩ := h
  clear p0 p1 h2
  by_cases hd : 0 ≤ distX x s
  · have hdb : decide (0 ≤ distX x s) = true := decide_eq_true hd
    have Hdb := Lib.hid hdb
    clear hdb hd
    go_enter Tryz.func13, Tryz.ntmps13
    go_wp2_with (first
      | (go_at_call 30; (with_reducible refine (searchState_any [.int .i64 x.points, .string x.names, v2] x _ v s _ _ (Rp.keep h0 (by with_reducible repeat (first | exact Only.refl _ _ | assumption | refine Only.drewN ?_ _ | refine Only.drew ?_ | refine Only.alloc ?_ _ | refine Only.setCell ?_ (by intro hh; exfalso; simp at hh; try omega) _ | refine Only.trans ?_ (by assumption)))) (Rp.keep hs (by with_reducible repeat (first | exact Only.refl _ _ | assumption | refine Only.drewN ?_ _ | refine Only.drew ?_ | refine Only.alloc ?_ _ | refine Only.setCell ?_ (by intro hh; exfalso; simp at hh; try omega) _ | refine Only.trans ?_ (by assumption))))).mono ?_); rintro e w1 ⟨A1, n1, C1, A2, n2, C2, A3, n3, C3, wh, he, q1, t1⟩; rw [Hdb.out] at he; subst he)
      | fail "no arm")
    go_ret
    exact ⟨rfl, (by with_reducible repeat (first | exact Only.refl _ _ | assumption | refine Only.drewN ?_ _ | refine Only.drew ?_ | refine Only.alloc ?_ _ | refine Only.setCell ?_ (by intro hh; exfalso; simp at hh; try omega) _ | refine Only.trans ?_ (by assumption)))⟩
  · have hdb : decide (0 ≤ distX x s) = false := decide_eq_false hd
    have Hdb := Lib.hid hdb
    have hn : distX x s = -1 := by
      rcases distX_or x s with h1 | h1
      · exact h1
      · exact absurd h1.1 hd
    have Hn := Lib.hid hn
    clear hdb hd hn
    go_enter Tryz.func13, Tryz.ntmps13
    go_wp2_with (first
      | (go_at_call 30; (with_reducible refine (searchState_any [.int .i64 x.points, .string x.names, v2] x _ v s _ _ (Rp.keep h0 (by with_reducible repeat (first | exact Only.refl _ _ | assumption | refine Only.drewN ?_ _ | refine Only.drew ?_ | refine Only.alloc ?_ _ | refine Only.setCell ?_ (by intro hh; exfalso; simp at hh; try omega) _ | refine Only.trans ?_ (by assumption)))) (Rp.keep hs (by with_reducible repeat (first | exact Only.refl _ _ | assumption | refine Only.drewN ?_ _ | refine Only.drew ?_ | refine Only.alloc ?_ _ | refine Only.setCell ?_ (by intro hh; exfalso; simp at hh; try omega) _ | refine Only.trans ?_ (by assumption))))).mono ?_); rintro e w1 ⟨A1, n1, C1, A2, n2, C2, A3, n3, C3, wh, he, q1, t1⟩; rw [Hdb.out] at he; subst he)
      | fail "no arm")
    go_ret
    exact ⟨ret_int Hn.out.symm, (by with_reducible repeat (first | exact Only.refl _ _ | assumption | refine Only.drewN ?_ _ | refine Only.drew ?_ | refine Only.alloc ?_ _ | refine Only.setCell ?_ (by intro hh; exfalso; simp at hh; try omega) _ | refine Only.trans ?_ (by assumption)))⟩
end Go.Proofs.YtpkplmnpepkdaaaGreat

namespace Go.Proofs.YtpkplmnpepkdaaaGreat
open Go.RowKit
set_option maxRecDepth 10000

theorem chain_ex9 (n : Nat) (vg : Value) (gens : List (List Int)) (fpg : List Nat) (w : World) (hg : Rd w vg gens fpg) (hgs : gensB n gens = true) : ∃ G T, PM.Chain n gens G T := by
  obtain ⟨⟨n1, n20⟩, hgl, hpn⟩ := gensB_iff.1 hgs
  obtain ⟨e, w', fr, ⟨L, gv, G, T, M, F, -, -, -, -, h, -⟩, -⟩ := buildChain_any n (by omega) (by omega) vg gens fpg w hg (by simpa using hpn) (by omega) []
  exact ⟨G, T, h⟩
theorem chain_ex8 {x : Puzzle} {v2 : Value} {fp : List Nat} {w : World} (h2 : Rd w v2 x.moves fp) (hv : validPz x = true) : ∃ G T, PM.Chain x.points.toNat x.moves G T := by
  have hf := validPz_facts hv
  have h1 : ((x.points.toNat : Nat) : Int) = x.points := by omega
  exact chain_ex9 x.points.toNat v2 x.moves _ w h2 (by rw [h1]; exact validPz_gensB hv)
theorem rndS_grp9 (cs : List Value) (x : Puzzle) (fp : List Nat) (seed : Int) (w : World) (h : Rp.rep w cs x fp) (hs : (rndS x seed).2 = true) : PM.Grp x.points.toNat x.moves (rndS x seed).1 := by
  obtain ⟨v2, rfl, p0, p1, h2⟩ := h
  have h34 : validPz x = true ∧ (rndS x seed).1 = memAt x.points.toNat x.moves (rstK x.points.toNat x.moves seed) := by
    unfold rndS at hs ⊢
    split at hs
    · rename_i hc; rw [if_pos hc]; exact ⟨hc.1, rfl⟩
    · cases hs
  obtain ⟨h3, h4⟩ := h34
  have hg := validPz_gensB h3
  obtain ⟨⟨n1, n20⟩, -, hp⟩ := gensB_iff.1 hg
  obtain ⟨G, T, hC⟩ := chain_ex8 h2 h3
  rw [h4]
  exact hC.descG_grp (by omega) hp _ (msel_good hC (by omega) hp _)
theorem expl_place9 {x : Puzzle} {t : Table} {s : List Int} (he : expl x = some t) (hs : PM.Grp x.points.toNat x.moves s) : ∃ i : Nat, i < t.patterns.length ∧ t.patterns.getD i [] = s := by
  have hm := (expl_mem he).2 hs
  obtain ⟨i, hi, e⟩ := List.getElem_of_mem hm
  exact ⟨i, hi, by rw [getD_get hi, e]⟩
set_option maxHeartbeats 16000000 in
theorem FnAdmissibleTables_any (w : World) (v : Value) (l : List UInt8) (fc : List Nat) (h : Rd w v l fc) :
    Calls Tryz.prog 3 #[v] w fun e w' => e = .returned (.bool true) ∧ Only [] w w' := by
  by_cases hb : 4096 < l.length
  · have hd : decide (4096 < l.length) = true := by simp [hb]
    go_enter Tryz.func3, Tryz.ntmps3
    go_wp2_with ((go_at_call 4; (with_reducible refine (big_any v l fc _ h).mono ?_); rintro e w1 ⟨he, t1⟩; rw [hd] at he; subst he))
    go_ret
    exact ⟨rfl, (by with_reducible repeat (first | exact Only.refl _ _ | assumption | refine Only.drewN ?_ _ | refine Only.drew ?_ | refine Only.alloc ?_ _ | refine Only.setCell ?_ (by intro hh; exfalso; simp at hh; try omega) _ | refine Only.trans ?_ (by assumption)))⟩
  have hd : decide (4096 < l.length) = false := by simp [hb]
  have hl : l.length ≤ 4096 := by omega
  go_enter Tryz.func3, Tryz.ntmps3
  go_upto_region 4 with (first
    | (go_at_call 4; (with_reducible refine (big_any v l fc _ h).mono ?_); rintro e w1 ⟨he, t1⟩; rw [hd] at he; subst he; have k1 : Only [] w w1 := (by with_reducible repeat (first | exact Only.refl _ _ | assumption | refine Only.drewN ?_ _ | refine Only.drew ?_ | refine Only.alloc ?_ _ | refine Only.setCell ?_ (by intro hh; exfalso; simp at hh; try omega) _ | refine Only.trans ?_ (by assumption))))
    | (go_at_call 5; (with_reducible refine (drawAdm_any v l fc w1 (Rp.keep h k1) hl).mono ?_); rintro e w2 ⟨n, nm, am, cm, gs, fp, u1, u2, u3, t, f, rfl, rp, rt, hmid, h5, hg9, t2⟩; have rt' := rt; obtain ⟨_, _, _, _, _, _, hcs, -, k1', k2', k3'⟩ := rt'; injection hcs with h1 hcs; injection hcs with h2 hcs; injection hcs with h3 hcs; subst h1; subst h2; subst h3; obtain ⟨a1, c1, _, _, rfl, -, -⟩ := k1'.open_; obtain ⟨a2, c2, _, _, rfl, -, -⟩ := k2'.open_; obtain ⟨a3, c3, _, _, rfl, -, -⟩ := k3'.open_)
    | fail "no arm")
  have kal : Only [] w2 ((w2.alloc (.cells #[.int .i64 n, .string nm, .slice am gs.length cm] 26)).alloc (.cells #[.slice a1 t.tracked.length c1, .slice a2 t.patterns.length c2, .slice a3 t.distances.length c3] 29)) := ((Only.refl _ _).alloc _).alloc _
  have Bp := (Blk.new w2 [.int .i64 n, .string nm, .slice am gs.length cm] 26).keep ((Only.refl _ _).alloc (.cells #[.slice a1 t.tracked.length c1, .slice a2 t.patterns.length c2, .slice a3 t.distances.length c3] 29))
  have Bt := Blk.new (w2.alloc (.cells #[.int .i64 n, .string nm, .slice am gs.length cm] 26)) [.slice a1 t.tracked.length c1, .slice a2 t.patterns.length c2, .slice a3 t.distances.length c3] 29
  have eY : (w2.alloc (.cells #[.int .i64 n, .string nm, .slice am gs.length cm] 26)).heap.size = w2.heap.size + 1 := by simp
  rw [eY] at Bt
  have rpW := Rp.keep rp kal
  have rtW := Rp.keep rt kal
  have rkW := Rp.keep k1' kal
  have kW := (k1.trans t2).trans kal
  have rvW := Rp.keep h kW
  obtain ⟨W2, hW2⟩ : ∃ W, W = ((w2.alloc (.cells #[.int .i64 n, .string nm, .slice am gs.length cm] 26)).alloc (.cells #[.slice a1 t.tracked.length c1, .slice a2 t.patterns.length c2, .slice a3 t.distances.length c3] 29)) := ⟨_, rfl⟩
  obtain ⟨pb, hpb⟩ : ∃ pb, pb = w2.heap.size := ⟨_, rfl⟩
  obtain ⟨tb, htb⟩ : ∃ tb, tb = w2.heap.size + 1 := ⟨_, rfl⟩
  try rw [eY]
  rw [← hW2] at Bp Bt rpW rtW rkW kW rvW ⊢
  rw [← htb] at Bt ⊢
  rw [← hpb] at Bp ⊢
  clear hW2 hpb htb eY kal rp rt k1 t1 t2 hb hd h k1' k2' k3'
  have c00 := Bp.cell 0 rfl; have c10 := Bp.cell 1 rfl; have c20 := Bp.cell 2 rfl; have d00 := Bt.cell 0 rfl; have d10 := Bt.cell 1 rfl; have d20 := Bt.cell 2 rfl
  have hp2 := Bp.lt; have ht2 := Bt.lt
  have HcI := Lib.hid (fun (W : World) (hK : Only [] W2 W) => implIsAdmissible_any [.int .i64 n, .string nm, .slice am gs.length cm] [.slice a1 t.tracked.length c1, .slice a2 t.patterns.length c2, .slice a3 t.distances.length c3] (⟨n, nm, gs⟩ : Puzzle) t fp f W (Rp.keep rpW hK) (Rp.keep rtW hK))
  have HcS := Lib.hid (fun (W : World) (hK : Only [] W2 W) => specIsAdmissible_any [.int .i64 n, .string nm, .slice am gs.length cm] [.slice a1 t.tracked.length c1, .slice a2 t.patterns.length c2, .slice a3 t.distances.length c3] (⟨n, nm, gs⟩ : Puzzle) t fp f W (Rp.keep rpW hK) (Rp.keep rtW hK))
  rcases hA : admB (⟨n, nm, gs⟩ : Puzzle) t
  · rw [hA] at HcI HcS
    clear hA
    go_wp2_with (first
    | (go_at_call 6; (with_reducible refine (HcI.out _ (by with_reducible repeat (first | exact Only.refl _ _ | assumption | refine Only.drewN ?_ _ | refine Only.drew ?_ | refine Only.alloc ?_ _ | refine Only.setCell ?_ (by intro hh; exfalso; simp at hh; try omega) _ | refine Only.trans ?_ (by assumption)))).mono ?_); rintro e w3 ⟨rfl, t3⟩; have P3 := Bp.keep t3; have T3 := Bt.keep t3; have c03 := P3.cell 0 rfl; have c13 := P3.cell 1 rfl; have c23 := P3.cell 2 rfl; have d03 := T3.cell 0 rfl; have d13 := T3.cell 1 rfl; have d23 := T3.cell 2 rfl)
    | (go_at_call 7; (with_reducible refine (HcS.out _ (by with_reducible repeat (first | exact Only.refl _ _ | assumption | refine Only.drewN ?_ _ | refine Only.drew ?_ | refine Only.alloc ?_ _ | refine Only.setCell ?_ (by intro hh; exfalso; simp at hh; try omega) _ | refine Only.trans ?_ (by assumption)))).mono ?_); rintro e w4 ⟨rfl, t4⟩)
    | fail "no arm")
    go_ret
    exact ⟨rfl, kW.trans (by with_reducible repeat (first | exact Only.refl _ _ | assumption | refine Only.drewN ?_ _ | refine Only.drew ?_ | refine Only.alloc ?_ _ | refine Only.setCell ?_ (by intro hh; exfalso; simp at hh; try omega) _ | refine Only.trans ?_ (by assumption)))⟩
  rw [hA] at HcI HcS
  obtain ⟨hck, -⟩ := adm_parts hA
  have hk := checkT_iff.1 hck
  have hv : validPz (⟨n, nm, gs⟩ : Puzzle) = true := hk.1
  have htr := hk.2.2.1
  have hvt : (validPz (⟨n, nm, gs⟩ : Puzzle) && trackB (⟨n, nm, gs⟩ : Puzzle).points t.tracked) = true := by rw [hv, htr]; rfl
  have hn5 : n ≤ 5 := h5 hv
  obtain ⟨u, hu⟩ := (expl_iff hv).2 (card5 hv hn5)
  have HA := Lib.hid hA; have HU := Lib.hid hu; have HV := Lib.hid hv; have HVT := Lib.hid hvt; have HM := Lib.hid hmid
  clear hA hck hk htr hvt hu hmid h5 hv
  go_upto_region 9 with (first
    | (go_at_call 6; (with_reducible refine (HcI.out _ (by with_reducible repeat (first | exact Only.refl _ _ | assumption | refine Only.drewN ?_ _ | refine Only.drew ?_ | refine Only.alloc ?_ _ | refine Only.setCell ?_ (by intro hh; exfalso; simp at hh; try omega) _ | refine Only.trans ?_ (by assumption)))).mono ?_); rintro e w3 ⟨rfl, t3⟩; have P3 := Bp.keep t3; have T3 := Bt.keep t3; have c03 := P3.cell 0 rfl; have c13 := P3.cell 1 rfl; have c23 := P3.cell 2 rfl; have d03 := T3.cell 0 rfl; have d13 := T3.cell 1 rfl; have d23 := T3.cell 2 rfl)
    | (go_at_call 7; (with_reducible refine (HcS.out _ (by with_reducible repeat (first | exact Only.refl _ _ | assumption | refine Only.drewN ?_ _ | refine Only.drew ?_ | refine Only.alloc ?_ _ | refine Only.setCell ?_ (by intro hh; exfalso; simp at hh; try omega) _ | refine Only.trans ?_ (by assumption)))).mono ?_); rintro e w4 ⟨rfl, t4⟩)
    | fail "no arm")
  have k24 : Only [] W2 w4 := t3.trans t4
  have P4 := Bp.keep k24
  have T4 := Bt.keep k24
  clear c00 c10 c20 d00 d10 d20 c03 c13 c23 d03 d13 d23 P3 T3
  have c04 := P4.cell 0 rfl; have c14 := P4.cell 1 rfl; have c24 := P4.cell 2 rfl; have d04 := T4.cell 0 rfl; have d14 := T4.cell 1 rfl; have d24 := T4.cell 2 rfl
  have HcR := Lib.hid (fun (W : World) (hK : Only [] W2 W) (r : Int) => specRandomState_any [.int .i64 n, .string nm, .slice am gs.length cm] (⟨n, nm, gs⟩ : Puzzle) fp r W (Rp.keep rpW hK))
  go_cut [6, 7] (fun s6 s7 wx => ∃ (r : Int) (a8 : Option Addr) (c8 : Nat) (f8 : List Nat), s6 = .slice a8 (rndS (⟨n, nm, gs⟩ : Puzzle) r).1.length c8 ∧ s7 = .bool true ∧ (rndS (⟨n, nm, gs⟩ : Puzzle) r).2 = true ∧ Rd wx (.slice a8 (rndS (⟨n, nm, gs⟩ : Puzzle) r).1.length c8) (rndS (⟨n, nm, gs⟩ : Puzzle) r).1 f8 ∧ Only [] w4 wx)
  case first =>
    go_region_law (first
      | (go_simp; go_at_call 9; (with_reducible refine (roll_any v l fc 916 _ (Rp.keep rvW (k24.trans (by with_reducible repeat (first | exact Only.refl _ _ | assumption | refine Only.drewN ?_ _ | refine Only.drew ?_ | refine Only.alloc ?_ _ | refine Only.trans ?_ (by assumption))))) hl).mono ?_); rintro e w6 ⟨g, rfl, D6, hg6, t6⟩; have K46 : Only [] w4 w6 := Only.trans (by with_reducible repeat (first | exact Only.refl _ _ | assumption | refine Only.drewN ?_ _ | refine Only.drew ?_ | refine Only.alloc ?_ _ | refine Only.trans ?_ (by assumption))) t6; have P6 := P4.keep K46; have c06 := P6.cell 0 rfl; have c16 := P6.cell 1 rfl; have c26 := P6.cell 2 rfl; have hgg : w4.heap.size ≤ g := (by simpa using hg6))
      | (go_simp; go_at_call 10; (with_reducible refine (below_any g fc l 100000 _ (D6.keep (by with_reducible repeat (first | exact Only.refl _ _ | assumption | refine Only.drewN ?_ _ | refine Only.drew ?_ | refine Only.alloc ?_ _ | refine Only.trans ?_ (by assumption)))) (by omega) (by omega) hl).mono ?_); rintro e w7 ⟨r, rfl, r0, r1, D7, K7⟩; have K47 : Only [] w4 w7 := Only.then_ (Only.trans K46 (by with_reducible repeat (first | exact Only.refl _ _ | assumption | refine Only.drewN ?_ _ | refine Only.drew ?_ | refine Only.alloc ?_ _ | refine Only.trans ?_ (by assumption)))) K7 (fun b hb hl => by simp at hb; omega); have P7 := P4.keep K47; have c07 := P7.cell 0 rfl; have c17 := P7.cell 1 rfl; have c27 := P7.cell 2 rfl; have hs2 : (rndS (⟨n, nm, gs⟩ : Puzzle) r).2 = true := (by unfold rndS; rw [if_pos ⟨HV.out, by rw [inR_iff]; omega⟩]))
      | (go_simp; go_at_call 8; (with_reducible refine (HcR.out _ (k24.trans (K47.trans (by with_reducible repeat (first | exact Only.refl _ _ | assumption | refine Only.drewN ?_ _ | refine Only.drew ?_ | refine Only.alloc ?_ _ | refine Only.trans ?_ (by assumption))))) r).mono ?_); rintro e w8 ⟨u8, f8, he8, r8, F8, t8⟩; rw [hs2] at he8; subst he8; obtain ⟨a8, c8, rfl, I8⟩ := r8.ints; have K48 : Only [] w4 w8 := Only.trans K47 (Only.trans (by with_reducible repeat (first | exact Only.refl _ _ | assumption | refine Only.drewN ?_ _ | refine Only.drew ?_ | refine Only.alloc ?_ _ | refine Only.trans ?_ (by assumption))) t8); have P8 := P4.keep K48; have c08 := P8.cell 0 rfl; have c18 := P8.cell 1 rfl; have c28 := P8.cell 2 rfl)
      | fail "no arm")
    all_goals
      go_wp2
      go_meet
      exact ⟨r, a8, c8, f8, rfl, rfl, hs2, Rp.keep r8 (by with_reducible repeat (first | exact Only.refl _ _ | assumption | refine Only.drewN ?_ _ | refine Only.drew ?_ | refine Only.alloc ?_ _ | refine Only.trans ?_ (by assumption))), K48.trans (by with_reducible repeat (first | exact Only.refl _ _ | assumption | refine Only.drewN ?_ _ | refine Only.drew ?_ | refine Only.alloc ?_ _ | refine Only.trans ?_ (by assumption)))⟩
  case rest =>
  obtain ⟨W8, hnew⟩ : ∃ W, W = wc := ⟨_, rfl⟩
  subst hnew
  obtain ⟨r, a8, c8, f8, rfl, rfl, hs2, r8, K48⟩ := hcut
  refine (show ∀ a w, Code.wp Tryz.prog _ _ a w → _ from by assumption) _ _ ?_
  have hG := rndS_grp9 [.int .i64 n, .string nm, .slice am gs.length cm] (⟨n, nm, gs⟩ : Puzzle) fp r W2 rpW hs2
  obtain ⟨s, hs⟩ : ∃ s, s = (rndS (⟨n, nm, gs⟩ : Puzzle) r).1 := ⟨_, rfl⟩
  rw [← hs] at r8 hG ⊢
  clear hs hs2
  obtain ⟨i0, i1, i2⟩ := expl_place9 HU.out hG
  have hre : reachB (⟨n, nm, gs⟩ : Puzzle) s = true := (expl_reach HU.out).1 (by rw [← i2, getD_get i1]; exact List.getElem_mem i1)
  have hst := reachB_state hre
  have hlow := adm_low HA.out HU.out hre
  have K28 := k24.trans K48
  have P8 := Bp.keep K28
  have T8 := Bt.keep K28
  have c08 := P8.cell 0 rfl; have c18 := P8.cell 1 rfl; have c28 := P8.cell 2 rfl; have d08 := T8.cell 0 rfl; have d18 := T8.cell 1 rfl; have d28 := T8.cell 2 rfl
  have HcP := Lib.hid (fun (W : World) (hK : Only [] W8 W) => specPatternOf_yes [.int .i64 n, .string nm, .slice am gs.length cm] (⟨n, nm, gs⟩ : Puzzle) fp (.slice a1 t.tracked.length c1) (.slice a8 s.length c8) t.tracked s _ f8 W (Rp.keep rpW (K28.trans hK)) (Rp.keep rkW (K28.trans hK)) (Rp.keep r8 hK) HVT.out hst)
  have HcD := Lib.hid (fun (W : World) (hK : Only [] W8 W) => specDistance_any [.int .i64 n, .string nm, .slice am gs.length cm] (⟨n, nm, gs⟩ : Puzzle) fp (.slice a8 s.length c8) s f8 W (Rp.keep rpW (K28.trans hK)) (Rp.keep r8 hK))
  have HcL := Lib.hid (fun (W : World) (hK : Only [] W8 W) (q : Value) (pl : List Int) (fq : List Nat) (hq : Rd W q pl fq) => specTableLookup_any [.slice a1 t.tracked.length c1, .slice a2 t.patterns.length c2, .slice a3 t.distances.length c3] t f q pl fq W (Rp.keep rtW (K28.trans hK)) hq)
  obtain ⟨L, hL⟩ : ∃ L, L = lookV t (PM.comp t.tracked s) := ⟨_, rfl⟩
  obtain ⟨E, hE⟩ : ∃ E, E = distX (⟨n, nm, gs⟩ : Puzzle) s := ⟨_, rfl⟩
  rw [← hL, ← hE] at hlow
  rw [← hE] at HcD
  have HL := Lib.hid hL
  clear hL hE hG i1 i2 hre hst c04 c14 c24 d04 d14 d24
  obtain ⟨hl0, hl1⟩ := hlow
  go_upto_region 12 with fail
  go_cut [8] (fun s8 wx => s8 = .int .i64 L ∧ Only [] W8 wx)
  case first =>
    go_region_law (first
      | (go_simp; go_at_call 12; (with_reducible refine (HcP.out _ (by with_reducible repeat (first | exact Only.refl _ _ | assumption | refine Only.drewN ?_ _ | refine Only.drew ?_ | refine Only.alloc ?_ _ | refine Only.trans ?_ (by assumption)))).mono ?_); rintro e w9 ⟨u9, f9, rfl, r9, F9, t9⟩; obtain ⟨a9, c9, rfl, I9⟩ := r9.ints; have K89 : Only [] W8 w9 := Only.trans (by with_reducible repeat (first | exact Only.refl _ _ | assumption | refine Only.drewN ?_ _ | refine Only.drew ?_ | refine Only.alloc ?_ _ | refine Only.trans ?_ (by assumption))) t9; have P9 := P8.keep K89; have T9 := T8.keep K89; have c09 := P9.cell 0 rfl; have c19 := P9.cell 1 rfl; have c29 := P9.cell 2 rfl; have d09 := T9.cell 0 rfl; have d19 := T9.cell 1 rfl; have d29 := T9.cell 2 rfl)
      | (go_simp; go_at_call 11; (with_reducible refine (HcL.out _ (K89.trans (by with_reducible repeat (first | exact Only.refl _ _ | assumption | refine Only.drewN ?_ _ | refine Only.drew ?_ | refine Only.alloc ?_ _ | refine Only.trans ?_ (by assumption)))) _ _ _ (Rp.keep r9 (by with_reducible repeat (first | exact Only.refl _ _ | assumption | refine Only.drewN ?_ _ | refine Only.drew ?_ | refine Only.alloc ?_ _ | refine Only.trans ?_ (by assumption))))).mono ?_); rintro e wA ⟨heA, tA⟩; rw [← HL.out] at heA; subst heA; have K8A : Only [] W8 wA := Only.trans K89 (Only.trans (by with_reducible repeat (first | exact Only.refl _ _ | assumption | refine Only.drewN ?_ _ | refine Only.drew ?_ | refine Only.alloc ?_ _ | refine Only.trans ?_ (by assumption))) tA))
      | fail "no arm")
    all_goals
      go_wp2
      go_meet
      exact ⟨rfl, K8A.trans (by with_reducible repeat (first | exact Only.refl _ _ | assumption | refine Only.drewN ?_ _ | refine Only.drew ?_ | refine Only.alloc ?_ _ | refine Only.trans ?_ (by assumption)))⟩
  case rest =>
  obtain ⟨WA, hnew⟩ : ∃ W, W = wc := ⟨_, rfl⟩
  subst hnew
  obtain ⟨rfl, K8A⟩ := hcut
  refine (show ∀ a w, Code.wp Tryz.prog _ _ a w → _ from by assumption) _ _ ?_
  have PA := P8.keep K8A
  have c0A := PA.cell 0 rfl; have c1A := PA.cell 1 rfl; have c2A := PA.cell 2 rfl
  go_wp2_with (first
    | (go_at_call 13; (with_reducible refine (HcD.out _ (K8A.trans (by with_reducible repeat (first | exact Only.refl _ _ | assumption | refine Only.drewN ?_ _ | refine Only.drew ?_ | refine Only.alloc ?_ _ | refine Only.setCell ?_ (by intro hh; exfalso; simp at hh; try omega) _ | refine Only.trans ?_ (by assumption))))).mono ?_); rintro e wB ⟨rfl, tB⟩)
    | fail "no arm")
  go_ret
  refine ⟨?_, kW.trans (K28.trans (K8A.trans (by with_reducible repeat (first | exact Only.refl _ _ | assumption | refine Only.drewN ?_ _ | refine Only.drew ?_ | refine Only.alloc ?_ _ | refine Only.setCell ?_ (by intro hh; exfalso; simp at hh; try omega) _ | refine Only.trans ?_ (by assumption)))))⟩
  first
    | rfl
    | exact ret_bool (by simp)
end Go.Proofs.YtpkplmnpepkdaaaGreat
