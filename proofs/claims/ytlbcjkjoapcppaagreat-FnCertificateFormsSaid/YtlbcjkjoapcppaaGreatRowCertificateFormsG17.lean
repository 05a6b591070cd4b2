/- The reference's depth of a state, its distance (laws 20, 38). The reference's smallest optimal word (laws 20, 38). The program's search of patterns (law 16). The program's ReachablePatterns, BuildTable, BuildTables (law 16). Valid tables, sets of tables: the reference's and the program's functions (laws 40, 42, 43, 52). (Printed by mkvtab.py.) The reference's LowerBound (laws 40, 42, 43, 52). The program's LowerBound (laws 40, 42, 43, 52). Certificate: plain data, how it lies in memory, the laws' own helpers on it. (Printed by gen_struct.py.) The certificate of a solution: the reference's and the program's. -/
import Derived.Test.YtlbcjkjoapcppaaGreatRowCertificateFormsG16
import Derived.Test.YtlbcjkjoapcppaaGreatRowCertificateFormsG10
import Derived.Test.YtlbcjkjoapcppaaGreatRowCertificateFormsG8
import Derived.Deep.RegionHeld3
import Derived.Test.YtlbcjkjoapcppaaGreatRowCertificateFormsG9
import Derived.Test.YtlbcjkjoapcppaaGreatRowCertificateFormsG11
import Derived.Test.YtlbcjkjoapcppaaGreatRowCertificateFormsG2
import Derived.Test.YtlbcjkjoapcppaaGreatRowCertificateFormsG3
import Derived.Deep.RegionLaw
import Derived.Test.YtlbcjkjoapcppaaGreatRowCertificateFormsG1
namespace Go.Proofs.YtlbcjkjoapcppaaGreat
open Go.RowKit
set_option maxRecDepth 10000

theorem searchIndex_yes (A1 A2 A3 : Option Addr) (C1 C2 C3 : Nat) (wh : Bool) (L : List (List Int)) (D : List Int) (so : List Nat) (ob : List Nat) (fps : List (List Nat)) (fd fs : List Nat) (m : Nat) (v : Value) (s : List Int) (f : List Nat) (w : World)
    (h : SrR w A1 A2 A3 C1 C2 C3 L D so ob fps fd fs) (hS : Srt m L so) (hv : Rd w v s f) (hs : s.length = m) (hL : L.length ≤ 3000) (i : Nat) (hi : i < L.length) (hg : L.getD i [] = s) (hnd : L.Nodup) :
    Calls Tryz.prog 95 #[.agg #[.slice A1 L.length C1, .slice A2 D.length C2, .slice A3 so.length C3, .bool wh], v] w fun e w' => e = .returned (.int .i64 i) ∧ Only [] w w' := by
  refine (searchIndex_at A1 A2 A3 C1 C2 C3 wh L D so ob fps fd fs m v s f w h hS hv hs hL).mono ?_
  rintro e w' ⟨r, rfl, h1, h2, h3⟩
  have hm : s ∈ L := by rw [← hg, getD_get hi]; exact List.getElem_mem hi
  rcases h2 with rfl | ⟨k, rfl, hk, hg2⟩
  · have := h1.2 hm; omega
  · rw [getD_get hk] at hg2
    rw [getD_get hi] at hg
    have := nodup_at hnd hk hi (hg2.trans hg.symm)
    subst this
    exact ⟨rfl, h3⟩
theorem searchIndex_no (A1 A2 A3 : Option Addr) (C1 C2 C3 : Nat) (wh : Bool) (L : List (List Int)) (D : List Int) (so : List Nat) (ob : List Nat) (fps : List (List Nat)) (fd fs : List Nat) (m : Nat) (v : Value) (s : List Int) (f : List Nat) (w : World)
    (h : SrR w A1 A2 A3 C1 C2 C3 L D so ob fps fd fs) (hS : Srt m L so) (hv : Rd w v s f) (hs : s.length = m) (hL : L.length ≤ 3000) (hn : s ∉ L) :
    Calls Tryz.prog 95 #[.agg #[.slice A1 L.length C1, .slice A2 D.length C2, .slice A3 so.length C3, .bool wh], v] w fun e w' => e = .returned (.int .i64 (-1)) ∧ Only [] w w' := by
  refine (searchIndex_at A1 A2 A3 C1 C2 C3 wh L D so ob fps fd fs m v s f w h hS hv hs hL).mono ?_
  rintro e w' ⟨r, rfl, h1, h2, h3⟩
  rcases h2 with rfl | ⟨k, rfl, hk, hg2⟩
  · exact ⟨rfl, h3⟩
  · exact absurd (h1.1 (by omega)) hn
/-- the depth of a list that a search has met, -1 if it has not -/
def depT (t : Table) (s : List Int) : Int := if s ∈ t.patterns then atD t (idxL t.patterns s) else -1
theorem depT_yes {x : Puzzle} {t : Table} (hb : Built x t) {i : Nat} (hi : i < t.patterns.length) : depT t (t.patterns.getD i []) = t.distances.getD i 0 := by
  unfold depT
  rw [if_pos (by rw [getD_get hi]; exact List.getElem_mem hi), hb.idx hi]
  unfold atD
  rw [Int.toNat_natCast]
theorem depT_no {t : Table} {s : List Int} (h : s ∉ t.patterns) : depT t s = -1 := if_neg h
set_option maxHeartbeats 2000000 in
theorem depthOf_any (x : Puzzle) (t : Table) (v u : Value) (s : List Int) (f : List Nat) (w : World) {B : Nat} (h : SrF B w x t v) (hb : Built x t) (hu : Rd w u s f) (hs : s.length = x.points.toNat) :
    Calls Tryz.prog 83 #[v, u] w fun e w' => e = .returned (.int .i64 (depT t s)) ∧ Only [] w w' := by
  obtain ⟨A1, A2, A3, C1, C2, C3, so, ob, fps, fd, fz, rfl, hR, hS, -⟩ := h
  have hL := hb.ll
  have hdl : t.distances.length = t.patterns.length := hb.bi.dl
  have hnd : t.patterns.Nodup := hb.bi.nd
  have HS := Lib.hid hS
  have Hnd := Lib.hid hnd
  have Hb := Lib.hid hb
  have Hs := Lib.hid hs
  have Hdl := Lib.hid hdl
  clear hS hnd hb hs hdl
  have hB := Blk.new w [.slice A1 t.patterns.length C1, .slice A2 t.distances.length C2, .slice A3 so.length C3, .bool true] 94
  by_cases hm : s ∈ t.patterns
  · obtain ⟨i, hi, e⟩ := List.getElem_of_mem hm
    have hg : t.patterns.getD i [] = s := by rw [getD_get hi, e]
    have hd := depT_yes Hb.out hi
    rw [hg] at hd
    have hid : i < t.distances.length := by rw [Hdl.out]; exact hi
    obtain ⟨b2, off2, rfl, -, hc0⟩ := hR.dp.at_ i hid
    have hdv : t.distances.getD i 0 = t.distances[i] := getD_get hid
    have Hd := Lib.hid (hd.trans hdv)
    have Hg := Lib.hid hg
    clear hm e hg hd hdv
    go_enter Tryz.func83, Tryz.ntmps83
    go_wp2_with (first
      | (go_at_call 95; (with_reducible refine (searchIndex_yes A1 (some ⟨b2, off2, none⟩) A3 C1 C2 C3 true t.patterns t.distances so ob fps fd fz x.points.toNat _ s f _ (hR.keep (by with_reducible repeat (first | exact Only.refl _ _ | assumption | refine Only.drewN ?_ _ | refine Only.drew ?_ | refine Only.alloc ?_ _ | refine Only.setCell ?_ (by intro hh; exfalso; simp at hh; try omega) _ | refine Only.trans ?_ (by assumption)))) HS.out (Rp.keep hu (by with_reducible repeat (first | exact Only.refl _ _ | assumption | refine Only.drewN ?_ _ | refine Only.drew ?_ | refine Only.alloc ?_ _ | refine Only.setCell ?_ (by intro hh; exfalso; simp at hh; try omega) _ | refine Only.trans ?_ (by assumption)))) Hs.out hL i hi Hg.out Hnd.out).mono ?_); rintro e w1 ⟨rfl, t1⟩; have y1 := (hB.keep t1).cell 1 rfl; have y2 := (((Only.refl [] w).alloc _).trans t1).cell (by simp) hc0)
      | fail "no arm")
    go_ret
    exact ⟨ret_int Hd.out.symm, (by with_reducible repeat (first | exact Only.refl _ _ | assumption | refine Only.drewN ?_ _ | refine Only.drew ?_ | refine Only.alloc ?_ _ | refine Only.setCell ?_ (by intro hh; exfalso; simp at hh; try omega) _ | refine Only.trans ?_ (by assumption)))⟩
  · have Hd := Lib.hid (depT_no hm)
    have Hm := Lib.hid hm
    clear hm
    go_enter Tryz.func83, Tryz.ntmps83
    go_wp2_with (first
      | (go_at_call 95; (with_reducible refine (searchIndex_no A1 A2 A3 C1 C2 C3 true t.patterns t.distances so ob fps fd fz x.points.toNat _ s f _ (hR.keep (by with_reducible repeat (first | exact Only.refl _ _ | assumption | refine Only.drewN ?_ _ | refine Only.drew ?_ | refine Only.alloc ?_ _ | refine Only.setCell ?_ (by intro hh; exfalso; simp at hh; try omega) _ | refine Only.trans ?_ (by assumption)))) HS.out (Rp.keep hu (by with_reducible repeat (first | exact Only.refl _ _ | assumption | refine Only.drewN ?_ _ | refine Only.drew ?_ | refine Only.alloc ?_ _ | refine Only.setCell ?_ (by intro hh; exfalso; simp at hh; try omega) _ | refine Only.trans ?_ (by assumption)))) Hs.out hL Hm.out).mono ?_); rintro e w1 ⟨rfl, t1⟩; have y1 := (hB.keep t1).cell 1 rfl)
      | fail "no arm")
    go_ret
    exact ⟨ret_int Hd.out.symm, (by with_reducible repeat (first | exact Only.refl _ _ | assumption | refine Only.drewN ?_ _ | refine Only.drew ?_ | refine Only.alloc ?_ _ | refine Only.setCell ?_ (by intro hh; exfalso; simp at hh; try omega) _ | refine Only.trans ?_ (by assumption)))⟩
theorem searchStates_no (cs : List Value) (x : Puzzle) (fp : List Nat) (w : World) (h : Rp.rep w cs x fp) (he : expl x = none) :
    Calls Tryz.prog 82 #[.agg cs.toArray] w fun e w' => ∃ A1 n1 C1 A2 n2 C2 A3 n3 C3 wh, e = .returned (.tuple #[.agg #[.slice A1 n1 C1, .slice A2 n2 C2, .slice A3 n3 C3, .bool wh], .bool false]) ∧ Only [] w w' := by
  refine (searchStates_any cs x fp w h).mono ?_
  rintro e w' ⟨⟨-, A1, n1, C1, A2, n2, C2, A3, n3, C3, wh, rfl⟩ | ⟨t, h1, -⟩, ho⟩
  · exact ⟨A1, n1, C1, A2, n2, C2, A3, n3, C3, wh, rfl, ho⟩
  · rw [he] at h1; cases h1
theorem searchStates_yes (cs : List Value) (x : Puzzle) (t : Table) (fp : List Nat) (w : World) (h : Rp.rep w cs x fp) (he : expl x = some t) :
    Calls Tryz.prog 82 #[.agg cs.toArray] w fun e w' => ∃ A1 n1 C1 A2 n2 C2 A3 n3 C3 wh, e = .returned (.tuple #[.agg #[.slice A1 n1 C1, .slice A2 n2 C2, .slice A3 n3 C3, .bool wh], .bool true]) ∧ SrF w.heap.size w' x t (.agg #[.slice A1 n1 C1, .slice A2 n2 C2, .slice A3 n3 C3, .bool wh]) ∧ Only [] w w' := by
  refine (searchStates_any cs x fp w h).mono ?_
  rintro e w' ⟨⟨h1, -⟩ | ⟨t', h1, v, rfl, h2⟩, ho⟩
  · rw [he] at h1; cases h1
  · rw [he] at h1
    injection h1 with h1
    subst h1
    have h3 := h2
    obtain ⟨A1, A2, A3, C1, C2, C3, so, ob, fps, fd, fz, rfl, -⟩ := h3
    exact ⟨_, _, _, _, _, _, _, _, _, _, rfl, h2, ho⟩
theorem distX_dep {x : Puzzle} {t : Table} {s : List Int} (ht : expl x = some t) : distX x s = depT t s := by
  rcases hr : reachB x s
  · rw [distX_no hr, depT_no]
    intro hm
    rw [(expl_reach ht).1 hm] at hr; cases hr
  · unfold distX depT
    rw [ht, if_pos ((expl_reach ht).2 hr)]
    show (if reachB x s = true then _ else _) = _
    rw [if_pos hr]
theorem distX_nost {x : Puzzle} {s : List Int} (h : stateB x s = false) : distX x s = -1 := distX_no (by unfold reachB; rw [h]; rfl)
theorem store4 {w1 : World} {r : Nat} {o0 o1 o2 o3 : Value} (hR : Blk w1 r [o0, o1, o2, o3]) (a b c d : Value) :
    Blk ((((w1.setCell ⟨r, 0, none⟩ a).setCell ⟨r, 1, none⟩ b).setCell ⟨r, 2, none⟩ c).setCell ⟨r, 3, none⟩ d) r [a, b, c, d] ∧
    Only [r] w1 ((((w1.setCell ⟨r, 0, none⟩ a).setCell ⟨r, 1, none⟩ b).setCell ⟨r, 2, none⟩ c).setCell ⟨r, 3, none⟩ d) := by
  refine ⟨?_, ((((Only.refl _ _).setCell (by simp) _).setCell (by simp) _).setCell (by simp) _).setCell (by simp) _⟩
  exact (((hR.set 0 a).set 1 b).set 2 c).set 3 d
set_option maxHeartbeats 4000000 in
theorem searchState_any (cs : List Value) (x : Puzzle) (fp : List Nat) (v : Value) (s : List Int) (fs : List Nat) (w : World) (h : Rp.rep w cs x fp) (hs : Rd w v s fs) :
    Calls Tryz.prog 72 #[.agg cs.toArray, v] w fun e w' => ∃ A1 n1 C1 A2 n2 C2 A3 n3 C3 wh, e = .returned (.tuple #[.agg #[.slice A1 n1 C1, .slice A2 n2 C2, .slice A3 n3 C3, .bool wh], .int .i64 (distX x s), .bool (decide (0 ≤ distX x s))]) ∧ (∀ t, expl x = some t → SrF w.heap.size w' x t (.agg #[.slice A1 n1 C1, .slice A2 n2 C2, .slice A3 n3 C3, .bool wh])) ∧ Only [] w w' := by
  have h0 := h
  obtain ⟨v2, rfl, p0, p1, h2⟩ := h
  clear p0 p1 h2
  have X0 : Blk ((w.alloc (.cells #[.int .i64 x.points, .string x.names, v2] 42)).alloc (.cells #[.slice none 0 0, .slice none 0 0, .slice none 0 0, .bool false] 94)) w.heap.size [.int .i64 x.points, .string x.names, v2] := (Blk.new w [.int .i64 x.points, .string x.names, v2] 42).keep ((Only.refl _ _).alloc _)
  have Y0 : Blk ((w.alloc (.cells #[.int .i64 x.points, .string x.names, v2] 42)).alloc (.cells #[.slice none 0 0, .slice none 0 0, .slice none 0 0, .bool false] 94)) (w.heap.size + 1) [.slice none 0 0, .slice none 0 0, .slice none 0 0, .bool false] := Blk.new_at (by simp)
  rcases he : expl x with _ | t
  · have Hn := Lib.hid (distX_none (s := s) he)
    have He := Lib.hid he
    clear he
    go_enter Tryz.func72, Tryz.ntmps72
    go_wp2_with (first
      | (go_at_call 82; (with_reducible refine (searchStates_no [.int .i64 x.points, .string x.names, v2] x _ _ (Rp.keep h0 (by with_reducible repeat (first | exact Only.refl _ _ | assumption | refine Only.drewN ?_ _ | refine Only.drew ?_ | refine Only.alloc ?_ _ | refine Only.setCell ?_ (by intro hh; exfalso; simp at hh; try omega) _ | refine Only.trans ?_ (by assumption)))) He.out).mono ?_); rintro e w1 ⟨A1, n1, C1, A2, n2, C2, A3, n3, C3, wh, rfl, t1⟩; have Z := Blk.new w1 [.slice none 0 0, .slice none 0 0, .slice none 0 0, .bool false] 94; have z0 := Z.cell 0 rfl; have z1 := Z.cell 1 rfl; have z2 := Z.cell 2 rfl; have z3 := Z.cell 3 rfl; have zp0 := Z.frozen 0; have zp1 := Z.frozen 1; have zp2 := Z.frozen 2; have zp3 := Z.frozen 3; have Y1 := (Y0.keep t1).keep ((Only.refl [] _).alloc (.cells #[.slice A1 n1 C1, .slice A2 n2 C2, .slice A3 n3 C3, .bool wh] 94)); have U1 := Blk.new w1 [.slice A1 n1 C1, .slice A2 n2 C2, .slice A3 n3 C3, .bool wh] 94; have a0 := U1.cell 0 rfl; have a1 := U1.cell 1 rfl; have a2 := U1.cell 2 rfl; have a3 := U1.cell 3 rfl; have g0 := Y1.cell 0 rfl; have g1 := Y1.cell 1 rfl; have g2 := Y1.cell 2 rfl; have g3 := Y1.cell 3 rfl; have p0 := Y1.frozen 0; have p1 := Y1.frozen 1; have p2 := Y1.frozen 2; have p3 := Y1.frozen 3)
      | fail "no arm")
    have K1 : Only [] w (w1.alloc (.cells #[.slice A1 n1 C1, .slice A2 n2 C2, .slice A3 n3 C3, .bool wh] 94)) := (by with_reducible repeat (first | exact Only.refl _ _ | assumption | refine Only.drewN ?_ _ | refine Only.drew ?_ | refine Only.alloc ?_ _ | refine Only.setCell ?_ (by intro hh; exfalso; simp at hh; try omega) _ | refine Only.trans ?_ (by assumption)))
    obtain ⟨Yf, kf⟩ := store4 Y1 (.slice A1 n1 C1) (.slice A2 n2 C2) (.slice A3 n3 C3) (.bool wh)
    obtain ⟨wf, hwf⟩ : ∃ wf, wf = (((((w1.alloc (.cells #[.slice A1 n1 C1, .slice A2 n2 C2, .slice A3 n3 C3, .bool wh] 94)).setCell ⟨w.heap.size + 1, 0, none⟩ (.slice A1 n1 C1)).setCell ⟨w.heap.size + 1, 1, none⟩ (.slice A2 n2 C2)).setCell ⟨w.heap.size + 1, 2, none⟩ (.slice A3 n3 C3)).setCell ⟨w.heap.size + 1, 3, none⟩ (.bool wh)) := ⟨_, rfl⟩
    rw [← hwf] at Yf kf ⊢
    clear hwf g0 g1 g2 g3 p0 p1 p2 p3
    have r0 := Yf.cell 0 rfl
    have r1 := Yf.cell 1 rfl
    have r2 := Yf.cell 2 rfl
    have r3 := Yf.cell 3 rfl
    refine bodyPost_ret (v := .tuple #[.agg #[.slice A1 n1 C1, .slice A2 n2 C2, .slice A3 n3 C3, .bool wh], .int .i64 (-1), .bool false]) (by simp [results, Tryz.results72, go_sem, r0, r1, r2, r3]) rfl ⟨A1, n1, C1, A2, n2, C2, A3, n3, C3, wh, by rw [Hn.out]; rfl, fun t h9 => (by cases h9), K1.then_ kf (by simp)⟩
  · obtain ⟨hb, -⟩ := expl_built he
    have He := Lib.hid he
    have Hb := Lib.hid hb
    clear he hb
    rcases hq : stateB x s
    · have Hn := Lib.hid (distX_nost hq)
      have Hq := Lib.hid hq
      clear hq
      go_enter Tryz.func72, Tryz.ntmps72
      go_wp2_with (first
        | (go_at_call 82; (with_reducible refine (searchStates_yes [.int .i64 x.points, .string x.names, v2] x t _ _ (Rp.keep h0 (by with_reducible repeat (first | exact Only.refl _ _ | assumption | refine Only.drewN ?_ _ | refine Only.drew ?_ | refine Only.alloc ?_ _ | refine Only.setCell ?_ (by intro hh; exfalso; simp at hh; try omega) _ | refine Only.trans ?_ (by assumption)))) He.out).mono ?_); rintro e w1 ⟨A1, n1, C1, A2, n2, C2, A3, n3, C3, wh, rfl, hS, t1⟩; have Z := Blk.new w1 [.slice none 0 0, .slice none 0 0, .slice none 0 0, .bool false] 94; have z0 := Z.cell 0 rfl; have z1 := Z.cell 1 rfl; have z2 := Z.cell 2 rfl; have z3 := Z.cell 3 rfl; have zp0 := Z.frozen 0; have zp1 := Z.frozen 1; have zp2 := Z.frozen 2; have zp3 := Z.frozen 3; have X1 := (X0.keep t1).keep ((Only.refl [] _).alloc (.cells #[.slice A1 n1 C1, .slice A2 n2 C2, .slice A3 n3 C3, .bool wh] 94)); have x0 := X1.cell 0 rfl; have x1 := X1.cell 1 rfl; have x2 := X1.cell 2 rfl; have Y1 := (Y0.keep t1).keep ((Only.refl [] _).alloc (.cells #[.slice A1 n1 C1, .slice A2 n2 C2, .slice A3 n3 C3, .bool wh] 94)); have U1 := Blk.new w1 [.slice A1 n1 C1, .slice A2 n2 C2, .slice A3 n3 C3, .bool wh] 94)
        | (go_at_call 70; (with_reducible refine (specIsState_any [.int .i64 x.points, .string x.names, v2] x _ _ s _ _ (Rp.keep h0 (by with_reducible repeat (first | exact Only.refl _ _ | assumption | refine Only.drewN ?_ _ | refine Only.drew ?_ | refine Only.alloc ?_ _ | refine Only.setCell ?_ (by intro hh; exfalso; simp at hh; try omega) _ | refine Only.trans ?_ (by assumption)))) (Rp.keep hs (by with_reducible repeat (first | exact Only.refl _ _ | assumption | refine Only.drewN ?_ _ | refine Only.drew ?_ | refine Only.alloc ?_ _ | refine Only.setCell ?_ (by intro hh; exfalso; simp at hh; try omega) _ | refine Only.trans ?_ (by assumption))))).mono ?_); rintro e w2 ⟨he, t2⟩; rw [Hq.out] at he; subst he; have U2 := U1.keep t2; have Y2 := Y1.keep t2; have a0 := U2.cell 0 rfl; have a1 := U2.cell 1 rfl; have a2 := U2.cell 2 rfl; have a3 := U2.cell 3 rfl; have g0 := Y2.cell 0 rfl; have g1 := Y2.cell 1 rfl; have g2 := Y2.cell 2 rfl; have g3 := Y2.cell 3 rfl; have p0 := Y2.frozen 0; have p1 := Y2.frozen 1; have p2 := Y2.frozen 2; have p3 := Y2.frozen 3)
        | fail "no arm")
      have K1 : Only [] w w2 := (by with_reducible repeat (first | exact Only.refl _ _ | assumption | refine Only.drewN ?_ _ | refine Only.drew ?_ | refine Only.alloc ?_ _ | refine Only.setCell ?_ (by intro hh; exfalso; simp at hh; try omega) _ | refine Only.trans ?_ (by assumption)))
      have hS2 := SrF.keep hS (((Only.refl [] w1).alloc (.cells #[.slice A1 n1 C1, .slice A2 n2 C2, .slice A3 n3 C3, .bool wh] 94)).trans t2)
      have Y9 := Y2
      obtain ⟨Yf, kf⟩ := store4 Y9 (.slice A1 n1 C1) (.slice A2 n2 C2) (.slice A3 n3 C3) (.bool wh)
      obtain ⟨wf, hwf⟩ : ∃ wf, wf = ((((w2.setCell ⟨w.heap.size + 1, 0, none⟩ (.slice A1 n1 C1)).setCell ⟨w.heap.size + 1, 1, none⟩ (.slice A2 n2 C2)).setCell ⟨w.heap.size + 1, 2, none⟩ (.slice A3 n3 C3)).setCell ⟨w.heap.size + 1, 3, none⟩ (.bool wh)) := ⟨_, rfl⟩
      rw [← hwf] at Yf kf ⊢
      clear hwf g0 g1 g2 g3 p0 p1 p2 p3
      have r0 := Yf.cell 0 rfl
      have r1 := Yf.cell 1 rfl
      have r2 := Yf.cell 2 rfl
      have r3 := Yf.cell 3 rfl
      exact bodyPost_ret (v := .tuple #[.agg #[.slice A1 n1 C1, .slice A2 n2 C2, .slice A3 n3 C3, .bool wh], .int .i64 (-1), .bool false]) (by simp [results, Tryz.results72, go_sem, r0, r1, r2, r3]) rfl ⟨A1, n1, C1, A2, n2, C2, A3, n3, C3, wh, by rw [Hn.out]; rfl, fun t' h9 => (by injection h9 with h9; subst h9; exact (SrF.only hS2 kf (by intro b hb; simp at hb; subst hb; simp)).mono (by simp; omega)), K1.then_ kf (by simp)⟩
    · have hsl : s.length = x.points.toNat := (stateB_pn hq).2.2.2.1
      have Hq := Lib.hid hq
      have Hsl := Lib.hid hsl
      have Hd := Lib.hid (distX_dep (s := s) He.out)
      clear hq hsl
      go_enter Tryz.func72, Tryz.ntmps72
      go_wp2_with (first
        | (go_at_call 82; (with_reducible refine (searchStates_yes [.int .i64 x.points, .string x.names, v2] x t _ _ (Rp.keep h0 (by with_reducible repeat (first | exact Only.refl _ _ | assumption | refine Only.drewN ?_ _ | refine Only.drew ?_ | refine Only.alloc ?_ _ | refine Only.setCell ?_ (by intro hh; exfalso; simp at hh; try omega) _ | refine Only.trans ?_ (by assumption)))) He.out).mono ?_); rintro e w1 ⟨A1, n1, C1, A2, n2, C2, A3, n3, C3, wh, rfl, hS, t1⟩; have Z := Blk.new w1 [.slice none 0 0, .slice none 0 0, .slice none 0 0, .bool false] 94; have z0 := Z.cell 0 rfl; have z1 := Z.cell 1 rfl; have z2 := Z.cell 2 rfl; have z3 := Z.cell 3 rfl; have zp0 := Z.frozen 0; have zp1 := Z.frozen 1; have zp2 := Z.frozen 2; have zp3 := Z.frozen 3; have X1 := (X0.keep t1).keep ((Only.refl [] _).alloc (.cells #[.slice A1 n1 C1, .slice A2 n2 C2, .slice A3 n3 C3, .bool wh] 94)); have x0 := X1.cell 0 rfl; have x1 := X1.cell 1 rfl; have x2 := X1.cell 2 rfl; have Y1 := (Y0.keep t1).keep ((Only.refl [] _).alloc (.cells #[.slice A1 n1 C1, .slice A2 n2 C2, .slice A3 n3 C3, .bool wh] 94)); have U1 := Blk.new w1 [.slice A1 n1 C1, .slice A2 n2 C2, .slice A3 n3 C3, .bool wh] 94)
        | (go_at_call 70; (with_reducible refine (specIsState_any [.int .i64 x.points, .string x.names, v2] x _ _ s _ _ (Rp.keep h0 (by with_reducible repeat (first | exact Only.refl _ _ | assumption | refine Only.drewN ?_ _ | refine Only.drew ?_ | refine Only.alloc ?_ _ | refine Only.setCell ?_ (by intro hh; exfalso; simp at hh; try omega) _ | refine Only.trans ?_ (by assumption)))) (Rp.keep hs (by with_reducible repeat (first | exact Only.refl _ _ | assumption | refine Only.drewN ?_ _ | refine Only.drew ?_ | refine Only.alloc ?_ _ | refine Only.setCell ?_ (by intro hh; exfalso; simp at hh; try omega) _ | refine Only.trans ?_ (by assumption))))).mono ?_); rintro e w2 ⟨he, t2⟩; rw [Hq.out] at he; subst he; have U2 := U1.keep t2; have Y2 := Y1.keep t2; have b0 := U2.cell 0 rfl; have b1 := U2.cell 1 rfl; have b2 := U2.cell 2 rfl; have b3 := U2.cell 3 rfl; have hS2 := SrF.keep hS (((Only.refl [] w1).alloc (.cells #[.slice A1 n1 C1, .slice A2 n2 C2, .slice A3 n3 C3, .bool wh] 94)).trans t2))
        | (go_at_call 83; (with_reducible refine (depthOf_any x t _ _ s _ _ hS2 Hb.out (Rp.keep hs (by with_reducible repeat (first | exact Only.refl _ _ | assumption | refine Only.drewN ?_ _ | refine Only.drew ?_ | refine Only.alloc ?_ _ | refine Only.setCell ?_ (by intro hh; exfalso; simp at hh; try omega) _ | refine Only.trans ?_ (by assumption)))) Hsl.out).mono ?_); rintro e w3 ⟨he, t3⟩; rw [← Hd.out] at he; subst he; have U3 := U2.keep t3; have Y9 := Y2.keep t3; have a0 := U3.cell 0 rfl; have a1 := U3.cell 1 rfl; have a2 := U3.cell 2 rfl; have a3 := U3.cell 3 rfl; have g0 := Y9.cell 0 rfl; have g1 := Y9.cell 1 rfl; have g2 := Y9.cell 2 rfl; have g3 := Y9.cell 3 rfl; have p0 := Y9.frozen 0; have p1 := Y9.frozen 1; have p2 := Y9.frozen 2; have p3 := Y9.frozen 3)
        | fail "no arm")
      have K1 : Only [] w w3 := (by with_reducible repeat (first | exact Only.refl _ _ | assumption | refine Only.drewN ?_ _ | refine Only.drew ?_ | refine Only.alloc ?_ _ | refine Only.setCell ?_ (by intro hh; exfalso; simp at hh; try omega) _ | refine Only.trans ?_ (by assumption)))
      have hS3 := SrF.keep hS2 t3
      obtain ⟨Yf, kf⟩ := store4 Y9 (.slice A1 n1 C1) (.slice A2 n2 C2) (.slice A3 n3 C3) (.bool wh)
      obtain ⟨wf, hwf⟩ : ∃ wf, wf = ((((w3.setCell ⟨w.heap.size + 1, 0, none⟩ (.slice A1 n1 C1)).setCell ⟨w.heap.size + 1, 1, none⟩ (.slice A2 n2 C2)).setCell ⟨w.heap.size + 1, 2, none⟩ (.slice A3 n3 C3)).setCell ⟨w.heap.size + 1, 3, none⟩ (.bool wh)) := ⟨_, rfl⟩
      rw [← hwf] at Yf kf ⊢
      clear hwf g0 g1 g2 g3 p0 p1 p2 p3
      have r0 := Yf.cell 0 rfl
      have r1 := Yf.cell 1 rfl
      have r2 := Yf.cell 2 rfl
      have r3 := Yf.cell 3 rfl
      exact bodyPost_ret (v := .tuple #[.agg #[.slice A1 n1 C1, .slice A2 n2 C2, .slice A3 n3 C3, .bool wh], .int .i64 (distX x s), .bool (decide (0 ≤ distX x s))]) (by simp [results, Tryz.results72, go_sem, r0, r1, r2, r3]) rfl ⟨A1, n1, C1, A2, n2, C2, A3, n3, C3, wh, rfl, fun t' h9 => (by injection h9 with h9; subst h9; exact (SrF.only hS3 kf (by intro b hb; simp at hb; subst hb; simp)).mono (by simp; omega)), K1.then_ kf (by simp)⟩

end Go.Proofs.YtlbcjkjoapcppaaGreat

namespace Go.Proofs.YtlbcjkjoapcppaaGreat
open Go.RowKit
set_option maxRecDepth 10000

/-- the way down from a state: the word so far (o), the state at hand (s2) -/
structure DWn (x : Puzzle) (t : Table) (w W0 : World) (e : TypeId) (G : List Nat) (wr : World) (o s2 : Value) (dn : List Int) (i : Nat) (f2 : List Nat) : Prop where
  acc : AccI w.heap.size e wr o dn
  rd : Rd wr s2 (t.patterns.getD i []) f2
  ap : ∀ b ∈ f2, o.ownBlock ≠ some b
  on : Only [] w wr
  kp : ∀ b ∈ G, wr.heap[b]? = W0.heap[b]?
  ga : ∀ b ∈ G, o.ownBlock ≠ some b
  gl : ∀ b ∈ G, b < wr.heap.size
section
variable {x : Puzzle} {t : Table} {w W0 : World} {e : TypeId} {G : List Nat} {wr w' : World} {o s2 : Value} {dn : List Int} {i : Nat} {f2 : List Nat}
theorem DWn.keep (h : DWn x t w W0 e G wr o s2 dn i f2) (ho : Only [] wr w') : DWn x t w W0 e G w' o s2 dn i f2 :=
  ⟨h.acc.keep ho, Rp.keep h.rd ho, h.ap, h.on.trans ho, fun b hb => (ho.block b (h.gl b hb) (by simp)).trans (h.kp b hb), h.ga, fun b hb => Nat.lt_of_lt_of_le (h.gl b hb) ho.size⟩
theorem DWn.old (h : DWn x t w W0 e G wr o s2 dn i f2) {β : Type} [Rp β] {cs : List Value} {y : β} {fp : List Nat} (hr : Rp.rep W0 cs y fp) (hf : ∀ b ∈ fp, b ∈ G) : Rp.rep wr cs y fp := Rp.frame hr fun b hb => h.kp b (hf b hb)
theorem DWn.blk (h : DWn x t w W0 e G wr o s2 dn i f2) {g : Nat} {cs : List Value} (hb : Blk W0 g cs) (hg : g ∈ G) : Blk wr g cs := by
  obtain ⟨ty, hb⟩ := hb
  exact ⟨ty, (h.kp g hg).trans hb⟩
theorem DWn.ints (h : DWn x t w W0 e G wr o s2 dn i f2) {a : Option Addr} {c : Nat} {l : List Int} {fp : List Nat} (hr : IntsA W0 a c l fp) (hf : ∀ b ∈ fp, b ∈ G) : IntsA wr a c l fp := hr.frame fun b hb => h.kp b (hf b hb)
theorem DWn.step {wa wb : World} {o' s3 : Value} {l : Int} {j : Nat} {f3 : List Nat} (h : DWn x t w W0 e G wr o s2 dn i f2) (hk : Only [] wr wa) (hA : AccI w.heap.size e wb o' (dn ++ [l])) (oA : Only o.ownBlock.toList wa wb) (nA : o'.ownBlock = o.ownBlock ∨ o'.ownBlock = some wa.heap.size)
    (hP : ∀ wz, Only [] wz wa → wz.heap.size ≤ w.heap.size → Only [] wz wb) (hr : Rd wa s3 (t.patterns.getD j []) f3) (hf : ∀ b ∈ f3, o.ownBlock ≠ some b) : DWn x t w W0 e G wb o' s3 (dn ++ [l]) j f3 := by
  have h1 := h.keep hk
  refine ⟨hA, Rp.only hr oA (fun b hb hm => hf b hb (by simpa using hm)), fun b hb => own_after nA (hf b hb) (Rp.lt hr b hb), hP w h1.on (Nat.le_refl _), fun b hb => ?_, fun b hb => own_after nA (h1.ga b hb) (h1.gl b hb), fun b hb => Nat.lt_of_lt_of_le (h1.gl b hb) oA.size⟩
  rw [oA.block b (h1.gl b hb) (fun hm => h1.ga b hb (by simpa using hm))]
  exact h1.kp b hb
end
theorem depT_at {x : Puzzle} {t : Table} (hb : Built x t) {i : Nat} (hi : i < t.patterns.length) {s : List Int} (h : t.patterns.getD i [] = s) : depT t s = t.distances.getD i 0 := by
  rw [← h]; exact depT_yes hb hi
set_option maxHeartbeats 8000000 in
theorem descendWord_any (cs : List Value) (x : Puzzle) (fp : List Nat) (t : Table) (B : Nat) (A1 A2 A3 : Option Addr) (n1 n2 n3 C1 C2 C3 : Nat) (wh : Bool) (u : Value) (fu : List Nat) (i0 N : Nat) (w : World) (h : Rp.rep w cs x fp)
    (hS : SrF B w x t (.agg #[.slice A1 n1 C1, .slice A2 n2 C2, .slice A3 n3 C3, .bool wh])) (he : expl x = some t) (hi0 : i0 < t.patterns.length) (hu : Rd w u (t.patterns.getD i0 []) fu) (hN : t.distances.getD i0 0 = N) :
    Calls Tryz.prog 73 #[.agg cs.toArray, .agg #[.slice A1 n1 C1, .slice A2 n2 C2, .slice A3 n3 C3, .bool wh], u] w fun e w' => ∃ v fp', e = .returned v ∧ Rd w' v (oW x t N (t.patterns.getD i0 [])) fp' ∧ Fresh w.heap.size w' fp' ∧ Only [] w w' := by
  have h0 := h
  obtain ⟨v2, rfl, p0, p1, h2⟩ := h
  clear p0 p1 h2
  obtain ⟨hb, -⟩ := expl_built he
  obtain ⟨q1, q20, q8, -⟩ := validPz_facts hb.v
  have hdep := (hb.dep i0 hi0).2.1
  have hll := hb.ll
  have hN3 : N ≤ 3000 := by omega
  have Hb := Lib.hid hb
  have He := Lib.hid he
  have Hd0 := Lib.hid ((depT_at hb hi0 rfl).trans hN)
  have Hl0 := Lib.hid (expl_len1 he hi0)
  have HN := Lib.hid hN
  clear he hN hb hdep
  have X0 : Blk (((w.alloc (.cells #[.int .i64 x.points, .string x.names, v2] 42)).alloc (.cells #[.slice A1 n1 C1, .slice A2 n2 C2, .slice A3 n3 C3, .bool wh] 94)).alloc (.cells #[] 2)) w.heap.size [.int .i64 x.points, .string x.names, v2] := ((Blk.new w [.int .i64 x.points, .string x.names, v2] 42).keep ((Only.refl _ _).alloc _)).keep ((Only.refl _ _).alloc _)
  have Y0 : Blk (((w.alloc (.cells #[.int .i64 x.points, .string x.names, v2] 42)).alloc (.cells #[.slice A1 n1 C1, .slice A2 n2 C2, .slice A3 n3 C3, .bool wh] 94)).alloc (.cells #[] 2)) (w.heap.size + 1) [.slice A1 n1 C1, .slice A2 n2 C2, .slice A3 n3 C3, .bool wh] := (Blk.new_at (w := w.alloc (.cells #[.int .i64 x.points, .string x.names, v2] 42)) (cs := [.slice A1 n1 C1, .slice A2 n2 C2, .slice A3 n3 C3, .bool wh]) (by simp)).keep ((Only.refl _ _).alloc _)
  obtain ⟨iI, hi, hz0, hz1, hz2⟩ := info_parts Tryz.info2
  obtain ⟨s0, hs0⟩ : ∃ s0, s0 = t.patterns.getD i0 [] := ⟨_, rfl⟩
  rw [← hs0] at Hd0 Hl0 hu
  have Hs0 := Lib.hid hs0
  rw [← hs0]
  clear hs0
  go_enter Tryz.func73, Tryz.ntmps73
  go_wp2_with (first
    | (go_at_call 84; (with_reducible refine (lettersOf_any [.int .i64 x.points, .string x.names, v2] x _ _ (Rp.keep h0 (by with_reducible repeat (first | exact Only.refl _ _ | assumption | refine Only.drewN ?_ _ | refine Only.drew ?_ | refine Only.alloc ?_ _ | refine Only.setCell ?_ (by intro hh; exfalso; simp at hh; try omega) _ | refine Only.trans ?_ (by assumption)))) (by omega)).mono ?_); rintro e w1 ⟨u1, f1, rfl, r1, F1, t1⟩; obtain ⟨a1, c1, rfl, I1⟩ := r1.ints; have Y1 := Y0.keep t1; have y0 := Y1.cell 0 rfl; have y1 := Y1.cell 1 rfl; have y2 := Y1.cell 2 rfl; have y3 := Y1.cell 3 rfl)
    | (go_at_call 83; (with_reducible refine (depthOf_any x t _ u s0 fu _ (SrF.keep hS (by with_reducible repeat (first | exact Only.refl _ _ | assumption | refine Only.drewN ?_ _ | refine Only.drew ?_ | refine Only.alloc ?_ _ | refine Only.setCell ?_ (by intro hh; exfalso; simp at hh; try omega) _ | refine Only.trans ?_ (by assumption)))) Hb.out (Rp.keep hu (by with_reducible repeat (first | exact Only.refl _ _ | assumption | refine Only.drewN ?_ _ | refine Only.drew ?_ | refine Only.alloc ?_ _ | refine Only.setCell ?_ (by intro hh; exfalso; simp at hh; try omega) _ | refine Only.trans ?_ (by assumption)))) Hl0.out).mono ?_); rintro e w2 ⟨he, t2⟩; rw [Hd0.out] at he; subst he)
    | fail "no arm")
  have K2 : Only [] w w2 := (by with_reducible repeat (first | exact Only.refl _ _ | assumption | refine Only.drewN ?_ _ | refine Only.drew ?_ | refine Only.alloc ?_ _ | refine Only.setCell ?_ (by intro hh; exfalso; simp at hh; try omega) _ | refine Only.trans ?_ (by assumption)))
  have X2 := (X0.keep t1).keep t2
  have Y2 := Y1.keep t2
  have I2 := I1.keep t2
  have hz1s := t1.size
  have hz2s := t2.size
  simp at hz1s
  obtain ⟨ls, hls⟩ : ∃ ls, ls = ltrs x.moves.length := ⟨_, rfl⟩
  rw [← hls] at I2 ⊢
  have Hls := Lib.hid hls
  have hf1 := F1.ge
  have hf1l := I2.lt
  have A0 : AccI w.heap.size 2 w2 (.slice (some ⟨w.heap.size + 2, 0, none⟩) 0 0) [] := ((AccI.made ((w.alloc (.cells #[.int .i64 x.points, .string x.names, v2] 42)).alloc (.cells #[.slice A1 n1 C1, .slice A2 n2 C2, .slice A3 n3 C3, .bool wh] 94)) w.heap.size 2 (by simp) (by omega)).keep t1).keep t2
  have D0 : DWn x t w w2 2 (f1 ++ [w.heap.size, w.heap.size + 1]) w2 (.slice (some ⟨w.heap.size + 2, 0, none⟩) 0 0) u [] i0 fu := by
    refine ⟨A0, by rw [← Hs0.out]; exact Rp.keep hu K2, fun b hb he => ?_, K2, fun _ _ => rfl, fun b hb he => ?_, fun b hb => ?_⟩
    · have := Rp.lt hu b hb; simp [Value.ownBlock] at he; omega
    · simp [Value.ownBlock] at he
      simp only [List.mem_append, List.mem_cons, List.not_mem_nil, or_false] at hb
      rcases hb with hb | hb | hb
      · have := hf1 b hb; simp at this; omega
      · omega
      · omega
    · simp only [List.mem_append, List.mem_cons, List.not_mem_nil, or_false] at hb
      rcases hb with hb | hb | hb
      · exact hf1l b hb
      · omega
      · omega
  clear X0 Y0 Y1 y0 y1 y2 y3 r1 F1 I1 A0 hls t1 t2 hz1s hf1 hf1l
  go_loopw [2, 7, 9] (fun s2 o d wr => ∃ (n i : Nat) (f2 : List Nat) (dn : List Int), d = .int .i64 n ∧ n ≤ 3000 ∧ dn.length + n = N ∧ i < t.patterns.length ∧ t.distances.getD i 0 = n ∧ dn ++ oW x t n (t.patterns.getD i []) = oW x t N s0 ∧ DWn x t w w2 2 (f1 ++ [w.heap.size, w.heap.size + 1]) wr o s2 dn i f2)
    (fun _ _ d _ => (intOf d).toNat)
  case atStart => exact ⟨N, i0, fu, [], rfl, hN3, by simp, hi0, HN.out, by rw [Hs0.out]; rfl, D0⟩
  case round =>
    obtain ⟨W3, hnew⟩ : ∃ W, W = wr := ⟨_, rfl⟩
    subst hnew
    obtain ⟨n, i, f2, dn, rfl, hn3, hlen, hil, hdi, hcat, hD⟩ := hrel
    have Hcat := Lib.hid hcat
    have Hdi := Lib.hid hdi
    have Hlen := Lib.hid hlen
    clear hcat hdi hlen
    by_cases hn : 0 < n
    · obtain ⟨m, hm⟩ : ∃ m, n = m + 1 := ⟨n - 1, by omega⟩
      have hm1 : m + 1 ≤ n := by omega
      have hm2 : n ≤ m + 1 := by omega
      have Hm := Lib.hid hm
      obtain ⟨k, j, hDn⟩ := Hb.out.down hil (n := m) (by rw [Hdi.out, hm]; push_cast; rfl)
      clear hm
      have hkl : k < ls.length := by rw [Hls.out]; exact hDn.hk
      have HDn := Lib.hid hDn
      clear hDn
      go_wp2
      go_loopw [2, 7, 10] (fun s2 o c wr => ∃ j' : Nat, j' ≤ k ∧ c = .int .i64 j' ∧ s2 = u2 ∧ o = u7 ∧ Only [] W3 wr)
        (fun _ _ c _ => ls.length - (intOf c).toNat)
      case atStart => exact ⟨0, Nat.zero_le _, rfl, rfl, rfl, Only.refl _ _⟩
      case round =>
        obtain ⟨j', hj', rfl, rfl, rfl, hK⟩ := hrel
        obtain ⟨W4, hnew⟩ : ∃ W, W = wr := ⟨_, rfl⟩
        subst hnew
        have hD4 := hD.keep hK
        have hjl : j' < ls.length := by omega
        have I4 := hD4.ints I2 (by intro b hb; simp [hb])
        have hlb := I4.bound
        obtain ⟨b3, off3, rfl, -, hc3⟩ := I4.at_ j' hjl
        have X4 := hD4.blk X2 (by simp)
        have Y4 := hD4.blk Y2 (by simp)
        have x0 := X4.cell 0 rfl
        have x1 := X4.cell 1 rfl
        have x2 := X4.cell 2 rfl
        have hrd := hD4.rd
        have K4 := hD4.on
        have hla : ls[j'] ∈ ltrs x.moves.length := by rw [← Hls.out]; exact List.getElem_mem hjl
        obtain ⟨i', hi', hnx, -, -⟩ := Hb.out.step hil hla
        have hpat := expl_pat He.out hil
        have Hrng := Lib.hid (patB_iff.1 hpat).2.1
        have hql : (t.patterns.getD i []).length ≤ 1000 := by rw [expl_len1 He.out hil]; omega
        have hI : I64 ls[j'] := by have := mem_ltrs.1 hla; unfold I64; omega
        have HI := Lib.hid hI
        have Hla := Lib.hid hla
        obtain ⟨cur, hcur⟩ : ∃ cur, cur = t.patterns.getD i [] := ⟨_, rfl⟩
        have Hcur := Lib.hid hcur
        rw [← hcur] at hrd hql hnx
        rw [← hcur] at Hrng
        clear hpat hla hI hcur
        have Hc := Lib.hid (fun (W : World) (hh : Only [] W4 W) => applyLetter_any [.int .i64 x.points, .string x.names, v2] x _ u2 cur _ ls[j'] W (Rp.keep h0 (K4.trans hh)) (Rp.keep hrd hh) Hb.out.v Hla.out Hrng.out hql)
        go_wp2
        go_region_held3 (fun w' => Only [] W4 w' ∧ w'.cell? ⟨w.heap.size, 0, none⟩ = some (.int .i64 x.points) ∧ w'.cell? ⟨w.heap.size, 1, none⟩ = some (.string x.names) ∧ w'.cell? ⟨w.heap.size, 2, none⟩ = some (v2) ∧ w'.cell? ⟨b3, off3 + j', none⟩ = some (.int .i64 ls[j'])) (((refine and_of ?_ (fun h__ => ⟨h__.cell (by simp) x0, h__.cell (by simp) x1, h__.cell (by simp) x2, h__.cell (by simp) hc3⟩)); first | exact (Only.refl _ _).drew | exact ((Only.refl _ _).drewN _).drew | exact Only.trans (And.left (by assumption)) (by assumption) | exact Only.alloc (And.left (by assumption)) _ | assumption)) (first | (go_at_call 85; (with_reducible refine (Hc.out _ (And.left (by assumption))).mono ?_); rintro e w5 ⟨u5, f5, rfl, r5, F5, t5⟩; have F5' := F5.mono (((Only.refl [] W4).trans (And.left (by assumption))).size)) | fail "no arm")
        have k5 : Only [] W4 w5 := (Only.refl [] W4).trans (And.left (by assumption))
        obtain ⟨s', hs'⟩ : ∃ s', s' = nxt x cur ls[j'] := ⟨_, rfl⟩
        rw [← hs'] at r5 hnx
        have Hl' := Lib.hid (show s'.length = x.points.toNat by rw [← hnx]; exact expl_len1 He.out hi')
        have hd' : depT t s' = t.distances.getD i' 0 := depT_at Hb.out hi' hnx
        have hS5 := SrF.keep hS (K4.trans k5)
        have Y5 := Y4.keep k5
        have y0 := Y5.cell 0 rfl
        have y1 := Y5.cell 1 rfl
        have y2 := Y5.cell 2 rfl
        have y3 := Y5.cell 3 rfl
        have I5 := I4.keep k5
        obtain ⟨b3', off3', e3, -, hc5⟩ := I5.at_ j' hjl
        injection e3 with e3; injection e3 with e3 e4; subst e3; subst e4
        have hD5 := hD4.keep k5
        have Hs' := Lib.hid hs'
        have Hnx := Lib.hid hnx
        have Hd' := Lib.hid hd'
        clear x0 x1 x2 hc3 X4 Y4 I4 Hc hrd hs' hnx hd'
        by_cases hjk : j' = k
        · subst hjk
          have hjj : t.patterns.getD j [] = s' := by rw [HDn.out.nx, Hs'.out, Hcur.out]; simp [Hls.out]
          have Hjj := Lib.hid hjj
          have Hdm := Lib.hid ((depT_at Hb.out HDn.out.hj hjj).trans HDn.out.ds : depT t s' = m)
          clear hjj
          have hdl : dn.length + 1 ≤ 1073741824 := by have := Hlen.out; omega
          have hcmp : ((m : Int) == (n : Int) - 1) = true := by simp; omega
          go_wp2_with (first
            | (go_at_call 83; (with_reducible refine (depthOf_any x t _ u5 s' f5 _ hS5 Hb.out (Rp.keep r5 (by with_reducible repeat (first | exact Only.refl _ _ | assumption | refine Only.drewN ?_ _ | refine Only.drew ?_ | refine Only.alloc ?_ _ | refine Only.setCell ?_ (by intro hh; exfalso; simp at hh; try omega) _ | refine Only.trans ?_ (by assumption)))) Hl'.out).mono ?_); rintro e w6 ⟨he, t6⟩; rw [Hdm.out] at he; subst he; have hc6 := t6.cell (by simp) hc5; have hD6 := hD5.keep t6; have hB6 := hD6.on.size)
            | (at_builtin; refine wpList_pushI rfl _ _ 24 rfl w.heap.size 2 iI _ Tryz.underlying24 hi hz0 hz1 hz2 rfl w6 _ dn rfl hD6.acc ((Only.refl _ _).alloc _) hB6 w6.heap.size 1 ls[j'] rfl (lit1 w6 _ _ rfl) HI.out hdl ?_; intro v9 w9 hA9 hO9 hP9 hN9)
            | fail "no arm")
          have hf5 : ∀ b ∈ f5, u7.ownBlock ≠ some b := fun b hb he => by
            obtain ⟨fs7, hA7⟩ := hD4.acc
            have := (hA7.ownlt b he).2
            have := F5'.ge b hb
            omega
          have hD9 := DWn.step hD6 ((Only.refl _ _).alloc _) hA9 hO9 hN9 hP9 (j := j) (Rp.keep (Rp.keep (show Rd w5 u5 (t.patterns.getD j []) f5 by rw [Hjj.out]; exact r5) t6) ((Only.refl _ _).alloc _)) hf5
          exact ⟨⟨m, j, f5, dn ++ [ls[j']], by congr 1; omega, by omega, by have := Hlen.out; simp; omega, HDn.out.hj, HDn.out.ds, by rw [← Hcat.out, Hm.out, HDn.out.oW_]; simp [Hls.out], hD9⟩, by simp [intOf]; omega⟩
        · have hne := (HDn.out.no j' (by omega) i' hi' (by rw [Hnx.out, Hs'.out, Hcur.out]; simp [Hls.out])).1
          have hdr := Hb.out.dep i' hi'
          obtain ⟨d', hd9⟩ : ∃ d', d' = t.distances.getD i' 0 := ⟨_, rfl⟩
          rw [← hd9] at hne hdr
          have Hdd := Lib.hid (Hd'.out.trans hd9.symm)
          have hcmp : (d' == (n : Int) - 1) = false := by simp; omega
          clear hd9 hne hdr
          go_wp2_with (first
            | (go_at_call 83; (with_reducible refine (depthOf_any x t _ u5 s' f5 _ hS5 Hb.out (Rp.keep r5 (by with_reducible repeat (first | exact Only.refl _ _ | assumption | refine Only.drewN ?_ _ | refine Only.drew ?_ | refine Only.alloc ?_ _ | refine Only.setCell ?_ (by intro hh; exfalso; simp at hh; try omega) _ | refine Only.trans ?_ (by assumption)))) Hl'.out).mono ?_); rintro e w6 ⟨he, t6⟩; rw [Hdd.out] at he; subst he)
            | fail "no arm")
          go_roundw
          case rel => exact ⟨j' + 1, by omega, by go_num, rfl, rfl, hK.trans (k5.trans t6)⟩
          case measure => simp [intOf]; omega
    · obtain rfl : n = 0 := by omega
      have hfin : dn = oW x t N s0 := by have := Hcat.out; rwa [show oW x t 0 (t.patterns.getD i []) = [] from rfl, List.append_nil] at this
      have Hfin := Lib.hid hfin
      clear hfin
      go_wp2
      go_ret
      exact ⟨_, _, rfl, by rw [← Hfin.out]; exact hD.acc.rd, hD.acc.fresh, hD.on⟩
theorem empty_rd (w : World) (e : TypeId) {g : Nat} (hg : g = w.heap.size) : Rd (w.alloc (.cells #[] e)) (.slice (some ⟨g, 0, none⟩) 0 0) ([] : List Int) [g] ∧ Fresh w.heap.size (w.alloc (.cells #[] e)) [g] := by
  subst hg
  exact ⟨(AccI.made w w.heap.size e rfl (Nat.le_refl _)).rd, (AccI.made w w.heap.size e rfl (Nat.le_refl _)).fresh⟩
set_option maxHeartbeats 4000000 in
theorem specOptimalWord_any (cs : List Value) (x : Puzzle) (fp : List Nat) (v : Value) (s : List Int) (fs : List Nat) (w : World) (h : Rp.rep w cs x fp) (hs : Rd w v s fs) :
    Calls Tryz.prog 56 #[.agg cs.toArray, v] w fun e w' => ∃ u fp', e = .returned (.tuple #[u, .bool (optX x s).isSome]) ∧ Rd w' u ((optX x s).getD []) fp' ∧ Fresh w.heap.size w' fp' ∧ Only [] w w' := by
  have h0 := h
  obtain ⟨v2, rfl, p0, p1, h2⟩ := h
  clear p0 p1 h2
  have X0 : Blk (w.alloc (.cells #[.int .i64 x.points, .string x.names, v2] 42)) w.heap.size [.int .i64 x.points, .string x.names, v2] := Blk.new w [.int .i64 x.points, .string x.names, v2] 42
  by_cases hd : 0 ≤ distX x s
  · have hdb : decide (0 ≤ distX x s) = true := decide_eq_true hd
    have Hdb := Lib.hid hdb
    have hrg : distX x s ≤ 3000 ∧ reachB x s = true ∧ ∃ t, expl x = some t := by
      rcases distX_or x s with h1 | h1
      · omega
      · exact h1.2
    obtain ⟨hd3, hr, t, ht⟩ := hrg
    by_cases h200 : distX x s ≤ 200
    · obtain ⟨i, hi, e1, -, e2, -, -⟩ := distX_yes ht hr
      have Hn := Lib.hid (optX_yes ht ⟨hd, h200⟩)
      have Ht := Lib.hid ht
      obtain ⟨d, hdd⟩ : ∃ d : Nat, distX x s = (d : Int) := ⟨_, (Int.toNat_of_nonneg hd).symm⟩
      have E1 := Lib.hid e1
      have E2 := Lib.hid (e2.symm.trans hdd)
      have Hdd := Lib.hid hdd
      have hd2 : (d : Int) ≤ 200 := by omega
      clear hdb hr ht e1 e2 hd h200 hdd hd3
      go_enter Tryz.func56, Tryz.ntmps56
      go_wp2_with (first
        | (go_at_call 72; (with_reducible refine (searchState_any [.int .i64 x.points, .string x.names, v2] x _ v s _ _ (Rp.keep h0 (by with_reducible repeat (first | exact Only.refl _ _ | assumption | refine Only.drewN ?_ _ | refine Only.drew ?_ | refine Only.alloc ?_ _ | refine Only.setCell ?_ (by intro hh; exfalso; simp at hh; try omega) _ | refine Only.trans ?_ (by assumption)))) (Rp.keep hs (by with_reducible repeat (first | exact Only.refl _ _ | assumption | refine Only.drewN ?_ _ | refine Only.drew ?_ | refine Only.alloc ?_ _ | refine Only.setCell ?_ (by intro hh; exfalso; simp at hh; try omega) _ | refine Only.trans ?_ (by assumption))))).mono ?_); rintro e w1 ⟨A1, n1, C1, A2, n2, C2, A3, n3, C3, wh, he, q1, t1⟩; rw [Hdb.out, Hdd.out] at he; subst he; have Z := Blk.new w1 [.slice none 0 0, .slice none 0 0, .slice none 0 0, .bool false] 94; have z0 := Z.cell 0 rfl; have z1 := Z.cell 1 rfl; have z2 := Z.cell 2 rfl; have z3 := Z.cell 3 rfl; have zp0 := Z.frozen 0; have zp1 := Z.frozen 1; have zp2 := Z.frozen 2; have zp3 := Z.frozen 3; have hS := Lib.hid (SrF.keep (q1 t Ht.out) ((Only.refl [] w1).alloc (.cells #[.slice A1 n1 C1, .slice A2 n2 C2, .slice A3 n3 C3, .bool wh] 94))); clear q1; have X1 := (X0.keep t1).keep ((Only.refl [] _).alloc (.cells #[.slice A1 n1 C1, .slice A2 n2 C2, .slice A3 n3 C3, .bool wh] 94)); have x0 := X1.cell 0 rfl; have x1 := X1.cell 1 rfl; have x2 := X1.cell 2 rfl; have U1 := Blk.new w1 [.slice A1 n1 C1, .slice A2 n2 C2, .slice A3 n3 C3, .bool wh] 94; have a0 := U1.cell 0 rfl; have a1 := U1.cell 1 rfl; have a2 := U1.cell 2 rfl; have a3 := U1.cell 3 rfl; have hs1 : Rd (w1.alloc (.cells #[.slice A1 n1 C1, .slice A2 n2 C2, .slice A3 n3 C3, .bool wh] 94)) v (t.patterns.getD i []) fs := (by rw [E1.out]; exact Rp.keep hs (by with_reducible repeat (first | exact Only.refl _ _ | assumption | refine Only.drewN ?_ _ | refine Only.drew ?_ | refine Only.alloc ?_ _ | refine Only.setCell ?_ (by intro hh; exfalso; simp at hh; try omega) _ | refine Only.trans ?_ (by assumption)))))
        | (go_at_call 73; (with_reducible refine (descendWord_any [.int .i64 x.points, .string x.names, v2] x _ t _ A1 A2 A3 n1 n2 n3 C1 C2 C3 wh v fs i d _ (Rp.keep h0 (by with_reducible repeat (first | exact Only.refl _ _ | assumption | refine Only.drewN ?_ _ | refine Only.drew ?_ | refine Only.alloc ?_ _ | refine Only.setCell ?_ (by intro hh; exfalso; simp at hh; try omega) _ | refine Only.trans ?_ (by assumption)))) hS.out Ht.out hi hs1 E2.out).mono ?_); rintro e w2 ⟨u2, f2, rfl, r2, F2, t2⟩)
        | fail "no arm")
      have K2 : Only [] w w2 := (by with_reducible repeat (first | exact Only.refl _ _ | assumption | refine Only.drewN ?_ _ | refine Only.drew ?_ | refine Only.alloc ?_ _ | refine Only.setCell ?_ (by intro hh; exfalso; simp at hh; try omega) _ | refine Only.trans ?_ (by assumption)))
      have hsz := t1.size
      simp at hsz
      have hfin : (optX x s).getD [] = oW x t d (t.patterns.getD i []) := by rw [Hn.out, E1.out, Hdd.out]; rfl
      have hsm : (optX x s).isSome = true := by rw [Hn.out]; rfl
      exact bodyPost_ret (v := .tuple #[u2, .bool true]) (by simp [results, Tryz.results56, go_sem]) rfl ⟨u2, f2, by rw [hsm], by rw [hfin]; exact r2, F2.mono (by simp; omega), K2⟩
    · have Hn := Lib.hid (optX_no (x := x) (s := s) (fun hh => h200 hh.2))
      have hd2 : 200 < distX x s := by omega
      clear hdb hr ht h200
      go_enter Tryz.func56, Tryz.ntmps56
      go_wp2_with (first
        | (go_at_call 72; (with_reducible refine (searchState_any [.int .i64 x.points, .string x.names, v2] x _ v s _ _ (Rp.keep h0 (by with_reducible repeat (first | exact Only.refl _ _ | assumption | refine Only.drewN ?_ _ | refine Only.drew ?_ | refine Only.alloc ?_ _ | refine Only.setCell ?_ (by intro hh; exfalso; simp at hh; try omega) _ | refine Only.trans ?_ (by assumption)))) (Rp.keep hs (by with_reducible repeat (first | exact Only.refl _ _ | assumption | refine Only.drewN ?_ _ | refine Only.drew ?_ | refine Only.alloc ?_ _ | refine Only.setCell ?_ (by intro hh; exfalso; simp at hh; try omega) _ | refine Only.trans ?_ (by assumption))))).mono ?_); rintro e w1 ⟨A1, n1, C1, A2, n2, C2, A3, n3, C3, wh, he, q1, t1⟩; rw [Hdb.out] at he; subst he; clear q1; have Z := Blk.new w1 [.slice none 0 0, .slice none 0 0, .slice none 0 0, .bool false] 94; have z0 := Z.cell 0 rfl; have z1 := Z.cell 1 rfl; have z2 := Z.cell 2 rfl; have z3 := Z.cell 3 rfl; have zp0 := Z.frozen 0; have zp1 := Z.frozen 1; have zp2 := Z.frozen 2; have zp3 := Z.frozen 3)
        | fail "no arm")
      have K2 : Only [] w ((w1.alloc (.cells #[.slice A1 n1 C1, .slice A2 n2 C2, .slice A3 n3 C3, .bool wh] 94)).alloc (.cells #[] 2)) := (by with_reducible repeat (first | exact Only.refl _ _ | assumption | refine Only.drewN ?_ _ | refine Only.drew ?_ | refine Only.alloc ?_ _ | refine Only.setCell ?_ (by intro hh; exfalso; simp at hh; try omega) _ | refine Only.trans ?_ (by assumption)))
      have K3 : Only [] w (w1.alloc (.cells #[.slice A1 n1 C1, .slice A2 n2 C2, .slice A3 n3 C3, .bool wh] 94)) := (by with_reducible repeat (first | exact Only.refl _ _ | assumption | refine Only.drewN ?_ _ | refine Only.drew ?_ | refine Only.alloc ?_ _ | refine Only.setCell ?_ (by intro hh; exfalso; simp at hh; try omega) _ | refine Only.trans ?_ (by assumption)))
      obtain ⟨hE, hF⟩ := empty_rd (w1.alloc (.cells #[.slice A1 n1 C1, .slice A2 n2 C2, .slice A3 n3 C3, .bool wh] 94)) 2 (g := w1.heap.size + 1) (by simp)
      exact bodyPost_ret (v := .tuple #[.slice (some ⟨w1.heap.size + 1, 0, none⟩) 0 0, .bool false]) (by simp [results, Tryz.results56, go_sem]) rfl ⟨_, _, by rw [Hn.out]; rfl, by rw [Hn.out]; exact hE, hF.mono K3.size, K2⟩
  · have hn1 : distX x s = -1 := by
      rcases distX_or x s with h1 | h1
      · exact h1
      · omega
    have hdb : decide (0 ≤ distX x s) = false := decide_eq_false hd
    have Hdb := Lib.hid hdb
    have Hn := Lib.hid (optX_no (x := x) (s := s) (fun hh => hd hh.1))
    clear hdb hd hn1
    go_enter Tryz.func56, Tryz.ntmps56
    go_wp2_with (first
      | (go_at_call 72; (with_reducible refine (searchState_any [.int .i64 x.points, .string x.names, v2] x _ v s _ _ (Rp.keep h0 (by with_reducible repeat (first | exact Only.refl _ _ | assumption | refine Only.drewN ?_ _ | refine Only.drew ?_ | refine Only.alloc ?_ _ | refine Only.setCell ?_ (by intro hh; exfalso; simp at hh; try omega) _ | refine Only.trans ?_ (by assumption)))) (Rp.keep hs (by with_reducible repeat (first | exact Only.refl _ _ | assumption | refine Only.drewN ?_ _ | refine Only.drew ?_ | refine Only.alloc ?_ _ | refine Only.setCell ?_ (by intro hh; exfalso; simp at hh; try omega) _ | refine Only.trans ?_ (by assumption))))).mono ?_); rintro e w1 ⟨A1, n1, C1, A2, n2, C2, A3, n3, C3, wh, he, q1, t1⟩; rw [Hdb.out] at he; subst he; clear q1; have Z := Blk.new w1 [.slice none 0 0, .slice none 0 0, .slice none 0 0, .bool false] 94; have z0 := Z.cell 0 rfl; have z1 := Z.cell 1 rfl; have z2 := Z.cell 2 rfl; have z3 := Z.cell 3 rfl; have zp0 := Z.frozen 0; have zp1 := Z.frozen 1; have zp2 := Z.frozen 2; have zp3 := Z.frozen 3)
      | fail "no arm")
    have K2 : Only [] w ((w1.alloc (.cells #[.slice A1 n1 C1, .slice A2 n2 C2, .slice A3 n3 C3, .bool wh] 94)).alloc (.cells #[] 2)) := (by with_reducible repeat (first | exact Only.refl _ _ | assumption | refine Only.drewN ?_ _ | refine Only.drew ?_ | refine Only.alloc ?_ _ | refine Only.setCell ?_ (by intro hh; exfalso; simp at hh; try omega) _ | refine Only.trans ?_ (by assumption)))
    have K3 : Only [] w (w1.alloc (.cells #[.slice A1 n1 C1, .slice A2 n2 C2, .slice A3 n3 C3, .bool wh] 94)) := (by with_reducible repeat (first | exact Only.refl _ _ | assumption | refine Only.drewN ?_ _ | refine Only.drew ?_ | refine Only.alloc ?_ _ | refine Only.setCell ?_ (by intro hh; exfalso; simp at hh; try omega) _ | refine Only.trans ?_ (by assumption)))
    obtain ⟨hE, hF⟩ := empty_rd (w1.alloc (.cells #[.slice A1 n1 C1, .slice A2 n2 C2, .slice A3 n3 C3, .bool wh] 94)) 2 (g := w1.heap.size + 1) (by simp)
    exact bodyPost_ret (v := .tuple #[.slice (some ⟨w1.heap.size + 1, 0, none⟩) 0 0, .bool false]) (by simp [results, Tryz.results56, go_sem]) rfl ⟨_, _, by rw [Hn.out]; rfl, by rw [Hn.out]; exact hE, hF.mono K3.size, K2⟩
end Go.Proofs.YtlbcjkjoapcppaaGreat

namespace Go.Proofs.YtlbcjkjoapcppaaGreat
open Go.RowKit
set_option maxRecDepth 10000


end Go.Proofs.YtlbcjkjoapcppaaGreat

namespace Go.Proofs.YtlbcjkjoapcppaaGreat
open Go.RowKit
set_option maxRecDepth 10000





end Go.Proofs.YtlbcjkjoapcppaaGreat

namespace Go.Proofs.YtlbcjkjoapcppaaGreat
open Go.RowKit
set_option maxRecDepth 10000








end Go.Proofs.YtlbcjkjoapcppaaGreat

namespace Go.Proofs.YtlbcjkjoapcppaaGreat
open Go.RowKit
set_option maxRecDepth 10000
end Go.Proofs.YtlbcjkjoapcppaaGreat

namespace Go.Proofs.YtlbcjkjoapcppaaGreat
open Go.RowKit
set_option maxRecDepth 10000

/-- the entries of a table's map, of the first j patterns -/
def tabG (t : Table) (j : Nat) (s : ByteArray) : Option Int := (firstG (t.patterns.take j) s).map fun i => t.distances.getD i.toNat 0
def kmOf (t : Table) : KM := ⟨tabG t t.patterns.length⟩
/-- the bounds of tables in memory: the box at g -/
def BD (w : World) (g : Nat) (ts : List Table) (ft : List Nat) : Prop :=
  ∃ vt vm fm, Blk w g [vt, vm] ∧ Rd w vt ts ft ∧ Rd w vm (ts.map kmOf) fm
theorem BD.keep {w w' : World} {g : Nat} {ts : List Table} {ft : List Nat} (h : BD w g ts ft) (ho : Only [] w w') : BD w' g ts ft := by
  obtain ⟨vt, vm, fm, a, b, c⟩ := h
  exact ⟨vt, vm, fm, a.keep ho, Rp.keep b ho, Rp.keep c ho⟩







end Go.Proofs.YtlbcjkjoapcppaaGreat

namespace Go.Proofs.YtlbcjkjoapcppaaGreat
open Go.RowKit
set_option maxRecDepth 10000

structure Certificate where
  kind : Int
  numbers : List Int
  words : List (List Int)
  tables : List Table

instance : Rp Certificate where
  size := 4
  rep w cs x fp := ∃ v1 v2 v3 f1 f2 f3, cs = [Value.int .i64 x.kind] ++ [v1] ++ [v2] ++ [v3] ∧ fp = f1 ++ (f2 ++ f3) ∧ I64 x.kind ∧ Rd w v1 x.numbers f1 ∧ Rd w v2 x.words f2 ∧ Rd w v3 x.tables f3
  len h := by
    obtain ⟨v1, v2, v3, f1, f2, f3, rfl, -, p0, h1, h2, h3⟩ := h
    rfl
  frame h hf := by
    obtain ⟨v1, v2, v3, f1, f2, f3, hcs, rfl, p0, h1, h2, h3⟩ := h
    exact ⟨v1, v2, v3, f1, f2, f3, hcs, rfl, p0, Rp.frame h1 fun b hb => hf b (by simp [hb]), Rp.frame h2 fun b hb => hf b (by simp [hb]), Rp.frame h3 fun b hb => hf b (by simp [hb])⟩
  lt h := by
    obtain ⟨v1, v2, v3, f1, f2, f3, hcs, rfl, p0, h1, h2, h3⟩ := h
    intro b hb
    simp only [List.mem_append] at hb
    rcases hb with hb | hb | hb
    · exact Rp.lt h1 b hb
    · exact Rp.lt h2 b hb
    · exact Rp.lt h3 b hb

instance : Mk Certificate where
  mark k x := ⟨x.kind, Mk.mark (k) x.numbers, Mk.mark (k + (Mk.cnt x.numbers : Nat)) x.words, Mk.mark (k + (Mk.cnt x.numbers : Nat) + (Mk.cnt x.words : Nat)) x.tables⟩
  cnt x := Mk.cnt x.numbers + Mk.cnt x.words + Mk.cnt x.tables
instance : Sz Certificate where
  sz x := Sz.sz x.numbers + Sz.sz x.words + Sz.sz x.tables
instance : Sm Certificate where
  sm x := Sm.sm x.numbers ∧ Sm.sm x.words ∧ Sm.sm x.tables
instance : SzSm Certificate := ⟨fun x h => by
  have h' : Sz.sz x.numbers + Sz.sz x.words + Sz.sz x.tables ≤ 2097152 := h
  exact ⟨SzSm.of_ _ (by omega), SzSm.of_ _ (by omega), SzSm.of_ _ (by omega)⟩⟩
instance : CntSz Certificate := ⟨fun x => by
  have h' : Mk.cnt x.numbers + Mk.cnt x.words + Mk.cnt x.tables ≤ Sz.sz x.numbers + Sz.sz x.words + Sz.sz x.tables := by have := CntSz.le x.numbers; have := CntSz.le x.words; have := CntSz.le x.tables; omega
  exact h'⟩
instance : MkL Certificate := ⟨fun k x => by simp [Mk.mark, Mk.cnt, markL_idem, markL_cnt], fun k x => by simp [Mk.mark, Mk.cnt, markL_cnt]⟩
theorem Certificate.eq_iff {x y : Certificate} : x = y ↔ x.kind = y.kind ∧ x.numbers = y.numbers ∧ x.words = y.words ∧ x.tables = y.tables := by
  cases x; cases y; simp





end Go.Proofs.YtlbcjkjoapcppaaGreat


namespace Go.Proofs.YtlbcjkjoapcppaaGreat
open Go.RowKit
set_option maxRecDepth 10000

def solCert (l : List Int) : Certificate := if validW 8 l then ⟨1, [], [l], []⟩ else ⟨0, [], [], []⟩
def noCert : Certificate := ⟨0, [], [], []⟩
theorem noCert_rep (w : World) : Rp.rep w [.int .i64 0, .slice none 0 0, .slice none 0 0, .slice none 0 0] noCert [] :=
  ⟨_, _, _, [], [], [], rfl, rfl, ⟨by simp [noCert], by simp [noCert]⟩, nil_rd w, nil_rd w, nil_rd w⟩
set_option maxHeartbeats 400000 in
theorem specSolCert_rd (v : Value) (l : List Int) (fp : List Nat) (w : World) (h : Rd w v l fp) :
    Calls Tryz.prog 12 #[v] w fun e w' => ∃ cs fp', e = .returned (.agg cs.toArray) ∧ Rp.rep w' cs (solCert l) fp' ∧ Fresh w.heap.size w' fp' ∧ Only [] w w' := by
  rcases hq : validW 8 l
  · have hp : solCert l = noCert := by unfold solCert; rw [if_neg (by simp [hq])]; rfl
    have Hp := Lib.hid hp
    clear hp
    go_enter Tryz.func12, Tryz.ntmps12
    go_wp2_with ((go_at_call 31; (with_reducible refine (specIsWord_rd v l _ _ (Rp.keep h (by with_reducible repeat (first | exact Only.refl _ _ | assumption | refine Only.drewN ?_ _ | refine Only.drew ?_ | refine Only.alloc ?_ _ | refine Only.setCell ?_ (by intro hh; exfalso; simp at hh; try omega) _ | refine Only.trans ?_ (by assumption))))).mono ?_); rintro e w1 ⟨rfl, n1, rfl⟩))
    refine bodyPost_ret (v := .agg #[.int .i64 0, .slice none 0 0, .slice none 0 0, .slice none 0 0]) (by simp [results, Tryz.results12, go_sem]) rfl ⟨[.int .i64 0, .slice none 0 0, .slice none 0 0, .slice none 0 0], [], rfl, ?_, Fresh.nil _ _, (by with_reducible repeat (first | exact Only.refl _ _ | assumption | refine Only.drewN ?_ _ | refine Only.drew ?_ | refine Only.alloc ?_ _ | refine Only.setCell ?_ (by intro hh; exfalso; simp at hh; try omega) _ | refine Only.trans ?_ (by assumption)))⟩
    rw [Hp.out]; exact noCert_rep _
  · have hp : solCert l = ⟨1, [], [l], []⟩ := by unfold solCert; rw [if_pos hq]
    have Hp := Lib.hid hp
    have hlen := validW_len hq
    clear hp
    go_enter Tryz.func12, Tryz.ntmps12
    go_wp2_with (first
      | (go_at_call 31; (with_reducible refine (specIsWord_rd v l _ _ (Rp.keep h (by with_reducible repeat (first | exact Only.refl _ _ | assumption | refine Only.drewN ?_ _ | refine Only.drew ?_ | refine Only.alloc ?_ _ | refine Only.setCell ?_ (by intro hh; exfalso; simp at hh; try omega) _ | refine Only.trans ?_ (by assumption))))).mono ?_); rintro e w1 ⟨rfl, n1, rfl⟩)
      | (go_at_call 33; (with_reducible refine (copyInts_rd v l _ _ (Rp.keep h (by with_reducible repeat (first | exact Only.refl _ _ | assumption | refine Only.drewN ?_ _ | refine Only.drew ?_ | refine Only.alloc ?_ _ | refine Only.setCell ?_ (by intro hh; exfalso; simp at hh; try omega) _ | refine Only.trans ?_ (by assumption)))) (by omega)).mono ?_); rintro e w2 ⟨v2, fp2, rfl, r2, F2, t2⟩; obtain ⟨A2, C2, _, _, rfl, -⟩ := r2.open_; have y2 := t2.cells_eq w.heap.size (by simp) (by simp); have z2 := t2.frozen_eq w.heap.size (by simp) (by simp); have s2 : w.heap.size < w2.heap.size := (by have := t2.size; simp at this; omega)))
    have T2 := t2.size
    simp at T2
    have hR := Rp.only (fp' := [w.heap.size]) (w' := (((w2.setCell ⟨w.heap.size, 0, none⟩ (.int .i64 1)).setCell ⟨w.heap.size, 1, none⟩ (.slice none 0 0)).setCell ⟨w.heap.size, 2, none⟩ (.slice (some ⟨w2.heap.size, 0, none⟩) 1 1)).setCell ⟨w.heap.size, 3, none⟩ (.slice none 0 0)) r2 (by with_reducible repeat (first | exact Only.refl _ _ | assumption | refine Only.drewN ?_ _ | refine Only.drew ?_ | refine Only.alloc ?_ _ | refine Only.setCell ?_ (by intro _; simp) _ | refine Only.trans ?_ (Only.weaken (by assumption) _))) (fun b hb hm => by have := F2.ge b hb; simp at hm this; omega)
    have hF := F2.only (fp' := [w.heap.size]) (w' := (((w2.setCell ⟨w.heap.size, 0, none⟩ (.int .i64 1)).setCell ⟨w.heap.size, 1, none⟩ (.slice none 0 0)).setCell ⟨w.heap.size, 2, none⟩ (.slice (some ⟨w2.heap.size, 0, none⟩) 1 1)).setCell ⟨w.heap.size, 3, none⟩ (.slice none 0 0)) (by with_reducible repeat (first | exact Only.refl _ _ | assumption | refine Only.drewN ?_ _ | refine Only.drew ?_ | refine Only.alloc ?_ _ | refine Only.setCell ?_ (by intro _; simp) _ | refine Only.trans ?_ (Only.weaken (by assumption) _))) (fun b hb hm => by have := F2.ge b hb; simp at hm this; omega)
    obtain ⟨o1, o2⟩ := one_rd hR 24 w.heap.size (hF.mono (by simp)) (g := w2.heap.size) (by simp [World.setCell]) (by omega)
    refine bodyPost_ret (v := .agg #[.int .i64 1, .slice none 0 0, .slice (some ⟨w2.heap.size, 0, none⟩) 1 1, .slice none 0 0]) (by simp [results, Tryz.results12, go_sem, y2, s2]) rfl ⟨[.int .i64 1, .slice none 0 0, .slice (some ⟨w2.heap.size, 0, none⟩) 1 1, .slice none 0 0], _, rfl, ?_, o2, (by with_reducible repeat (first | exact Only.refl _ _ | assumption | refine Only.drewN ?_ _ | refine Only.drew ?_ | refine Only.alloc ?_ _ | refine Only.setCell ?_ (by intro hh; exfalso; simp at hh; try omega) _ | refine Only.trans ?_ (by assumption)))⟩
    rw [Hp.out]
    exact ⟨_, _, _, [], _, [], rfl, (by simp), ⟨by simp, by simp⟩, nil_rd _, o1, nil_rd _⟩
set_option maxHeartbeats 400000 in
theorem implSolCert_rd (v : Value) (l : List Int) (fp : List Nat) (w : World) (h : Rd w v l fp) :
    Calls Tryz.prog 8 #[v] w fun e w' => ∃ cs fp', e = .returned (.agg cs.toArray) ∧ Rp.rep w' cs (solCert l) fp' ∧ Fresh w.heap.size w' fp' ∧ Only [] w w' := by
  rcases hq : validW 8 l
  · have hp : solCert l = noCert := by unfold solCert; rw [if_neg (by simp [hq])]; rfl
    have Hp := Lib.hid hp
    clear hp
    go_enter Tryz.func8, Tryz.ntmps8
    go_wp2_with ((go_at_call 23; (with_reducible refine (implIsWord_rd v l _ _ (Rp.keep h (by with_reducible repeat (first | exact Only.refl _ _ | assumption | refine Only.drewN ?_ _ | refine Only.drew ?_ | refine Only.alloc ?_ _ | refine Only.setCell ?_ (by intro hh; exfalso; simp at hh; try omega) _ | refine Only.trans ?_ (by assumption))))).mono ?_); rintro e w1 ⟨rfl, t1⟩; have y1 := t1.cells_eq w.heap.size (by simp) (by simp); have z1 := t1.frozen_eq w.heap.size (by simp) (by simp); have s1 : w.heap.size < w1.heap.size := (by have := t1.size; simp at this; omega)))
    refine bodyPost_ret (v := .agg #[.int .i64 0, .slice none 0 0, .slice none 0 0, .slice none 0 0]) (by simp [results, Tryz.results8, go_sem, y1]) rfl ⟨[.int .i64 0, .slice none 0 0, .slice none 0 0, .slice none 0 0], [], rfl, ?_, Fresh.nil _ _, (by with_reducible repeat (first | exact Only.refl _ _ | assumption | refine Only.drewN ?_ _ | refine Only.drew ?_ | refine Only.alloc ?_ _ | refine Only.setCell ?_ (by intro hh; exfalso; simp at hh; try omega) _ | refine Only.trans ?_ (by assumption)))⟩
    rw [Hp.out]; exact noCert_rep _
  · have hp : solCert l = ⟨1, [], [l], []⟩ := by unfold solCert; rw [if_pos hq]
    have Hp := Lib.hid hp
    have hlen := validW_len hq
    clear hp
    go_enter Tryz.func8, Tryz.ntmps8
    go_wp2_with (first
      | (go_at_call 23; (with_reducible refine (implIsWord_rd v l _ _ (Rp.keep h (by with_reducible repeat (first | exact Only.refl _ _ | assumption | refine Only.drewN ?_ _ | refine Only.drew ?_ | refine Only.alloc ?_ _ | refine Only.setCell ?_ (by intro hh; exfalso; simp at hh; try omega) _ | refine Only.trans ?_ (by assumption))))).mono ?_); rintro e w1 ⟨rfl, t1⟩; have y1 := t1.cells_eq w.heap.size (by simp) (by simp); have z1 := t1.frozen_eq w.heap.size (by simp) (by simp); have s1 : w.heap.size < w1.heap.size := (by have := t1.size; simp at this; omega))
      | (go_at_call 26; (with_reducible refine (Clone_rd v l _ _ (Rp.keep h (by with_reducible repeat (first | exact Only.refl _ _ | assumption | refine Only.drewN ?_ _ | refine Only.drew ?_ | refine Only.alloc ?_ _ | refine Only.setCell ?_ (by intro hh; exfalso; simp at hh; try omega) _ | refine Only.trans ?_ (by assumption)))) (by omega)).mono ?_); rintro e w2 ⟨v2, fp2, rfl, r2, F2, t2⟩; obtain ⟨A2, C2, _, _, rfl, -⟩ := r2.open_; have y2 := t2.cells_eq w.heap.size s1 (by simp); have z2 := t2.frozen_eq w.heap.size s1 (by simp); have s2 : w.heap.size < w2.heap.size := (by have := t2.size; omega)))
    have T2 := t2.size
    have hR := Rp.only (fp' := [w.heap.size]) (w' := (((w2.setCell ⟨w.heap.size, 0, none⟩ (.int .i64 1)).setCell ⟨w.heap.size, 1, none⟩ (.slice none 0 0)).setCell ⟨w.heap.size, 2, none⟩ (.slice (some ⟨w2.heap.size, 0, none⟩) 1 1)).setCell ⟨w.heap.size, 3, none⟩ (.slice none 0 0)) r2 (by with_reducible repeat (first | exact Only.refl _ _ | assumption | refine Only.drewN ?_ _ | refine Only.drew ?_ | refine Only.alloc ?_ _ | refine Only.setCell ?_ (by intro _; simp) _ | refine Only.trans ?_ (Only.weaken (by assumption) _))) (fun b hb hm => by have := F2.ge b hb; simp at hm; omega)
    have hF := F2.only (fp' := [w.heap.size]) (w' := (((w2.setCell ⟨w.heap.size, 0, none⟩ (.int .i64 1)).setCell ⟨w.heap.size, 1, none⟩ (.slice none 0 0)).setCell ⟨w.heap.size, 2, none⟩ (.slice (some ⟨w2.heap.size, 0, none⟩) 1 1)).setCell ⟨w.heap.size, 3, none⟩ (.slice none 0 0)) (by with_reducible repeat (first | exact Only.refl _ _ | assumption | refine Only.drewN ?_ _ | refine Only.drew ?_ | refine Only.alloc ?_ _ | refine Only.setCell ?_ (by intro _; simp) _ | refine Only.trans ?_ (Only.weaken (by assumption) _))) (fun b hb hm => by have := F2.ge b hb; simp at hm; omega)
    obtain ⟨o1, o2⟩ := one_rd hR 24 w.heap.size (hF.mono (by omega)) (g := w2.heap.size) (by simp [World.setCell]) (by omega)
    refine bodyPost_ret (v := .agg #[.int .i64 1, .slice none 0 0, .slice (some ⟨w2.heap.size, 0, none⟩) 1 1, .slice none 0 0]) (by simp [results, Tryz.results8, go_sem, y1, y2, s2]) rfl ⟨[.int .i64 1, .slice none 0 0, .slice (some ⟨w2.heap.size, 0, none⟩) 1 1, .slice none 0 0], _, rfl, ?_, o2, (by with_reducible repeat (first | exact Only.refl _ _ | assumption | refine Only.drewN ?_ _ | refine Only.drew ?_ | refine Only.alloc ?_ _ | refine Only.setCell ?_ (by intro hh; exfalso; simp at hh; try omega) _ | refine Only.trans ?_ (by assumption)))⟩
    rw [Hp.out]
    exact ⟨_, _, _, [], _, [], rfl, (by simp), ⟨by simp, by simp⟩, nil_rd _, o1, nil_rd _⟩
end Go.Proofs.YtlbcjkjoapcppaaGreat
