/- The reference's BuildTable with a result that can be written to and appended to; TableLookup, PatternOf (laws 26, 49). (Printed by mkblda.py.) A table under way in memory of the call's own: its entries can be written over (laws 26, 49). Faults in plain words: lists of them in memory; descents. -/
import Derived.Test.YtpkplmnpepkdaaaGreatRowAdmissibleTablesG19
import Derived.Test.YtpkplmnpepkdaaaGreatRowAdmissibleTablesG11
import Derived.Test.YtpkplmnpepkdaaaGreatRowAdmissibleTablesG20
import Derived.Test.YtpkplmnpepkdaaaGreatRowAdmissibleTablesG17
import Derived.Test.YtpkplmnpepkdaaaGreatRowAdmissibleTablesG8
import Derived.Deep.RegionHeld3
import Derived.Test.YtpkplmnpepkdaaaGreatRowAdmissibleTablesG14
namespace Go.Proofs.YtpkplmnpepkdaaaGreat
open Go.RowKit
set_option maxRecDepth 10000

set_option maxHeartbeats 4000000 in
theorem specBuildTable_acc (cs : List Value) (x : Puzzle) (fp : List Nat) (v : Value) (tr : List Int) (ft : List Nat) (w : World) (h : Rp.rep w cs x fp) (hv : Rd w v tr ft) (htl : tr.length ≤ 2097152) :
    Calls Tryz.prog 32 #[.agg cs.toArray, v] w fun e w' => ∃ v1 v2 v3 fs, e = .returned (.tuple #[.agg #[v1, v2, v3], .bool (bTab x tr).isSome]) ∧ (∀ t, bTab x tr = some t → TB w.heap.size w' v1 v2 v3 t fs) ∧ (bTab x tr = none → v1 = .slice none 0 0 ∧ v2 = .slice none 0 0 ∧ v3 = .slice none 0 0) ∧ Only [] w w' := by
  have h0 := h
  obtain ⟨v2, rfl, p0, p1, h2⟩ := h
  obtain ⟨A2, C2, _, _, rfl, -, -⟩ := h2.open_
  obtain ⟨a, cap, rfl, Iv⟩ := hv.ints
  clear Iv h2 p0 p1
  have X0 : Blk ((w.alloc (.cells #[.int .i64 x.points, .string x.names, .slice A2 x.moves.length C2] 26)).alloc (.cells #[.slice none 0 0, .slice none 0 0, .slice none 0 0] 29)) w.heap.size [.int .i64 x.points, .string x.names, .slice A2 x.moves.length C2] := (Blk.new w [.int .i64 x.points, .string x.names, .slice A2 x.moves.length C2] 26).keep ((Only.refl _ _).alloc _)
  have Y0 : Blk ((w.alloc (.cells #[.int .i64 x.points, .string x.names, .slice A2 x.moves.length C2] 26)).alloc (.cells #[.slice none 0 0, .slice none 0 0, .slice none 0 0] 29)) (w.heap.size + 1) [.slice none 0 0, .slice none 0 0, .slice none 0 0] := Blk.new_at (by simp)
  rcases hq : bfs16 x tr with _ | s
  · have Hq := Lib.hid hq
    have hb : bTab x tr = none := by unfold bTab; rw [hq]; rfl
    have Hb := Lib.hid hb
    clear hq hb
    go_enter Tryz.func32, Tryz.ntmps32
    go_wp2_with (first
      | (go_at_call 73; (with_reducible refine (searchPatterns_any [.int .i64 x.points, .string x.names, .slice A2 x.moves.length C2] x _ _ tr _ _ (Rp.keep h0 (by with_reducible repeat (first | exact Only.refl _ _ | assumption | refine Only.drewN ?_ _ | refine Only.drew ?_ | refine Only.alloc ?_ _ | refine Only.setCell ?_ (by intro hh; exfalso; simp at hh; try omega) _ | refine Only.trans ?_ (by assumption)))) (Rp.keep hv (by with_reducible repeat (first | exact Only.refl _ _ | assumption | refine Only.drewN ?_ _ | refine Only.drew ?_ | refine Only.alloc ?_ _ | refine Only.setCell ?_ (by intro hh; exfalso; simp at hh; try omega) _ | refine Only.trans ?_ (by assumption))))).mono ?_); rintro e w2 ⟨B1, B2, B3, D1, D2, D3, n3, wh, L, D, fL, fD, rfl, o1, o2, o3, t2, -, -, -, -⟩; obtain rfl := wh_no o3 Hq.out; clear o3; have Y1 := (Y0.keep t2).keep ((Only.refl [] w2).alloc (.cells #[.slice B1 L.length D1, .slice B2 D.length D2, .slice B3 n3 D3, .bool false] 66)); have g0 := Y1.cell 0 rfl; have g1 := Y1.cell 1 rfl; have g2 := Y1.cell 2 rfl; have p0 := Y1.frozen 0; have p1 := Y1.frozen 1; have p2 := Y1.frozen 2)
      | fail "no arm")
    have K2 : Only [] w w2 := (by with_reducible repeat (first | exact Only.refl _ _ | assumption | refine Only.drewN ?_ _ | refine Only.drew ?_ | refine Only.alloc ?_ _ | refine Only.setCell ?_ (by intro hh; exfalso; simp at hh; try omega) _ | refine Only.trans ?_ (by assumption)))
    have K3 := K2.alloc (.cells #[.slice B1 L.length D1, .slice B2 D.length D2, .slice B3 n3 D3, .bool false] 66)
    have Yf := ((Y1.set 0 (.slice none 0 0)).set 1 (.slice none 0 0)).set 2 (.slice none 0 0)
    have kf := K3.then_ ((((Only.refl [w.heap.size + 1] (w2.alloc (.cells #[.slice B1 L.length D1, .slice B2 D.length D2, .slice B3 n3 D3, .bool false] 66))).setCell (p := ⟨w.heap.size + 1, 0, none⟩) (by simp) (.slice none 0 0)).setCell (p := ⟨w.heap.size + 1, 1, none⟩) (by simp) (.slice none 0 0)).setCell (p := ⟨w.heap.size + 1, 2, none⟩) (by simp) (.slice none 0 0)) (by simp)
    obtain ⟨wf, hwf⟩ : ∃ wf, wf = ((((w2.alloc (.cells #[.slice B1 L.length D1, .slice B2 D.length D2, .slice B3 n3 D3, .bool false] 66)).setCell ⟨w.heap.size + 1, 0, none⟩ (.slice none 0 0)).setCell ⟨w.heap.size + 1, 1, none⟩ (.slice none 0 0)).setCell ⟨w.heap.size + 1, 2, none⟩ (.slice none 0 0)) := ⟨_, rfl⟩
    rw [← hwf] at Yf kf ⊢
    simp only [List.set] at Yf
    clear hwf g0 g1 g2 p0 p1 p2
    have r0 := Yf.cell 0 rfl
    have r1 := Yf.cell 1 rfl
    have r2 := Yf.cell 2 rfl
    refine bodyPost_ret (v := .tuple #[.agg #[.slice none 0 0, .slice none 0 0, .slice none 0 0], .bool false]) (by simp [results, Tryz.results32, go_sem, r0, r1, r2]) rfl ⟨_, _, _, [], by rw [Hb.out]; rfl, fun t ht => (by rw [Hb.out] at ht; cases ht), fun _ => ⟨rfl, rfl, rfl⟩, kf⟩
  · have Hq := Lib.hid hq
    have hb : bTab x tr = some ⟨tr, s.1, s.2⟩ := by unfold bTab; rw [hq]; rfl
    have Hb := Lib.hid hb
    clear hq hb
    go_enter Tryz.func32, Tryz.ntmps32
    go_wp2_with (first
      | (go_at_call 73; (with_reducible refine (searchPatterns_any [.int .i64 x.points, .string x.names, .slice A2 x.moves.length C2] x _ _ tr _ _ (Rp.keep h0 (by with_reducible repeat (first | exact Only.refl _ _ | assumption | refine Only.drewN ?_ _ | refine Only.drew ?_ | refine Only.alloc ?_ _ | refine Only.setCell ?_ (by intro hh; exfalso; simp at hh; try omega) _ | refine Only.trans ?_ (by assumption)))) (Rp.keep hv (by with_reducible repeat (first | exact Only.refl _ _ | assumption | refine Only.drewN ?_ _ | refine Only.drew ?_ | refine Only.alloc ?_ _ | refine Only.setCell ?_ (by intro hh; exfalso; simp at hh; try omega) _ | refine Only.trans ?_ (by assumption))))).mono ?_); rintro e w2 ⟨B1, B2, B3, D1, D2, D3, n3, wh, L, D, fL, fD, rfl, o1, o2, o3, t2, m0, m1, m2, m3⟩; obtain ⟨rfl, he⟩ := wh_yes o3 Hq.out; have He := Lib.hid he; clear o3 he)
      | fail "no arm")
    have K2 : Only [] w w2 := (by with_reducible repeat (first | exact Only.refl _ _ | assumption | refine Only.drewN ?_ _ | refine Only.drew ?_ | refine Only.alloc ?_ _ | refine Only.setCell ?_ (by intro hh; exfalso; simp at hh; try omega) _ | refine Only.trans ?_ (by assumption)))
    have Y1 := ((Y0.keep t2).keep ((Only.refl [] w2).alloc (.cells #[.slice B1 L.length D1, .slice B2 D.length D2, .slice B3 n3 D3, .bool true] 66)))
    have B4 := Blk.new w2 [.slice B1 L.length D1, .slice B2 D.length D2, .slice B3 n3 D3, .bool true] 66
    have o1' := Rp.keep o1 ((Only.refl [] w2).alloc (.cells #[.slice B1 L.length D1, .slice B2 D.length D2, .slice B3 n3 D3, .bool true] 66))
    have o2' := Rp.keep o2 ((Only.refl [] w2).alloc (.cells #[.slice B1 L.length D1, .slice B2 D.length D2, .slice B3 n3 D3, .bool true] 66))
    have K3 := K2.alloc (.cells #[.slice B1 L.length D1, .slice B2 D.length D2, .slice B3 n3 D3, .bool true] 66)
    have hsz : w.heap.size + 2 ≤ w2.heap.size := by have h6 := t2.size; simp at h6; omega
    obtain ⟨b, hb⟩ : ∃ b, b = w2.heap.size := ⟨_, rfl⟩
    obtain ⟨w3, hw3⟩ : ∃ w3, w3 = w2.alloc (.cells #[.slice B1 L.length D1, .slice B2 D.length D2, .slice B3 n3 D3, .bool true] 66) := ⟨_, rfl⟩
    have hs3 : w.heap.size + 3 ≤ w3.heap.size := by rw [hw3]; simp; omega
    rw [← hb] at B4 hsz ⊢
    rw [← hw3] at Y1 B4 o1' o2' K3 ⊢
    clear hb hw3 X0 Y0 t2 o1 o2 K2
    have hv' := Rp.keep hv K3
    have c0 := B4.cell 0 rfl
    have c1 := B4.cell 1 rfl
    have ml : L.length ≤ 2097152 := by omega
    have mr : ∀ y ∈ L, y.length ≤ 2097152 := fun y hy => by have := m3 y hy; omega
    have hdt : ∀ g ∈ ft, g ∉ [w.heap.size + 1] := fun g hg hm => by have := Rp.lt hv g hg; simp at hm; omega
    have hdL : ∀ g ∈ fL, g ∉ [w.heap.size + 1] := fun g hg hm => by have := m0 g (by simp [hg]); simp at this hm; omega
    have hdD : ∀ g ∈ fD, g ∉ [w.heap.size + 1] := fun g hg hm => by have := m0 g (by simp [hg]); simp at this hm; omega
    have hbn : b ∉ [w.heap.size + 1] := by simp; omega
    go_region_held3 (fun w' => Only [w.heap.size + 1] w3 w' ∧ w'.cell? ⟨b, 0, none⟩ = some (.slice B1 L.length D1) ∧ w'.cell? ⟨b, 1, none⟩ = some (.slice B2 D.length D2))
      ((refine and_of ?_ (fun h__ => ⟨h__.cell hbn c0, h__.cell hbn c1⟩); first
        | with_reducible exact (Only.refl _ _).drew
        | with_reducible exact Only.keepThen (And.left (by assumption)) (by assumption)
        | with_reducible exact Only.setCell (Only.setCell (Only.setCell (And.left (by assumption)) (by simp) _) (by simp) _) (by simp) _
        | with_reducible exact And.left (by assumption)
        | assumption))
      (first
        | (go_at_call 36; (with_reducible refine (copyInts_accI (.slice a tr.length cap) tr _ _ (Rp.only hv' (And.left (by assumption)) hdt) (by omega)).mono ?_); rintro e x1 ⟨u1, rfl, r1, y1⟩; obtain ⟨a1, k1, rfl⟩ := r1.form)
        | (go_at_call 74; (with_reducible refine (copyLists_accR (.slice B1 L.length D1) L _ _ (Rp.only o1' (And.left (by assumption)) hdL) ml mr).mono ?_); rintro e x2 ⟨u2, fs, rfl, r2, F2, y2⟩; obtain ⟨a2, k2, rfl⟩ := r2.form)
        | (go_at_call 36; (with_reducible refine (copyInts_accI (.slice B2 D.length D2) D _ _ (Rp.only o2' (And.left (by assumption)) hdD) (by omega)).mono ?_); rintro e x3 ⟨u3, rfl, r3, y3⟩; obtain ⟨a3, k3, rfl⟩ := r3.form; have kk := (((Only.refl [] w3).drew.trans y1).trans y2).trans y3; have Y3 := Y1.keep kk; have g0 := Y3.cell 0 rfl; have g1 := Y3.cell 1 rfl; have g2 := Y3.cell 2 rfl; have p0 := Y3.frozen 0; have p1 := Y3.frozen 1; have p2 := Y3.frozen 2)
        | fail "no arm")
    have F1 := r1.fresh
    have FP := r2.fresh F2
    have F23 := (FP.keep y3).append r3.fresh y2.size (fun g hg => FP.lt g hg)
    have F := (F1.keep (y2.trans y3)).append F23 y1.size (fun g hg => F1.lt g hg)
    have hFg : ∀ g ∈ (Value.slice a1 tr.length k1).ownBlock.toList ++ (((Value.slice a2 L.length k2).ownBlock.toList ++ fs.flatten) ++ (Value.slice a3 D.length k3).ownBlock.toList), g ∉ [w.heap.size + 1] := fun g hg hm => by have := F.ge g hg; simp at this hm; omega
    have hz1 := y1.size
    have hz2 := y2.size
    simp at hz1
    have HT := Lib.hid (TB.mk (B := w.heap.size) (t := ⟨tr, L, D⟩) ((r1.keep (y2.trans y3)).low2 (by simp; omega)) ((r2.keep y3).lower (by omega)) (r3.low2 (by omega)) (F.mono (by simp; omega)))
    have Yf := ((Y3.set 0 (.slice a1 tr.length k1)).set 1 (.slice a2 L.length k2)).set 2 (.slice a3 D.length k3)
    have kf : Only [w.heap.size + 1] x3 (((x3.setCell ⟨w.heap.size + 1, 0, none⟩ (.slice a1 tr.length k1)).setCell ⟨w.heap.size + 1, 1, none⟩ (.slice a2 L.length k2)).setCell ⟨w.heap.size + 1, 2, none⟩ (.slice a3 D.length k3)) := (((Only.refl _ _).setCell (by simp) _).setCell (by simp) _).setCell (by simp) _
    have K4 : Only [] w x3 := K3.trans kk
    go_wp2_with fail
    obtain ⟨wf, hwf⟩ : ∃ wf, wf = (((x3.setCell ⟨w.heap.size + 1, 0, none⟩ (.slice a1 tr.length k1)).setCell ⟨w.heap.size + 1, 1, none⟩ (.slice a2 L.length k2)).setCell ⟨w.heap.size + 1, 2, none⟩ (.slice a3 D.length k3)) := ⟨_, rfl⟩
    rw [← hwf] at Yf kf ⊢
    simp only [List.set] at Yf
    clear hwf g0 g1 g2 p0 p1 p2
    have z0 := Yf.cell 0 rfl
    have z1 := Yf.cell 1 rfl
    have z2 := Yf.cell 2 rfl
    refine bodyPost_ret (v := .tuple #[.agg #[.slice a1 tr.length k1, .slice a2 L.length k2, .slice a3 D.length k3], .bool true]) (by simp [results, Tryz.results32, go_sem, z0, z1, z2]) rfl ⟨_, _, _, fs, by rw [Hb.out]; rfl, fun t ht => ?_, fun hn => (by rw [Hb.out] at hn; cases hn), K4.then_ kf (by simp)⟩
    rw [Hb.out] at ht
    injection ht with ht
    rw [← ht, He.out]
    exact HT.out.only kf hFg
set_option maxHeartbeats 2000000 in
theorem specTableLookup_any (ds : List Value) (t : Table) (f2 : List Nat) (v : Value) (p : List Int) (f3 : List Nat) (w : World) (h : Rp.rep w ds t f2) (h2 : Rd w v p f3) :
    Calls Tryz.prog 11 #[.agg ds.toArray, v] w fun e w' => e = .returned (.int .i64 (lookV t p)) ∧ Only [] w w' := by
  have h0 := h
  obtain ⟨u0, u1, u2, q0, q1, q2, rfl, rfl, r0, r1, r2⟩ := h
  obtain ⟨A0, C0, _, _, rfl, -⟩ := r0.open_
  obtain ⟨A1, C1, _, _, rfl, -⟩ := r1.open_
  obtain ⟨A2, C2, rfl, I2⟩ := r2.ints
  have X0 := Blk.new w [.slice A0 t.tracked.length C0, .slice A1 t.patterns.length C1, .slice A2 t.distances.length C2] 29
  have c0 := X0.cell 0 rfl
  have c1 := X0.cell 1 rfl
  have c2 := X0.cell 2 rfl
  rcases hw : wfT t
  · have Hl := Lib.hid (show lookV t p = -1 by unfold lookV; rw [if_neg (by rw [hw]; simp)])
    go_enter Tryz.func11, Tryz.ntmps11
    go_wp2_with (first
      | (go_at_call 25; (with_reducible refine (specWfTable_any [.slice A0 t.tracked.length C0, .slice A1 t.patterns.length C1, .slice A2 t.distances.length C2] t _ _ (Rp.keep h0 (by with_reducible repeat (first | exact Only.refl _ _ | assumption | refine Only.drewN ?_ _ | refine Only.drew ?_ | refine Only.alloc ?_ _ | refine Only.setCell ?_ (by intro hh; exfalso; simp at hh; try omega) _ | refine Only.trans ?_ (by assumption))))).mono ?_); rintro e w1 ⟨he, t1⟩; rw [hw] at he; subst he)
      | fail "no arm")
    go_ret
    exact ⟨by rw [Hl.out] <;> rfl, (by with_reducible repeat (first | exact Only.refl _ _ | assumption | refine Only.drewN ?_ _ | refine Only.drew ?_ | refine Only.alloc ?_ _ | refine Only.setCell ?_ (by intro hh; exfalso; simp at hh; try omega) _ | refine Only.trans ?_ (by assumption)))⟩
  · obtain ⟨k, hk⟩ : ∃ k, k = idxL t.patterns p := ⟨_, rfl⟩
    have hlt := idxL_lt (l := t.patterns) (p := p)
    have hdl := (wfT_iff.1 hw).2.2.1
    rw [← hk] at hlt
    by_cases hk0 : k < 0
    · have Hl := Lib.hid (show lookV t p = -1 by unfold lookV; rw [if_pos hw, ← hk, if_pos hk0])
      have Hk := Lib.hid hk
      clear hk hdl
      go_enter Tryz.func11, Tryz.ntmps11
      go_wp2_with (first
        | (go_at_call 25; (with_reducible refine (specWfTable_any [.slice A0 t.tracked.length C0, .slice A1 t.patterns.length C1, .slice A2 t.distances.length C2] t _ _ (Rp.keep h0 (by with_reducible repeat (first | exact Only.refl _ _ | assumption | refine Only.drewN ?_ _ | refine Only.drew ?_ | refine Only.alloc ?_ _ | refine Only.setCell ?_ (by intro hh; exfalso; simp at hh; try omega) _ | refine Only.trans ?_ (by assumption))))).mono ?_); rintro e w1 ⟨he, t1⟩; rw [hw] at he; subst he; have X1 := X0.keep t1; have c01 := X1.cell 0 rfl; have c11 := X1.cell 1 rfl; have c21 := X1.cell 2 rfl)
        | (go_at_call 26; (with_reducible refine (tableEntry_any [.slice A0 t.tracked.length C0, .slice A1 t.patterns.length C1, .slice A2 t.distances.length C2] t _ v p _ _ (Rp.keep h0 (by with_reducible repeat (first | exact Only.refl _ _ | assumption | refine Only.drewN ?_ _ | refine Only.drew ?_ | refine Only.alloc ?_ _ | refine Only.setCell ?_ (by intro hh; exfalso; simp at hh; try omega) _ | refine Only.trans ?_ (by assumption)))) (Rp.keep h2 (by with_reducible repeat (first | exact Only.refl _ _ | assumption | refine Only.drewN ?_ _ | refine Only.drew ?_ | refine Only.alloc ?_ _ | refine Only.setCell ?_ (by intro hh; exfalso; simp at hh; try omega) _ | refine Only.trans ?_ (by assumption))))).mono ?_); rintro e w2 ⟨he, t2⟩; rw [← Hk.out] at he; subst he)
        | fail "no arm")
      go_ret
      exact ⟨by rw [Hl.out] <;> rfl, (by with_reducible repeat (first | exact Only.refl _ _ | assumption | refine Only.drewN ?_ _ | refine Only.drew ?_ | refine Only.alloc ?_ _ | refine Only.setCell ?_ (by intro hh; exfalso; simp at hh; try omega) _ | refine Only.trans ?_ (by assumption)))⟩
    · obtain ⟨i, rfl⟩ := Int.eq_ofNat_of_zero_le (show 0 ≤ k by omega)
      have Hl := Lib.hid (lookV_at hw hk.symm)
      have Hk := Lib.hid hk
      have hil : i < t.distances.length := by omega
      obtain ⟨b, off, rfl, -, hc⟩ := I2.at_ i hil
      have Hd := Lib.hid (show atD t i = t.distances[i] from atD_of rfl hil)
      have hi0 : (0 : Int) ≤ (i : Int) := by omega
      have hi1 : (i : Int) < (t.distances.length : Int) := by omega
      have hcap := I2.len
      clear hk hdl hlt hk0 I2
      go_enter Tryz.func11, Tryz.ntmps11
      go_wp2_with (first
        | (go_at_call 25; (with_reducible refine (specWfTable_any [.slice A0 t.tracked.length C0, .slice A1 t.patterns.length C1, .slice (some ⟨b, off, none⟩) t.distances.length C2] t _ _ (Rp.keep h0 (by with_reducible repeat (first | exact Only.refl _ _ | assumption | refine Only.drewN ?_ _ | refine Only.drew ?_ | refine Only.alloc ?_ _ | refine Only.setCell ?_ (by intro hh; exfalso; simp at hh; try omega) _ | refine Only.trans ?_ (by assumption))))).mono ?_); rintro e w1 ⟨he, t1⟩; rw [hw] at he; subst he; have X1 := X0.keep t1; have c01 := X1.cell 0 rfl; have c11 := X1.cell 1 rfl; have c21 := X1.cell 2 rfl)
        | (go_at_call 26; (with_reducible refine (tableEntry_any [.slice A0 t.tracked.length C0, .slice A1 t.patterns.length C1, .slice (some ⟨b, off, none⟩) t.distances.length C2] t _ v p _ _ (Rp.keep h0 (by with_reducible repeat (first | exact Only.refl _ _ | assumption | refine Only.drewN ?_ _ | refine Only.drew ?_ | refine Only.alloc ?_ _ | refine Only.setCell ?_ (by intro hh; exfalso; simp at hh; try omega) _ | refine Only.trans ?_ (by assumption)))) (Rp.keep h2 (by with_reducible repeat (first | exact Only.refl _ _ | assumption | refine Only.drewN ?_ _ | refine Only.drew ?_ | refine Only.alloc ?_ _ | refine Only.setCell ?_ (by intro hh; exfalso; simp at hh; try omega) _ | refine Only.trans ?_ (by assumption))))).mono ?_); rintro e w2 ⟨he, t2⟩; rw [← Hk.out] at he; subst he; have X2 := X1.keep t2; have c22 := X2.cell 2 rfl; have k2 : Only [] w w2 := (by with_reducible repeat (first | exact Only.refl _ _ | assumption | refine Only.drewN ?_ _ | refine Only.drew ?_ | refine Only.alloc ?_ _ | refine Only.setCell ?_ (by intro hh; exfalso; simp at hh; try omega) _ | refine Only.trans ?_ (by assumption))); have hc2 := k2.cell (by simp) hc)
        | fail "no arm")
      go_ret
      exact ⟨by rw [Hl.out, Hd.out] <;> rfl, (by with_reducible repeat (first | exact Only.refl _ _ | assumption | refine Only.drewN ?_ _ | refine Only.drew ?_ | refine Only.alloc ?_ _ | refine Only.setCell ?_ (by intro hh; exfalso; simp at hh; try omega) _ | refine Only.trans ?_ (by assumption)))⟩
set_option maxHeartbeats 2000000 in
theorem specPatternOf_yes (cs : List Value) (x : Puzzle) (fp : List Nat) (u v : Value) (tr s : List Int) (f1 f2 : List Nat) (w : World) (h : Rp.rep w cs x fp) (hu : Rd w u tr f1) (hv : Rd w v s f2) (ht : (validPz x && trackB x.points tr) = true) (hs : stateB x s = true) :
    Calls Tryz.prog 12 #[.agg cs.toArray, u, v] w fun e w' => ∃ r f, e = .returned r ∧ Rd w' r (PM.comp tr s) f ∧ Fresh w.heap.size w' f ∧ Only [] w w' := by
  have h0 := h
  obtain ⟨v2, rfl, p0, p1, h2⟩ := h
  have X0 := Blk.new w [.int .i64 x.points, .string x.names, v2] 26
  have c0 := X0.cell 0 rfl
  have c1 := X0.cell 1 rfl
  have c2 := X0.cell 2 rfl
  have ht' := ht
  rw [Bool.and_eq_true] at ht'
  have htr := trackB_iff.1 ht'.2
  obtain ⟨hvp, -, -, hp⟩ := stateB_pn hs
  have hrng : ∀ z ∈ tr, 0 ≤ z ∧ z < s.length := fun z hz => by have := htr.2.1 z hz; rw [hp.1]; omega
  have htl : tr.length ≤ 1000 := by have := htr.2.len; have := (validPz_facts ht'.1).2.1; omega
  clear htr hvp hp ht'
  go_enter Tryz.func12, Tryz.ntmps12
  go_wp2_with (first
    | (go_at_call 27; (with_reducible refine (specIsTrackedSet_any [.int .i64 x.points, .string x.names, v2] x _ u tr _ _ (Rp.keep h0 (by with_reducible repeat (first | exact Only.refl _ _ | assumption | refine Only.drewN ?_ _ | refine Only.drew ?_ | refine Only.alloc ?_ _ | refine Only.setCell ?_ (by intro hh; exfalso; simp at hh; try omega) _ | refine Only.trans ?_ (by assumption)))) (Rp.keep hu (by with_reducible repeat (first | exact Only.refl _ _ | assumption | refine Only.drewN ?_ _ | refine Only.drew ?_ | refine Only.alloc ?_ _ | refine Only.setCell ?_ (by intro hh; exfalso; simp at hh; try omega) _ | refine Only.trans ?_ (by assumption))))).mono ?_); rintro e w1 ⟨he, t1⟩; rw [ht] at he; subst he; have X1 := X0.keep t1; have c01 := X1.cell 0 rfl; have c11 := X1.cell 1 rfl; have c21 := X1.cell 2 rfl)
    | (go_at_call 28; (with_reducible refine (specIsState_any [.int .i64 x.points, .string x.names, v2] x _ v s _ _ (Rp.keep h0 (by with_reducible repeat (first | exact Only.refl _ _ | assumption | refine Only.drewN ?_ _ | refine Only.drew ?_ | refine Only.alloc ?_ _ | refine Only.setCell ?_ (by intro hh; exfalso; simp at hh; try omega) _ | refine Only.trans ?_ (by assumption)))) (Rp.keep hv (by with_reducible repeat (first | exact Only.refl _ _ | assumption | refine Only.drewN ?_ _ | refine Only.drew ?_ | refine Only.alloc ?_ _ | refine Only.setCell ?_ (by intro hh; exfalso; simp at hh; try omega) _ | refine Only.trans ?_ (by assumption))))).mono ?_); rintro e w2 ⟨he, t2⟩; rw [hs] at he; subst he)
    | (go_at_call 29; (with_reducible refine (projectState_any u v tr s _ _ _ (Rp.keep hu (by with_reducible repeat (first | exact Only.refl _ _ | assumption | refine Only.drewN ?_ _ | refine Only.drew ?_ | refine Only.alloc ?_ _ | refine Only.setCell ?_ (by intro hh; exfalso; simp at hh; try omega) _ | refine Only.trans ?_ (by assumption)))) (Rp.keep hv (by with_reducible repeat (first | exact Only.refl _ _ | assumption | refine Only.drewN ?_ _ | refine Only.drew ?_ | refine Only.alloc ?_ _ | refine Only.setCell ?_ (by intro hh; exfalso; simp at hh; try omega) _ | refine Only.trans ?_ (by assumption)))) hrng htl).mono ?_); rintro e w3 ⟨r, f, rfl, rr, F, t3⟩)
    | fail "no arm")
  have k2 : Only [] w w2 := (by with_reducible repeat (first | exact Only.refl _ _ | assumption | refine Only.drewN ?_ _ | refine Only.drew ?_ | refine Only.alloc ?_ _ | refine Only.setCell ?_ (by intro hh; exfalso; simp at hh; try omega) _ | refine Only.trans ?_ (by assumption)))
  go_ret
  exact ⟨r, f, rfl, rr, F.mono k2.size, k2.trans t3⟩
end Go.Proofs.YtpkplmnpepkdaaaGreat

namespace Go.Proofs.YtpkplmnpepkdaaaGreat
open Go.RowKit
set_option maxRecDepth 10000

/-- a table whose patterns and distances can be written over and appended to; patterns may share their rows -/
structure TW (B : Nat) (w : World) (v1 v2 v3 : Value) (t : Table) (f1 : List Nat) (fs : List (List Nat)) : Prop where
  tk : Rd w v1 t.tracked f1
  pt : Acc B 27 w v2 t.patterns fs
  dt : AccI B 2 w v3 t.distances
  ge : ∀ b ∈ f1 ++ fs.flatten, B ≤ b
  s2 : ∀ b ∈ v2.ownBlock.toList, b ∉ f1 ∧ b ∉ v3.ownBlock.toList
  s3 : ∀ b ∈ v3.ownBlock.toList, b ∉ f1 ∧ b ∉ fs.flatten
section
variable {B B' : Nat} {w w' : World} {v1 v2 v3 : Value} {t : Table} {f1 : List Nat} {fs : List (List Nat)}
theorem TB.tw (h : TB B w v1 v2 v3 t fs) : TW B w v1 v2 v3 t v1.ownBlock.toList fs := by
  obtain ⟨s1, s3⟩ := h.sep
  refine ⟨h.tk.rd, h.pt, h.dt, fun b hb => ?_, fun b hb => ⟨fun hm => (s1 b hm).1 hb, fun hm => (s3 b hm).1 hb⟩, fun b hb => ⟨(s3 b hb).2.2, (s3 b hb).2.1⟩⟩
  rcases List.mem_append.1 hb with hb | hb
  · exact h.fr.ge b (List.mem_append_left _ hb)
  · exact h.fr.ge b (List.mem_append_right _ (List.mem_append_left _ (List.mem_append_right _ hb)))
/-- all of a table's memory -/
def TWf (v2 v3 : Value) (f1 : List Nat) (fs : List (List Nat)) : List Nat := (f1 ++ fs.flatten) ++ (v2.ownBlock.toList ++ v3.ownBlock.toList)
theorem TW.only (h : TW B w v1 v2 v3 t f1 fs) {fp : List Nat} (ho : Only fp w w') (hd : ∀ b ∈ TWf v2 v3 f1 fs, b ∉ fp) : TW B w' v1 v2 v3 t f1 fs :=
  ⟨Rp.only h.tk ho fun b hb => hd b (List.mem_append_left _ (List.mem_append_left _ hb)),
   h.pt.only ho (fun b hb => hd b (List.mem_append_left _ (List.mem_append_right _ hb))) (fun b hb => hd b (List.mem_append_right _ (List.mem_append_left _ (by simp [hb])))),
   h.dt.only ho (fun b hb => hd b (List.mem_append_right _ (List.mem_append_right _ (by simp [hb])))), h.ge, h.s2, h.s3⟩
theorem TW.keep (h : TW B w v1 v2 v3 t f1 fs) (ho : Only [] w w') : TW B w' v1 v2 v3 t f1 fs := h.only ho (by simp)
theorem TW.geF (h : TW B w v1 v2 v3 t f1 fs) : ∀ b ∈ TWf v2 v3 f1 fs, B ≤ b ∧ b < w.heap.size := fun b hb => by
  rcases List.mem_append.1 hb with hb | hb
  · refine ⟨h.ge b hb, ?_⟩
    rcases List.mem_append.1 hb with hb | hb
    · exact Rp.lt h.tk b hb
    · exact h.pt.lt b hb
  · rcases List.mem_append.1 hb with hb | hb
    · exact h.pt.ownlt b (by simpa using hb)
    · exact h.dt.ownlt b (by simpa using hb)
theorem TW.jt (h : TW B w v1 v2 v3 t f1 fs) (hm : midT t) (hB : B' ≤ B) : JT B' w v1 v2 v3 := by
  refine ⟨t, _, ⟨_, _, _, _, _, _, rfl, rfl, h.tk, h.pt.rd (by decide), h.dt.rd⟩, fun b hb => ?_, hm⟩
  have : b ∈ TWf v2 v3 f1 fs := by
    rcases List.mem_append.1 hb with hb | hb
    · exact List.mem_append_left _ (List.mem_append_left _ hb)
    · rcases List.mem_append.1 hb with hb | hb
      · rcases List.mem_append.1 hb with hb | hb
        · exact List.mem_append_right _ (List.mem_append_left _ hb)
        · exact List.mem_append_left _ (List.mem_append_right _ hb)
      · exact List.mem_append_right _ (List.mem_append_right _ hb)
  have := (h.geF b this).1
  omega
/-- a distance is written over -/
theorem TW.putD (h : TW B w v1 v2 v3 t f1 fs) {i : Nat} (hi : i < t.distances.length) {x : Int} (hx : I64 x) :
    ∃ g c, v3 = .slice (some ⟨g, 0, none⟩) t.distances.length c ∧ w.cell? ⟨g, i, none⟩ = some (.int .i64 t.distances[i]) ∧ w.frozen? ⟨g, i, none⟩ = false ∧ B ≤ g ∧ g < w.heap.size ∧ Only [g] w (w.setCell ⟨g, i, none⟩ (.int .i64 x)) ∧
      TW B (w.setCell ⟨g, i, none⟩ (.int .i64 x)) v1 v2 v3 ⟨t.tracked, t.patterns, t.distances.set i x⟩ f1 fs := by
  obtain ⟨g, c, rfl, a1, a2, a3, a4⟩ := h.dt.put hi hx
  have kq : Only [g] w (w.setCell ⟨g, i, none⟩ (.int .i64 x)) := (Only.refl _ _).setCell (by simp) _
  have hg : g ∈ (Value.slice (some ⟨g, 0, none⟩) t.distances.length c).ownBlock.toList := by simp [Value.ownBlock]
  obtain ⟨b1, b2⟩ := h.s3 g hg
  refine ⟨g, c, rfl, a1, a2, a3, (h.dt.ownlt g rfl).2, kq, Rp.only h.tk kq (fun b hb hm => ?_), h.pt.only kq (fun b hb hm => ?_) (fun b hb hm => ?_), a4, h.ge, h.s2, h.s3⟩
  · have e : b = g := by simpa using hm
    rw [e] at hb; exact b1 hb
  · have e : b = g := by simpa using hm
    rw [e] at hb; exact b2 hb
  · have e : b = g := by simpa using hm
    rw [e] at hb; exact (h.s2 g (by simp [hb])).2 hg
/-- a pattern is written over -/
theorem TW.putP (h : TW B w v1 v2 v3 t f1 fs) {k g c : Nat} (hk : k < t.patterns.length) (hv : v2 = .slice (some ⟨g, 0, none⟩) t.patterns.length c) {u : Value} {y : List Int} {f : List Nat} (hy : Rd w u y f) (hgf : g ∉ f) (hfB : ∀ b ∈ f, B ≤ b ∧ b ∉ v3.ownBlock.toList) :
    Only [g] w (w.setCell ⟨g, k, none⟩ u) ∧ TW B (w.setCell ⟨g, k, none⟩ u) v1 v2 v3 ⟨t.tracked, t.patterns.set k y, t.distances⟩ f1 (fs.set k f) := by
  obtain ⟨a1, kq⟩ := h.pt.putRow hk hv hy hgf
  have hg : g ∈ v2.ownBlock.toList := by rw [hv]; simp [Value.ownBlock]
  obtain ⟨b1, b2⟩ := h.s2 g hg
  refine ⟨kq, Rp.only h.tk kq (fun b hb hm => ?_), a1, h.dt.only kq (fun b hb hm => ?_), fun b hb => ?_, h.s2, fun b hb => ⟨(h.s3 b hb).1, fun hm => ?_⟩⟩
  · have e : b = g := by simpa using hm
    rw [e] at hb; exact b1 hb
  · have e : b = g := by simpa using hm
    rw [e] at hb; exact b2 (by simp [hb])
  · rcases List.mem_append.1 hb with hb | hb
    · exact h.ge b (List.mem_append_left _ hb)
    · rcases mem_flat_set hb with hb | hb
      · exact (hfB b hb).1
      · exact h.ge b (List.mem_append_right _ hb)
  · rcases mem_flat_set hm with hm | hm
    · exact (hfB b hm).2 hb
    · exact (h.s3 b hb).2 hm
/-- a pattern's cell -/
theorem TW.cellP (h : TW B w v1 v2 v3 t f1 fs) {k : Nat} (hk : k < t.patterns.length) : ∃ (g c : Nat) (u : Value) (f : List Nat), v2 = .slice (some ⟨g, 0, none⟩) t.patterns.length c ∧ w.cell? ⟨g, k, none⟩ = some u ∧ w.frozen? ⟨g, k, none⟩ = false ∧ Rd w u t.patterns[k] f ∧ g ∉ f ∧ (∀ b ∈ f, B ≤ b ∧ b ∉ v3.ownBlock.toList) ∧ B ≤ g ∧ g < w.heap.size ∧ ∀ b ∈ f, b ∈ fs.flatten := by
  obtain ⟨g, c, u, f, rfl, a1, a2, a3, a4, a5, a6⟩ := h.pt.cellRow hk
  have hf : ∀ b ∈ f, b ∈ fs.flatten := fun b hb => List.mem_flatten.2 ⟨f, List.mem_of_getElem? a4, hb⟩
  exact ⟨g, c, u, f, rfl, a1, a2, a3, fun hm => h.pt.apart g rfl (hf g hm), fun b hb => ⟨h.ge b (List.mem_append_right _ (hf b hb)), fun hm => (h.s3 b hm).2 (hf b hb)⟩, a5, a6, hf⟩
end
end Go.Proofs.YtpkplmnpepkdaaaGreat

namespace Go.Proofs.YtpkplmnpepkdaaaGreat
open Go.RowKit
set_option maxRecDepth 10000

theorem SeqA.takeF {α : Type} [Rp α] {w : World} {a : Option Addr} {cap : Nat} {xs : List α} {ob : List Nat} {fps : List (List Nat)} (h : SeqA w a cap xs ob fps) (n : Nat) : SeqA w a cap (xs.take n) ob (fps.take n) := by
  refine ⟨Nat.le_trans (by simp; omega) h.len, h.cap, by simp [h.nf], fun k hk => ?_, h.lt, h.one⟩
  have hk' : k < xs.length := by simp at hk; omega
  obtain ⟨b, off, cs, h1, h2, h3, h4⟩ := h.at_ k hk'
  exact ⟨b, off, cs, h1, h2, h3, by simpa using h4⟩
/-- the first n elements -/
theorem take_rd {α : Type} [Rp α] {w : World} {a : Option Addr} {cap len : Nat} {xs : List α} {fp : List Nat} (h : Rd w (.slice a len cap) xs fp) (n : Nat) (hn : n ≤ xs.length) : ∃ fp', Rd w (.slice a n cap) (xs.take n) fp' ∧ (∀ b ∈ fp', b ∈ fp) ∧ (fp.Nodup → fp'.Nodup) := by
  obtain ⟨a', cap', ob, fps, hv, hfp, hs⟩ := h.open_
  injection hv with h1 h2 h3
  subst h1; subst h3
  have h4 := (hs.takeF n).rd
  rw [List.length_take, Nat.min_eq_left hn] at h4
  refine ⟨_, h4, fun b hb => ?_, fun hnd => ?_⟩
  · rw [hfp]
    rcases List.mem_append.1 hb with hb | hb
    · exact List.mem_append_left _ hb
    · obtain ⟨f, hf, hb⟩ := List.mem_flatten.1 hb
      exact List.mem_append_right _ (List.mem_flatten.2 ⟨f, List.mem_of_mem_take hf, hb⟩)
  · rw [hfp] at hnd
    obtain ⟨n1, n2, n3⟩ := List.nodup_append.1 hnd
    have hsub : (fps.take n).flatten.Sublist fps.flatten := by
      have : fps = fps.take n ++ fps.drop n := (List.take_append_drop n fps).symm
      rw [show fps.flatten = (fps.take n).flatten ++ (fps.drop n).flatten by rw [← List.flatten_append, ← this]]
      exact List.sublist_append_left _ _
    exact List.nodup_append.2 ⟨n1, List.Nodup.sublist hsub n2, fun x hx y hy => n3 x hx y (hsub.subset hy)⟩
end Go.Proofs.YtpkplmnpepkdaaaGreat
