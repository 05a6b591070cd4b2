/- The reference's search of a goal's patterns, and their depths (laws 41, 51, 57, 58). The word of a stage, by the reference (laws 41, 51, 57, 58). A method by the reference: its check (laws 41, 51, 57, 58). The certificate of a method's words, by the program (laws 41, 51, 57, 58). (Printed by mkmthcert.py.) The words of a method by the reference (laws 41, 51, 57, 58). The certificate of a method's words, by the reference (laws 41, 51, 57, 58). (Printed by mkmthu.py.) The certificate of the words of both phases, by the reference (laws 46, 51, 57, 58). (Printed by mktwcerts.py.) -/
import Derived.Test.YtclhblofchfglaaGreatRowTwoPhaseCertifiedG13
import Derived.Test.YtclhblofchfglaaGreatRowTwoPhaseCertifiedG10
import Derived.Test.YtclhblofchfglaaGreatRowTwoPhaseCertifiedG18
import Derived.Test.YtclhblofchfglaaGreatRowTwoPhaseCertifiedG11
import Derived.Test.YtclhblofchfglaaGreatRowTwoPhaseCertifiedG19
import Derived.Deep.RegionHeld3
import Derived.Test.YtclhblofchfglaaGreatRowTwoPhaseCertifiedG20
import Derived.Deep.DeepCutAuto
import Derived.Test.YtclhblofchfglaaGreatRowTwoPhaseCertifiedG21
namespace Go.Proofs.YtclhblofchfglaaGreat
open Go.RowKit
set_option maxRecDepth 10000

/-- v is the search that found the entries of t, lists of length m; its memory lies from B on -/
def SrG (m B : Nat) (w : World) (t : Table) (v : Value) : Prop := ∃ A1 A2 A3 C1 C2 C3 so ob fps fd fz, v = .agg #[.slice A1 t.patterns.length C1, .slice A2 t.distances.length C2, .slice A3 (List.length so) C3, .bool true] ∧ SrR w A1 A2 A3 C1 C2 C3 t.patterns t.distances so ob fps fd fz ∧ Srt m t.patterns so ∧ ∀ g ∈ (ob ++ fps.flatten) ++ (fd ++ fz), B ≤ g
theorem SrG.only {m B : Nat} {w w' : World} {t : Table} {v : Value} {fp : List Nat} (h : SrG m B w t v) (ho : Only fp w w') (hd : ∀ g ∈ fp, g < B) : SrG m B w' t v := by
  obtain ⟨A1, A2, A3, C1, C2, C3, so, ob, fps, fd, fz, h1, h2, h3, h4⟩ := h
  exact ⟨A1, A2, A3, C1, C2, C3, so, ob, fps, fd, fz, h1, h2.only ho (fun g hg hm => by have := h4 g hg; have := hd g hm; omega), h3, h4⟩
theorem SrG.keep {m B : Nat} {w w' : World} {t : Table} {v : Value} (h : SrG m B w t v) (ho : Only [] w w') : SrG m B w' t v := h.only ho (by simp)
theorem SrG.mono {m B B' : Nat} {w : World} {t : Table} {v : Value} (h : SrG m B w t v) (hB : B' ≤ B) : SrG m B' w t v := by
  obtain ⟨A1, A2, A3, C1, C2, C3, so, ob, fps, fd, fz, h1, h2, h3, h4⟩ := h
  exact ⟨A1, A2, A3, C1, C2, C3, so, ob, fps, fd, fz, h1, h2, h3, fun g hg => Nat.le_trans hB (h4 g hg)⟩
end Go.Proofs.YtclhblofchfglaaGreat

namespace Go.Proofs.YtclhblofchfglaaGreat
open Go.RowKit
set_option maxRecDepth 10000
end Go.Proofs.YtclhblofchfglaaGreat

namespace Go.Proofs.YtclhblofchfglaaGreat
open Go.RowKit
set_option maxRecDepth 10000
end Go.Proofs.YtclhblofchfglaaGreat

namespace Go.Proofs.YtclhblofchfglaaGreat
open Go.RowKit
set_option maxRecDepth 10000

theorem flat_le {k : Nat} : ∀ {ws : List (List Int)}, (∀ w ∈ ws, w.length ≤ k) → ws.flatten.length ≤ k * ws.length
  | [], _ => by simp
  | w :: ws, h => by
    have h1 := h w (by simp)
    have h2 := flat_le (ws := ws) fun q hq => h q (by simp [hq])
    rw [List.flatten_cons, List.length_append, List.length_cons, Nat.mul_succ]
    omega
end Go.Proofs.YtclhblofchfglaaGreat

namespace Go.Proofs.YtclhblofchfglaaGreat
open Go.RowKit
set_option maxRecDepth 10000
end Go.Proofs.YtclhblofchfglaaGreat

namespace Go.Proofs.YtclhblofchfglaaGreat
open Go.RowKit
set_option maxRecDepth 10000

/-- valid words one behind the other, if they are short enough -/
def catW (ws : List (List Int)) : Option (List Int) := if ws.all (validW 8) = true then shortW ws.flatten else none
theorem valid_flat {ws : List (List Int)} (h : ws.all (validW 8) = true) : ws.flatten.length ≤ 200 * ws.length := flat_le fun w hw => validW_len (List.all_eq_true.1 h w hw)
theorem valid8 {m : Nat} (hm : m ≤ 8) {w : List Int} (h1 : w.length ≤ 200) (h2 : ∀ l ∈ w, l ∈ ltrs m) : validW 8 w = true :=
  validW_yes h1 fun l hl => okLetter_iff.2 (by have := mem_ltrs.1 (h2 l hl); omega)
theorem made_ints (w : World) (e : TypeId) {g : Nat} (hg : g = w.heap.size) : Rd (w.alloc (.cells #[] e)) (.slice (some ⟨g, 0, none⟩) 0 0) ([] : List Int) [g] ∧ Fresh w.heap.size (w.alloc (.cells #[] e)) [g] := by
  subst hg
  have hA := AccI.made w w.heap.size e rfl (Nat.le_refl _)
  exact ⟨by simpa [Value.ownBlock] using hA.rd, by simpa [Value.ownBlock] using hA.fresh⟩
set_option maxHeartbeats 4000000 in
theorem concatWords_any (v : Value) (ws : List (List Int)) (fw : List Nat) (w : World) (h : Rd w v ws fw) (hl : ws.length ≤ 1000) :
    Calls Tryz.prog 32 #[v] w fun e w' => ∃ u fu, e = .returned (.tuple #[u, .bool (catW ws).isSome]) ∧ Rd w' u ((catW ws).getD []) fu ∧ Fresh w.heap.size w' fu ∧ Only [] w w' := by
  obtain ⟨i0, hi, hz0, hz1, hz2⟩ := info_parts Tryz.info2
  obtain ⟨a, cap, ob, fps, rfl, -, S⟩ := h.open_
  have hb := S.bound
  go_enter Tryz.func32, Tryz.ntmps32
  go_wp2
  go_loopw [4, 5] (fun o i wr => ∃ j : Nat, j ≤ ws.length ∧ i = .int .i64 j ∧ (ws.take j).all (validW 8) = true ∧ AccI w.heap.size 2 wr o (ws.take j).flatten ∧ Only [] w wr)
    (fun _ i _ => ws.length - (intOf i).toNat)
  case atStart => exact ⟨0, Nat.zero_le _, rfl, rfl, AccI.made w w.heap.size 2 rfl (Nat.le_refl _), (Only.refl _ _).alloc _⟩
  case round =>
    obtain ⟨W2, hnew⟩ : ∃ W, W = wr := ⟨_, rfl⟩
    subst hnew
    obtain ⟨j, hj, rfl, hv, hA, hK⟩ := hrel
    have HA := Lib.hid hA
    have Hv := Lib.hid hv
    by_cases hlt : j < ws.length
    · obtain ⟨b, off, u, rfl, -, hc, hu⟩ := S.atRow j hlt
      have hu2 : Rd W2 u ws[j] _ := Rp.keep hu hK
      obtain ⟨a1, c1, rfl, I1⟩ := hu2.ints
      have hc2 := hK.cell (by simp) hc
      have e1 := flat_take ws j hlt
      obtain ⟨R, hR⟩ : ∃ R, R = ws[j] := ⟨_, rfl⟩
      rw [← hR] at hc2 I1 e1
      have hIw : ∀ W, Only [] W2 W → Calls Tryz.prog 62 #[.slice a1 R.length c1] W fun e w' => e = .returned (.bool (validW 8 R)) ∧ Only [] W w' := fun W hW => (specIsWord_rd _ R _ W (I1.keep hW).rd).mono fun e w' hh => ⟨hh.1, hh.2.only []⟩
      have HIw := Lib.hid hIw
      clear hIw
      rcases hval : validW 8 R
      · have Hn := Lib.hid (show catW ws = none by
          unfold catW
          rw [if_neg]
          intro hall
          have := List.all_eq_true.1 hall ws[j] (List.getElem_mem _)
          rw [← hR, hval] at this; cases this)
        have Hval := Lib.hid hval
        clear hv hA hc hu hu2 e1 hR hval I1
        go_wp2_with (first
          | (go_at_call 62; (with_reducible refine (HIw.out _ (Only.refl _ _)).mono ?_); rintro e w3 ⟨he, t3⟩; rw [Hval.out] at he; subst he)
          | fail "no arm")
        obtain ⟨hE, hF⟩ := made_ints w3 2 rfl
        exact bodyPost_ret (v := .tuple #[.slice (some ⟨w3.heap.size, 0, none⟩) 0 0, .bool false]) (by simp [results, Tryz.results32, go_sem]) rfl ⟨_, [w3.heap.size], by rw [Hn.out]; rfl, by rw [Hn.out]; exact hE, hF.mono (hK.trans t3).size, (hK.trans t3).alloc _⟩
      · have hv1 : (ws.take (j + 1)).all (validW 8) = true := by
          rw [take_succ_get ws j hlt, List.all_append, hv, ← hR]; simp [hval]
        have hsum := valid_flat hv1
        rw [e1, List.length_append, List.length_take] at hsum
        have Hv1 := Lib.hid hv1
        have Hval := Lib.hid hval
        have E1 := Lib.hid e1
        have hsum2 : (ws.take j).flatten.length + R.length ≤ 1000000 := by omega
        clear hv hA hc hu hu2 e1 hR hval hv1 hsum
        go_upto_region 7 with (first
          | (go_at_call 62; (with_reducible refine (HIw.out _ (Only.refl _ _)).mono ?_); rintro e w3 ⟨he, t3⟩; rw [Hval.out] at he; subst he)
          | fail "no arm")
        obtain ⟨hO, hI⟩ := (HA.out.keep t3).row
        have I3 := I1.keep t3
        obtain ⟨q1, q2⟩ := ints_src I3
        have hK3 := hK.trans t3
        have hsz := hK3.size
        have hc3 := t3.cell (by simp) hc2
        obtain ⟨D, hD⟩ : ∃ D, D = (ws.take j).flatten := ⟨_, rfl⟩
        rw [← hD] at hO hI hsum2 E1
        have HO := Lib.hid hO
        have HIR := Lib.hid (show ∀ y ∈ D ++ R, I64 y from fun y hy => by
          rcases List.mem_append.1 hy with hy | hy
          · exact hI y hy
          · exact I3.wf y hy)
        clear hO hI hD HA hc2
        go_wp2_with (at_builtin; refine wpList_app _ rfl _ _ 25 rfl w.heap.size 2 i0 _ 1 8 Tryz.underlying25 hi hz0 hz1 hz2 rfl (by omega) u4 D.length (D.map (Value.int .i64)) rfl HO.out a1 R.length c1 (R.map (Value.int .i64)) rfl (by simp) q1 q2 (ints_one R) (by unfold maxLen; omega) (by omega) hsz ?_; intro v5 w5 hO5 hg5 hb5)
        have hK5 : Only [] w w5 := hK3.grown hg5 (fun k hk hlt => by
          have h8 := AccI.ofRow (l := D) HO.out (fun y hy => HIR.out y (List.mem_append_left _ hy))
          have := (h8.ownlt k hk).1
          omega)
        rw [← List.map_append, ← List.length_append] at hO5
        have hA5 := AccI.ofRow hO5 HIR.out
        go_roundw
        case rel => exact ⟨j + 1, by omega, by go_num, Hv1.out, by rw [E1.out]; exact hA5, hK5⟩
        case measure => simp [intOf]; omega
    · have hje : j = ws.length := by omega
      rw [hje, List.take_length] at hA hv
      have hsum := valid_flat hv
      have hcat : catW ws = shortW ws.flatten := if_pos hv
      obtain ⟨fl, hfl⟩ : ∃ fl, fl = ws.flatten := ⟨_, rfl⟩
      rw [← hfl] at hcat hA hsum
      have hjI : ¬ (j : Int) < (ws.length : Int) := by omega
      obtain ⟨a4, c4, hu4⟩ := hA.form
      have HA' := Lib.hid hA
      by_cases h200 : fl.length ≤ 200
      · rw [shortW_yes h200] at hcat
        have Hn := Lib.hid hcat
        have hlI : ¬ ((200 : Int) < (fl.length : Int)) := by omega
        clear hv hA hcat hfl HA Hv hje
        subst hu4
        go_wp2
        exact bodyPost_ret (v := .tuple #[.slice a4 fl.length c4, .bool true]) (by simp [results, Tryz.results32, go_sem]) rfl ⟨_, by rw [Hn.out]; rfl, (Value.slice a4 fl.length c4).ownBlock.toList, by rw [Hn.out]; exact HA'.out.rd, HA'.out.fresh, hK⟩
      · rw [shortW_no h200] at hcat
        have Hn := Lib.hid hcat
        have hlI : (200 : Int) < (fl.length : Int) := by omega
        clear hv hA hcat hfl HA Hv hje
        subst hu4
        go_wp2
        obtain ⟨hE, hF⟩ := made_ints W2 2 rfl
        exact bodyPost_ret (v := .tuple #[.slice (some ⟨W2.heap.size, 0, none⟩) 0 0, .bool false]) (by simp [results, Tryz.results32, go_sem]) rfl ⟨_, by rw [Hn.out]; rfl, [W2.heap.size], by rw [Hn.out]; exact hE, hF.mono hK.size, hK.alloc _⟩
end Go.Proofs.YtclhblofchfglaaGreat

namespace Go.Proofs.YtclhblofchfglaaGreat
open Go.RowKit
set_option maxRecDepth 10000

theorem twX_parts {x : Puzzle} {sub s : List Int} {p : List Int × List Int} (h : twX x sub s = some p) : ∃ t ts, expl x = some t ∧ expl (subP x sub) = some ts ∧ reachB x s = true ∧ trackB x.moves.length sub = true ∧ p = (twW1 x t ts s, twW2 x sub t ts s) := by
  unfold twX at h
  cases he : expl x with
  | none => rw [he] at h; cases h
  | some t =>
    cases h2 : expl (subP x sub) with
    | none => rw [he, h2] at h; cases h
    | some ts =>
      rw [he, h2] at h
      simp only at h
      split at h
      · rename_i hc
        rw [Bool.and_eq_true] at hc
        split at h
        · injection h with h
          exact ⟨t, ts, rfl, rfl, hc.1, hc.2, h.symm⟩
        · cases h
      · cases h
theorem twX_cat {x : Puzzle} {sub s : List Int} {W1 W2 : List Int} (h : twX x sub s = some (W1, W2)) : catW [W1, W2] = twC x sub s := by
  rw [twC_some h]
  obtain ⟨l1, l2⟩ := twX_len h
  obtain ⟨t, ts, he, h2, hr, ht, hp⟩ := twX_parts h
  injection hp with hp1 hp2
  obtain ⟨hb, -⟩ := expl_built he
  obtain ⟨i0, hi0, hp0⟩ := List.getElem_of_mem ((expl_reach he).2 hr)
  have e1 : t.patterns.getD i0 [] = s := by rw [getD_get hi0, hp0]
  obtain ⟨-, a, -, -, -, -, -, -, -, -, b, -⟩ := tw_facts he ht h2 hi0
  rw [e1] at a b
  have h8 : x.moves.length ≤ 8 := by have := validPz_facts hb.v; omega
  refine if_pos (List.all_eq_true.2 fun w hw => ?_)
  rcases List.mem_cons.1 hw with rfl | hw
  · exact valid8 h8 l1 (by rw [hp1]; exact a)
  · rcases List.mem_cons.1 hw with rfl | hw
    · exact valid8 h8 l2 (by
        rw [hp2]
        intro q hq
        obtain ⟨q', hq', rfl⟩ := List.mem_map.1 hq
        exact mapL_mem ht (b q' hq'))
    · cases hw
set_option maxHeartbeats 4000000 in
theorem specTwoPhaseCert_any (cs : List Value) (x : Puzzle) (fp : List Nat) (v : Value) (sub : List Int) (fg : List Nat) (u : Value) (s : List Int) (fs0 : List Nat) (w : World) (h : Rp.rep w cs x fp) (hg : Rd w v sub fg) (hs : Rd w u s fs0) :
    Calls Tryz.prog 23 #[.agg cs.toArray, v, u] w fun e w' => ∃ cs' fp', e = .returned (.tuple #[.agg (List.toArray cs'), .bool (twC x sub s).isSome]) ∧ Rp.rep w' cs' (wCert (twC x sub s)) fp' ∧ Fresh w.heap.size w' fp' ∧ Only [] w w' := by
  have h0 := h
  obtain ⟨v2, rfl, p0, p1, h2⟩ := h
  clear p0 p1 h2
  have Y0 : Blk ((w.alloc (.cells #[.int .i64 x.points, .string x.names, v2] 33)).alloc (.cells #[.int .i64 0, .slice none 0 0, .slice none 0 0, .slice none 0 0] 30)) (w.heap.size + 1) [.int .i64 0, .slice none 0 0, .slice none 0 0, .slice none 0 0] := Blk.new_at (by simp)
  have X0 : Blk ((w.alloc (.cells #[.int .i64 x.points, .string x.names, v2] 33)).alloc (.cells #[.int .i64 0, .slice none 0 0, .slice none 0 0, .slice none 0 0] 30)) w.heap.size [.int .i64 x.points, .string x.names, v2] := (Blk.new w [.int .i64 x.points, .string x.names, v2] 33).keep ((Only.refl _ _).alloc _)
  have x0 := X0.cell 0 rfl
  have x1 := X0.cell 1 rfl
  have x2 := X0.cell 2 rfl
  rcases hm : twX x sub s with _ | p
  · have Hn := Lib.hid (twC_none hm)
    have Hm := Lib.hid hm
    clear hm
    go_enter Tryz.func23, Tryz.ntmps23
    go_wp2_with (first
      | (go_at_call 40; (with_reducible refine (specSolveTwoPhase_any [.int .i64 x.points, .string x.names, v2] x _ _ sub _ _ s _ _ (Rp.keep h0 (by with_reducible repeat (first | exact Only.refl _ _ | assumption | refine Only.drewN ?_ _ | refine Only.drew ?_ | refine Only.alloc ?_ _ | refine Only.setCell ?_ (by intro hh; exfalso; simp at hh; try omega) _ | refine Only.trans ?_ (by assumption)))) (Rp.keep hg (by with_reducible repeat (first | exact Only.refl _ _ | assumption | refine Only.drewN ?_ _ | refine Only.drew ?_ | refine Only.alloc ?_ _ | refine Only.setCell ?_ (by intro hh; exfalso; simp at hh; try omega) _ | refine Only.trans ?_ (by assumption)))) (Rp.keep hs (by with_reducible repeat (first | exact Only.refl _ _ | assumption | refine Only.drewN ?_ _ | refine Only.drew ?_ | refine Only.alloc ?_ _ | refine Only.setCell ?_ (by intro hh; exfalso; simp at hh; try omega) _ | refine Only.trans ?_ (by assumption))))).mono ?_); rintro e w1 ⟨z1, z2, q1, q2, he, r1, r2, t1⟩; rw [Hm.out] at he r1 r2; subst he; simp only [Option.getD] at r1 r2; obtain ⟨a1, c1, rfl, i1⟩ := r1.ints; obtain ⟨a2, c2, rfl, i2⟩ := r2.ints; have Y1 := Y0.keep t1; have rz := two_rows r1 r2 25 rfl; simp only [List.length_nil] at rz; have ka : Only [] w1 (w1.alloc (.cells #[.slice a1 0 c1, .slice a2 0 c2] 25)) := (Only.refl _ _).alloc _)
      | (go_at_call 32; (with_reducible refine (concatWords_any _ [[], []] _ _ rz (by simp)).mono ?_); rintro e w2 ⟨u2, f2, rfl, -, -, t2⟩; have Y9 := (Y1.keep ka).keep t2; have g0 := Y9.cell 0 rfl; have g1 := Y9.cell 1 rfl; have g2 := Y9.cell 2 rfl; have g3 := Y9.cell 3 rfl; have p0 := Y9.frozen 0; have p1 := Y9.frozen 1; have p2 := Y9.frozen 2; have p3 := Y9.frozen 3)
      | fail "no arm")
    have K2 : Only [] w w2 := (by with_reducible repeat (first | exact Only.refl _ _ | assumption | refine Only.drewN ?_ _ | refine Only.drew ?_ | refine Only.alloc ?_ _ | refine Only.setCell ?_ (by intro hh; exfalso; simp at hh; try omega) _ | refine Only.trans ?_ (by assumption)))
    have Yf := (((Y9.set 0 (.int .i64 0)).set 1 (.slice none 0 0)).set 2 (.slice none 0 0)).set 3 (.slice none 0 0)
    have kf : Only [w.heap.size + 1] w2 ((((w2.setCell ⟨w.heap.size + 1, 0, none⟩ (.int .i64 0)).setCell ⟨w.heap.size + 1, 1, none⟩ (.slice none 0 0)).setCell ⟨w.heap.size + 1, 2, none⟩ (.slice none 0 0)).setCell ⟨w.heap.size + 1, 3, none⟩ (.slice none 0 0)) := ((((Only.refl _ _).setCell (by simp) _).setCell (by simp) _).setCell (by simp) _).setCell (by simp) _
    obtain ⟨wf, hwf⟩ : ∃ wf, wf = ((((w2.setCell ⟨w.heap.size + 1, 0, none⟩ (.int .i64 0)).setCell ⟨w.heap.size + 1, 1, none⟩ (.slice none 0 0)).setCell ⟨w.heap.size + 1, 2, none⟩ (.slice none 0 0)).setCell ⟨w.heap.size + 1, 3, none⟩ (.slice none 0 0)) := ⟨_, rfl⟩
    rw [← hwf] at Yf kf ⊢
    simp only [List.set] at Yf
    clear hwf g0 g1 g2 g3 p0 p1 p2 p3
    have z0 := Yf.cell 0 rfl
    have z1 := Yf.cell 1 rfl
    have z2 := Yf.cell 2 rfl
    have z3 := Yf.cell 3 rfl
    refine bodyPost_ret (v := .tuple #[.agg #[.int .i64 0, .slice none 0 0, .slice none 0 0, .slice none 0 0], .bool false]) (by simp [results, Tryz.results23, go_sem, z0, z1, z2, z3]) rfl ⟨[.int .i64 0, .slice none 0 0, .slice none 0 0, .slice none 0 0], [], by rw [Hn.out]; rfl, by rw [Hn.out]; exact noCert_rep _, Fresh.nil _ _, K2.then_ kf (by simp)⟩
  · obtain ⟨W1, W2⟩ := p
    have hcat := twX_cat hm
    have Hm := Lib.hid hm
    rcases hc : twC x sub s with _ | fl
    · rw [hc] at hcat
      have Hn := Lib.hid hc
      have Hc := Lib.hid hcat
      clear hm hc hcat
      go_enter Tryz.func23, Tryz.ntmps23
      go_wp2_with (first
        | (go_at_call 40; (with_reducible refine (specSolveTwoPhase_any [.int .i64 x.points, .string x.names, v2] x _ _ sub _ _ s _ _ (Rp.keep h0 (by with_reducible repeat (first | exact Only.refl _ _ | assumption | refine Only.drewN ?_ _ | refine Only.drew ?_ | refine Only.alloc ?_ _ | refine Only.setCell ?_ (by intro hh; exfalso; simp at hh; try omega) _ | refine Only.trans ?_ (by assumption)))) (Rp.keep hg (by with_reducible repeat (first | exact Only.refl _ _ | assumption | refine Only.drewN ?_ _ | refine Only.drew ?_ | refine Only.alloc ?_ _ | refine Only.setCell ?_ (by intro hh; exfalso; simp at hh; try omega) _ | refine Only.trans ?_ (by assumption)))) (Rp.keep hs (by with_reducible repeat (first | exact Only.refl _ _ | assumption | refine Only.drewN ?_ _ | refine Only.drew ?_ | refine Only.alloc ?_ _ | refine Only.setCell ?_ (by intro hh; exfalso; simp at hh; try omega) _ | refine Only.trans ?_ (by assumption))))).mono ?_); rintro e w1 ⟨z1, z2, q1, q2, he, r1, r2, t1⟩; rw [Hm.out] at he r1 r2; subst he; simp only [Option.getD] at r1 r2; obtain ⟨a1, c1, rfl, i1⟩ := r1.ints; obtain ⟨a2, c2, rfl, i2⟩ := r2.ints; have Y1 := Y0.keep t1; have rz := two_rows r1 r2 25 rfl; have ka : Only [] w1 (w1.alloc (.cells #[.slice a1 W1.length c1, .slice a2 W2.length c2] 25)) := (Only.refl _ _).alloc _)
        | (go_at_call 32; (with_reducible refine (concatWords_any _ [W1, W2] _ _ rz (by simp)).mono ?_); rintro e w2 ⟨u2, f2, he, -, -, t2⟩; rw [Hc.out] at he; subst he; have Y9 := (Y1.keep ka).keep t2; have g0 := Y9.cell 0 rfl; have g1 := Y9.cell 1 rfl; have g2 := Y9.cell 2 rfl; have g3 := Y9.cell 3 rfl; have p0 := Y9.frozen 0; have p1 := Y9.frozen 1; have p2 := Y9.frozen 2; have p3 := Y9.frozen 3)
        | fail "no arm")
      have K2 : Only [] w w2 := (by with_reducible repeat (first | exact Only.refl _ _ | assumption | refine Only.drewN ?_ _ | refine Only.drew ?_ | refine Only.alloc ?_ _ | refine Only.setCell ?_ (by intro hh; exfalso; simp at hh; try omega) _ | refine Only.trans ?_ (by assumption)))
      have Yf := (((Y9.set 0 (.int .i64 0)).set 1 (.slice none 0 0)).set 2 (.slice none 0 0)).set 3 (.slice none 0 0)
      have kf : Only [w.heap.size + 1] w2 ((((w2.setCell ⟨w.heap.size + 1, 0, none⟩ (.int .i64 0)).setCell ⟨w.heap.size + 1, 1, none⟩ (.slice none 0 0)).setCell ⟨w.heap.size + 1, 2, none⟩ (.slice none 0 0)).setCell ⟨w.heap.size + 1, 3, none⟩ (.slice none 0 0)) := ((((Only.refl _ _).setCell (by simp) _).setCell (by simp) _).setCell (by simp) _).setCell (by simp) _
      obtain ⟨wf, hwf⟩ : ∃ wf, wf = ((((w2.setCell ⟨w.heap.size + 1, 0, none⟩ (.int .i64 0)).setCell ⟨w.heap.size + 1, 1, none⟩ (.slice none 0 0)).setCell ⟨w.heap.size + 1, 2, none⟩ (.slice none 0 0)).setCell ⟨w.heap.size + 1, 3, none⟩ (.slice none 0 0)) := ⟨_, rfl⟩
      rw [← hwf] at Yf kf ⊢
      simp only [List.set] at Yf
      clear hwf g0 g1 g2 g3 p0 p1 p2 p3
      have z0 := Yf.cell 0 rfl
      have z1 := Yf.cell 1 rfl
      have z2 := Yf.cell 2 rfl
      have z3 := Yf.cell 3 rfl
      refine bodyPost_ret (v := .tuple #[.agg #[.int .i64 0, .slice none 0 0, .slice none 0 0, .slice none 0 0], .bool false]) (by simp [results, Tryz.results23, go_sem, z0, z1, z2, z3]) rfl ⟨[.int .i64 0, .slice none 0 0, .slice none 0 0, .slice none 0 0], [], rfl, noCert_rep _, Fresh.nil _ _, K2.then_ kf (by simp)⟩
    · rw [hc] at hcat
      have Hn := Lib.hid hc
      have Hc := Lib.hid hcat
      clear hm hc hcat
      go_enter Tryz.func23, Tryz.ntmps23
      go_wp2_with (first
        | (go_at_call 40; (with_reducible refine (specSolveTwoPhase_any [.int .i64 x.points, .string x.names, v2] x _ _ sub _ _ s _ _ (Rp.keep h0 (by with_reducible repeat (first | exact Only.refl _ _ | assumption | refine Only.drewN ?_ _ | refine Only.drew ?_ | refine Only.alloc ?_ _ | refine Only.setCell ?_ (by intro hh; exfalso; simp at hh; try omega) _ | refine Only.trans ?_ (by assumption)))) (Rp.keep hg (by with_reducible repeat (first | exact Only.refl _ _ | assumption | refine Only.drewN ?_ _ | refine Only.drew ?_ | refine Only.alloc ?_ _ | refine Only.setCell ?_ (by intro hh; exfalso; simp at hh; try omega) _ | refine Only.trans ?_ (by assumption)))) (Rp.keep hs (by with_reducible repeat (first | exact Only.refl _ _ | assumption | refine Only.drewN ?_ _ | refine Only.drew ?_ | refine Only.alloc ?_ _ | refine Only.setCell ?_ (by intro hh; exfalso; simp at hh; try omega) _ | refine Only.trans ?_ (by assumption))))).mono ?_); rintro e w1 ⟨z1, z2, q1, q2, he, r1, r2, t1⟩; rw [Hm.out] at he r1 r2; subst he; simp only [Option.getD] at r1 r2; obtain ⟨a1, c1, rfl, i1⟩ := r1.ints; obtain ⟨a2, c2, rfl, i2⟩ := r2.ints; have Y1 := Y0.keep t1; have rz := two_rows r1 r2 25 rfl; have ka : Only [] w1 (w1.alloc (.cells #[.slice a1 W1.length c1, .slice a2 W2.length c2] 25)) := (Only.refl _ _).alloc _)
        | (go_at_call 32; (with_reducible refine (concatWords_any _ [W1, W2] _ _ rz (by simp)).mono ?_); rintro e w2 ⟨u2, f2, he, r2', -, t2⟩; rw [Hc.out] at he r2'; subst he; simp only [Option.getD] at r2'; have Y2 := (Y1.keep ka).keep t2)
        | (go_at_call 33; (with_reducible refine (specSolCert_rd u2 fl _ _ r2').mono ?_); rintro e w4 ⟨cs4, f4, rfl, r4, F4, t4⟩; have rr := id r4; obtain ⟨v1, v2, v3, e1, e2, e3, rfl, -, i1, s1, s2, s3⟩ := r4; simp only [List.cons_append, List.nil_append] at rr; obtain ⟨b1, k1, _, _, rfl, -, -⟩ := s1.open_; obtain ⟨b2, k2, _, _, rfl, -, -⟩ := s2.open_; obtain ⟨b3, k3, _, _, rfl, -, -⟩ := s3.open_; have Y9 := Y2.keep t4; have g0 := Y9.cell 0 rfl; have g1 := Y9.cell 1 rfl; have g2 := Y9.cell 2 rfl; have g3 := Y9.cell 3 rfl; have p0 := Y9.frozen 0; have p1 := Y9.frozen 1; have p2 := Y9.frozen 2; have p3 := Y9.frozen 3)
        | fail "no arm")
      have K4 : Only [] w w4 := (by with_reducible repeat (first | exact Only.refl _ _ | assumption | refine Only.drewN ?_ _ | refine Only.drew ?_ | refine Only.alloc ?_ _ | refine Only.setCell ?_ (by intro hh; exfalso; simp at hh; try omega) _ | refine Only.trans ?_ (by assumption)))
      have hz1 := t1.size
      have hz2 := t2.size
      simp at hz1 hz2
      have hFg : ∀ g ∈ f4, g ∉ [w.heap.size + 1] := fun g hg hm => by have := F4.ge g hg; simp at hm; omega
      have Yf := (((Y9.set 0 (.int .i64 (solCert fl).kind)).set 1 (.slice b1 (solCert fl).numbers.length k1)).set 2 (.slice b2 (solCert fl).words.length k2)).set 3 (.slice b3 (solCert fl).tables.length k3)
      have kf : Only [w.heap.size + 1] w4 ((((w4.setCell ⟨w.heap.size + 1, 0, none⟩ (.int .i64 (solCert fl).kind)).setCell ⟨w.heap.size + 1, 1, none⟩ (.slice b1 (solCert fl).numbers.length k1)).setCell ⟨w.heap.size + 1, 2, none⟩ (.slice b2 (solCert fl).words.length k2)).setCell ⟨w.heap.size + 1, 3, none⟩ (.slice b3 (solCert fl).tables.length k3)) := ((((Only.refl _ _).setCell (by simp) _).setCell (by simp) _).setCell (by simp) _).setCell (by simp) _
      obtain ⟨wf, hwf⟩ : ∃ wf, wf = ((((w4.setCell ⟨w.heap.size + 1, 0, none⟩ (.int .i64 (solCert fl).kind)).setCell ⟨w.heap.size + 1, 1, none⟩ (.slice b1 (solCert fl).numbers.length k1)).setCell ⟨w.heap.size + 1, 2, none⟩ (.slice b2 (solCert fl).words.length k2)).setCell ⟨w.heap.size + 1, 3, none⟩ (.slice b3 (solCert fl).tables.length k3)) := ⟨_, rfl⟩
      rw [← hwf] at Yf kf ⊢
      simp only [List.set] at Yf
      clear hwf g0 g1 g2 g3 p0 p1 p2 p3
      have z0 := Yf.cell 0 rfl
      have z1 := Yf.cell 1 rfl
      have z2 := Yf.cell 2 rfl
      have z3 := Yf.cell 3 rfl
      refine bodyPost_ret (v := .tuple #[.agg #[.int .i64 (solCert fl).kind, .slice b1 (solCert fl).numbers.length k1, .slice b2 (solCert fl).words.length k2, .slice b3 (solCert fl).tables.length k3], .bool true]) (by simp [results, Tryz.results23, go_sem, z0, z1, z2, z3]) rfl ⟨[.int .i64 (solCert fl).kind, .slice b1 (solCert fl).numbers.length k1, .slice b2 (solCert fl).words.length k2, .slice b3 (solCert fl).tables.length k3], f4, rfl, Rp.only rr kf hFg, (F4.mono (by omega)).only kf hFg, K4.then_ kf (by simp)⟩
end Go.Proofs.YtclhblofchfglaaGreat
