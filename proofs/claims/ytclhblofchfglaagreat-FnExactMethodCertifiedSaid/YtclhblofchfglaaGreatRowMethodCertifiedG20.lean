/- The words of a method by the reference (laws 41, 51, 57, 58). The certificate of a method's words, by the reference (laws 41, 51, 57, 58). (Printed by mkmthu.py.) -/
import Derived.Test.YtclhblofchfglaaGreatRowMethodCertifiedG14
import Derived.Test.YtclhblofchfglaaGreatRowMethodCertifiedG19
namespace Go.Proofs.YtclhblofchfglaaGreat
open Go.RowKit
set_option maxRecDepth 10000

theorem mN_le {x : Puzzle} {t : Table} {goal : List Int} (he : expl x = some t) (ht : trackB x.points goal = true) {v : Nat} (hv : v < t.patterns.length) : mN x t goal (t.patterns.getD v []) ≤ 3000 := by
  obtain ⟨tg, htg⟩ := goal_tab he ht
  obtain ⟨hb, -⟩ := bTab_built htg
  obtain ⟨e0, he0, he1, -⟩ := goal_at he htg hv
  obtain ⟨sf1, -, -⟩ := stage_facts he ht hv
  have hE := goal_E he ht htg hv
  rw [he1, atD_nat] at hE
  have hdep := (hb.dep e0 he0).2.1
  have hll := hb.ll
  omega
set_option maxHeartbeats 4000000 in
theorem solveStages_any (cs : List Value) (x : Puzzle) (t : Table) (fp : List Nat) (v : Value) (goals : List (List Int)) (fg : List Nat) (u : Value) (fs0 : List Nat) (i0 : Nat) (w : World) (h : Rp.rep w cs x fp) (he : expl x = some t) (hg : Rd w v goals fg) (htr : ∀ g ∈ goals, trackB x.points g = true) (hl5 : goals.length ≤ 5) (hi0 : i0 < t.patterns.length) (hu : Rd w u (t.patterns.getD i0 []) fs0) :
    Calls Tryz.prog 60 #[.agg cs.toArray, v, u] w fun e w' => ∃ z fs, e = .returned z ∧ Acc w.heap.size 25 w' z (mthS x t goals (t.patterns.getD i0 [])) fs ∧ Fresh w.heap.size w' fs.flatten ∧ Only [] w w' := by
  have h0 := h
  obtain ⟨v2, rfl, p0, p1, h2⟩ := h
  clear p0 p1 h2
  obtain ⟨a, cap, ob, fps, rfl, -, S⟩ := hg.open_
  have hbd := S.bound
  obtain ⟨hb, -⟩ := expl_built he
  obtain ⟨q1, q20, q8, -⟩ := validPz_facts hb.v
  obtain ⟨iI, hiI, hzI0, hzI1, hzI2⟩ := info_parts Tryz.info22
  have X0 : Blk ((w.alloc (.cells #[.int .i64 x.points, .string x.names, v2] 33)).alloc (.cells #[] 25)) w.heap.size [.int .i64 x.points, .string x.names, v2] := (Blk.new w [.int .i64 x.points, .string x.names, v2] 33).keep ((Only.refl _ _).alloc _)
  have K0 : Only [] w ((w.alloc (.cells #[.int .i64 x.points, .string x.names, v2] 33)).alloc (.cells #[] 25)) := ((Only.refl _ _).alloc _).alloc _
  have A0 : Acc (w.heap.size + 1) 25 ((w.alloc (.cells #[.int .i64 x.points, .string x.names, v2] 33)).alloc (.cells #[] 25)) (.slice (some ⟨w.heap.size + 1, 0, none⟩) 0 0) ([] : List (List Int)) [] := Acc.made (w.alloc (.cells #[.int .i64 x.points, .string x.names, v2] 33)) (w.heap.size + 1) 25 (by simp) (Nat.le_refl _)
  obtain ⟨W0, hW0⟩ : ∃ W0, W0 = (w.alloc (.cells #[.int .i64 x.points, .string x.names, v2] 33)).alloc (.cells #[] 25) := ⟨_, rfl⟩
  obtain ⟨s0, hs0⟩ : ∃ s0, s0 = t.patterns.getD i0 [] := ⟨_, rfl⟩
  have Hs0 := Lib.hid hs0
  have Htr := Lib.hid htr
  have He := Lib.hid he
  have Hb := Lib.hid hb
  have hu0 : ∀ b ∈ fs0, (Value.slice (some ⟨w.heap.size + 1, 0, none⟩) 0 0).ownBlock ≠ some b := fun b hb he => by
    have := Rp.lt hu b hb; simp [Value.ownBlock] at he; omega
  rw [← hs0]
  rw [← hW0] at X0 K0 A0
  have hz0 : W0.heap.size = w.heap.size + 2 := by rw [hW0]; simp
  clear hs0 htr he hb
  go_enter Tryz.func60, Tryz.ntmps60
  go_upto_region 3 with fail
  rw [← hW0]
  clear hW0
  go_loopw [2, 7, 8] (fun sv o c wr => ∃ (j i : Nat) (ws : List (List Int)) (fs : List (List Nat)) (f2 : List Nat), j ≤ goals.length ∧ c = .int .i64 j ∧ i < t.patterns.length ∧ Rd wr sv (t.patterns.getD i []) f2 ∧ (∀ b ∈ f2, o.ownBlock ≠ some b) ∧ mthS x t goals s0 = ws ++ mthS x t (goals.drop j) (t.patterns.getD i []) ∧ ws.length = j ∧ Acc (w.heap.size + 1) 25 wr o ws fs ∧ Fresh (w.heap.size + 1) wr fs.flatten ∧ Blk wr w.heap.size [.int .i64 x.points, .string x.names, v2] ∧ Only [] w wr)
    (fun _ _ c _ => goals.length - (intOf c).toNat)
  case atStart => exact ⟨0, i0, [], [], fs0, Nat.zero_le _, rfl, hi0, Rp.keep hu K0, hu0, by rw [Hs0.out]; rfl, rfl, A0, Fresh.nil _ _, X0, K0⟩
  case round =>
    obtain ⟨W3, hnew⟩ : ∃ W, W = wr := ⟨_, rfl⟩
    subst hnew
    obtain ⟨j, i, ws, fs, f2, hj, rfl, hil, hrd, hap, hcat, hwl, hA, hF, hX, kW⟩ := hrel
    have Hcat := Lib.hid hcat
    have HA := Lib.hid hA
    have HF := Lib.hid hF
    have HX := Lib.hid hX
    have Hwl := Lib.hid hwl
    have x0 := hX.cell 0 rfl
    have x1 := hX.cell 1 rfl
    have x2 := hX.cell 2 rfl
    by_cases hlt : j < goals.length
    · obtain ⟨b, off, ug, rfl, -, hc, hug⟩ := S.atRow j hlt
      have hcw := kW.cell (by simp) hc
      have ht := Htr.out goals[j] (List.getElem_mem hlt)
      obtain ⟨-, sf2, -⟩ := stage_facts He.out ht hil
      obtain ⟨-, -, j9, hj9, hp9⟩ := stage_facts He.out ht hil
      have hmN := mN_le He.out ht hil
      have hug3 : Rd W3 ug goals[j] _ := Rp.keep hug kW
      obtain ⟨ag, cg, rfl, Ig⟩ := hug3.ints
      have hdr : mthS x t (goals.drop j) (t.patterns.getD i []) = mW1 x t goals[j] (t.patterns.getD i []) :: mthS x t (goals.drop (j + 1)) (wEnd x (t.patterns.getD i []) (mW1 x t goals[j] (t.patterns.getD i []))) := by rw [List.drop_eq_getElem_cons hlt]; rfl
      obtain ⟨goal, hgl⟩ : ∃ goal, goal = goals[j] := ⟨_, rfl⟩
      rw [← hgl] at hcw ht sf2 hp9 Ig hdr hmN
      have hst : ∀ W, Only [] W3 W → Calls Tryz.prog 110 #[.agg #[.int .i64 x.points, .string x.names, v2], .slice ag goal.length cg, u2] W fun e w' => ∃ v fp', e = .returned v ∧ Rd w' v (mW1 x t goal (t.patterns.getD i [])) fp' ∧ Fresh W.heap.size w' fp' ∧ Only [] W w' := fun W hW => stageWord_any [.int .i64 x.points, .string x.names, v2] x _ t (.slice ag goal.length cg) goal _ u2 _ i W (Rp.keep h0 (kW.trans hW)) He.out ht (Ig.keep hW).rd hil (Rp.keep hrd hW)
      obtain ⟨wd, hwd⟩ : ∃ wd, wd = mW1 x t goal (t.patterns.getD i []) := ⟨_, rfl⟩
      have hwdl : wd.length ≤ 3000 := by rw [hwd, mW1_len]; exact hmN
      rw [← hwd] at hst sf2 hp9 hdr
      have Hst := Lib.hid hst
      have Hdr := Lib.hid hdr
      have Hsf := Lib.hid sf2
      have Hp9 := Lib.hid hp9
      have hpat := expl_pat He.out hil
      have Hpat := Lib.hid hpat
      have hszK : w.heap.size + 1 ≤ W3.heap.size := by have := hX.lt; omega
      have hlw : ws.length + 1 ≤ 1073741824 := by omega
      clear hcat hA hF hX hwl hc hug hug3 ht sf2 hp9 hmN hgl hst hwd hdr hpat Ig
      go_wp2
      go_region_held3 (fun w' => Only [] W3 w' ∧ w'.cell? ⟨w.heap.size, 0, none⟩ = some (.int .i64 x.points) ∧ w'.cell? ⟨w.heap.size, 1, none⟩ = some (.string x.names) ∧ w'.cell? ⟨w.heap.size, 2, none⟩ = some (v2) ∧ w'.cell? ⟨b, off + j, none⟩ = some (.slice ag goal.length cg)) (((refine and_of ?_ (fun h__ => ⟨h__.cell (by simp) x0, h__.cell (by simp) x1, h__.cell (by simp) x2, h__.cell (by simp) hcw⟩)); first | exact (Only.refl _ _).drew | exact ((Only.refl _ _).drewN _).drew | exact Only.trans (And.left (by assumption)) (by assumption) | exact Only.alloc (And.left (by assumption)) _ | assumption)) (first | (go_at_call 110; (with_reducible refine (Hst.out _ (And.left (by assumption))).mono ?_); rintro e w5 ⟨u5, f5, rfl, r5, F5, t5⟩; have F5' := F5.mono (((Only.refl [] W3).trans (And.left (by assumption))).size)) | fail "no arm")
      have k5 : Only [] W3 w5 := (Only.refl [] W3).trans (And.left (by assumption))
      obtain ⟨a5, c5, rfl, I5⟩ := r5.ints
      have hIl := I5.bound
      have hf2 := Rp.lt hrd
      go_upto_region 7 with (at_builtin; refine wpList_pushF rfl _ _ 22 rfl (w.heap.size + 1) 25 iI _ 24 Tryz.underlying22 hiI hzI0 hzI1 hzI2 rfl (by decide) (by decide) W3 u7 ws fs rfl HA.out HF.out (k5.alloc _) hszK w5.heap.size 1 [.slice a5 wd.length c5] wd f5 rfl (lit_src w5 [.slice a5 wd.length c5] _ rfl) (by intro u hu; simp at hu; subst hu; rfl) (Rp.keep I5.rd ((Only.refl _ _).alloc _)) (F5'.keep ((Only.refl _ _).alloc _)) hlw w ((kW.trans k5).alloc _) (by omega) ?_; intro v7 w7 hA7 hF7 hK7 hO7)
      have hown : ∀ b, u7.ownBlock = some b → w.heap.size + 1 ≤ b ∧ b < W3.heap.size := HA.out.ownlt
      have ka : Only [] W3 (w5.alloc (.cells #[.slice a5 wd.length c5] 25)) := k5.alloc _
      have X7 := (HX.out.keep ka).only hO7 (fun hm => by have := (hown _ (by simpa using hm)).1; omega)
      have R7 : Rd w7 u2 (t.patterns.getD i []) f2 := Rp.only (Rp.keep hrd ka) hO7 (fun b hb hm => hap b hb (by simpa using hm))
      have I7 : IntsA w7 a5 c5 wd f5 := (I5.keep ((Only.refl _ _).alloc _)).only hO7 (fun b hb hm => by have := (hown b (by simpa using hm)).2; have := F5'.ge b hb; omega)
      have z0 := X7.cell 0 rfl
      have z1 := X7.cell 1 rfl
      have z2 := X7.cell 2 rfl
      have hA7l := hA7.ownlt
      have HA7 := Lib.hid hA7
      have HF7 := Lib.hid hF7
      clear hA7 hF7 x0 x1 x2 hcw F5 r5 hO7 HA HF HX hrd hap
      go_wp2_with (first
        | (go_at_call 76; (with_reducible refine (applyLetters_any [.int .i64 x.points, .string x.names, v2] x _ u2 (.slice a5 wd.length c5) (t.patterns.getD i []) wd _ _ x.points.toNat _ (Rp.keep h0 hK7) R7 I7.rd Hb.out.v Hsf.out Hpat.out (by omega) (by omega)).mono ?_); rintro e w8 ⟨u8, f8, rfl, r8, F8, t8⟩)
        | fail "no arm")
      go_roundw
      case rel =>
        exact ⟨j + 1, j9, ws ++ [wd], _, f8, by omega, by go_num, hj9, by rw [Hp9.out]; exact r8, fun b hb he => by have := F8.ge b hb; have := (hA7l b he).2; omega, by rw [Hcat.out, Hdr.out, Hp9.out, List.append_assoc]; rfl, by rw [List.length_append, Hwl.out]; rfl, HA7.out.keep t8, HF7.out.keep t8, X7.keep t8, hK7.trans t8⟩
      case measure => simp [intOf]; omega
    · have hje : j = goals.length := by omega
      have hcat' := hcat
      rw [hje, List.drop_length] at hcat'
      have Hfin := Lib.hid (show mthS x t goals s0 = ws by rw [hcat']; simp [mthS])
      have hjI : ¬ (j : Int) < (goals.length : Int) := by omega
      clear hcat hcat' hA hF hX hwl hje
      go_wp2
      go_ret
      exact ⟨u7, rfl, fs, by rw [Hfin.out]; exact HA.out.mono (Nat.le_succ _), HF.out.mono (Nat.le_succ _), kW⟩
set_option maxHeartbeats 1000000 in
theorem areFitting_any (v : Value) (ws : List (List Int)) (fw : List Nat) (w : World) (h : Rd w v ws fw) :
    Calls Tryz.prog 61 #[v] w fun e w' => e = .returned (.bool (ws.all fun q => decide (q.length ≤ 200))) ∧ Only [] w w' := by
  obtain ⟨a, cap, ob, fps, rfl, -, S⟩ := h.open_
  have hb := S.bound
  go_enter Tryz.func61, Tryz.ntmps61
  go_wp2
  go_loop [3] (fun i => ∃ j : Nat, j ≤ ws.length ∧ i = .int .i64 j ∧ (∀ q ∈ ws.take j, q.length ≤ 200))
    (fun i => ws.length - (intOf i).toNat)
  case atStart => exact ⟨0, Nat.zero_le _, rfl, by simp⟩
  case round =>
    obtain ⟨j, hj, rfl, hr⟩ := hrel
    have Hr := Lib.hid hr
    clear hr
    by_cases hlt : j < ws.length
    · obtain ⟨b, off, u, rfl, -, hc, hu⟩ := S.atRow j hlt
      obtain ⟨a1, c1, rfl, I1⟩ := hu.ints
      have hb1 := I1.bound
      by_cases hl : ws[j].length ≤ 200
      · have hlI : ¬ ((200 : Int) < (ws[j].length : Int)) := by omega
        have Hl := Lib.hid hl
        clear hl
        go_wp2
        go_round
        case rel => exact ⟨j + 1, by omega, by go_num, by
          rw [take_succ_get ws j hlt]; intro q hq
          rcases List.mem_append.1 hq with hq | hq
          · exact Hr.out q hq
          · simp at hq; subst hq; exact Hl.out⟩
        case measure => simp [intOf]; omega
      · have hlI : (200 : Int) < (ws[j].length : Int) := by omega
        have Hf := Lib.hid (show (ws.all fun q => decide (q.length ≤ 200)) = false by
          rw [List.all_eq_false]; exact ⟨ws[j], List.getElem_mem _, by simpa using hl⟩)
        clear hl
        go_wp2
        go_ret
        exact ⟨ret_bool Hf.out.symm, Only.refl _ _⟩
    · have Hf := Lib.hid (show (ws.all fun q => decide (q.length ≤ 200)) = true by
        rw [List.all_eq_true]; intro q hq
        exact decide_eq_true (Hr.out q (by rw [List.take_of_length_le (by omega)]; exact hq)))
      go_wp2
      go_ret
      exact ⟨ret_bool Hf.out.symm, Only.refl _ _⟩
theorem made_rows (w : World) (e : TypeId) {g : Nat} (hg : g = w.heap.size) : Rd (w.alloc (.cells #[] e)) (.slice (some ⟨g, 0, none⟩) 0 0) ([] : List (List Int)) [g] ∧ Fresh w.heap.size (w.alloc (.cells #[] e)) [g] := by
  subst hg
  have hA : Acc w.heap.size e (w.alloc (.cells #[] e)) (.slice (some ⟨w.heap.size, 0, none⟩) 0 0) ([] : List (List Int)) [] := Acc.made w w.heap.size e rfl (Nat.le_refl _)
  exact ⟨by simpa [Value.ownBlock] using hA.rd (by decide), by simpa [Value.ownBlock] using hA.fresh (Fresh.nil _ _)⟩
set_option maxHeartbeats 4000000 in
theorem specSolveByMethod_any (cs : List Value) (x : Puzzle) (fp : List Nat) (v : Value) (goals : List (List Int)) (fg : List Nat) (u : Value) (s : List Int) (fs0 : List Nat) (w : World) (h : Rp.rep w cs x fp) (hg : Rd w v goals fg) (hs : Rd w u s fs0) :
    Calls Tryz.prog 31 #[.agg cs.toArray, v, u] w fun e w' => ∃ z fz, e = .returned (.tuple #[z, .bool (mthX x goals s).isSome]) ∧ Rd w' z ((mthX x goals s).getD []) fz ∧ Fresh w.heap.size w' fz ∧ Only [] w w' := by
  have h0 := h
  obtain ⟨v2, rfl, p0, p1, h2⟩ := h
  clear p0 p1 h2
  have X0 : Blk (w.alloc (.cells #[.int .i64 x.points, .string x.names, v2] 33)) w.heap.size [.int .i64 x.points, .string x.names, v2] := Blk.new w [.int .i64 x.points, .string x.names, v2] 33
  rcases hm : methB x goals
  · have Hn := Lib.hid (mthX_no (x := x) (goals := goals) (s := s) (by rw [hm]; simp))
    have Hm := Lib.hid hm
    clear hm
    go_enter Tryz.func31, Tryz.ntmps31
    go_wp2_with (first
      | (go_at_call 58; (with_reducible refine (specIsMethod_any [.int .i64 x.points, .string x.names, v2] x _ _ goals _ _ (Rp.keep h0 (by with_reducible repeat (first | exact Only.refl _ _ | assumption | refine Only.drewN ?_ _ | refine Only.drew ?_ | refine Only.alloc ?_ _ | refine Only.setCell ?_ (by intro hh; exfalso; simp at hh; try omega) _ | refine Only.trans ?_ (by assumption)))) (Rp.keep hg (by with_reducible repeat (first | exact Only.refl _ _ | assumption | refine Only.drewN ?_ _ | refine Only.drew ?_ | refine Only.alloc ?_ _ | refine Only.setCell ?_ (by intro hh; exfalso; simp at hh; try omega) _ | refine Only.trans ?_ (by assumption))))).mono ?_); rintro e w2 ⟨he, t2⟩; rw [Hm.out] at he; subst he)
      | fail "no arm")
    have K2 : Only [] w w2 := (by with_reducible repeat (first | exact Only.refl _ _ | assumption | refine Only.drewN ?_ _ | refine Only.drew ?_ | refine Only.alloc ?_ _ | refine Only.setCell ?_ (by intro hh; exfalso; simp at hh; try omega) _ | refine Only.trans ?_ (by assumption)))
    obtain ⟨hE, hF⟩ := made_rows w2 25 rfl
    exact bodyPost_ret (v := .tuple #[.slice (some ⟨w2.heap.size, 0, none⟩) 0 0, .bool false]) (by simp [results, Tryz.results31, go_sem]) rfl ⟨_, _, by rw [Hn.out]; rfl, by rw [Hn.out]; exact hE, hF.mono K2.size, K2.alloc _⟩
  rcases hq : ((expl x).isSome && reachB x s)
  · have Hn := Lib.hid (show mthX x goals s = none by
      cases he : expl x with
      | none => exact mthX_none he
      | some t => exact mthX_no (by rw [he] at hq; simp at hq; rw [hq]; rfl))
    have Hm := Lib.hid hm
    have Hq := Lib.hid hq
    clear hm hq
    go_enter Tryz.func31, Tryz.ntmps31
    go_wp2_with (first
      | (go_at_call 58; (with_reducible refine (specIsMethod_any [.int .i64 x.points, .string x.names, v2] x _ _ goals _ _ (Rp.keep h0 (by with_reducible repeat (first | exact Only.refl _ _ | assumption | refine Only.drewN ?_ _ | refine Only.drew ?_ | refine Only.alloc ?_ _ | refine Only.setCell ?_ (by intro hh; exfalso; simp at hh; try omega) _ | refine Only.trans ?_ (by assumption)))) (Rp.keep hg (by with_reducible repeat (first | exact Only.refl _ _ | assumption | refine Only.drewN ?_ _ | refine Only.drew ?_ | refine Only.alloc ?_ _ | refine Only.setCell ?_ (by intro hh; exfalso; simp at hh; try omega) _ | refine Only.trans ?_ (by assumption))))).mono ?_); rintro e w2 ⟨he, t2⟩; rw [Hm.out] at he; subst he; have X2 := X0.keep t2; have x0 := X2.cell 0 rfl; have x1 := X2.cell 1 rfl; have x2 := X2.cell 2 rfl)
      | (go_at_call 59; (with_reducible refine (isSearchable_any [.int .i64 x.points, .string x.names, v2] x _ _ s _ _ (Rp.keep h0 (by with_reducible repeat (first | exact Only.refl _ _ | assumption | refine Only.drewN ?_ _ | refine Only.drew ?_ | refine Only.alloc ?_ _ | refine Only.setCell ?_ (by intro hh; exfalso; simp at hh; try omega) _ | refine Only.trans ?_ (by assumption)))) (Rp.keep hs (by with_reducible repeat (first | exact Only.refl _ _ | assumption | refine Only.drewN ?_ _ | refine Only.drew ?_ | refine Only.alloc ?_ _ | refine Only.setCell ?_ (by intro hh; exfalso; simp at hh; try omega) _ | refine Only.trans ?_ (by assumption))))).mono ?_); rintro e w3 ⟨he, t3⟩; rw [Hq.out] at he; subst he)
      | fail "no arm")
    have K2 : Only [] w w3 := (by with_reducible repeat (first | exact Only.refl _ _ | assumption | refine Only.drewN ?_ _ | refine Only.drew ?_ | refine Only.alloc ?_ _ | refine Only.setCell ?_ (by intro hh; exfalso; simp at hh; try omega) _ | refine Only.trans ?_ (by assumption)))
    obtain ⟨hE, hF⟩ := made_rows w3 25 rfl
    exact bodyPost_ret (v := .tuple #[.slice (some ⟨w3.heap.size, 0, none⟩) 0 0, .bool false]) (by simp [results, Tryz.results31, go_sem]) rfl ⟨_, _, by rw [Hn.out]; rfl, by rw [Hn.out]; exact hE, hF.mono K2.size, K2.alloc _⟩
  obtain ⟨t, he⟩ : ∃ t, expl x = some t := by
    cases he : expl x with
    | none => rw [he] at hq; cases hq
    | some t => exact ⟨t, rfl⟩
  have hr : reachB x s = true := by rw [he] at hq; simpa using hq
  obtain ⟨i0, hi0, hp0⟩ := List.getElem_of_mem ((expl_reach he).2 hr)
  have e1 : t.patterns.getD i0 [] = s := by rw [getD_get hi0, hp0]
  obtain ⟨-, m2, m3, -, -⟩ := methB_parts hm
  have hX := (mthX_yes he hr hm).trans (mthW_eq x t goals s)
  obtain ⟨ws, hws⟩ : ∃ ws, ws = mthS x t goals s := ⟨_, rfl⟩
  have Hst : ∀ W, Only [] w W → Calls Tryz.prog 60 #[.agg #[.int .i64 x.points, .string x.names, v2], v, u] W fun e w' => ∃ z fs, e = .returned z ∧ Acc W.heap.size 25 w' z ws fs ∧ Fresh W.heap.size w' fs.flatten ∧ Only [] W w' := fun W hW => by
    have := solveStages_any [.int .i64 x.points, .string x.names, v2] x t _ v goals _ u _ i0 W (Rp.keep h0 hW) he (Rp.keep hg hW) m3 (by omega) hi0 (by rw [e1]; exact Rp.keep hs hW)
    rw [e1, ← hws] at this
    exact this
  have Hst' := Lib.hid Hst
  rw [← hws] at hX
  have Hm := Lib.hid hm
  have Hq := Lib.hid hq
  clear hm hq he hr hp0 e1 m3 Hst hws
  rcases hf : ws.all fun q => decide (q.length ≤ 200)
  · rw [hf, if_neg (by simp)] at hX
    have Hn := Lib.hid hX
    have Hf := Lib.hid hf
    clear hX hf
    go_enter Tryz.func31, Tryz.ntmps31
    go_wp2_with (first
      | (go_at_call 58; (with_reducible refine (specIsMethod_any [.int .i64 x.points, .string x.names, v2] x _ _ goals _ _ (Rp.keep h0 (by with_reducible repeat (first | exact Only.refl _ _ | assumption | refine Only.drewN ?_ _ | refine Only.drew ?_ | refine Only.alloc ?_ _ | refine Only.setCell ?_ (by intro hh; exfalso; simp at hh; try omega) _ | refine Only.trans ?_ (by assumption)))) (Rp.keep hg (by with_reducible repeat (first | exact Only.refl _ _ | assumption | refine Only.drewN ?_ _ | refine Only.drew ?_ | refine Only.alloc ?_ _ | refine Only.setCell ?_ (by intro hh; exfalso; simp at hh; try omega) _ | refine Only.trans ?_ (by assumption))))).mono ?_); rintro e w2 ⟨he, t2⟩; rw [Hm.out] at he; subst he; have X2 := X0.keep t2; have x0 := X2.cell 0 rfl; have x1 := X2.cell 1 rfl; have x2 := X2.cell 2 rfl)
      | (go_at_call 59; (with_reducible refine (isSearchable_any [.int .i64 x.points, .string x.names, v2] x _ _ s _ _ (Rp.keep h0 (by with_reducible repeat (first | exact Only.refl _ _ | assumption | refine Only.drewN ?_ _ | refine Only.drew ?_ | refine Only.alloc ?_ _ | refine Only.setCell ?_ (by intro hh; exfalso; simp at hh; try omega) _ | refine Only.trans ?_ (by assumption)))) (Rp.keep hs (by with_reducible repeat (first | exact Only.refl _ _ | assumption | refine Only.drewN ?_ _ | refine Only.drew ?_ | refine Only.alloc ?_ _ | refine Only.setCell ?_ (by intro hh; exfalso; simp at hh; try omega) _ | refine Only.trans ?_ (by assumption))))).mono ?_); rintro e w3 ⟨he, t3⟩; rw [Hq.out] at he; subst he; have X3 := X2.keep t3; have y0 := X3.cell 0 rfl; have y1 := X3.cell 1 rfl; have y2 := X3.cell 2 rfl)
      | (go_at_call 60; (with_reducible refine (Hst'.out _ (by with_reducible repeat (first | exact Only.refl _ _ | assumption | refine Only.drewN ?_ _ | refine Only.drew ?_ | refine Only.alloc ?_ _ | refine Only.setCell ?_ (by intro hh; exfalso; simp at hh; try omega) _ | refine Only.trans ?_ (by assumption)))).mono ?_); rintro e w4 ⟨z, fs, rfl, A4, F4, t4⟩)
      | (go_at_call 61; (with_reducible refine (areFitting_any z ws _ _ (A4.rd (by decide))).mono ?_); rintro e w5 ⟨he, t5⟩; rw [Hf.out] at he; subst he)
      | fail "no arm")
    have K2 : Only [] w w5 := (by with_reducible repeat (first | exact Only.refl _ _ | assumption | refine Only.drewN ?_ _ | refine Only.drew ?_ | refine Only.alloc ?_ _ | refine Only.setCell ?_ (by intro hh; exfalso; simp at hh; try omega) _ | refine Only.trans ?_ (by assumption)))
    obtain ⟨hE, hF⟩ := made_rows w5 25 rfl
    exact bodyPost_ret (v := .tuple #[.slice (some ⟨w5.heap.size, 0, none⟩) 0 0, .bool false]) (by simp [results, Tryz.results31, go_sem]) rfl ⟨_, _, by rw [Hn.out]; rfl, by rw [Hn.out]; exact hE, hF.mono K2.size, K2.alloc _⟩
  · rw [hf, if_pos rfl] at hX
    have Hn := Lib.hid hX
    have Hf := Lib.hid hf
    clear hX hf
    go_enter Tryz.func31, Tryz.ntmps31
    go_wp2_with (first
      | (go_at_call 58; (with_reducible refine (specIsMethod_any [.int .i64 x.points, .string x.names, v2] x _ _ goals _ _ (Rp.keep h0 (by with_reducible repeat (first | exact Only.refl _ _ | assumption | refine Only.drewN ?_ _ | refine Only.drew ?_ | refine Only.alloc ?_ _ | refine Only.setCell ?_ (by intro hh; exfalso; simp at hh; try omega) _ | refine Only.trans ?_ (by assumption)))) (Rp.keep hg (by with_reducible repeat (first | exact Only.refl _ _ | assumption | refine Only.drewN ?_ _ | refine Only.drew ?_ | refine Only.alloc ?_ _ | refine Only.setCell ?_ (by intro hh; exfalso; simp at hh; try omega) _ | refine Only.trans ?_ (by assumption))))).mono ?_); rintro e w2 ⟨he, t2⟩; rw [Hm.out] at he; subst he; have X2 := X0.keep t2; have x0 := X2.cell 0 rfl; have x1 := X2.cell 1 rfl; have x2 := X2.cell 2 rfl)
      | (go_at_call 59; (with_reducible refine (isSearchable_any [.int .i64 x.points, .string x.names, v2] x _ _ s _ _ (Rp.keep h0 (by with_reducible repeat (first | exact Only.refl _ _ | assumption | refine Only.drewN ?_ _ | refine Only.drew ?_ | refine Only.alloc ?_ _ | refine Only.setCell ?_ (by intro hh; exfalso; simp at hh; try omega) _ | refine Only.trans ?_ (by assumption)))) (Rp.keep hs (by with_reducible repeat (first | exact Only.refl _ _ | assumption | refine Only.drewN ?_ _ | refine Only.drew ?_ | refine Only.alloc ?_ _ | refine Only.setCell ?_ (by intro hh; exfalso; simp at hh; try omega) _ | refine Only.trans ?_ (by assumption))))).mono ?_); rintro e w3 ⟨he, t3⟩; rw [Hq.out] at he; subst he; have X3 := X2.keep t3; have y0 := X3.cell 0 rfl; have y1 := X3.cell 1 rfl; have y2 := X3.cell 2 rfl)
      | (go_at_call 60; (with_reducible refine (Hst'.out _ (by with_reducible repeat (first | exact Only.refl _ _ | assumption | refine Only.drewN ?_ _ | refine Only.drew ?_ | refine Only.alloc ?_ _ | refine Only.setCell ?_ (by intro hh; exfalso; simp at hh; try omega) _ | refine Only.trans ?_ (by assumption)))).mono ?_); rintro e w4 ⟨z, fs, rfl, A4, F4, t4⟩)
      | (go_at_call 61; (with_reducible refine (areFitting_any z ws _ _ (A4.rd (by decide))).mono ?_); rintro e w5 ⟨he, t5⟩; rw [Hf.out] at he; subst he)
      | fail "no arm")
    have K2 : Only [] w w5 := (by with_reducible repeat (first | exact Only.refl _ _ | assumption | refine Only.drewN ?_ _ | refine Only.drew ?_ | refine Only.alloc ?_ _ | refine Only.setCell ?_ (by intro hh; exfalso; simp at hh; try omega) _ | refine Only.trans ?_ (by assumption)))
    have K3 : Only [] w w3 := (by with_reducible repeat (first | exact Only.refl _ _ | assumption | refine Only.drewN ?_ _ | refine Only.drew ?_ | refine Only.alloc ?_ _ | refine Only.setCell ?_ (by intro hh; exfalso; simp at hh; try omega) _ | refine Only.trans ?_ (by assumption)))
    exact bodyPost_ret (v := .tuple #[z, .bool true]) (by simp [results, Tryz.results31, go_sem]) rfl ⟨z, _, by rw [Hn.out]; rfl, by rw [Hn.out]; exact Rp.keep (A4.rd (by decide)) t5, ((A4.fresh F4).mono K3.size).keep t5, K2⟩
end Go.Proofs.YtclhblofchfglaaGreat

namespace Go.Proofs.YtclhblofchfglaaGreat
open Go.RowKit
set_option maxRecDepth 10000

/-- valid words one behind the other, if they are short enough -/
def catW (ws : List (List Int)) : Option (List Int) := if ws.all (validW 8) = true then shortW ws.flatten else none
theorem valid_flat {ws : List (List Int)} (h : ws.all (validW 8) = true) : ws.flatten.length ≤ 200 * ws.length := flat_le fun w hw => validW_len (List.all_eq_true.1 h w hw)
theorem valid8 {m : Nat} (hm : m ≤ 8) {w : List Int} (h1 : w.length ≤ 200) (h2 : ∀ l ∈ w, l ∈ ltrs m) : validW 8 w = true :=
  validW_yes h1 fun l hl => okLetter_iff.2 (by have := mem_ltrs.1 (h2 l hl); omega)
theorem made_ints (w : World) (e : TypeId) {g : Nat} (hg : g = w.heap.size) : Rd (w.alloc (.cells #[] e)) (.slice (some ⟨g, 0, none⟩) 0 0) ([] : List Int) [g] ∧ Fresh w.heap.size (w.alloc (.cells #[] e)) [g] := by
  subst hg
  have hA := AccI.made w w.heap.size e rfl (Nat.le_refl _)
  exact ⟨by simpa [Value.ownBlock] using hA.rd, by simpa [Value.ownBlock] using hA.fresh⟩
set_option maxHeartbeats 4000000 in
theorem concatWords_any (v : Value) (ws : List (List Int)) (fw : List Nat) (w : World) (h : Rd w v ws fw) (hl : ws.length ≤ 1000) :
    Calls Tryz.prog 32 #[v] w fun e w' => ∃ u fu, e = .returned (.tuple #[u, .bool (catW ws).isSome]) ∧ Rd w' u ((catW ws).getD []) fu ∧ Fresh w.heap.size w' fu ∧ Only [] w w' := by
  obtain ⟨i0, hi, hz0, hz1, hz2⟩ := info_parts Tryz.info2
  obtain ⟨a, cap, ob, fps, rfl, -, S⟩ := h.open_
  have hb := S.bound
  go_enter Tryz.func32, Tryz.ntmps32
  go_wp2
  go_loopw [4, 5] (fun o i wr => ∃ j : Nat, j ≤ ws.length ∧ i = .int .i64 j ∧ (ws.take j).all (validW 8) = true ∧ AccI w.heap.size 2 wr o (ws.take j).flatten ∧ Only [] w wr)
    (fun _ i _ => ws.length - (intOf i).toNat)
  case atStart => exact ⟨0, Nat.zero_le _, rfl, rfl, AccI.made w w.heap.size 2 rfl (Nat.le_refl _), (Only.refl _ _).alloc _⟩
  case round =>
    obtain ⟨W2, hnew⟩ : ∃ W, W = wr := ⟨_, rfl⟩
    subst hnew
    obtain ⟨j, hj, rfl, hv, hA, hK⟩ := hrel
    have HA := Lib.hid hA
    have Hv := Lib.hid hv
    by_cases hlt : j < ws.length
    · obtain ⟨b, off, u, rfl, -, hc, hu⟩ := S.atRow j hlt
      have hu2 : Rd W2 u ws[j] _ := Rp.keep hu hK
      obtain ⟨a1, c1, rfl, I1⟩ := hu2.ints
      have hc2 := hK.cell (by simp) hc
      have e1 := flat_take ws j hlt
      obtain ⟨R, hR⟩ : ∃ R, R = ws[j] := ⟨_, rfl⟩
      rw [← hR] at hc2 I1 e1
      have hIw : ∀ W, Only [] W2 W → Calls Tryz.prog 62 #[.slice a1 R.length c1] W fun e w' => e = .returned (.bool (validW 8 R)) ∧ Only [] W w' := fun W hW => (specIsWord_rd _ R _ W (I1.keep hW).rd).mono fun e w' hh => ⟨hh.1, hh.2.only []⟩
      have HIw := Lib.hid hIw
      clear hIw
      rcases hval : validW 8 R
      · have Hn := Lib.hid (show catW ws = none by
          unfold catW
          rw [if_neg]
          intro hall
          have := List.all_eq_true.1 hall ws[j] (List.getElem_mem _)
          rw [← hR, hval] at this; cases this)
        have Hval := Lib.hid hval
        clear hv hA hc hu hu2 e1 hR hval I1
        go_wp2_with (first
          | (go_at_call 62; (with_reducible refine (HIw.out _ (Only.refl _ _)).mono ?_); rintro e w3 ⟨he, t3⟩; rw [Hval.out] at he; subst he)
          | fail "no arm")
        obtain ⟨hE, hF⟩ := made_ints w3 2 rfl
        exact bodyPost_ret (v := .tuple #[.slice (some ⟨w3.heap.size, 0, none⟩) 0 0, .bool false]) (by simp [results, Tryz.results32, go_sem]) rfl ⟨_, [w3.heap.size], by rw [Hn.out]; rfl, by rw [Hn.out]; exact hE, hF.mono (hK.trans t3).size, (hK.trans t3).alloc _⟩
      · have hv1 : (ws.take (j + 1)).all (validW 8) = true := by
          rw [take_succ_get ws j hlt, List.all_append, hv, ← hR]; simp [hval]
        have hsum := valid_flat hv1
        rw [e1, List.length_append, List.length_take] at hsum
        have Hv1 := Lib.hid hv1
        have Hval := Lib.hid hval
        have E1 := Lib.hid e1
        have hsum2 : (ws.take j).flatten.length + R.length ≤ 1000000 := by omega
        clear hv hA hc hu hu2 e1 hR hval hv1 hsum
        go_upto_region 7 with (first
          | (go_at_call 62; (with_reducible refine (HIw.out _ (Only.refl _ _)).mono ?_); rintro e w3 ⟨he, t3⟩; rw [Hval.out] at he; subst he)
          | fail "no arm")
        obtain ⟨hO, hI⟩ := (HA.out.keep t3).row
        have I3 := I1.keep t3
        obtain ⟨q1, q2⟩ := ints_src I3
        have hK3 := hK.trans t3
        have hsz := hK3.size
        have hc3 := t3.cell (by simp) hc2
        obtain ⟨D, hD⟩ : ∃ D, D = (ws.take j).flatten := ⟨_, rfl⟩
        rw [← hD] at hO hI hsum2 E1
        have HO := Lib.hid hO
        have HIR := Lib.hid (show ∀ y ∈ D ++ R, I64 y from fun y hy => by
          rcases List.mem_append.1 hy with hy | hy
          · exact hI y hy
          · exact I3.wf y hy)
        clear hO hI hD HA hc2
        go_wp2_with (at_builtin; refine wpList_app _ rfl _ _ 25 rfl w.heap.size 2 i0 _ 1 8 Tryz.underlying25 hi hz0 hz1 hz2 rfl (by omega) u4 D.length (D.map (Value.int .i64)) rfl HO.out a1 R.length c1 (R.map (Value.int .i64)) rfl (by simp) q1 q2 (ints_one R) (by unfold maxLen; omega) (by omega) hsz ?_; intro v5 w5 hO5 hg5 hb5)
        have hK5 : Only [] w w5 := hK3.grown hg5 (fun k hk hlt => by
          have h8 := AccI.ofRow (l := D) HO.out (fun y hy => HIR.out y (List.mem_append_left _ hy))
          have := (h8.ownlt k hk).1
          omega)
        rw [← List.map_append, ← List.length_append] at hO5
        have hA5 := AccI.ofRow hO5 HIR.out
        go_roundw
        case rel => exact ⟨j + 1, by omega, by go_num, Hv1.out, by rw [E1.out]; exact hA5, hK5⟩
        case measure => simp [intOf]; omega
    · have hje : j = ws.length := by omega
      rw [hje, List.take_length] at hA hv
      have hsum := valid_flat hv
      have hcat : catW ws = shortW ws.flatten := if_pos hv
      obtain ⟨fl, hfl⟩ : ∃ fl, fl = ws.flatten := ⟨_, rfl⟩
      rw [← hfl] at hcat hA hsum
      have hjI : ¬ (j : Int) < (ws.length : Int) := by omega
      obtain ⟨a4, c4, hu4⟩ := hA.form
      have HA' := Lib.hid hA
      by_cases h200 : fl.length ≤ 200
      · rw [shortW_yes h200] at hcat
        have Hn := Lib.hid hcat
        have hlI : ¬ ((200 : Int) < (fl.length : Int)) := by omega
        clear hv hA hcat hfl HA Hv hje
        subst hu4
        go_wp2
        exact bodyPost_ret (v := .tuple #[.slice a4 fl.length c4, .bool true]) (by simp [results, Tryz.results32, go_sem]) rfl ⟨_, by rw [Hn.out]; rfl, (Value.slice a4 fl.length c4).ownBlock.toList, by rw [Hn.out]; exact HA'.out.rd, HA'.out.fresh, hK⟩
      · rw [shortW_no h200] at hcat
        have Hn := Lib.hid hcat
        have hlI : (200 : Int) < (fl.length : Int) := by omega
        clear hv hA hcat hfl HA Hv hje
        subst hu4
        go_wp2
        obtain ⟨hE, hF⟩ := made_ints W2 2 rfl
        exact bodyPost_ret (v := .tuple #[.slice (some ⟨W2.heap.size, 0, none⟩) 0 0, .bool false]) (by simp [results, Tryz.results32, go_sem]) rfl ⟨_, by rw [Hn.out]; rfl, [W2.heap.size], by rw [Hn.out]; exact hE, hF.mono hK.size, hK.alloc _⟩
theorem mthX_cat {x : Puzzle} {goals : List (List Int)} {s : List Int} {ws : List (List Int)} (h : mthX x goals s = some ws) : catW ws = mthC x goals s ∧ ws.length ≤ 5 := by
  rw [mthC_some h]
  obtain ⟨t, he, hr, hm, hw, hl⟩ := mthX_parts h
  obtain ⟨hb, -⟩ := expl_built he
  obtain ⟨-, m2, m3, -, -⟩ := methB_parts hm
  obtain ⟨i0, hi0, hp0⟩ := List.getElem_of_mem ((expl_reach he).2 hr)
  have e1 : t.patterns.getD i0 [] = s := by rw [getD_get hi0, hp0]
  have hlet := mthS_letters he goals m3 i0 hi0
  rw [e1, ← hw] at hlet
  have hall : ws.all (validW 8) = true := List.all_eq_true.2 fun w hw => valid8 (by have := validPz_facts hb.v; omega) (hl w hw) (hlet w hw)
  refine ⟨if_pos hall, ?_⟩
  rw [hw, mthS_len]; omega
set_option maxHeartbeats 4000000 in
theorem specMethodCert_any (cs : List Value) (x : Puzzle) (fp : List Nat) (v : Value) (goals : List (List Int)) (fg : List Nat) (u : Value) (s : List Int) (fs0 : List Nat) (w : World) (h : Rp.rep w cs x fp) (hg : Rd w v goals fg) (hs : Rd w u s fs0) :
    Calls Tryz.prog 9 #[.agg cs.toArray, v, u] w fun e w' => ∃ cs' fp', e = .returned (.tuple #[.agg (List.toArray cs'), .bool (mthC x goals s).isSome]) ∧ Rp.rep w' cs' (wCert (mthC x goals s)) fp' ∧ Fresh w.heap.size w' fp' ∧ Only [] w w' := by
  have h0 := h
  obtain ⟨v2, rfl, p0, p1, h2⟩ := h
  clear p0 p1 h2
  have Y0 : Blk ((w.alloc (.cells #[.int .i64 x.points, .string x.names, v2] 33)).alloc (.cells #[.int .i64 0, .slice none 0 0, .slice none 0 0, .slice none 0 0] 30)) (w.heap.size + 1) [.int .i64 0, .slice none 0 0, .slice none 0 0, .slice none 0 0] := Blk.new_at (by simp)
  have X0 : Blk ((w.alloc (.cells #[.int .i64 x.points, .string x.names, v2] 33)).alloc (.cells #[.int .i64 0, .slice none 0 0, .slice none 0 0, .slice none 0 0] 30)) w.heap.size [.int .i64 x.points, .string x.names, v2] := (Blk.new w [.int .i64 x.points, .string x.names, v2] 33).keep ((Only.refl _ _).alloc _)
  have x0 := X0.cell 0 rfl
  have x1 := X0.cell 1 rfl
  have x2 := X0.cell 2 rfl
  rcases hm : mthX x goals s with _ | ws
  · have Hn := Lib.hid (mthC_none hm)
    have Hm := Lib.hid hm
    clear hm
    go_enter Tryz.func9, Tryz.ntmps9
    go_wp2_with (first
      | (go_at_call 31; (with_reducible refine (specSolveByMethod_any [.int .i64 x.points, .string x.names, v2] x _ _ goals _ _ s _ _ (Rp.keep h0 (by with_reducible repeat (first | exact Only.refl _ _ | assumption | refine Only.drewN ?_ _ | refine Only.drew ?_ | refine Only.alloc ?_ _ | refine Only.setCell ?_ (by intro hh; exfalso; simp at hh; try omega) _ | refine Only.trans ?_ (by assumption)))) (Rp.keep hg (by with_reducible repeat (first | exact Only.refl _ _ | assumption | refine Only.drewN ?_ _ | refine Only.drew ?_ | refine Only.alloc ?_ _ | refine Only.setCell ?_ (by intro hh; exfalso; simp at hh; try omega) _ | refine Only.trans ?_ (by assumption)))) (Rp.keep hs (by with_reducible repeat (first | exact Only.refl _ _ | assumption | refine Only.drewN ?_ _ | refine Only.drew ?_ | refine Only.alloc ?_ _ | refine Only.setCell ?_ (by intro hh; exfalso; simp at hh; try omega) _ | refine Only.trans ?_ (by assumption))))).mono ?_); rintro e w1 ⟨z, fz, he, rz, -, t1⟩; rw [Hm.out] at he rz; subst he; simp only [Option.getD] at rz; have Y1 := Y0.keep t1)
      | (go_at_call 32; (with_reducible refine (concatWords_any z [] fz _ rz (by simp)).mono ?_); rintro e w2 ⟨u2, f2, rfl, -, -, t2⟩; have Y9 := Y1.keep t2; have g0 := Y9.cell 0 rfl; have g1 := Y9.cell 1 rfl; have g2 := Y9.cell 2 rfl; have g3 := Y9.cell 3 rfl; have p0 := Y9.frozen 0; have p1 := Y9.frozen 1; have p2 := Y9.frozen 2; have p3 := Y9.frozen 3)
      | fail "no arm")
    have K2 : Only [] w w2 := (by with_reducible repeat (first | exact Only.refl _ _ | assumption | refine Only.drewN ?_ _ | refine Only.drew ?_ | refine Only.alloc ?_ _ | refine Only.setCell ?_ (by intro hh; exfalso; simp at hh; try omega) _ | refine Only.trans ?_ (by assumption)))
    have Yf := (((Y9.set 0 (.int .i64 0)).set 1 (.slice none 0 0)).set 2 (.slice none 0 0)).set 3 (.slice none 0 0)
    have kf : Only [w.heap.size + 1] w2 ((((w2.setCell ⟨w.heap.size + 1, 0, none⟩ (.int .i64 0)).setCell ⟨w.heap.size + 1, 1, none⟩ (.slice none 0 0)).setCell ⟨w.heap.size + 1, 2, none⟩ (.slice none 0 0)).setCell ⟨w.heap.size + 1, 3, none⟩ (.slice none 0 0)) := ((((Only.refl _ _).setCell (by simp) _).setCell (by simp) _).setCell (by simp) _).setCell (by simp) _
    obtain ⟨wf, hwf⟩ : ∃ wf, wf = ((((w2.setCell ⟨w.heap.size + 1, 0, none⟩ (.int .i64 0)).setCell ⟨w.heap.size + 1, 1, none⟩ (.slice none 0 0)).setCell ⟨w.heap.size + 1, 2, none⟩ (.slice none 0 0)).setCell ⟨w.heap.size + 1, 3, none⟩ (.slice none 0 0)) := ⟨_, rfl⟩
    rw [← hwf] at Yf kf ⊢
    simp only [List.set] at Yf
    clear hwf g0 g1 g2 g3 p0 p1 p2 p3
    have z0 := Yf.cell 0 rfl
    have z1 := Yf.cell 1 rfl
    have z2 := Yf.cell 2 rfl
    have z3 := Yf.cell 3 rfl
    refine bodyPost_ret (v := .tuple #[.agg #[.int .i64 0, .slice none 0 0, .slice none 0 0, .slice none 0 0], .bool false]) (by simp [results, Tryz.results9, go_sem, z0, z1, z2, z3]) rfl ⟨[.int .i64 0, .slice none 0 0, .slice none 0 0, .slice none 0 0], [], by rw [Hn.out]; rfl, by rw [Hn.out]; exact noCert_rep _, Fresh.nil _ _, K2.then_ kf (by simp)⟩
  · obtain ⟨hcat, hwl⟩ := mthX_cat hm
    have Hm := Lib.hid hm
    rcases hc : mthC x goals s with _ | fl
    · rw [hc] at hcat
      have Hn := Lib.hid hc
      have Hc := Lib.hid hcat
      clear hm hc hcat
      go_enter Tryz.func9, Tryz.ntmps9
      go_wp2_with (first
        | (go_at_call 31; (with_reducible refine (specSolveByMethod_any [.int .i64 x.points, .string x.names, v2] x _ _ goals _ _ s _ _ (Rp.keep h0 (by with_reducible repeat (first | exact Only.refl _ _ | assumption | refine Only.drewN ?_ _ | refine Only.drew ?_ | refine Only.alloc ?_ _ | refine Only.setCell ?_ (by intro hh; exfalso; simp at hh; try omega) _ | refine Only.trans ?_ (by assumption)))) (Rp.keep hg (by with_reducible repeat (first | exact Only.refl _ _ | assumption | refine Only.drewN ?_ _ | refine Only.drew ?_ | refine Only.alloc ?_ _ | refine Only.setCell ?_ (by intro hh; exfalso; simp at hh; try omega) _ | refine Only.trans ?_ (by assumption)))) (Rp.keep hs (by with_reducible repeat (first | exact Only.refl _ _ | assumption | refine Only.drewN ?_ _ | refine Only.drew ?_ | refine Only.alloc ?_ _ | refine Only.setCell ?_ (by intro hh; exfalso; simp at hh; try omega) _ | refine Only.trans ?_ (by assumption))))).mono ?_); rintro e w1 ⟨z, fz, he, rz, -, t1⟩; rw [Hm.out] at he rz; subst he; simp only [Option.getD] at rz; have Y1 := Y0.keep t1)
        | (go_at_call 32; (with_reducible refine (concatWords_any z ws fz _ rz (by omega)).mono ?_); rintro e w2 ⟨u2, f2, he, -, -, t2⟩; rw [Hc.out] at he; subst he; have Y9 := Y1.keep t2; have g0 := Y9.cell 0 rfl; have g1 := Y9.cell 1 rfl; have g2 := Y9.cell 2 rfl; have g3 := Y9.cell 3 rfl; have p0 := Y9.frozen 0; have p1 := Y9.frozen 1; have p2 := Y9.frozen 2; have p3 := Y9.frozen 3)
        | fail "no arm")
      have K2 : Only [] w w2 := (by with_reducible repeat (first | exact Only.refl _ _ | assumption | refine Only.drewN ?_ _ | refine Only.drew ?_ | refine Only.alloc ?_ _ | refine Only.setCell ?_ (by intro hh; exfalso; simp at hh; try omega) _ | refine Only.trans ?_ (by assumption)))
      have Yf := (((Y9.set 0 (.int .i64 0)).set 1 (.slice none 0 0)).set 2 (.slice none 0 0)).set 3 (.slice none 0 0)
      have kf : Only [w.heap.size + 1] w2 ((((w2.setCell ⟨w.heap.size + 1, 0, none⟩ (.int .i64 0)).setCell ⟨w.heap.size + 1, 1, none⟩ (.slice none 0 0)).setCell ⟨w.heap.size + 1, 2, none⟩ (.slice none 0 0)).setCell ⟨w.heap.size + 1, 3, none⟩ (.slice none 0 0)) := ((((Only.refl _ _).setCell (by simp) _).setCell (by simp) _).setCell (by simp) _).setCell (by simp) _
      obtain ⟨wf, hwf⟩ : ∃ wf, wf = ((((w2.setCell ⟨w.heap.size + 1, 0, none⟩ (.int .i64 0)).setCell ⟨w.heap.size + 1, 1, none⟩ (.slice none 0 0)).setCell ⟨w.heap.size + 1, 2, none⟩ (.slice none 0 0)).setCell ⟨w.heap.size + 1, 3, none⟩ (.slice none 0 0)) := ⟨_, rfl⟩
      rw [← hwf] at Yf kf ⊢
      simp only [List.set] at Yf
      clear hwf g0 g1 g2 g3 p0 p1 p2 p3
      have z0 := Yf.cell 0 rfl
      have z1 := Yf.cell 1 rfl
      have z2 := Yf.cell 2 rfl
      have z3 := Yf.cell 3 rfl
      refine bodyPost_ret (v := .tuple #[.agg #[.int .i64 0, .slice none 0 0, .slice none 0 0, .slice none 0 0], .bool false]) (by simp [results, Tryz.results9, go_sem, z0, z1, z2, z3]) rfl ⟨[.int .i64 0, .slice none 0 0, .slice none 0 0, .slice none 0 0], [], rfl, noCert_rep _, Fresh.nil _ _, K2.then_ kf (by simp)⟩
    · rw [hc] at hcat
      have Hn := Lib.hid hc
      have Hc := Lib.hid hcat
      clear hm hc hcat
      go_enter Tryz.func9, Tryz.ntmps9
      go_wp2_with (first
        | (go_at_call 31; (with_reducible refine (specSolveByMethod_any [.int .i64 x.points, .string x.names, v2] x _ _ goals _ _ s _ _ (Rp.keep h0 (by with_reducible repeat (first | exact Only.refl _ _ | assumption | refine Only.drewN ?_ _ | refine Only.drew ?_ | refine Only.alloc ?_ _ | refine Only.setCell ?_ (by intro hh; exfalso; simp at hh; try omega) _ | refine Only.trans ?_ (by assumption)))) (Rp.keep hg (by with_reducible repeat (first | exact Only.refl _ _ | assumption | refine Only.drewN ?_ _ | refine Only.drew ?_ | refine Only.alloc ?_ _ | refine Only.setCell ?_ (by intro hh; exfalso; simp at hh; try omega) _ | refine Only.trans ?_ (by assumption)))) (Rp.keep hs (by with_reducible repeat (first | exact Only.refl _ _ | assumption | refine Only.drewN ?_ _ | refine Only.drew ?_ | refine Only.alloc ?_ _ | refine Only.setCell ?_ (by intro hh; exfalso; simp at hh; try omega) _ | refine Only.trans ?_ (by assumption))))).mono ?_); rintro e w1 ⟨z, fz, he, rz, -, t1⟩; rw [Hm.out] at he rz; subst he; simp only [Option.getD] at rz; have Y1 := Y0.keep t1)
        | (go_at_call 32; (with_reducible refine (concatWords_any z ws fz _ rz (by omega)).mono ?_); rintro e w2 ⟨u2, f2, he, r2, -, t2⟩; rw [Hc.out] at he r2; subst he; simp only [Option.getD] at r2; have Y2 := Y1.keep t2)
        | (go_at_call 33; (with_reducible refine (specSolCert_rd u2 fl _ _ r2).mono ?_); rintro e w4 ⟨cs4, f4, rfl, r4, F4, t4⟩; have rr := id r4; obtain ⟨v1, v2, v3, e1, e2, e3, rfl, -, i1, s1, s2, s3⟩ := r4; simp only [List.cons_append, List.nil_append] at rr; obtain ⟨b1, k1, _, _, rfl, -, -⟩ := s1.open_; obtain ⟨b2, k2, _, _, rfl, -, -⟩ := s2.open_; obtain ⟨b3, k3, _, _, rfl, -, -⟩ := s3.open_; have Y9 := Y2.keep t4; have g0 := Y9.cell 0 rfl; have g1 := Y9.cell 1 rfl; have g2 := Y9.cell 2 rfl; have g3 := Y9.cell 3 rfl; have p0 := Y9.frozen 0; have p1 := Y9.frozen 1; have p2 := Y9.frozen 2; have p3 := Y9.frozen 3)
        | fail "no arm")
      have K4 : Only [] w w4 := (by with_reducible repeat (first | exact Only.refl _ _ | assumption | refine Only.drewN ?_ _ | refine Only.drew ?_ | refine Only.alloc ?_ _ | refine Only.setCell ?_ (by intro hh; exfalso; simp at hh; try omega) _ | refine Only.trans ?_ (by assumption)))
      have hz1 := t1.size
      have hz2 := t2.size
      simp at hz1
      have hFg : ∀ g ∈ f4, g ∉ [w.heap.size + 1] := fun g hg hm => by have := F4.ge g hg; simp at hm; omega
      have Yf := (((Y9.set 0 (.int .i64 (solCert fl).kind)).set 1 (.slice b1 (solCert fl).numbers.length k1)).set 2 (.slice b2 (solCert fl).words.length k2)).set 3 (.slice b3 (solCert fl).tables.length k3)
      have kf : Only [w.heap.size + 1] w4 ((((w4.setCell ⟨w.heap.size + 1, 0, none⟩ (.int .i64 (solCert fl).kind)).setCell ⟨w.heap.size + 1, 1, none⟩ (.slice b1 (solCert fl).numbers.length k1)).setCell ⟨w.heap.size + 1, 2, none⟩ (.slice b2 (solCert fl).words.length k2)).setCell ⟨w.heap.size + 1, 3, none⟩ (.slice b3 (solCert fl).tables.length k3)) := ((((Only.refl _ _).setCell (by simp) _).setCell (by simp) _).setCell (by simp) _).setCell (by simp) _
      obtain ⟨wf, hwf⟩ : ∃ wf, wf = ((((w4.setCell ⟨w.heap.size + 1, 0, none⟩ (.int .i64 (solCert fl).kind)).setCell ⟨w.heap.size + 1, 1, none⟩ (.slice b1 (solCert fl).numbers.length k1)).setCell ⟨w.heap.size + 1, 2, none⟩ (.slice b2 (solCert fl).words.length k2)).setCell ⟨w.heap.size + 1, 3, none⟩ (.slice b3 (solCert fl).tables.length k3)) := ⟨_, rfl⟩
      rw [← hwf] at Yf kf ⊢
      simp only [List.set] at Yf
      clear hwf g0 g1 g2 g3 p0 p1 p2 p3
      have z0 := Yf.cell 0 rfl
      have z1 := Yf.cell 1 rfl
      have z2 := Yf.cell 2 rfl
      have z3 := Yf.cell 3 rfl
      refine bodyPost_ret (v := .tuple #[.agg #[.int .i64 (solCert fl).kind, .slice b1 (solCert fl).numbers.length k1, .slice b2 (solCert fl).words.length k2, .slice b3 (solCert fl).tables.length k3], .bool true]) (by simp [results, Tryz.results9, go_sem, z0, z1, z2, z3]) rfl ⟨[.int .i64 (solCert fl).kind, .slice b1 (solCert fl).numbers.length k1, .slice b2 (solCert fl).words.length k2, .slice b3 (solCert fl).tables.length k3], f4, rfl, Rp.only rr kf hFg, (F4.mono (by omega)).only kf hFg, K4.then_ kf (by simp)⟩
end Go.Proofs.YtclhblofchfglaaGreat
