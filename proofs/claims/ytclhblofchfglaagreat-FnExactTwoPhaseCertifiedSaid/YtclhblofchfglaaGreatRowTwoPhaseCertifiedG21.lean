/- The words of both phases by the program (laws 46, 51, 57, 58). The certificate of the words of both phases, by the program (laws 46, 51, 57, 58). (Printed by mktwcert.py.) Whether the reference's search has found a state (laws 41, 46, 51, 57, 58). The words of both phases, by the reference (laws 46, 51, 57, 58). -/
import Derived.Test.YtclhblofchfglaaGreatRowTwoPhaseCertifiedG19
import Derived.Test.YtclhblofchfglaaGreatRowTwoPhaseCertifiedG20
import Derived.Test.YtclhblofchfglaaGreatRowTwoPhaseCertifiedG13
import Derived.Test.YtclhblofchfglaaGreatRowTwoPhaseCertifiedG11
namespace Go.Proofs.YtclhblofchfglaaGreat
open Go.RowKit
set_option maxRecDepth 10000

theorem twX_bad {x : Puzzle} {sub s : List Int} (h : ((expl x).isSome && trackB x.moves.length sub) = false) : twX x sub s = none := by
  unfold twX
  cases h1 : expl x with
  | none => rfl
  | some t =>
    cases expl (subP x sub) with
    | none => rfl
    | some ts =>
      rw [h1] at h
      have h2 : trackB x.moves.length sub = false := by simpa using h
      simp only
      rw [if_neg (by rw [h2]; simp)]
theorem twX_out {x : Puzzle} {sub s : List Int} (h : reachB x s = false) : twX x sub s = none := by
  unfold twX
  cases expl x with
  | none => rfl
  | some t =>
    cases expl (subP x sub) with
    | none => rfl
    | some ts =>
      simp only
      rw [if_neg (by rw [h]; simp)]
theorem twX_far {x : Puzzle} {t ts : Table} {sub s : List Int} (he : expl x = some t) (h2 : expl (subP x sub) = some ts) (h : ¬ (twN1 x t ts s ≤ 200 ∧ twN2 x t ts s ≤ 200)) : twX x sub s = none := by
  unfold twX
  rw [he, h2]
  simp only
  rw [if_neg h]
  simp
theorem twX_yes {x : Puzzle} {t ts : Table} {sub s : List Int} (he : expl x = some t) (ht : trackB x.moves.length sub = true) (h2 : expl (subP x sub) = some ts) (hr : reachB x s = true) (h : twN1 x t ts s ≤ 200 ∧ twN2 x t ts s ≤ 200) : twX x sub s = some (twW1 x t ts s, twW2 x sub t ts s) := by
  unfold twX
  rw [he, h2]
  simp only
  rw [if_pos (by rw [hr, ht]; rfl), if_pos h]
set_option maxHeartbeats 4000000 in
theorem implSolveTwoPhase_any (cs : List Value) (x : Puzzle) (fp : List Nat) (v : Value) (sub : List Int) (fs1 : List Nat) (u : Value) (s : List Int) (fs0 : List Nat) (w : World) (h : Rp.rep w cs x fp) (hg : Rd w v sub fs1) (hs : Rd w u s fs0) :
    Calls Tryz.prog 41 #[.agg cs.toArray, v, u] w fun e w' => ∃ z1 z2 f1 f2, e = .returned (.tuple #[z1, z2, .bool (twX x sub s).isSome]) ∧ Rd w' z1 ((twX x sub s).getD ([], [])).1 f1 ∧ Rd w' z2 ((twX x sub s).getD ([], [])).2 f2 ∧ Only [] w w' := by
  have h0 := h
  obtain ⟨v2, rfl, p0, p1, h3⟩ := h
  clear p0 p1 h3
  rcases hb : ((expl x).isSome && trackB x.moves.length sub)
  · have Hn := Lib.hid (twX_bad (s := s) hb)
    have Hb := Lib.hid hb
    clear hb
    go_enter Tryz.func41, Tryz.ntmps41
    go_wp2_with (first
      | (go_at_call 77; (with_reducible refine (phasesOf_bad [.int .i64 x.points, .string x.names, v2] x _ _ sub _ u _ (Rp.keep h0 (by with_reducible repeat (first | exact Only.refl _ _ | assumption | refine Only.drewN ?_ _ | refine Only.drew ?_ | refine Only.alloc ?_ _ | refine Only.setCell ?_ (by intro hh; exfalso; simp at hh; try omega) _ | refine Only.trans ?_ (by assumption)))) (Rp.keep hg (by with_reducible repeat (first | exact Only.refl _ _ | assumption | refine Only.drewN ?_ _ | refine Only.drew ?_ | refine Only.alloc ?_ _ | refine Only.setCell ?_ (by intro hh; exfalso; simp at hh; try omega) _ | refine Only.trans ?_ (by assumption)))) Hb.out).mono ?_); rintro e w1 ⟨rfl, t1⟩)
      | fail "no arm")
    exact bodyPost_ret (v := .tuple #[.slice none 0 0, .slice none 0 0, .bool false]) (by simp [results, Tryz.results41, go_sem]) rfl ⟨.slice none 0 0, .slice none 0 0, [], [], by rw [Hn.out]; rfl, by rw [Hn.out]; exact nil_rd _, by rw [Hn.out]; exact nil_rd _, (by with_reducible repeat (first | exact Only.refl _ _ | assumption | refine Only.drewN ?_ _ | refine Only.drew ?_ | refine Only.alloc ?_ _ | refine Only.setCell ?_ (by intro hh; exfalso; simp at hh; try omega) _ | refine Only.trans ?_ (by assumption)))⟩
  rw [Bool.and_eq_true] at hb
  obtain ⟨he', ht⟩ := hb
  obtain ⟨t, he⟩ := Option.isSome_iff_exists.1 he'
  clear he'
  obtain ⟨hbu, -⟩ := expl_built he
  have hv := hbu.v
  obtain ⟨ts, h2⟩ := sub_expl hv ht he
  have He := Lib.hid he
  have Ht := Lib.hid ht
  have H2 := Lib.hid h2
  rcases hr : reachB x s
  · have Hn := Lib.hid (twX_out (sub := sub) hr)
    have hm : s ∉ t.patterns := fun hm => by rw [(expl_reach he).1 hm] at hr; cases hr
    have Hm := Lib.hid hm
    clear he hr hm ht h2 hbu hv
    go_enter Tryz.func41, Tryz.ntmps41
    go_wp2_with (first
      | (go_at_call 77; (with_reducible refine (phasesOf_no [.int .i64 x.points, .string x.names, v2] x t ts _ _ sub _ u s _ _ (Rp.keep h0 (by with_reducible repeat (first | exact Only.refl _ _ | assumption | refine Only.drewN ?_ _ | refine Only.drew ?_ | refine Only.alloc ?_ _ | refine Only.setCell ?_ (by intro hh; exfalso; simp at hh; try omega) _ | refine Only.trans ?_ (by assumption)))) (Rp.keep hg (by with_reducible repeat (first | exact Only.refl _ _ | assumption | refine Only.drewN ?_ _ | refine Only.drew ?_ | refine Only.alloc ?_ _ | refine Only.setCell ?_ (by intro hh; exfalso; simp at hh; try omega) _ | refine Only.trans ?_ (by assumption)))) (Rp.keep hs (by with_reducible repeat (first | exact Only.refl _ _ | assumption | refine Only.drewN ?_ _ | refine Only.drew ?_ | refine Only.alloc ?_ _ | refine Only.setCell ?_ (by intro hh; exfalso; simp at hh; try omega) _ | refine Only.trans ?_ (by assumption)))) He.out Ht.out H2.out Hm.out).mono ?_); rintro e w1 ⟨⟨z, rfl⟩, t1⟩)
      | fail "no arm")
    exact bodyPost_ret (v := .tuple #[.slice none 0 0, .slice none 0 0, .bool false]) (by simp [results, Tryz.results41, go_sem]) rfl ⟨.slice none 0 0, .slice none 0 0, [], [], by rw [Hn.out]; rfl, by rw [Hn.out]; exact nil_rd _, by rw [Hn.out]; exact nil_rd _, (by with_reducible repeat (first | exact Only.refl _ _ | assumption | refine Only.drewN ?_ _ | refine Only.drew ?_ | refine Only.alloc ?_ _ | refine Only.setCell ?_ (by intro hh; exfalso; simp at hh; try omega) _ | refine Only.trans ?_ (by assumption)))⟩
  obtain ⟨i0, hi0, hp0⟩ := List.getElem_of_mem ((expl_reach he).2 hr)
  have e1 : t.patterns.getD i0 [] = s := by rw [getD_get hi0, hp0]
  obtain ⟨k1, -, i2, j2, k2, k3, k4, k5, k6, k7, k8, -⟩ := tw_facts he ht h2 hi0
  rw [e1] at k1 k3 k6 k7 k8
  have E1 := Lib.hid e1
  have h0s : subS ts t.tracked = true := subS_start he h2
  have hlD : (mD x t (subS ts)).length = t.patterns.length := (mD_F hbu).dl
  have hDs : ∀ (gh ge : Nat) (W0 : World), Phs W0 x t ts sub (.pointer (some ⟨gh, 0, none⟩)) → Exp W0 x t (.pointer (some ⟨ge, 0, none⟩)) → ∀ W, Only [] W0 W → Calls Tryz.prog 78 #[.pointer (some ⟨ge, 0, none⟩), .func (.func 79) #[.pointer (some ⟨gh, 0, none⟩)] #[]] W fun e w' => ∃ u, e = .returned u ∧ AccI W.heap.size 2 w' u (mD x t (subS ts)) ∧ Only [] W w' := fun gh ge W0 hP hE W hW =>
    distancesTo_any x t (.pointer (some ⟨ge, 0, none⟩)) 79 #[.pointer (some ⟨gh, 0, none⟩)] #[] (subS ts) W (hE.keep hW) He.out Tryz.call79 (fun i hi W' hW' => by
      simpa using isIn_any x t ts sub (.pointer (some ⟨gh, 0, none⟩)) i W' (hP.keep (hW.trans hW')) H2.out hi)
  have HDs := Lib.hid hDs
  clear hDs
  by_cases hN1 : twN1 x t ts s ≤ 200
  · have hD1 : ∀ (ge : Nat) (W : World) (u3 : Value) (B : Nat), Exp W x t (.pointer (some ⟨ge, 0, none⟩)) → AccI B 2 W u3 (mD x t (subS ts)) → Calls Tryz.prog 66 #[.pointer (some ⟨ge, 0, none⟩), u3, .int .i64 i0] W fun e w' => ∃ (u : Value) (f : List Nat) (j : Nat), e = .returned (.tuple #[u, .int .i64 j, .bool true]) ∧ Rd w' u (twW1 x t ts s) f ∧ j < t.patterns.length ∧ t.patterns.getD j [] = twS1 x t ts s ∧ Only [] W w' := fun ge W u3 B hE hA =>
      (descend_yes x t _ u3 (subS ts) _ i0 (twN1 x t ts s) W hE He.out h0s hA.rd hi0 k1 hN1).mono (fun e w' hh => by
        obtain ⟨u, j', h1, h2, h3, h4, -, h6⟩ := hh
        rw [E1.out] at h2 h4
        exact ⟨u, _, j', h1, h2.rd, h3, h4, h6⟩)
    have HD1 := Lib.hid hD1
    by_cases hN2 : twN2 x t ts s ≤ 200
    · have Hn := Lib.hid (twX_yes he ht h2 hr ⟨hN1, hN2⟩)
      have hP2 : ∀ (gh j : Nat) (W : World), Phs W x t ts sub (.pointer (some ⟨gh, 0, none⟩)) → j < t.patterns.length → t.patterns.getD j [] = twS1 x t ts s → Calls Tryz.prog 80 #[.pointer (some ⟨gh, 0, none⟩), .int .i64 j] W fun e w' => ∃ u f, e = .returned (.tuple #[u, .bool true]) ∧ Rd w' u (twW2 x sub t ts s) f ∧ Only [] W w' := fun gh j W hP hj hjs =>
        (phaseTwo_any x t ts sub _ j j2 (twN2 x t ts s) W hP hv Ht.out H2.out hj k5 (k6.trans hjs.symm) k7 hN2 (by rw [hjs]; exact k8)).mono (fun e w' hh => by
          obtain ⟨u, f, h1, h2, -, h6⟩ := hh
          rw [hjs] at h2
          exact ⟨u, f, h1, h2, h6⟩)
      have HP2 := Lib.hid hP2
      obtain ⟨W1, hW1⟩ : ∃ W1, W1 = twW1 x t ts s := ⟨_, rfl⟩
      obtain ⟨W2, hW2⟩ : ∃ W2, W2 = twW2 x sub t ts s := ⟨_, rfl⟩
      obtain ⟨S1, hS1⟩ : ∃ S1, S1 = twS1 x t ts s := ⟨_, rfl⟩
      rw [← hW1] at HD1 Hn
      rw [← hW2] at HP2 Hn
      rw [← hS1] at HD1 HP2
      obtain ⟨D, hD⟩ : ∃ D, D = mD x t (subS ts) := ⟨_, rfl⟩
      rw [← hD] at HDs HD1
      clear he hr ht h2 hbu hv hp0 e1 k1 k2 k3 k4 k5 k6 k7 k8 h0s hlD hD1 hP2 hW1 hW2 hS1 hD hN1 hN2
      go_enter Tryz.func41, Tryz.ntmps41
      go_upto_region 4 with (first
        | (go_at_call 77; (with_reducible refine (phasesOf_yes [.int .i64 x.points, .string x.names, v2] x t ts _ _ sub _ u s _ i0 _ (Rp.keep h0 (by with_reducible repeat (first | exact Only.refl _ _ | assumption | refine Only.drewN ?_ _ | refine Only.drew ?_ | refine Only.alloc ?_ _ | refine Only.setCell ?_ (by intro hh; exfalso; simp at hh; try omega) _ | refine Only.trans ?_ (by assumption)))) (Rp.keep hg (by with_reducible repeat (first | exact Only.refl _ _ | assumption | refine Only.drewN ?_ _ | refine Only.drew ?_ | refine Only.alloc ?_ _ | refine Only.setCell ?_ (by intro hh; exfalso; simp at hh; try omega) _ | refine Only.trans ?_ (by assumption)))) (Rp.keep hs (by with_reducible repeat (first | exact Only.refl _ _ | assumption | refine Only.drewN ?_ _ | refine Only.drew ?_ | refine Only.alloc ?_ _ | refine Only.setCell ?_ (by intro hh; exfalso; simp at hh; try omega) _ | refine Only.trans ?_ (by assumption)))) He.out Ht.out H2.out hi0 E1.out).mono ?_); rintro e w1 ⟨z, rfl, hP, t1⟩; obtain ⟨gh, ge, gs, vsub, f, rfl, hB, hE, -, -⟩ := hP.fst; have x0 := hB.cell 0 rfl; have K1 : Only [] w w1 := (by with_reducible repeat (first | exact Only.refl _ _ | assumption | refine Only.drewN ?_ _ | refine Only.drew ?_ | refine Only.alloc ?_ _ | refine Only.setCell ?_ (by intro hh; exfalso; simp at hh; try omega) _ | refine Only.trans ?_ (by assumption))))
        | fail "no arm")
      go_region_held3 (fun w' => Only [] w1 w' ∧ w'.cell? ⟨gh, 0, none⟩ = some (.pointer (some ⟨ge, 0, none⟩))) (((refine and_of ?_ (fun h__ => h__.cell (by simp) x0)); first | exact (Only.refl _ _).drew | exact ((Only.refl _ _).drewN _).drew | exact Only.trans (And.left (by assumption)) (by assumption) | exact Only.alloc (And.left (by assumption)) _ | assumption)) (first | (go_at_call 78; (with_reducible refine (HDs.out gh ge w1 hP hE _ (And.left (by assumption))).mono ?_); rintro e w5 ⟨u5, rfl, A5, t5⟩) | (go_at_call 66; (with_reducible refine (HD1.out ge _ _ _ (hE.keep (And.left (by assumption))) (A5.keep (by with_reducible repeat (first | exact Only.refl _ _ | assumption | refine Only.drewN ?_ _ | refine Only.drew ?_ | refine Only.alloc ?_ _ | refine Only.setCell ?_ (by intro hh; exfalso; simp at hh; try omega) _ | refine Only.trans ?_ (by assumption))))).mono ?_); rintro e w6 ⟨u6, f6, j6, rfl, r6, l6, s6, t6⟩) | fail "no arm")
      have k6 : Only [] w1 w6 := (Only.refl [] w1).trans (And.left (by assumption))
      go_wp2_with (first
        | (go_at_call 80; (with_reducible refine (HP2.out gh j6 _ (hP.keep k6) l6 s6).mono ?_); rintro e w7 ⟨u7, f7, rfl, r7, t7⟩)
        | fail "no arm")
      exact bodyPost_ret (v := .tuple #[u6, u7, .bool true]) (by simp [results, Tryz.results41, go_sem]) rfl ⟨u6, u7, f6, f7, by rw [Hn.out]; rfl, by rw [Hn.out]; exact Rp.keep r6 t7, by rw [Hn.out]; exact r7, (K1.trans k6).trans t7⟩
    · have Hn := Lib.hid (twX_far (s := s) he h2 (fun hh => hN2 hh.2))
      have hP2 : ∀ (gh j : Nat) (W : World), Phs W x t ts sub (.pointer (some ⟨gh, 0, none⟩)) → j < t.patterns.length → t.patterns.getD j [] = twS1 x t ts s → Calls Tryz.prog 80 #[.pointer (some ⟨gh, 0, none⟩), .int .i64 j] W fun e w' => e = .returned (.tuple #[.slice none 0 0, .bool false]) ∧ Only [] W w' := fun gh j W hP hj hjs =>
        phaseTwo_far x t ts sub _ j j2 W hP H2.out hj k5 (k6.trans hjs.symm) (by rw [k7]; omega)
      have HP2 := Lib.hid hP2
      obtain ⟨S1, hS1⟩ : ∃ S1, S1 = twS1 x t ts s := ⟨_, rfl⟩
      rw [← hS1] at HD1 HP2
      obtain ⟨W1, hW1⟩ : ∃ W1, W1 = twW1 x t ts s := ⟨_, rfl⟩
      rw [← hW1] at HD1
      obtain ⟨D, hD⟩ : ∃ D, D = mD x t (subS ts) := ⟨_, rfl⟩
      rw [← hD] at HDs HD1
      clear he hr ht h2 hbu hv hp0 e1 k1 k2 k3 k4 k5 k6 k7 k8 h0s hlD hD1 hP2 hW1 hS1 hD hN1 hN2
      go_enter Tryz.func41, Tryz.ntmps41
      go_upto_region 4 with (first
        | (go_at_call 77; (with_reducible refine (phasesOf_yes [.int .i64 x.points, .string x.names, v2] x t ts _ _ sub _ u s _ i0 _ (Rp.keep h0 (by with_reducible repeat (first | exact Only.refl _ _ | assumption | refine Only.drewN ?_ _ | refine Only.drew ?_ | refine Only.alloc ?_ _ | refine Only.setCell ?_ (by intro hh; exfalso; simp at hh; try omega) _ | refine Only.trans ?_ (by assumption)))) (Rp.keep hg (by with_reducible repeat (first | exact Only.refl _ _ | assumption | refine Only.drewN ?_ _ | refine Only.drew ?_ | refine Only.alloc ?_ _ | refine Only.setCell ?_ (by intro hh; exfalso; simp at hh; try omega) _ | refine Only.trans ?_ (by assumption)))) (Rp.keep hs (by with_reducible repeat (first | exact Only.refl _ _ | assumption | refine Only.drewN ?_ _ | refine Only.drew ?_ | refine Only.alloc ?_ _ | refine Only.setCell ?_ (by intro hh; exfalso; simp at hh; try omega) _ | refine Only.trans ?_ (by assumption)))) He.out Ht.out H2.out hi0 E1.out).mono ?_); rintro e w1 ⟨z, rfl, hP, t1⟩; obtain ⟨gh, ge, gs, vsub, f, rfl, hB, hE, -, -⟩ := hP.fst; have x0 := hB.cell 0 rfl; have K1 : Only [] w w1 := (by with_reducible repeat (first | exact Only.refl _ _ | assumption | refine Only.drewN ?_ _ | refine Only.drew ?_ | refine Only.alloc ?_ _ | refine Only.setCell ?_ (by intro hh; exfalso; simp at hh; try omega) _ | refine Only.trans ?_ (by assumption))))
        | fail "no arm")
      go_region_held3 (fun w' => Only [] w1 w' ∧ w'.cell? ⟨gh, 0, none⟩ = some (.pointer (some ⟨ge, 0, none⟩))) (((refine and_of ?_ (fun h__ => h__.cell (by simp) x0)); first | exact (Only.refl _ _).drew | exact ((Only.refl _ _).drewN _).drew | exact Only.trans (And.left (by assumption)) (by assumption) | exact Only.alloc (And.left (by assumption)) _ | assumption)) (first | (go_at_call 78; (with_reducible refine (HDs.out gh ge w1 hP hE _ (And.left (by assumption))).mono ?_); rintro e w5 ⟨u5, rfl, A5, t5⟩) | (go_at_call 66; (with_reducible refine (HD1.out ge _ _ _ (hE.keep (And.left (by assumption))) (A5.keep (by with_reducible repeat (first | exact Only.refl _ _ | assumption | refine Only.drewN ?_ _ | refine Only.drew ?_ | refine Only.alloc ?_ _ | refine Only.setCell ?_ (by intro hh; exfalso; simp at hh; try omega) _ | refine Only.trans ?_ (by assumption))))).mono ?_); rintro e w6 ⟨u6, f6, j6, rfl, r6, l6, s6, t6⟩) | fail "no arm")
      have k6 : Only [] w1 w6 := (Only.refl [] w1).trans (And.left (by assumption))
      go_wp2_with (first
        | (go_at_call 80; (with_reducible refine (HP2.out gh j6 _ (hP.keep k6) l6 s6).mono ?_); rintro e w7 ⟨rfl, t7⟩)
        | fail "no arm")
      exact bodyPost_ret (v := .tuple #[.slice none 0 0, .slice none 0 0, .bool false]) (by simp [results, Tryz.results41, go_sem]) rfl ⟨.slice none 0 0, .slice none 0 0, [], [], by rw [Hn.out]; rfl, by rw [Hn.out]; exact nil_rd _, by rw [Hn.out]; exact nil_rd _, (K1.trans k6).trans t7⟩
  · have Hn := Lib.hid (twX_far (s := s) he h2 (fun hh => hN1 hh.1))
    have hD1 : ∀ (ge : Nat) (W : World) (u3 : Value) (B : Nat), AccI B 2 W u3 (mD x t (subS ts)) → Calls Tryz.prog 66 #[.pointer (some ⟨ge, 0, none⟩), u3, .int .i64 i0] W fun e w' => e = .returned (.tuple #[.slice none 0 0, .int .i64 0, .bool false]) ∧ Only [] W w' := fun ge W u3 B hA => descend_far _ u3 _ _ i0 W hA.rd (by omega) (by rw [k1]; omega)
    have HD1 := Lib.hid hD1
    obtain ⟨D, hD⟩ : ∃ D, D = mD x t (subS ts) := ⟨_, rfl⟩
    rw [← hD] at HDs HD1
    clear he hr ht h2 hbu hv hp0 e1 k1 k2 k3 k4 k5 k6 k7 k8 h0s hlD hD1 hD hN1
    go_enter Tryz.func41, Tryz.ntmps41
    go_upto_region 4 with (first
      | (go_at_call 77; (with_reducible refine (phasesOf_yes [.int .i64 x.points, .string x.names, v2] x t ts _ _ sub _ u s _ i0 _ (Rp.keep h0 (by with_reducible repeat (first | exact Only.refl _ _ | assumption | refine Only.drewN ?_ _ | refine Only.drew ?_ | refine Only.alloc ?_ _ | refine Only.setCell ?_ (by intro hh; exfalso; simp at hh; try omega) _ | refine Only.trans ?_ (by assumption)))) (Rp.keep hg (by with_reducible repeat (first | exact Only.refl _ _ | assumption | refine Only.drewN ?_ _ | refine Only.drew ?_ | refine Only.alloc ?_ _ | refine Only.setCell ?_ (by intro hh; exfalso; simp at hh; try omega) _ | refine Only.trans ?_ (by assumption)))) (Rp.keep hs (by with_reducible repeat (first | exact Only.refl _ _ | assumption | refine Only.drewN ?_ _ | refine Only.drew ?_ | refine Only.alloc ?_ _ | refine Only.setCell ?_ (by intro hh; exfalso; simp at hh; try omega) _ | refine Only.trans ?_ (by assumption)))) He.out Ht.out H2.out hi0 E1.out).mono ?_); rintro e w1 ⟨z, rfl, hP, t1⟩; obtain ⟨gh, ge, gs, vsub, f, rfl, hB, hE, -, -⟩ := hP.fst; have x0 := hB.cell 0 rfl; have K1 : Only [] w w1 := (by with_reducible repeat (first | exact Only.refl _ _ | assumption | refine Only.drewN ?_ _ | refine Only.drew ?_ | refine Only.alloc ?_ _ | refine Only.setCell ?_ (by intro hh; exfalso; simp at hh; try omega) _ | refine Only.trans ?_ (by assumption))))
      | fail "no arm")
    go_region_held3 (fun w' => Only [] w1 w' ∧ w'.cell? ⟨gh, 0, none⟩ = some (.pointer (some ⟨ge, 0, none⟩))) (((refine and_of ?_ (fun h__ => h__.cell (by simp) x0)); first | exact (Only.refl _ _).drew | exact ((Only.refl _ _).drewN _).drew | exact Only.trans (And.left (by assumption)) (by assumption) | exact Only.alloc (And.left (by assumption)) _ | assumption)) (first | (go_at_call 78; (with_reducible refine (HDs.out gh ge w1 hP hE _ (And.left (by assumption))).mono ?_); rintro e w5 ⟨u5, rfl, A5, t5⟩) | (go_at_call 66; (with_reducible refine (HD1.out ge _ _ _ (A5.keep (by with_reducible repeat (first | exact Only.refl _ _ | assumption | refine Only.drewN ?_ _ | refine Only.drew ?_ | refine Only.alloc ?_ _ | refine Only.setCell ?_ (by intro hh; exfalso; simp at hh; try omega) _ | refine Only.trans ?_ (by assumption))))).mono ?_); rintro e w6 ⟨rfl, t6⟩) | fail "no arm")
    have k6 : Only [] w1 w6 := (Only.refl [] w1).trans (And.left (by assumption))
    go_wp2
    exact bodyPost_ret (v := .tuple #[.slice none 0 0, .slice none 0 0, .bool false]) (by simp [results, Tryz.results41, go_sem]) rfl ⟨.slice none 0 0, .slice none 0 0, [], [], by rw [Hn.out]; rfl, by rw [Hn.out]; exact nil_rd _, by rw [Hn.out]; exact nil_rd _, K1.trans k6⟩
end Go.Proofs.YtclhblofchfglaaGreat

namespace Go.Proofs.YtclhblofchfglaaGreat
open Go.RowKit
set_option maxRecDepth 10000

theorem twX_len {x : Puzzle} {sub s : List Int} {p : List Int × List Int} (h : twX x sub s = some p) : p.1.length ≤ 200 ∧ p.2.length ≤ 200 := by
  unfold twX at h
  cases he : expl x with
  | none => rw [he] at h; cases h
  | some t =>
    cases h2 : expl (subP x sub) with
    | none => rw [he, h2] at h; cases h
    | some ts =>
      rw [he, h2] at h
      simp only at h
      split at h
      · split at h
        · rename_i hl
          injection h with h
          subst h
          exact ⟨by rw [twW1_len]; exact hl.1, by rw [twW2_len]; exact hl.2⟩
        · cases h
      · cases h
theorem twC_none {x : Puzzle} {sub s : List Int} (h : twX x sub s = none) : twC x sub s = none := by unfold twC; rw [h]; rfl
theorem twC_some {x : Puzzle} {sub s : List Int} {p : List Int × List Int} (h : twX x sub s = some p) : twC x sub s = shortW [p.1, p.2].flatten := by unfold twC; rw [h]; simp [shortW]
/-- a slice of two slices -/
theorem two_rows {w : World} {u1 u2 : Value} {l1 l2 : List Int} {f1 f2 : List Nat} (h1 : Rd w u1 l1 f1) (h2 : Rd w u2 l2 f2) (e : TypeId) {g : Nat} (hg : g = w.heap.size) : Rd (w.alloc (.cells #[u1, u2] e)) (.slice (some ⟨g, 0, none⟩) 2 2) [l1, l2] ([g] ++ [f1, f2].flatten) := by
  have k : Only [] w (w.alloc (.cells #[u1, u2] e)) := (Only.refl _ _).alloc _
  subst hg
  refine ⟨some ⟨w.heap.size, 0, none⟩, 2, [w.heap.size], [f1, f2], rfl, rfl, ⟨by simp, by simp [maxLen], rfl, fun i hi => ?_, fun b hb => by simp at hb; subst hb; simp, by simp⟩⟩
  match i, hi with
  | 0, _ => exact ⟨w.heap.size, 0, [u1], rfl, rfl, fun j u hu => by
      cases j with
      | zero => simp at hu; subst hu; exact (Blk.new w [u1, u2] e).cell 0 rfl
      | succ j => simp at hu, Rp.keep h1 k⟩
  | 1, _ => exact ⟨w.heap.size, 0, [u2], rfl, rfl, fun j u hu => by
      cases j with
      | zero => simp at hu; subst hu; exact (Blk.new w [u1, u2] e).cell 1 rfl
      | succ j => simp at hu, Rp.keep h2 k⟩
set_option maxHeartbeats 4000000 in
theorem implTwoPhaseCert_any (cs : List Value) (x : Puzzle) (fp : List Nat) (v : Value) (sub : List Int) (fg : List Nat) (u : Value) (s : List Int) (fs0 : List Nat) (w : World) (h : Rp.rep w cs x fp) (hg : Rd w v sub fg) (hs : Rd w u s fs0) :
    Calls Tryz.prog 24 #[.agg cs.toArray, v, u] w fun e w' => ∃ cs' fp', e = .returned (.tuple #[.agg (List.toArray cs'), .bool (twC x sub s).isSome]) ∧ Rp.rep w' cs' (wCert (twC x sub s)) fp' ∧ Fresh w.heap.size w' fp' ∧ Only [] w w' := by
  have h0 := h
  obtain ⟨v2, rfl, p0, p1, h2⟩ := h
  clear p0 p1 h2
  have Y0 : Blk ((w.alloc (.cells #[.int .i64 x.points, .string x.names, v2] 33)).alloc (.cells #[.int .i64 0, .slice none 0 0, .slice none 0 0, .slice none 0 0] 30)) (w.heap.size + 1) [.int .i64 0, .slice none 0 0, .slice none 0 0, .slice none 0 0] := Blk.new_at (by simp)
  have X0 : Blk ((w.alloc (.cells #[.int .i64 x.points, .string x.names, v2] 33)).alloc (.cells #[.int .i64 0, .slice none 0 0, .slice none 0 0, .slice none 0 0] 30)) w.heap.size [.int .i64 x.points, .string x.names, v2] := (Blk.new w [.int .i64 x.points, .string x.names, v2] 33).keep ((Only.refl _ _).alloc _)
  have x0 := X0.cell 0 rfl
  have x1 := X0.cell 1 rfl
  have x2 := X0.cell 2 rfl
  rcases hm : twX x sub s with _ | p
  · have Hn := Lib.hid (twC_none hm)
    have Hm := Lib.hid hm
    clear hm
    go_enter Tryz.func24, Tryz.ntmps24
    go_wp2_with (first
      | (go_at_call 41; (with_reducible refine (implSolveTwoPhase_any [.int .i64 x.points, .string x.names, v2] x _ _ sub _ _ s _ _ (Rp.keep h0 (by with_reducible repeat (first | exact Only.refl _ _ | assumption | refine Only.drewN ?_ _ | refine Only.drew ?_ | refine Only.alloc ?_ _ | refine Only.setCell ?_ (by intro hh; exfalso; simp at hh; try omega) _ | refine Only.trans ?_ (by assumption)))) (Rp.keep hg (by with_reducible repeat (first | exact Only.refl _ _ | assumption | refine Only.drewN ?_ _ | refine Only.drew ?_ | refine Only.alloc ?_ _ | refine Only.setCell ?_ (by intro hh; exfalso; simp at hh; try omega) _ | refine Only.trans ?_ (by assumption)))) (Rp.keep hs (by with_reducible repeat (first | exact Only.refl _ _ | assumption | refine Only.drewN ?_ _ | refine Only.drew ?_ | refine Only.alloc ?_ _ | refine Only.setCell ?_ (by intro hh; exfalso; simp at hh; try omega) _ | refine Only.trans ?_ (by assumption))))).mono ?_); rintro e w1 ⟨z1, z2, q1, q2, he, -, -, t1⟩; rw [Hm.out] at he; subst he; have Y9 := Y0.keep t1; have g0 := Y9.cell 0 rfl; have g1 := Y9.cell 1 rfl; have g2 := Y9.cell 2 rfl; have g3 := Y9.cell 3 rfl; have p0 := Y9.frozen 0; have p1 := Y9.frozen 1; have p2 := Y9.frozen 2; have p3 := Y9.frozen 3)
      | fail "no arm")
    have K2 : Only [] w w1 := (by with_reducible repeat (first | exact Only.refl _ _ | assumption | refine Only.drewN ?_ _ | refine Only.drew ?_ | refine Only.alloc ?_ _ | refine Only.setCell ?_ (by intro hh; exfalso; simp at hh; try omega) _ | refine Only.trans ?_ (by assumption)))
    have Yf := (((Y9.set 0 (.int .i64 0)).set 1 (.slice none 0 0)).set 2 (.slice none 0 0)).set 3 (.slice none 0 0)
    have kf : Only [w.heap.size + 1] w1 ((((w1.setCell ⟨w.heap.size + 1, 0, none⟩ (.int .i64 0)).setCell ⟨w.heap.size + 1, 1, none⟩ (.slice none 0 0)).setCell ⟨w.heap.size + 1, 2, none⟩ (.slice none 0 0)).setCell ⟨w.heap.size + 1, 3, none⟩ (.slice none 0 0)) := ((((Only.refl _ _).setCell (by simp) _).setCell (by simp) _).setCell (by simp) _).setCell (by simp) _
    obtain ⟨wf, hwf⟩ : ∃ wf, wf = ((((w1.setCell ⟨w.heap.size + 1, 0, none⟩ (.int .i64 0)).setCell ⟨w.heap.size + 1, 1, none⟩ (.slice none 0 0)).setCell ⟨w.heap.size + 1, 2, none⟩ (.slice none 0 0)).setCell ⟨w.heap.size + 1, 3, none⟩ (.slice none 0 0)) := ⟨_, rfl⟩
    rw [← hwf] at Yf kf ⊢
    simp only [List.set] at Yf
    clear hwf g0 g1 g2 g3 p0 p1 p2 p3
    have z0 := Yf.cell 0 rfl
    have z1 := Yf.cell 1 rfl
    have z2 := Yf.cell 2 rfl
    have z3 := Yf.cell 3 rfl
    refine bodyPost_ret (v := .tuple #[.agg #[.int .i64 0, .slice none 0 0, .slice none 0 0, .slice none 0 0], .bool false]) (by simp [results, Tryz.results24, go_sem, z0, z1, z2, z3]) rfl ⟨[.int .i64 0, .slice none 0 0, .slice none 0 0, .slice none 0 0], [], by rw [Hn.out]; rfl, by rw [Hn.out]; exact noCert_rep _, Fresh.nil _ _, K2.then_ kf (by simp)⟩
  · have Hn := Lib.hid (twC_some hm)
    have Hl := Lib.hid (twX_len hm)
    have Hm := Lib.hid hm
    obtain ⟨W1, W2⟩ := p
    have hfl : [W1, W2].flatten.length ≤ 400 := by have := Hl.out; simp at this ⊢; omega
    clear hm
    obtain ⟨o, ho⟩ : ∃ o, o = shortW [W1, W2].flatten := ⟨_, rfl⟩
    rw [← ho] at Hn
    have Ho := Lib.hid ho
    have Hfl := Lib.hid hfl
    clear ho hfl
    go_enter Tryz.func24, Tryz.ntmps24
    go_wp2_with (first
      | (go_at_call 41; (with_reducible refine (implSolveTwoPhase_any [.int .i64 x.points, .string x.names, v2] x _ _ sub _ _ s _ _ (Rp.keep h0 (by with_reducible repeat (first | exact Only.refl _ _ | assumption | refine Only.drewN ?_ _ | refine Only.drew ?_ | refine Only.alloc ?_ _ | refine Only.setCell ?_ (by intro hh; exfalso; simp at hh; try omega) _ | refine Only.trans ?_ (by assumption)))) (Rp.keep hg (by with_reducible repeat (first | exact Only.refl _ _ | assumption | refine Only.drewN ?_ _ | refine Only.drew ?_ | refine Only.alloc ?_ _ | refine Only.setCell ?_ (by intro hh; exfalso; simp at hh; try omega) _ | refine Only.trans ?_ (by assumption)))) (Rp.keep hs (by with_reducible repeat (first | exact Only.refl _ _ | assumption | refine Only.drewN ?_ _ | refine Only.drew ?_ | refine Only.alloc ?_ _ | refine Only.setCell ?_ (by intro hh; exfalso; simp at hh; try omega) _ | refine Only.trans ?_ (by assumption))))).mono ?_); rintro e w1 ⟨z1, z2, q1, q2, he, r1, r2, t1⟩; rw [Hm.out] at he r1 r2; subst he; simp only [Option.getD] at r1 r2; obtain ⟨a1, c1, rfl, i1⟩ := r1.ints; obtain ⟨a2, c2, rfl, i2⟩ := r2.ints; have Y1 := Y0.keep t1; have rz := two_rows r1 r2 25 rfl; have ka : Only [] w1 (w1.alloc (.cells #[.slice a1 W1.length c1, .slice a2 W2.length c2] 25)) := (Only.refl _ _).alloc _)
      | (go_at_call 35; (with_reducible refine (solutionOf_any _ [W1, W2] _ _ rz (by have := Hfl.out; omega)).mono ?_); rintro e w4 ⟨cs4, f4, he, r4, F4, t4⟩; rw [← Ho.out] at he r4; subst he; have rr := id r4; obtain ⟨v1, v2, v3, e1, e2, e3, rfl, -, i1, s1, s2, s3⟩ := r4; simp only [List.cons_append, List.nil_append] at rr; obtain ⟨b1, k1, _, _, rfl, -, -⟩ := s1.open_; obtain ⟨b2, k2, _, _, rfl, -, -⟩ := s2.open_; obtain ⟨b3, k3, _, _, rfl, -, -⟩ := s3.open_; have Y9 := (Y1.keep ka).keep t4; have g0 := Y9.cell 0 rfl; have g1 := Y9.cell 1 rfl; have g2 := Y9.cell 2 rfl; have g3 := Y9.cell 3 rfl; have p0 := Y9.frozen 0; have p1 := Y9.frozen 1; have p2 := Y9.frozen 2; have p3 := Y9.frozen 3)
      | fail "no arm")
    have K4 : Only [] w w4 := (by with_reducible repeat (first | exact Only.refl _ _ | assumption | refine Only.drewN ?_ _ | refine Only.drew ?_ | refine Only.alloc ?_ _ | refine Only.setCell ?_ (by intro hh; exfalso; simp at hh; try omega) _ | refine Only.trans ?_ (by assumption)))
    have hz1 := t1.size
    simp at hz1
    have hFg : ∀ g ∈ f4, g ∉ [w.heap.size + 1] := fun g hg hm => by have := F4.ge g hg; simp at hm this; omega
    have Yf := (((Y9.set 0 (.int .i64 (wCert o).kind)).set 1 (.slice b1 (wCert o).numbers.length k1)).set 2 (.slice b2 (wCert o).words.length k2)).set 3 (.slice b3 (wCert o).tables.length k3)
    have kf : Only [w.heap.size + 1] w4 ((((w4.setCell ⟨w.heap.size + 1, 0, none⟩ (.int .i64 (wCert o).kind)).setCell ⟨w.heap.size + 1, 1, none⟩ (.slice b1 (wCert o).numbers.length k1)).setCell ⟨w.heap.size + 1, 2, none⟩ (.slice b2 (wCert o).words.length k2)).setCell ⟨w.heap.size + 1, 3, none⟩ (.slice b3 (wCert o).tables.length k3)) := ((((Only.refl _ _).setCell (by simp) _).setCell (by simp) _).setCell (by simp) _).setCell (by simp) _
    obtain ⟨wf, hwf⟩ : ∃ wf, wf = ((((w4.setCell ⟨w.heap.size + 1, 0, none⟩ (.int .i64 (wCert o).kind)).setCell ⟨w.heap.size + 1, 1, none⟩ (.slice b1 (wCert o).numbers.length k1)).setCell ⟨w.heap.size + 1, 2, none⟩ (.slice b2 (wCert o).words.length k2)).setCell ⟨w.heap.size + 1, 3, none⟩ (.slice b3 (wCert o).tables.length k3)) := ⟨_, rfl⟩
    rw [← hwf] at Yf kf ⊢
    simp only [List.set] at Yf
    clear hwf g0 g1 g2 g3 p0 p1 p2 p3
    have z0 := Yf.cell 0 rfl
    have z1 := Yf.cell 1 rfl
    have z2 := Yf.cell 2 rfl
    have z3 := Yf.cell 3 rfl
    refine bodyPost_ret (v := .tuple #[.agg #[.int .i64 (wCert o).kind, .slice b1 (wCert o).numbers.length k1, .slice b2 (wCert o).words.length k2, .slice b3 (wCert o).tables.length k3], .bool o.isSome]) (by simp [results, Tryz.results24, go_sem, z0, z1, z2, z3]) rfl ⟨[.int .i64 (wCert o).kind, .slice b1 (wCert o).numbers.length k1, .slice b2 (wCert o).words.length k2, .slice b3 (wCert o).tables.length k3], f4, by rw [Hn.out], by rw [Hn.out]; exact Rp.only rr kf hFg, (F4.mono (by simp; omega)).only kf hFg, K4.then_ kf (by simp)⟩
end Go.Proofs.YtclhblofchfglaaGreat

namespace Go.Proofs.YtclhblofchfglaaGreat
open Go.RowKit
set_option maxRecDepth 10000

set_option maxHeartbeats 2000000 in
/-- a search that found all states -/
theorem isFound_any (cs : List Value) (x : Puzzle) (t : Table) (fp : List Nat) (B : Nat) (v : Value) (u : Value) (s : List Int) (fs : List Nat) (w : World) (h : Rp.rep w cs x fp) (hS : SrF B w x t v) (he : expl x = some t) (hu : Rd w u s fs) :
    Calls Tryz.prog 71 #[.agg cs.toArray, v, u] w fun e w' => e = .returned (.bool (reachB x s)) ∧ Only [] w w' := by
  have h0 := h
  obtain ⟨v2, rfl, p0, p1, h2⟩ := h
  clear p0 p1 h2
  obtain ⟨hb, -⟩ := expl_built he
  obtain ⟨A1, A2, A3, C1, C2, C3, so, ob, fps, fd, fz, rfl, hR, hSr, -⟩ := hS
  have hL := hb.ll
  have hnd : t.patterns.Nodup := hb.bi.nd
  have HS := Lib.hid hSr
  have Hnd := Lib.hid hnd
  have K0 : Only [] w ((w.alloc (.cells #[.int .i64 x.points, .string x.names, v2] 33)).alloc (.cells #[.slice A1 t.patterns.length C1, .slice A2 t.distances.length C2, .slice A3 so.length C3, .bool true] 85)) := ((Only.refl _ _).alloc _).alloc _
  have X0 : Blk ((w.alloc (.cells #[.int .i64 x.points, .string x.names, v2] 33)).alloc (.cells #[.slice A1 t.patterns.length C1, .slice A2 t.distances.length C2, .slice A3 so.length C3, .bool true] 85)) w.heap.size [.int .i64 x.points, .string x.names, v2] := (Blk.new w [.int .i64 x.points, .string x.names, v2] 33).keep ((Only.refl _ _).alloc _)
  have Y0 : Blk ((w.alloc (.cells #[.int .i64 x.points, .string x.names, v2] 33)).alloc (.cells #[.slice A1 t.patterns.length C1, .slice A2 t.distances.length C2, .slice A3 so.length C3, .bool true] 85)) (w.heap.size + 1) [.slice A1 t.patterns.length C1, .slice A2 t.distances.length C2, .slice A3 so.length C3, .bool true] := Blk.new_at (by simp)
  rcases hq : stateB x s
  · have Hf := Lib.hid (show reachB x s = false by unfold reachB; rw [hq]; rfl)
    have Hq := Lib.hid hq
    clear hq he hb hnd hSr
    go_enter Tryz.func71, Tryz.ntmps71
    go_wp2_with (first
      | (go_at_call 42; (with_reducible refine (specIsState_any [.int .i64 x.points, .string x.names, v2] x _ u s _ _ (Rp.keep h0 (by with_reducible repeat (first | exact Only.refl _ _ | assumption | refine Only.drewN ?_ _ | refine Only.drew ?_ | refine Only.alloc ?_ _ | refine Only.setCell ?_ (by intro hh; exfalso; simp at hh; try omega) _ | refine Only.trans ?_ (by assumption)))) (Rp.keep hu (by with_reducible repeat (first | exact Only.refl _ _ | assumption | refine Only.drewN ?_ _ | refine Only.drew ?_ | refine Only.alloc ?_ _ | refine Only.setCell ?_ (by intro hh; exfalso; simp at hh; try omega) _ | refine Only.trans ?_ (by assumption))))).mono ?_); rintro e w1 ⟨he, t1⟩; rw [Hq.out] at he; subst he)
      | fail "no arm")
    go_ret
    exact ⟨ret_bool Hf.out.symm, (by with_reducible repeat (first | exact Only.refl _ _ | assumption | refine Only.drewN ?_ _ | refine Only.drew ?_ | refine Only.alloc ?_ _ | refine Only.setCell ?_ (by intro hh; exfalso; simp at hh; try omega) _ | refine Only.trans ?_ (by assumption)))⟩
  · have hsl : s.length = x.points.toNat := (stateB_pn hq).2.2.2.1
    have Hsl := Lib.hid hsl
    have Hq := Lib.hid hq
    by_cases hm : s ∈ t.patterns
    · obtain ⟨i, hi, e⟩ := List.getElem_of_mem hm
      have Hg := Lib.hid (show t.patterns.getD i [] = s by rw [getD_get hi, e])
      have Hf := Lib.hid ((expl_reach he).1 hm)
      have hi0 : (0 : Int) ≤ (i : Int) := by omega
      clear hq he hb hnd hSr hsl hm e
      go_enter Tryz.func71, Tryz.ntmps71
      go_wp2_with (first
        | (go_at_call 42; (with_reducible refine (specIsState_any [.int .i64 x.points, .string x.names, v2] x _ u s _ _ (Rp.keep h0 (by with_reducible repeat (first | exact Only.refl _ _ | assumption | refine Only.drewN ?_ _ | refine Only.drew ?_ | refine Only.alloc ?_ _ | refine Only.setCell ?_ (by intro hh; exfalso; simp at hh; try omega) _ | refine Only.trans ?_ (by assumption)))) (Rp.keep hu (by with_reducible repeat (first | exact Only.refl _ _ | assumption | refine Only.drewN ?_ _ | refine Only.drew ?_ | refine Only.alloc ?_ _ | refine Only.setCell ?_ (by intro hh; exfalso; simp at hh; try omega) _ | refine Only.trans ?_ (by assumption))))).mono ?_); rintro e w1 ⟨he, t1⟩; rw [Hq.out] at he; subst he; have Y1 := Y0.keep t1; have y0 := Y1.cell 0 rfl; have y1 := Y1.cell 1 rfl; have y2 := Y1.cell 2 rfl; have y3 := Y1.cell 3 rfl)
        | (go_at_call 126; (with_reducible refine (searchIndex_yes A1 A2 A3 C1 C2 C3 true t.patterns t.distances so ob fps fd fz _ u s _ _ (hR.keep (by with_reducible repeat (first | exact Only.refl _ _ | assumption | refine Only.drewN ?_ _ | refine Only.drew ?_ | refine Only.alloc ?_ _ | refine Only.setCell ?_ (by intro hh; exfalso; simp at hh; try omega) _ | refine Only.trans ?_ (by assumption)))) HS.out (Rp.keep hu (by with_reducible repeat (first | exact Only.refl _ _ | assumption | refine Only.drewN ?_ _ | refine Only.drew ?_ | refine Only.alloc ?_ _ | refine Only.setCell ?_ (by intro hh; exfalso; simp at hh; try omega) _ | refine Only.trans ?_ (by assumption)))) Hsl.out hL i hi Hg.out Hnd.out).mono ?_); rintro e w2 ⟨rfl, t2⟩)
        | fail "no arm")
      go_ret
      exact ⟨ret_bool Hf.out.symm, (by with_reducible repeat (first | exact Only.refl _ _ | assumption | refine Only.drewN ?_ _ | refine Only.drew ?_ | refine Only.alloc ?_ _ | refine Only.setCell ?_ (by intro hh; exfalso; simp at hh; try omega) _ | refine Only.trans ?_ (by assumption)))⟩
    · have Hm := Lib.hid hm
      have Hf := Lib.hid (show reachB x s = false by
        cases hr : reachB x s with
        | false => rfl
        | true => exact absurd ((expl_reach he).2 hr) hm)
      clear hq he hb hnd hSr hsl hm
      go_enter Tryz.func71, Tryz.ntmps71
      go_wp2_with (first
        | (go_at_call 42; (with_reducible refine (specIsState_any [.int .i64 x.points, .string x.names, v2] x _ u s _ _ (Rp.keep h0 (by with_reducible repeat (first | exact Only.refl _ _ | assumption | refine Only.drewN ?_ _ | refine Only.drew ?_ | refine Only.alloc ?_ _ | refine Only.setCell ?_ (by intro hh; exfalso; simp at hh; try omega) _ | refine Only.trans ?_ (by assumption)))) (Rp.keep hu (by with_reducible repeat (first | exact Only.refl _ _ | assumption | refine Only.drewN ?_ _ | refine Only.drew ?_ | refine Only.alloc ?_ _ | refine Only.setCell ?_ (by intro hh; exfalso; simp at hh; try omega) _ | refine Only.trans ?_ (by assumption))))).mono ?_); rintro e w1 ⟨he, t1⟩; rw [Hq.out] at he; subst he; have Y1 := Y0.keep t1; have y0 := Y1.cell 0 rfl; have y1 := Y1.cell 1 rfl; have y2 := Y1.cell 2 rfl; have y3 := Y1.cell 3 rfl)
        | (go_at_call 126; (with_reducible refine (searchIndex_no A1 A2 A3 C1 C2 C3 true t.patterns t.distances so ob fps fd fz _ u s _ _ (hR.keep (by with_reducible repeat (first | exact Only.refl _ _ | assumption | refine Only.drewN ?_ _ | refine Only.drew ?_ | refine Only.alloc ?_ _ | refine Only.setCell ?_ (by intro hh; exfalso; simp at hh; try omega) _ | refine Only.trans ?_ (by assumption)))) HS.out (Rp.keep hu (by with_reducible repeat (first | exact Only.refl _ _ | assumption | refine Only.drewN ?_ _ | refine Only.drew ?_ | refine Only.alloc ?_ _ | refine Only.setCell ?_ (by intro hh; exfalso; simp at hh; try omega) _ | refine Only.trans ?_ (by assumption)))) Hsl.out hL Hm.out).mono ?_); rintro e w2 ⟨rfl, t2⟩)
        | fail "no arm")
      go_ret
      exact ⟨ret_bool Hf.out.symm, (by with_reducible repeat (first | exact Only.refl _ _ | assumption | refine Only.drewN ?_ _ | refine Only.drew ?_ | refine Only.alloc ?_ _ | refine Only.setCell ?_ (by intro hh; exfalso; simp at hh; try omega) _ | refine Only.trans ?_ (by assumption)))⟩
end Go.Proofs.YtclhblofchfglaaGreat

namespace Go.Proofs.YtclhblofchfglaaGreat
open Go.RowKit
set_option maxRecDepth 10000

theorem mD_le {x : Puzzle} {t : Table} {src : List Int → Bool} (hb : Built x t) {v : Nat} (hv : v < t.patterns.length) : (mD x t src).getD v 0 < t.patterns.length := by
  obtain ⟨k', h, -⟩ := MbI.run (src := fun v => src (t.patterns.getD v [])) (row := mRow x t) (N := t.patterns.length) (fun v hv => mRow_lt hb hv) (t.patterns.length + 1) 0 (mSrc (fun v => src (t.patterns.getD v [])) t.patterns.length) MbI.start (by omega)
  exact h.bound hv

set_option maxHeartbeats 1000000 in
theorem fittingWords_yes (u1 u2 : Value) (l1 l2 : List Int) (f1 f2 : List Nat) (w : World) (h1 : Rd w u1 l1 f1) (h2 : Rd w u2 l2 f2) (hl : l1.length ≤ 200 ∧ l2.length ≤ 200) :
    Calls Tryz.prog 74 #[u1, u2] w fun e w' => e = .returned (.tuple #[u1, u2, .bool true]) ∧ Only [] w w' := by
  obtain ⟨a1, c1, rfl, -⟩ := h1.ints
  obtain ⟨a2, c2, rfl, -⟩ := h2.ints
  obtain ⟨hl1, hl2⟩ := hl
  have hn1 : ¬ ((200 : Int) < (l1.length : Int)) := by omega
  have hn2 : ¬ ((200 : Int) < (l2.length : Int)) := by omega
  go_enter Tryz.func74, Tryz.ntmps74
  go_wp2
  exact bodyPost_ret (v := .tuple #[.slice a1 l1.length c1, .slice a2 l2.length c2, .bool true]) (by simp [results, Tryz.results74, go_sem]) rfl ⟨rfl, Only.refl _ _⟩
set_option maxHeartbeats 1000000 in
theorem fittingWords_no (u1 u2 : Value) (l1 l2 : List Int) (f1 f2 : List Nat) (w : World) (h1 : Rd w u1 l1 f1) (h2 : Rd w u2 l2 f2) (hl : ¬ (l1.length ≤ 200 ∧ l2.length ≤ 200)) :
    Calls Tryz.prog 74 #[u1, u2] w fun e w' => ∃ z1 z2 g1 g2, e = .returned (.tuple #[z1, z2, .bool false]) ∧ Rd w' z1 ([] : List Int) g1 ∧ Rd w' z2 ([] : List Int) g2 ∧ Only [] w w' := by
  obtain ⟨a1, c1, rfl, -⟩ := h1.ints
  obtain ⟨a2, c2, rfl, -⟩ := h2.ints
  have k1 : Only [] w (w.alloc (.cells #[] 2)) := (Only.refl _ _).alloc _
  have k2 : Only [] w ((w.alloc (.cells #[] 2)).alloc (.cells #[] 2)) := k1.alloc _
  have r1 := (empty_rd w 2 rfl).1
  have r1' := Rp.keep r1 ((Only.refl [] (w.alloc (.cells #[] 2))).alloc (.cells #[] 2))
  have r2 := (empty_rd (w.alloc (.cells #[] 2)) 2 (g := w.heap.size + 1) (by simp)).1
  by_cases hl1 : (200 : Int) < (l1.length : Int)
  · go_enter Tryz.func74, Tryz.ntmps74
    go_wp2
    exact bodyPost_ret (v := .tuple #[.slice (some ⟨w.heap.size, 0, none⟩) 0 0, .slice (some ⟨w.heap.size + 1, 0, none⟩) 0 0, .bool false]) (by simp [results, Tryz.results74, go_sem]) rfl (by first | exact ⟨_, _, _, _, rfl, r1', r2, k2⟩ | exact ⟨_, _, rfl, ⟨_, r1'⟩, ⟨_, r2⟩, k2⟩)
  · have hl2 : (200 : Int) < (l2.length : Int) := by omega
    go_enter Tryz.func74, Tryz.ntmps74
    go_wp2
    exact bodyPost_ret (v := .tuple #[.slice (some ⟨w.heap.size, 0, none⟩) 0 0, .slice (some ⟨w.heap.size + 1, 0, none⟩) 0 0, .bool false]) (by simp [results, Tryz.results74, go_sem]) rfl (by first | exact ⟨_, _, _, _, rfl, r1', r2, k2⟩ | exact ⟨_, _, rfl, ⟨_, r1'⟩, ⟨_, r2⟩, k2⟩)
set_option maxHeartbeats 4000000 in
theorem specSolveTwoPhase_any (cs : List Value) (x : Puzzle) (fp : List Nat) (v : Value) (sub : List Int) (fs1 : List Nat) (u : Value) (s : List Int) (fs0 : List Nat) (w : World) (h : Rp.rep w cs x fp) (hg : Rd w v sub fs1) (hs : Rd w u s fs0) :
    Calls Tryz.prog 40 #[.agg cs.toArray, v, u] w fun e w' => ∃ z1 z2 f1 f2, e = .returned (.tuple #[z1, z2, .bool (twX x sub s).isSome]) ∧ Rd w' z1 ((twX x sub s).getD ([], [])).1 f1 ∧ Rd w' z2 ((twX x sub s).getD ([], [])).2 f2 ∧ Only [] w w' := by
  have h0 := h
  obtain ⟨v2, rfl, p0, p1, h3⟩ := h
  clear p0 p1 h3
  rcases hb : ((expl x).isSome && trackB x.moves.length sub)
  · have Hn := Lib.hid (twX_bad (s := s) hb)
    have Hb := Lib.hid hb
    clear hb
    go_enter Tryz.func40, Tryz.ntmps40
    go_upto_region 2 with (first
      | (go_at_call 70; (with_reducible refine (searchBoth_bad [.int .i64 x.points, .string x.names, v2] x _ _ sub _ _ (Rp.keep h0 (by with_reducible repeat (first | exact Only.refl _ _ | assumption | refine Only.drewN ?_ _ | refine Only.drew ?_ | refine Only.alloc ?_ _ | refine Only.setCell ?_ (by intro hh; exfalso; simp at hh; try omega) _ | refine Only.trans ?_ (by assumption)))) (Rp.keep hg (by with_reducible repeat (first | exact Only.refl _ _ | assumption | refine Only.drewN ?_ _ | refine Only.drew ?_ | refine Only.alloc ?_ _ | refine Only.setCell ?_ (by intro hh; exfalso; simp at hh; try omega) _ | refine Only.trans ?_ (by assumption)))) Hb.out).mono ?_); rintro e w1 ⟨A1, n1, C1, A2, n2, C2, A3, n3, C3, wh, rfl, t1⟩; have kz : Only [] (w1.alloc (.cells #[.slice none 0 0, .slice none 0 0, .slice none 0 0, .bool false] 85)) ((w1.alloc (.cells #[.slice none 0 0, .slice none 0 0, .slice none 0 0, .bool false] 85)).alloc (.cells #[.slice none 0 0, .slice none 0 0, .slice none 0 0, .bool false] 85)) := (Only.refl _ _).alloc _; have Z1 := (Blk.new w1 [.slice none 0 0, .slice none 0 0, .slice none 0 0, .bool false] 85).keep kz; have Z2 : Blk ((w1.alloc (.cells #[.slice none 0 0, .slice none 0 0, .slice none 0 0, .bool false] 85)).alloc (.cells #[.slice none 0 0, .slice none 0 0, .slice none 0 0, .bool false] 85)) (w1.heap.size + 1) [.slice none 0 0, .slice none 0 0, .slice none 0 0, .bool false] := Blk.new_at (by simp); have a0 := Z1.cell 0 rfl; have b0 := Z2.cell 0 rfl; have p0 := Z1.frozen 0; have q0 := Z2.frozen 0; have a1 := Z1.cell 1 rfl; have b1 := Z2.cell 1 rfl; have p1 := Z1.frozen 1; have q1 := Z2.frozen 1; have a2 := Z1.cell 2 rfl; have b2 := Z2.cell 2 rfl; have p2 := Z1.frozen 2; have q2 := Z2.frozen 2; have a3 := Z1.cell 3 rfl; have b3 := Z2.cell 3 rfl; have p3 := Z1.frozen 3; have q3 := Z2.frozen 3)
      | fail "no arm")
    obtain ⟨W2, hW2⟩ : ∃ W2, W2 = (w1.alloc (.cells #[.slice A1 n1 C1, .slice A2 n2 C2, .slice A3 n3 C3, .bool wh] 85)).alloc (.cells #[.slice A1 n1 C1, .slice A2 n2 C2, .slice A3 n3 C3, .bool wh] 85) := ⟨_, rfl⟩
    have k12 : Only [] w1 W2 := by rw [hW2]; exact ((Only.refl _ _).alloc _).alloc _
    have KW : Only [] w W2 := by rw [hW2]; exact (by with_reducible repeat (first | exact Only.refl _ _ | assumption | refine Only.drewN ?_ _ | refine Only.drew ?_ | refine Only.alloc ?_ _ | refine Only.setCell ?_ (by intro hh; exfalso; simp at hh; try omega) _ | refine Only.trans ?_ (by assumption)))
    have FW : Blk W2 w1.heap.size [.slice A1 n1 C1, .slice A2 n2 C2, .slice A3 n3 C3, .bool wh] := by rw [hW2]; exact (Blk.new w1 [.slice A1 n1 C1, .slice A2 n2 C2, .slice A3 n3 C3, .bool wh] 85).keep ((Only.refl _ _).alloc _)
    have GW : Blk W2 (w1.heap.size + 1) [.slice A1 n1 C1, .slice A2 n2 C2, .slice A3 n3 C3, .bool wh] := by rw [hW2]; exact Blk.new_at (by simp)
    rw [← hW2]
    clear hW2 kz Z1 Z2 a0 a1 a2 a3 b0 b1 b2 b3 p0 p1 p2 p3 q0 q1 q2 q3
    have KXW := KW
    go_wp2
    have r1 := (empty_rd W2 2 rfl).1
    have k1 : Only [] W2 (W2.alloc (.cells #[] 2)) := (Only.refl _ _).alloc _
    have r1' := Rp.keep r1 ((Only.refl [] (W2.alloc (.cells #[] 2))).alloc (.cells #[] 2))
    have r2 := (empty_rd (W2.alloc (.cells #[] 2)) 2 (g := W2.heap.size + 1) (by simp)).1
    have KX : Only [] w ((W2.alloc (.cells #[] 2)).alloc (.cells #[] 2)) := (KXW.alloc _).alloc _
    exact bodyPost_ret (v := .tuple #[.slice (some ⟨W2.heap.size, 0, none⟩) 0 0, .slice (some ⟨W2.heap.size + 1, 0, none⟩) 0 0, .bool false]) (by simp [results, Tryz.results40, go_sem]) rfl ⟨_, _, _, _, by rw [Hn.out]; rfl, by rw [Hn.out]; exact r1', by rw [Hn.out]; exact r2, KX⟩
  rw [Bool.and_eq_true] at hb
  obtain ⟨he', ht⟩ := hb
  obtain ⟨t, he⟩ := Option.isSome_iff_exists.1 he'
  clear he'
  obtain ⟨hbu, -⟩ := expl_built he
  have hv := hbu.v
  obtain ⟨ts, h2⟩ := sub_expl hv ht he
  have He := Lib.hid he
  have Ht := Lib.hid ht
  have H2 := Lib.hid h2
  rcases hr : reachB x s
  · have Hn := Lib.hid (twX_out (sub := sub) hr)
    have Hr := Lib.hid hr
    clear he hr ht h2 hbu hv
    have X0 : Blk (w.alloc (.cells #[.int .i64 x.points, .string x.names, v2] 33)) w.heap.size [.int .i64 x.points, .string x.names, v2] := Blk.new w [.int .i64 x.points, .string x.names, v2] 33
    go_enter Tryz.func40, Tryz.ntmps40
    go_upto_region 2 with (first
      | (go_at_call 70; (with_reducible refine (searchBoth_yes [.int .i64 x.points, .string x.names, v2] x t ts _ _ sub _ _ (Rp.keep h0 (by with_reducible repeat (first | exact Only.refl _ _ | assumption | refine Only.drewN ?_ _ | refine Only.drew ?_ | refine Only.alloc ?_ _ | refine Only.setCell ?_ (by intro hh; exfalso; simp at hh; try omega) _ | refine Only.trans ?_ (by assumption)))) (Rp.keep hg (by with_reducible repeat (first | exact Only.refl _ _ | assumption | refine Only.drewN ?_ _ | refine Only.drew ?_ | refine Only.alloc ?_ _ | refine Only.setCell ?_ (by intro hh; exfalso; simp at hh; try omega) _ | refine Only.trans ?_ (by assumption)))) He.out Ht.out H2.out).mono ?_); rintro e w1 ⟨A1, n1, C1, A2, n2, C2, A3, n3, C3, wh, A4, n4, C4, A5, n5, C5, A6, n6, C6, wg, rfl, hF, hG, t1⟩; have kz : Only [] (w1.alloc (.cells #[.slice none 0 0, .slice none 0 0, .slice none 0 0, .bool false] 85)) ((w1.alloc (.cells #[.slice none 0 0, .slice none 0 0, .slice none 0 0, .bool false] 85)).alloc (.cells #[.slice none 0 0, .slice none 0 0, .slice none 0 0, .bool false] 85)) := (Only.refl _ _).alloc _; have Z1 := (Blk.new w1 [.slice none 0 0, .slice none 0 0, .slice none 0 0, .bool false] 85).keep kz; have Z2 : Blk ((w1.alloc (.cells #[.slice none 0 0, .slice none 0 0, .slice none 0 0, .bool false] 85)).alloc (.cells #[.slice none 0 0, .slice none 0 0, .slice none 0 0, .bool false] 85)) (w1.heap.size + 1) [.slice none 0 0, .slice none 0 0, .slice none 0 0, .bool false] := Blk.new_at (by simp); have a0 := Z1.cell 0 rfl; have b0 := Z2.cell 0 rfl; have p0 := Z1.frozen 0; have q0 := Z2.frozen 0; have a1 := Z1.cell 1 rfl; have b1 := Z2.cell 1 rfl; have p1 := Z1.frozen 1; have q1 := Z2.frozen 1; have a2 := Z1.cell 2 rfl; have b2 := Z2.cell 2 rfl; have p2 := Z1.frozen 2; have q2 := Z2.frozen 2; have a3 := Z1.cell 3 rfl; have b3 := Z2.cell 3 rfl; have p3 := Z1.frozen 3; have q3 := Z2.frozen 3)
      | fail "no arm")
    obtain ⟨W2, hW2⟩ : ∃ W2, W2 = (w1.alloc (.cells #[.slice A1 n1 C1, .slice A2 n2 C2, .slice A3 n3 C3, .bool wh] 85)).alloc (.cells #[.slice A4 n4 C4, .slice A5 n5 C5, .slice A6 n6 C6, .bool wg] 85) := ⟨_, rfl⟩
    have k12 : Only [] w1 W2 := by rw [hW2]; exact ((Only.refl _ _).alloc _).alloc _
    have KW : Only [] w W2 := by rw [hW2]; exact (by with_reducible repeat (first | exact Only.refl _ _ | assumption | refine Only.drewN ?_ _ | refine Only.drew ?_ | refine Only.alloc ?_ _ | refine Only.setCell ?_ (by intro hh; exfalso; simp at hh; try omega) _ | refine Only.trans ?_ (by assumption)))
    have FW : Blk W2 w1.heap.size [.slice A1 n1 C1, .slice A2 n2 C2, .slice A3 n3 C3, .bool wh] := by rw [hW2]; exact (Blk.new w1 [.slice A1 n1 C1, .slice A2 n2 C2, .slice A3 n3 C3, .bool wh] 85).keep ((Only.refl _ _).alloc _)
    have GW : Blk W2 (w1.heap.size + 1) [.slice A4 n4 C4, .slice A5 n5 C5, .slice A6 n6 C6, .bool wg] := by rw [hW2]; exact Blk.new_at (by simp)
    rw [← hW2]
    clear hW2 kz Z1 Z2 a0 a1 a2 a3 b0 b1 b2 b3 p0 p1 p2 p3 q0 q1 q2 q3
    have XW := (X0.keep t1).keep k12
    have hF2 := hF.keep k12
    have x0 := XW.cell 0 rfl
    have x1 := XW.cell 1 rfl
    have x2 := XW.cell 2 rfl
    have f0 := FW.cell 0 rfl
    have f1 := FW.cell 1 rfl
    have f2 := FW.cell 2 rfl
    have f3 := FW.cell 3 rfl
    go_wp2_with (first
      | (go_at_call 71; (with_reducible refine (isFound_any [.int .i64 x.points, .string x.names, v2] x t _ _ _ _ s _ _ (Rp.keep h0 KW) hF2 He.out (Rp.keep hs KW)).mono ?_); rintro e w3 ⟨he, t3⟩; rw [Hr.out] at he; subst he)
      | fail "no arm")
    have KXW := KW.trans t3
    have r1 := (empty_rd w3 2 rfl).1
    have k1 : Only [] w3 (w3.alloc (.cells #[] 2)) := (Only.refl _ _).alloc _
    have r1' := Rp.keep r1 ((Only.refl [] (w3.alloc (.cells #[] 2))).alloc (.cells #[] 2))
    have r2 := (empty_rd (w3.alloc (.cells #[] 2)) 2 (g := w3.heap.size + 1) (by simp)).1
    have KX : Only [] w ((w3.alloc (.cells #[] 2)).alloc (.cells #[] 2)) := (KXW.alloc _).alloc _
    exact bodyPost_ret (v := .tuple #[.slice (some ⟨w3.heap.size, 0, none⟩) 0 0, .slice (some ⟨w3.heap.size + 1, 0, none⟩) 0 0, .bool false]) (by simp [results, Tryz.results40, go_sem]) rfl ⟨_, _, _, _, by rw [Hn.out]; rfl, by rw [Hn.out]; exact r1', by rw [Hn.out]; exact r2, KX⟩
  obtain ⟨i0, hi0, hp0⟩ := List.getElem_of_mem ((expl_reach he).2 hr)
  have e1 : t.patterns.getD i0 [] = s := by rw [getD_get hi0, hp0]
  obtain ⟨k1, kl, i2, j2, -, -, -, k5, k6, k7, k8, -⟩ := tw_facts he ht h2 hi0
  have hpat := expl_pat he hi0
  have hbu2 := (expl_built h2).1
  have hN1 : twN1 x t ts s ≤ 3000 := by
    have a := mD_le (src := subS ts) hbu hi0
    have b := hbu.ll
    rw [e1] at k1
    omega
  have hN2 : twN2 x t ts s ≤ 3000 := by
    have a := (hbu2.dep j2 k5).2.1
    have b := hbu2.ll
    rw [e1] at k7
    omega
  have k1' := k1
  rw [e1] at k1 k6 k7 k8 kl hpat
  have h0s : subS ts t.tracked = true := subS_start he h2
  have E1 := Lib.hid e1
  have Hr := Lib.hid hr
  have Hv := Lib.hid hv
  have Hpat := Lib.hid hpat
  have hq20 : x.points.toNat ≤ 1000 := by have := validPz_facts hv; omega
  obtain ⟨D, hD⟩ : ∃ D, D = mD x t (subS ts) := ⟨_, rfl⟩
  obtain ⟨W1, hW1⟩ : ∃ W1, W1 = twW1 x t ts s := ⟨_, rfl⟩
  obtain ⟨W2, hW2⟩ : ∃ W2, W2 = twW2 x sub t ts s := ⟨_, rfl⟩
  obtain ⟨S1, hS1⟩ : ∃ S1, S1 = twS1 x t ts s := ⟨_, rfl⟩
  have hW1l : W1.length = twN1 x t ts s := by rw [hW1, twW1_len]
  have hW2l : W2.length = twN2 x t ts s := by rw [hW2, twW2_len]
  have hfold : W1.foldl (nxt x) s = S1 := by rw [hW1, hS1]; rfl
  have hPD : ∀ (W : World) (B1 B2 : Nat) (A1 A2 A3 A4 A5 A6 : Option Addr) (n1 n2 n3 n4 n5 n6 C1 C2 C3 C4 C5 C6 : Nat) (wh wg : Bool), Only [] w W → SrF B1 W x t (.agg #[.slice A1 n1 C1, .slice A2 n2 C2, .slice A3 n3 C3, .bool wh]) → SrF B2 W (subP x sub) ts (.agg #[.slice A4 n4 C4, .slice A5 n5 C5, .slice A6 n6 C6, .bool wg]) →
      Calls Tryz.prog 73 #[.agg #[.int .i64 x.points, .string x.names, v2], .agg #[.slice A1 n1 C1, .slice A2 n2 C2, .slice A3 n3 C3, .bool wh], .agg #[.slice A4 n4 C4, .slice A5 n5 C5, .slice A6 n6 C6, .bool wg]] W fun e w' => ∃ u, e = .returned u ∧ AccI W.heap.size 2 w' u D ∧ Only [] W w' := fun W B1 B2 A1 A2 A3 A4 A5 A6 n1 n2 n3 n4 n5 n6 C1 C2 C3 C4 C5 C6 wh wg hW hF hG => by
    rw [hD]; exact phaseOneDistances_any [.int .i64 x.points, .string x.names, v2] x t ts sub _ B1 B2 A1 A2 A3 A4 A5 A6 n1 n2 n3 n4 n5 n6 C1 C2 C3 C4 C5 C6 wh wg W (Rp.keep h0 hW) hF hG He.out H2.out
  have hPW : ∀ (W : World) (B1 B0 : Nat) (vd : Value) (A1 A2 A3 : Option Addr) (n1 n2 n3 C1 C2 C3 : Nat) (wh : Bool), Only [] w W → SrF B1 W x t (.agg #[.slice A1 n1 C1, .slice A2 n2 C2, .slice A3 n3 C3, .bool wh]) → AccI B0 2 W vd D →
      Calls Tryz.prog 72 #[.agg #[.int .i64 x.points, .string x.names, v2], .agg #[.slice A1 n1 C1, .slice A2 n2 C2, .slice A3 n3 C3, .bool wh], vd, u] W fun e w' => ∃ z f, e = .returned z ∧ Rd w' z W1 f ∧ Only [] W w' := fun W B1 B0 vd A1 A2 A3 n1 n2 n3 C1 C2 C3 wh hW hF hA => by
    rw [hD] at hA
    have := phaseOneWord_any [.int .i64 x.points, .string x.names, v2] x _ t (subS ts) B1 A1 A2 A3 n1 n2 n3 C1 C2 C3 wh vd _ u _ i0 (twN1 x t ts s) W (Rp.keep h0 hW) hF He.out h0s hA.rd hi0 (by rw [E1.out]; exact Rp.keep hs hW) k1 hN1
    rw [E1.out] at this
    rw [hW1]
    exact this.mono (fun e w' hh => by obtain ⟨z, f, a, b, -, c⟩ := hh; exact ⟨z, f, a, b, c⟩)
  have hTW : ∀ (W : World) (B2 : Nat) (z : Value) (f : List Nat) (A4 A5 A6 : Option Addr) (n4 n5 n6 C4 C5 C6 : Nat) (wg : Bool), Only [] w W → SrF B2 W (subP x sub) ts (.agg #[.slice A4 n4 C4, .slice A5 n5 C5, .slice A6 n6 C6, .bool wg]) → Rd W z S1 f →
      Calls Tryz.prog 75 #[.agg #[.int .i64 x.points, .string x.names, v2], v, .agg #[.slice A4 n4 C4, .slice A5 n5 C5, .slice A6 n6 C6, .bool wg], z] W fun e w' => ∃ z f, e = .returned z ∧ Rd w' z W2 f ∧ Only [] W w' := fun W B2 z f A4 A5 A6 n4 n5 n6 C4 C5 C6 wg hW hG hz => by
    have := phaseTwoWord_any [.int .i64 x.points, .string x.names, v2] x ts sub _ v _ B2 A4 A5 A6 n4 n5 n6 C4 C5 C6 wg z f j2 (twN2 x t ts s) W (Rp.keep h0 hW) (Rp.keep hg hW) hG Hv.out Ht.out H2.out k5 (by rw [k6, ← hS1]; exact hz) k7 hN2 (by rw [k6]; exact k8)
    rw [k6] at this
    rw [hW2]
    exact this.mono (fun e w' hh => by obtain ⟨z, f, a, b, -, c⟩ := hh; exact ⟨z, f, a, b, c⟩)
  have HPD := Lib.hid hPD
  have HPW := Lib.hid hPW
  have HTW := Lib.hid hTW
  have Hkl := Lib.hid (show ∀ l ∈ W1, l ∈ ltrs x.moves.length by rw [hW1]; exact kl)
  have Hfold := Lib.hid hfold
  have hW13 : W1.length ≤ 1000000 := by omega
  have HW13 := Lib.hid hW13
  have Hn0 : (W1.length ≤ 200 ∧ W2.length ≤ 200) → twX x sub s = some (W1, W2) := fun hh => by
    rw [hW1, hW2]; exact twX_yes he ht h2 hr ⟨by omega, by omega⟩
  have Hn1 : ¬ (W1.length ≤ 200 ∧ W2.length ≤ 200) → twX x sub s = none := fun hh => twX_far he h2 (fun h9 => hh ⟨by omega, by omega⟩)
  have HN0 := Lib.hid Hn0
  have HN1 := Lib.hid Hn1
  clear he hr ht h2 hbu hbu2 hv hp0 e1 k1 k1' k5 k6 k7 k8 kl h0s hD hW1 hW2 hS1 hPD hPW hTW hfold hW13 Hn0 Hn1 hN1 hN2 hpat hW1l hW2l
  have X0 : Blk (w.alloc (.cells #[.int .i64 x.points, .string x.names, v2] 33)) w.heap.size [.int .i64 x.points, .string x.names, v2] := Blk.new w [.int .i64 x.points, .string x.names, v2] 33
  go_enter Tryz.func40, Tryz.ntmps40
  go_upto_region 2 with (first
    | (go_at_call 70; (with_reducible refine (searchBoth_yes [.int .i64 x.points, .string x.names, v2] x t ts _ _ sub _ _ (Rp.keep h0 (by with_reducible repeat (first | exact Only.refl _ _ | assumption | refine Only.drewN ?_ _ | refine Only.drew ?_ | refine Only.alloc ?_ _ | refine Only.setCell ?_ (by intro hh; exfalso; simp at hh; try omega) _ | refine Only.trans ?_ (by assumption)))) (Rp.keep hg (by with_reducible repeat (first | exact Only.refl _ _ | assumption | refine Only.drewN ?_ _ | refine Only.drew ?_ | refine Only.alloc ?_ _ | refine Only.setCell ?_ (by intro hh; exfalso; simp at hh; try omega) _ | refine Only.trans ?_ (by assumption)))) He.out Ht.out H2.out).mono ?_); rintro e w1 ⟨A1, n1, C1, A2, n2, C2, A3, n3, C3, wh, A4, n4, C4, A5, n5, C5, A6, n6, C6, wg, rfl, hF, hG, t1⟩; have kz : Only [] (w1.alloc (.cells #[.slice none 0 0, .slice none 0 0, .slice none 0 0, .bool false] 85)) ((w1.alloc (.cells #[.slice none 0 0, .slice none 0 0, .slice none 0 0, .bool false] 85)).alloc (.cells #[.slice none 0 0, .slice none 0 0, .slice none 0 0, .bool false] 85)) := (Only.refl _ _).alloc _; have Z1 := (Blk.new w1 [.slice none 0 0, .slice none 0 0, .slice none 0 0, .bool false] 85).keep kz; have Z2 : Blk ((w1.alloc (.cells #[.slice none 0 0, .slice none 0 0, .slice none 0 0, .bool false] 85)).alloc (.cells #[.slice none 0 0, .slice none 0 0, .slice none 0 0, .bool false] 85)) (w1.heap.size + 1) [.slice none 0 0, .slice none 0 0, .slice none 0 0, .bool false] := Blk.new_at (by simp); have a0 := Z1.cell 0 rfl; have b0 := Z2.cell 0 rfl; have p0 := Z1.frozen 0; have q0 := Z2.frozen 0; have a1 := Z1.cell 1 rfl; have b1 := Z2.cell 1 rfl; have p1 := Z1.frozen 1; have q1 := Z2.frozen 1; have a2 := Z1.cell 2 rfl; have b2 := Z2.cell 2 rfl; have p2 := Z1.frozen 2; have q2 := Z2.frozen 2; have a3 := Z1.cell 3 rfl; have b3 := Z2.cell 3 rfl; have p3 := Z1.frozen 3; have q3 := Z2.frozen 3)
    | fail "no arm")
  obtain ⟨WB, hWB⟩ : ∃ WB, WB = (w1.alloc (.cells #[.slice A1 n1 C1, .slice A2 n2 C2, .slice A3 n3 C3, .bool wh] 85)).alloc (.cells #[.slice A4 n4 C4, .slice A5 n5 C5, .slice A6 n6 C6, .bool wg] 85) := ⟨_, rfl⟩
  have k12 : Only [] w1 WB := by rw [hWB]; exact ((Only.refl _ _).alloc _).alloc _
  have KW : Only [] w WB := by rw [hWB]; exact (by with_reducible repeat (first | exact Only.refl _ _ | assumption | refine Only.drewN ?_ _ | refine Only.drew ?_ | refine Only.alloc ?_ _ | refine Only.setCell ?_ (by intro hh; exfalso; simp at hh; try omega) _ | refine Only.trans ?_ (by assumption)))
  have FW : Blk WB w1.heap.size [.slice A1 n1 C1, .slice A2 n2 C2, .slice A3 n3 C3, .bool wh] := by rw [hWB]; exact (Blk.new w1 [.slice A1 n1 C1, .slice A2 n2 C2, .slice A3 n3 C3, .bool wh] 85).keep ((Only.refl _ _).alloc _)
  have GW : Blk WB (w1.heap.size + 1) [.slice A4 n4 C4, .slice A5 n5 C5, .slice A6 n6 C6, .bool wg] := by rw [hWB]; exact Blk.new_at (by simp)
  rw [← hWB]
  clear hWB kz Z1 Z2 a0 a1 a2 a3 b0 b1 b2 b3 p0 p1 p2 p3 q0 q1 q2 q3
  have XW := (X0.keep t1).keep k12
  have hFB := hF.keep k12
  have hGB := hG.keep k12
  clear hF hG
  have x0 := XW.cell 0 rfl
  have x1 := XW.cell 1 rfl
  have x2 := XW.cell 2 rfl
  have f0 := FW.cell 0 rfl
  have f1 := FW.cell 1 rfl
  have f2 := FW.cell 2 rfl
  have f3 := FW.cell 3 rfl
  go_upto_region 4 with (first
    | (go_at_call 71; (with_reducible refine (isFound_any [.int .i64 x.points, .string x.names, v2] x t _ _ _ _ s _ _ (Rp.keep h0 KW) hFB He.out (Rp.keep hs KW)).mono ?_); rintro e w3 ⟨he, t3⟩; rw [Hr.out] at he; subst he)
    | fail "no arm")
  clear x0 x1 x2 f0 f1 f2 f3
  have K3 := KW.trans t3
  have X3 := XW.keep t3
  have F3 := FW.keep t3
  have G3 := GW.keep t3
  have hF3 := hFB.keep t3
  have hG3 := hGB.keep t3
  have x0 := X3.cell 0 rfl
  have x1 := X3.cell 1 rfl
  have x2 := X3.cell 2 rfl
  have f0 := F3.cell 0 rfl
  have f1 := F3.cell 1 rfl
  have f2 := F3.cell 2 rfl
  have f3 := F3.cell 3 rfl
  have g0 := G3.cell 0 rfl
  have g1 := G3.cell 1 rfl
  have g2 := G3.cell 2 rfl
  have g3 := G3.cell 3 rfl
  go_region_held3 (fun w' => Only [] w3 w' ∧ w'.cell? ⟨w.heap.size, 0, none⟩ = some (.int .i64 x.points) ∧ w'.cell? ⟨w.heap.size, 1, none⟩ = some (.string x.names) ∧ w'.cell? ⟨w.heap.size, 2, none⟩ = some (v2) ∧ w'.cell? ⟨w1.heap.size, 0, none⟩ = some (.slice A1 n1 C1) ∧ w'.cell? ⟨w1.heap.size, 1, none⟩ = some (.slice A2 n2 C2) ∧ w'.cell? ⟨w1.heap.size, 2, none⟩ = some (.slice A3 n3 C3) ∧ w'.cell? ⟨w1.heap.size, 3, none⟩ = some (.bool wh) ∧ w'.cell? ⟨w1.heap.size + 1, 0, none⟩ = some (.slice A4 n4 C4) ∧ w'.cell? ⟨w1.heap.size + 1, 1, none⟩ = some (.slice A5 n5 C5) ∧ w'.cell? ⟨w1.heap.size + 1, 2, none⟩ = some (.slice A6 n6 C6) ∧ w'.cell? ⟨w1.heap.size + 1, 3, none⟩ = some (.bool wg)) (((refine and_of ?_ (fun h__ => ⟨h__.cell (by simp) x0, h__.cell (by simp) x1, h__.cell (by simp) x2, h__.cell (by simp) f0, h__.cell (by simp) f1, h__.cell (by simp) f2, h__.cell (by simp) f3, h__.cell (by simp) g0, h__.cell (by simp) g1, h__.cell (by simp) g2, h__.cell (by simp) g3⟩)); first | exact (Only.refl _ _).drew | exact ((Only.refl _ _).drewN _).drew | exact Only.trans (And.left (by assumption)) (by assumption) | exact Only.alloc (And.left (by assumption)) _ | assumption)) (first | (go_at_call 73; (with_reducible refine (HPD.out _ _ _ _ _ _ _ _ _ _ _ _ _ _ _ _ _ _ _ _ _ _ _ (K3.trans (And.left (by assumption))) (hF3.keep (And.left (by assumption))) (hG3.keep (And.left (by assumption)))).mono ?_); rintro e w5 ⟨u5, rfl, A5', t5⟩) | (go_at_call 72; (with_reducible refine (HPW.out _ _ _ _ _ _ _ _ _ _ _ _ _ _ (K3.trans (And.left (by assumption))) (hF3.keep (And.left (by assumption))) (A5'.keep (by with_reducible repeat (first | exact Only.refl _ _ | assumption | refine Only.drewN ?_ _ | refine Only.drew ?_ | refine Only.alloc ?_ _ | refine Only.setCell ?_ (by intro hh; exfalso; simp at hh; try omega) _ | refine Only.trans ?_ (by assumption))))).mono ?_); rintro e w6 ⟨u6, f6, rfl, r6, t6⟩; obtain ⟨a6, c6, rfl, I6⟩ := r6.ints) | fail "no arm")
  have k6 : Only [] w3 w6 := (Only.refl [] w3).trans (And.left (by assumption))
  clear x0 x1 x2 f0 f1 f2 f3 g0 g1 g2 g3 t5 t6 A5'
  have K6 := K3.trans k6
  have X6 := X3.keep k6
  have G6 := G3.keep k6
  have hG6 := hG3.keep k6
  have x0 := X6.cell 0 rfl
  have x1 := X6.cell 1 rfl
  have x2 := X6.cell 2 rfl
  have g0 := G6.cell 0 rfl
  have g1 := G6.cell 1 rfl
  have g2 := G6.cell 2 rfl
  have g3 := G6.cell 3 rfl
  have HAL := Lib.hid (fun (W : World) (hW : Only [] w6 W) => applyLetters_any [.int .i64 x.points, .string x.names, v2] x _ u (.slice a6 W1.length c6) s W1 _ _ x.points.toNat W (Rp.keep h0 (K6.trans hW)) (Rp.keep hs (K6.trans hW)) (Rp.keep r6 hW) Hv.out Hkl.out Hpat.out hq20 HW13.out)
  rw [Hfold.out] at HAL
  by_cases hl : W1.length ≤ 200 ∧ W2.length ≤ 200
  · have Hn := Lib.hid (HN0.out hl)
    have Hl := Lib.hid hl
    clear hl
    go_wp2
    go_region_held3 (fun w' => Only [] w6 w' ∧ w'.cell? ⟨w.heap.size, 0, none⟩ = some (.int .i64 x.points) ∧ w'.cell? ⟨w.heap.size, 1, none⟩ = some (.string x.names) ∧ w'.cell? ⟨w.heap.size, 2, none⟩ = some (v2) ∧ w'.cell? ⟨w1.heap.size + 1, 0, none⟩ = some (.slice A4 n4 C4) ∧ w'.cell? ⟨w1.heap.size + 1, 1, none⟩ = some (.slice A5 n5 C5) ∧ w'.cell? ⟨w1.heap.size + 1, 2, none⟩ = some (.slice A6 n6 C6) ∧ w'.cell? ⟨w1.heap.size + 1, 3, none⟩ = some (.bool wg)) (((refine and_of ?_ (fun h__ => ⟨h__.cell (by simp) x0, h__.cell (by simp) x1, h__.cell (by simp) x2, h__.cell (by simp) g0, h__.cell (by simp) g1, h__.cell (by simp) g2, h__.cell (by simp) g3⟩)); first | exact (Only.refl _ _).drew | exact ((Only.refl _ _).drewN _).drew | exact Only.trans (And.left (by assumption)) (by assumption) | exact Only.alloc (And.left (by assumption)) _ | assumption)) (first | (go_at_call 76; (with_reducible refine (HAL.out _ (And.left (by assumption))).mono ?_); rintro e w7 ⟨u7, f7, rfl, r7, -, t7⟩) | (go_at_call 75; (with_reducible refine (HTW.out _ _ u7 f7 _ _ _ _ _ _ _ _ _ _ (K6.trans (And.left (by assumption))) (hG6.keep (And.left (by assumption))) (Rp.keep r7 (by with_reducible repeat (first | exact Only.refl _ _ | assumption | refine Only.drewN ?_ _ | refine Only.drew ?_ | refine Only.alloc ?_ _ | refine Only.setCell ?_ (by intro hh; exfalso; simp at hh; try omega) _ | refine Only.trans ?_ (by assumption))))).mono ?_); rintro e w8 ⟨u8, f8, rfl, r8, t8⟩; obtain ⟨a8, c8, rfl, I8⟩ := r8.ints) | (go_at_call 74; (with_reducible refine (fittingWords_yes _ _ W1 W2 _ _ _ (Rp.keep r6 (And.left (by assumption))) (Rp.keep r8 (by with_reducible repeat (first | exact Only.refl _ _ | assumption | refine Only.drewN ?_ _ | refine Only.drew ?_ | refine Only.alloc ?_ _ | refine Only.setCell ?_ (by intro hh; exfalso; simp at hh; try omega) _ | refine Only.trans ?_ (by assumption)))) Hl.out).mono ?_); rintro e w9 ⟨rfl, t9⟩; have kk9 : Only [] w8 w9 := (by with_reducible repeat (first | exact Only.refl _ _ | assumption | refine Only.drewN ?_ _ | refine Only.drew ?_ | refine Only.alloc ?_ _ | refine Only.setCell ?_ (by intro hh; exfalso; simp at hh; try omega) _ | refine Only.trans ?_ (by assumption)))) | fail "no arm")
    have k9 : Only [] w6 w9 := (Only.refl [] w6).trans (And.left (by assumption))
    go_wp2
    exact bodyPost_ret (v := .tuple #[.slice a6 W1.length c6, .slice a8 W2.length c8, .bool true]) (by simp [results, Tryz.results40, go_sem]) rfl ⟨_, _, _, _, by rw [Hn.out]; rfl, by rw [Hn.out]; exact Rp.keep r6 k9, by rw [Hn.out]; exact Rp.keep r8 kk9, K6.trans k9⟩
  · have Hn := Lib.hid (HN1.out hl)
    have Hl := Lib.hid hl
    clear hl
    go_wp2
    go_region_held3 (fun w' => Only [] w6 w' ∧ w'.cell? ⟨w.heap.size, 0, none⟩ = some (.int .i64 x.points) ∧ w'.cell? ⟨w.heap.size, 1, none⟩ = some (.string x.names) ∧ w'.cell? ⟨w.heap.size, 2, none⟩ = some (v2) ∧ w'.cell? ⟨w1.heap.size + 1, 0, none⟩ = some (.slice A4 n4 C4) ∧ w'.cell? ⟨w1.heap.size + 1, 1, none⟩ = some (.slice A5 n5 C5) ∧ w'.cell? ⟨w1.heap.size + 1, 2, none⟩ = some (.slice A6 n6 C6) ∧ w'.cell? ⟨w1.heap.size + 1, 3, none⟩ = some (.bool wg)) (((refine and_of ?_ (fun h__ => ⟨h__.cell (by simp) x0, h__.cell (by simp) x1, h__.cell (by simp) x2, h__.cell (by simp) g0, h__.cell (by simp) g1, h__.cell (by simp) g2, h__.cell (by simp) g3⟩)); first | exact (Only.refl _ _).drew | exact ((Only.refl _ _).drewN _).drew | exact Only.trans (And.left (by assumption)) (by assumption) | exact Only.alloc (And.left (by assumption)) _ | assumption)) (first | (go_at_call 76; (with_reducible refine (HAL.out _ (And.left (by assumption))).mono ?_); rintro e w7 ⟨u7, f7, rfl, r7, -, t7⟩) | (go_at_call 75; (with_reducible refine (HTW.out _ _ u7 f7 _ _ _ _ _ _ _ _ _ _ (K6.trans (And.left (by assumption))) (hG6.keep (And.left (by assumption))) (Rp.keep r7 (by with_reducible repeat (first | exact Only.refl _ _ | assumption | refine Only.drewN ?_ _ | refine Only.drew ?_ | refine Only.alloc ?_ _ | refine Only.setCell ?_ (by intro hh; exfalso; simp at hh; try omega) _ | refine Only.trans ?_ (by assumption))))).mono ?_); rintro e w8 ⟨u8, f8, rfl, r8, t8⟩; obtain ⟨a8, c8, rfl, I8⟩ := r8.ints) | (go_at_call 74; (with_reducible refine (fittingWords_no _ _ W1 W2 _ _ _ (Rp.keep r6 (And.left (by assumption))) (Rp.keep r8 (by with_reducible repeat (first | exact Only.refl _ _ | assumption | refine Only.drewN ?_ _ | refine Only.drew ?_ | refine Only.alloc ?_ _ | refine Only.setCell ?_ (by intro hh; exfalso; simp at hh; try omega) _ | refine Only.trans ?_ (by assumption)))) Hl.out).mono ?_); rintro e w9 ⟨z1, z2, gg1, gg2, rfl, r9, r9', t9⟩) | fail "no arm")
    have k9 : Only [] w6 w9 := (Only.refl [] w6).trans (And.left (by assumption))
    go_wp2
    exact bodyPost_ret (v := .tuple #[z1, z2, .bool false]) (by simp [results, Tryz.results40, go_sem]) rfl ⟨_, _, _, _, by rw [Hn.out]; rfl, by rw [Hn.out]; exact r9, by rw [Hn.out]; exact r9', K6.trans k9⟩
end Go.Proofs.YtclhblofchfglaaGreat
