/- StateScramble, of the reference and of the program (law 54). Whether a word solves a state: the reference's and the program's functions (laws 42, 43). The reference's tables: where a letter leads, the first letter of a descent. Distances of states: the optimal word leads to the solved state, a state and its inverse are equally far (law 53). The reference's Rank of the member of a rank (laws 34, 35, 53). The law on random states (law 53): its walk. -/
import Derived.Test.YtndcifpbbnebmaaGreatRowRandomStatesG15
import Derived.Test.YtndcifpbbnebmaaGreatRowRandomStatesG18
import Derived.Test.YtndcifpbbnebmaaGreatRowRandomStatesG8
import Derived.Test.YtndcifpbbnebmaaGreatRowRandomStatesG3
import Derived.Test.YtndcifpbbnebmaaGreatRowRandomStatesG10
import Derived.Test.YtndcifpbbnebmaaGreatRowRandomStatesG11
import Derived.Test.YtndcifpbbnebmaaGreatRowRandomStatesG14
import Derived.Test.YtndcifpbbnebmaaGreatRowRandomStatesG9
import Derived.Deep.RegionHeld3
namespace Go.Proofs.YtndcifpbbnebmaaGreat
open Go.RowKit
set_option maxRecDepth 10000

noncomputable def stScr (x : Puzzle) (seed : Int) : Option (List Int) := if (rndS x seed).2 = true then optX x (PM.inv (rndS x seed).1) else none
theorem stScr_no {x : Puzzle} {seed : Int} (h : (rndS x seed).2 = false) : stScr x seed = none := by unfold stScr; rw [if_neg (by rw [h]; simp)]
theorem stScr_yes {x : Puzzle} {seed : Int} (h : (rndS x seed).2 = true) : stScr x seed = optX x (PM.inv (rndS x seed).1) := by unfold stScr; rw [if_pos h]
theorem rndS_valid {x : Puzzle} {seed : Int} (h : (rndS x seed).2 = true) : validPz x = true ∧ (rndS x seed).1 = memAt x.points.toNat x.moves (rstK x.points.toNat x.moves seed) := by
  unfold rndS at h ⊢
  split at h
  · rename_i hc; rw [if_pos hc]; exact ⟨hc.1, rfl⟩
  · cases h
theorem optX_noexpl {x : Puzzle} {s : List Int} (h : expl x = none) : optX x s = none := optX_no (fun hh => by rw [distX_none h] at hh; omega)
theorem chain_ex (n : Int) (vg : Value) (gens : List (List Int)) (fpg : List Nat) (w : World) (hg : Rd w vg gens fpg) (hgs : gensB n gens = true) : ∃ G T, PM.Chain n.toNat gens G T := by
  obtain ⟨e, w', fr, ⟨L, gv, G, T, M, F, -, -, -, -, h, -⟩, -⟩ := rsChain_i n vg gens fpg w hg hgs []
  exact ⟨G, T, h⟩
theorem memAt_grp {n : Nat} {gens : List (List Int)} {k : Nat} (hn : 0 < n) (hp : ∀ g ∈ gens, PM.PN n g) (h : ∃ G T, PM.Chain n gens G T) : PM.Grp n gens (memAt n gens k) := by
  obtain ⟨G, T, h⟩ := h
  exact h.descG_grp hn hp (msel n gens k) (msel_good h hn hp k)
theorem rndS_grp (cs : List Value) (x : Puzzle) (fp : List Nat) (seed : Int) (w : World) (h : Rp.rep w cs x fp) (hs : (rndS x seed).2 = true) : PM.Grp x.points.toNat x.moves (rndS x seed).1 := by
  obtain ⟨v2, rfl, p0, p1, h2⟩ := h
  obtain ⟨h3, h4⟩ := rndS_valid hs
  have hg := validPz_gensB h3
  obtain ⟨⟨n1, n20⟩, -, hp⟩ := gensB_iff.1 hg
  rw [h4]
  exact memAt_grp (by omega) hp (chain_ex x.points v2 x.moves _ w h2 hg)
/-- a member has a place among the states -/
theorem expl_place {x : Puzzle} {t : Table} {s : List Int} (he : expl x = some t) (hs : PM.Grp x.points.toNat x.moves s) : ∃ i : Nat, i < t.patterns.length ∧ t.patterns.getD i [] = s := by
  have hm := (expl_mem he).2 hs
  obtain ⟨i, hi, e⟩ := List.getElem_of_mem hm
  exact ⟨i, hi, by rw [getD_get hi, e]⟩
set_option maxHeartbeats 2000000 in
theorem at_yes (x : Puzzle) (t : Table) (v u : Value) (s : List Int) (f : List Nat) (i : Nat) (w : World) (h : Exp w x t v) (he : expl x = some t) (hu : Rd w u s f) (hi : i < t.patterns.length) (hs : t.patterns.getD i [] = s) :
    Calls Tryz.prog 81 #[v, u] w fun e w' => e = .returned (.int .i64 i) ∧ Only [] w w' := by
  obtain ⟨g, M, v2, us, ud, up, uy, un, fm, f1, f2, f3, k, rfl, hB, hp, -, -, -, hM⟩ := h
  obtain ⟨hb, -⟩ := expl_built he
  have hsl : s.length ≤ 1000 := by
    rw [← hs, expl_len1 he hi]
    have := validPz_facts hb.v; omega
  have hkz : (kB s).size ≤ maxLen := by rw [kB_size]; unfold maxLen; omega
  have hmem : s ∈ t.patterns := by rw [← hs]; exact hb.mem_of hi
  obtain ⟨i', -, e1, e2⟩ := pre_in he List.prefix_rfl hmem
  have hii : i' = i := by have := hb.idx hi; rw [hs] at this; omega
  rw [hii] at e2
  have Hfg := Lib.hid e2
  clear hii e1 he hs hmem e2 hb
  have y5 := hB.cell 5 rfl
  go_enter Tryz.func81, Tryz.ntmps81
  go_upto_region 1 with fail
  go_region_held3 (fun w' => Only [] w w' ∧ w'.cell? ⟨g, 5, none⟩ = some (.map (some M))) (((refine and_of ?_ (fun h__ => h__.cell (by simp) y5)); first | exact (Only.refl _ _).drew | exact ((Only.refl _ _).drewN _).drew | exact Only.trans (And.left (by assumption)) (by assumption) | exact Only.alloc (And.left (by assumption)) _ | assumption)) (first | (go_at_call 91; (with_reducible refine (stateKey_rd u s _ _ (Rp.keep hu (And.left (by assumption))) hsl).mono ?_); rintro e w5 ⟨rfl, t5⟩; have hO5 := Only.trans (And.left (by assumption)) t5; have hrun5 := (hM.keep hO5).run_at_yes hkz Hfg.out) | fail "no arm")
  go_wp2
  exact bodyPost_ret (v := .int .i64 i) (by simp [results, Tryz.results81, go_sem]) rfl ⟨rfl, hO5⟩
theorem implIdentity_e (n : Int) (w : World) (h0 : 0 ≤ n) (h1 : n ≤ 1000) :
    Calls Tryz.prog 34 #[.int .i64 n] w fun e w' => ∃ v fp', e = .returned v ∧ Rd w' v (PM.pts n.toNat) fp' ∧ Fresh w.heap.size w' fp' ∧ Only [] w w' := by
  obtain ⟨m, rfl⟩ := Int.eq_ofNat_of_zero_le h0
  exact implIdentity_any m w (by omega)
set_option maxHeartbeats 2000000 in
theorem between_no (cs : List Value) (x : Puzzle) (fp : List Nat) (va vb : Value) (w : World) (h : Rp.rep w cs x fp) (he : expl x = none) :
    Calls Tryz.prog 61 #[.agg cs.toArray, va, vb] w fun e w' => e = .returned (.tuple #[.pointer none, .int .i64 0, .bool false]) ∧ Only [] w w' := by
  have h0 := h
  obtain ⟨v2, rfl, p0, p1, h2⟩ := h
  have He := Lib.hid he
  clear p0 p1 h2 he
  go_enter Tryz.func61, Tryz.ntmps61
  go_wp2_with (first
    | (go_at_call 79; (with_reducible refine (exploreState_none [.int .i64 x.points, .string x.names, v2] x _ _ _ (Rp.keep h0 (by with_reducible repeat (first | exact Only.refl _ _ | assumption | refine Only.drewN ?_ _ | refine Only.drew ?_ | refine Only.alloc ?_ _ | refine Only.setCell ?_ (by intro hh; exfalso; simp at hh; try omega) _ | refine Only.trans ?_ (by assumption)))) He.out).mono ?_); rintro e w1 ⟨rfl, t1⟩)
    | fail "no arm")
  exact bodyPost_ret (v := .tuple #[.pointer none, .int .i64 0, .bool false]) (by simp [results, Tryz.results61, go_sem]) rfl ⟨rfl, (by with_reducible repeat (first | exact Only.refl _ _ | assumption | refine Only.drewN ?_ _ | refine Only.drew ?_ | refine Only.alloc ?_ _ | refine Only.setCell ?_ (by intro hh; exfalso; simp at hh; try omega) _ | refine Only.trans ?_ (by assumption)))⟩
set_option maxHeartbeats 2000000 in
theorem between_yes (cs : List Value) (x : Puzzle) (t : Table) (fp : List Nat) (va vb : Value) (b : List Int) (fa fb : List Nat) (j : Nat) (w : World) (h : Rp.rep w cs x fp) (ha : Rd w va (PM.pts x.points.toNat) fa) (hb : Rd w vb b fb) (he : expl x = some t) (hg : PM.Grp x.points.toNat x.moves b) (hj : j < t.patterns.length) (hjs : t.patterns.getD j [] = PM.inv b) :
    Calls Tryz.prog 61 #[.agg cs.toArray, va, vb] w fun e w' => ∃ z, e = .returned (.tuple #[z, .int .i64 j, .bool true]) ∧ Exp w' x t z ∧ Only [] w w' := by
  have h0 := h
  obtain ⟨v2, rfl, p0, p1, h2⟩ := h
  obtain ⟨hbt, -⟩ := expl_built he
  have hf := validPz_facts hbt.v
  have hpn : PM.PN x.points.toNat b := hg.pn (validPz_pn hbt.v)
  obtain ⟨i0, hi0, e0⟩ := expl_place he (PM.Grp.id (n := x.points.toNat) (G := x.moves))
  obtain ⟨i1, hi1, e1⟩ := expl_place he hg
  have hcm : PM.comp (PM.inv b) (PM.pts x.points.toNat) = PM.inv b := PM.comp_id hpn.inv
  have He := Lib.hid he
  have E0 := Lib.hid e0
  have E1 := Lib.hid e1
  have Hjs := Lib.hid (hjs.trans hcm.symm)
  have Hpn := Lib.hid hpn
  have hn1000 : x.points.toNat ≤ 1000 := by omega
  have Hn := Lib.hid hn1000
  have Hbl := Lib.hid (show b.length ≤ 1000 by rw [hpn.1]; omega)
  have HIp : Hid (PM.IsP b) := Lib.hid hpn.2
  have HPi := Lib.hid hpn.inv
  clear p0 p1 h2 he e0 e1 hjs hcm hpn hbt hg hf hn1000
  go_enter Tryz.func61, Tryz.ntmps61
  go_wp2_with (first
    | (go_at_call 79; (with_reducible refine (exploreState_yes [.int .i64 x.points, .string x.names, v2] x t _ va _ fa i0 _ (Rp.keep h0 (by with_reducible repeat (first | exact Only.refl _ _ | assumption | refine Only.drewN ?_ _ | refine Only.drew ?_ | refine Only.alloc ?_ _ | refine Only.setCell ?_ (by intro hh; exfalso; simp at hh; try omega) _ | refine Only.trans ?_ (by assumption)))) (Rp.keep ha (by with_reducible repeat (first | exact Only.refl _ _ | assumption | refine Only.drewN ?_ _ | refine Only.drew ?_ | refine Only.alloc ?_ _ | refine Only.setCell ?_ (by intro hh; exfalso; simp at hh; try omega) _ | refine Only.trans ?_ (by assumption)))) He.out hi0 E0.out).mono ?_); rintro e w1 ⟨z, rfl, hX, t1⟩; have k1 : Only [] w w1 := (by with_reducible repeat (first | exact Only.refl _ _ | assumption | refine Only.drewN ?_ _ | refine Only.drew ?_ | refine Only.alloc ?_ _ | refine Only.setCell ?_ (by intro hh; exfalso; simp at hh; try omega) _ | refine Only.trans ?_ (by assumption))))
    | (go_at_call 80; (with_reducible refine (find_yes x t z vb b fb i1 _ hX He.out (Rp.keep hb k1) hi1 E1.out).mono ?_); rintro e w2 ⟨rfl, t2⟩)
    | (go_at_call 71; (with_reducible refine (implInverse0_rd vb b fb w2 (Rp.keep hb (k1.trans t2)) HIp.out Hbl.out).mono ?_); rintro e w3 ⟨v3, f3, rfl, r3, F3, t3⟩)
    | (go_at_call 70; (with_reducible refine (implCompose_rd x.points.toNat v3 va _ _ f3 fa w3 r3 (Rp.keep ha ((k1.trans t2).trans t3)) HPi.out (PM.PN.id _) Hn.out).mono ?_); rintro e w4 ⟨v4, f4, rfl, r4, F4, t4⟩)
    | (go_at_call 81; (with_reducible refine (at_yes x t z v4 _ f4 j w4 (((hX.keep t2).keep t3).keep t4) He.out r4 hj Hjs.out).mono ?_); rintro e w5 ⟨rfl, t5⟩)
    | fail "no arm")
  exact bodyPost_ret (v := .tuple #[z, .int .i64 j, .bool true]) (by simp [results, Tryz.results61, go_sem]) rfl ⟨z, rfl, (((hX.keep t2).keep t3).keep t4).keep t5, (((k1.trans t2).trans t3).trans t4).trans t5⟩
set_option maxHeartbeats 2000000 in
theorem implWordBetween_id (cs : List Value) (x : Puzzle) (fp : List Nat) (va vb : Value) (b : List Int) (fa fb : List Nat) (w : World) (h : Rp.rep w cs x fp) (ha : Rd w va (PM.pts x.points.toNat) fa) (hb : Rd w vb b fb) (hg : PM.Grp x.points.toNat x.moves b) :
    Calls Tryz.prog 33 #[.agg cs.toArray, va, vb] w fun e w' => ∃ u fp', e = .returned (.tuple #[u, .bool (optX x (PM.inv b)).isSome]) ∧ Rd w' u ((optX x (PM.inv b)).getD []) fp' ∧ Fresh w.heap.size w' fp' ∧ Only [] w w' := by
  have h0 := h
  obtain ⟨v2, rfl, p0, p1, h2⟩ := h
  clear p0 p1 h2
  rcases he : expl x with _ | t
  · have Hn := Lib.hid (optX_noexpl (s := PM.inv b) he)
    have He := Lib.hid he
    clear he
    go_enter Tryz.func33, Tryz.ntmps33
    go_wp2_with (first
      | (go_at_call 61; (with_reducible refine (between_no [.int .i64 x.points, .string x.names, v2] x _ va vb _ (Rp.keep h0 (by with_reducible repeat (first | exact Only.refl _ _ | assumption | refine Only.drewN ?_ _ | refine Only.drew ?_ | refine Only.alloc ?_ _ | refine Only.setCell ?_ (by intro hh; exfalso; simp at hh; try omega) _ | refine Only.trans ?_ (by assumption)))) He.out).mono ?_); rintro e w1 ⟨rfl, t1⟩)
      | fail "no arm")
    exact bodyPost_ret (v := .tuple #[.slice none 0 0, .bool false]) (by simp [results, Tryz.results33, go_sem]) rfl ⟨.slice none 0 0, [], by rw [Hn.out]; rfl, by rw [Hn.out]; exact nil_rd _, Fresh.nil _ _, (by with_reducible repeat (first | exact Only.refl _ _ | assumption | refine Only.drewN ?_ _ | refine Only.drew ?_ | refine Only.alloc ?_ _ | refine Only.setCell ?_ (by intro hh; exfalso; simp at hh; try omega) _ | refine Only.trans ?_ (by assumption)))⟩
  · obtain ⟨hbt, -⟩ := expl_built he
    have hgi : PM.Grp x.points.toNat x.moves (PM.inv b) := hg.inv (validPz_pn hbt.v)
    obtain ⟨i, hi, e1, -, e2, hd0, hd3⟩ := distX_yes he ((expl_reach he).1 ((expl_mem he).2 hgi))
    obtain ⟨N, hN⟩ : ∃ N : Nat, t.distances.getD i 0 = (N : Int) := ⟨_, (Int.toNat_of_nonneg hd0).symm⟩
    have He := Lib.hid he
    have E1 := Lib.hid e1
    have HN := Lib.hid hN
    have Hg := Lib.hid hg
    by_cases h200 : N ≤ 200
    · have hox := optX_yes he (s := PM.inv b) ⟨by omega, by omega⟩
      rw [e2, hN, Int.toNat_natCast] at hox
      have Hn := Lib.hid hox
      clear he hg hgi hbt e1 e2 hN hox hd0 hd3
      go_enter Tryz.func33, Tryz.ntmps33
      go_wp2_with (first
        | (go_at_call 61; (with_reducible refine (between_yes [.int .i64 x.points, .string x.names, v2] x t _ va vb b fa fb i _ (Rp.keep h0 (by with_reducible repeat (first | exact Only.refl _ _ | assumption | refine Only.drewN ?_ _ | refine Only.drew ?_ | refine Only.alloc ?_ _ | refine Only.setCell ?_ (by intro hh; exfalso; simp at hh; try omega) _ | refine Only.trans ?_ (by assumption)))) (Rp.keep ha (by with_reducible repeat (first | exact Only.refl _ _ | assumption | refine Only.drewN ?_ _ | refine Only.drew ?_ | refine Only.alloc ?_ _ | refine Only.setCell ?_ (by intro hh; exfalso; simp at hh; try omega) _ | refine Only.trans ?_ (by assumption)))) (Rp.keep hb (by with_reducible repeat (first | exact Only.refl _ _ | assumption | refine Only.drewN ?_ _ | refine Only.drew ?_ | refine Only.alloc ?_ _ | refine Only.setCell ?_ (by intro hh; exfalso; simp at hh; try omega) _ | refine Only.trans ?_ (by assumption)))) He.out Hg.out hi E1.out).mono ?_); rintro e w1 ⟨z, rfl, hX, t1⟩)
        | (go_at_call 62; (with_reducible refine (optimalWord_any x t z i N _ (hX.keep (by with_reducible repeat (first | exact Only.refl _ _ | assumption | refine Only.drewN ?_ _ | refine Only.drew ?_ | refine Only.alloc ?_ _ | refine Only.setCell ?_ (by intro hh; exfalso; simp at hh; try omega) _ | refine Only.trans ?_ (by assumption)))) He.out hi HN.out h200).mono ?_); rintro e w2 ⟨u2, f2, rfl, r2, F2, t2⟩)
        | fail "no arm")
      have K2 : Only [] w w2 := (by with_reducible repeat (first | exact Only.refl _ _ | assumption | refine Only.drewN ?_ _ | refine Only.drew ?_ | refine Only.alloc ?_ _ | refine Only.setCell ?_ (by intro hh; exfalso; simp at hh; try omega) _ | refine Only.trans ?_ (by assumption)))
      have hsz := t1.size
      simp at hsz
      exact bodyPost_ret (v := .tuple #[u2, .bool true]) (by simp [results, Tryz.results33, go_sem]) rfl ⟨u2, f2, by rw [Hn.out]; rfl, by rw [Hn.out, ← E1.out]; exact r2, F2.mono (by omega), K2⟩
    · have Hn := Lib.hid (optX_no (x := x) (s := PM.inv b) (fun hh => by rw [e2, hN] at hh; omega))
      have H2 := Lib.hid (show (200 : Int) < t.distances.getD i 0 by rw [hN]; omega)
      clear he hg hgi hbt e1 e2 hN hd0 hd3 h200
      go_enter Tryz.func33, Tryz.ntmps33
      go_wp2_with (first
        | (go_at_call 61; (with_reducible refine (between_yes [.int .i64 x.points, .string x.names, v2] x t _ va vb b fa fb i _ (Rp.keep h0 (by with_reducible repeat (first | exact Only.refl _ _ | assumption | refine Only.drewN ?_ _ | refine Only.drew ?_ | refine Only.alloc ?_ _ | refine Only.setCell ?_ (by intro hh; exfalso; simp at hh; try omega) _ | refine Only.trans ?_ (by assumption)))) (Rp.keep ha (by with_reducible repeat (first | exact Only.refl _ _ | assumption | refine Only.drewN ?_ _ | refine Only.drew ?_ | refine Only.alloc ?_ _ | refine Only.setCell ?_ (by intro hh; exfalso; simp at hh; try omega) _ | refine Only.trans ?_ (by assumption)))) (Rp.keep hb (by with_reducible repeat (first | exact Only.refl _ _ | assumption | refine Only.drewN ?_ _ | refine Only.drew ?_ | refine Only.alloc ?_ _ | refine Only.setCell ?_ (by intro hh; exfalso; simp at hh; try omega) _ | refine Only.trans ?_ (by assumption)))) He.out Hg.out hi E1.out).mono ?_); rintro e w1 ⟨z, rfl, hX, t1⟩)
        | (go_at_call 62; (with_reducible refine (optimalWord_far x t z i _ (hX.keep (by with_reducible repeat (first | exact Only.refl _ _ | assumption | refine Only.drewN ?_ _ | refine Only.drew ?_ | refine Only.alloc ?_ _ | refine Only.setCell ?_ (by intro hh; exfalso; simp at hh; try omega) _ | refine Only.trans ?_ (by assumption)))) He.out hi H2.out).mono ?_); rintro e w2 ⟨rfl, t2⟩)
        | fail "no arm")
      exact bodyPost_ret (v := .tuple #[.slice none 0 0, .bool false]) (by simp [results, Tryz.results33, go_sem]) rfl ⟨.slice none 0 0, [], by rw [Hn.out]; rfl, by rw [Hn.out]; exact nil_rd _, Fresh.nil _ _, (by with_reducible repeat (first | exact Only.refl _ _ | assumption | refine Only.drewN ?_ _ | refine Only.drew ?_ | refine Only.alloc ?_ _ | refine Only.setCell ?_ (by intro hh; exfalso; simp at hh; try omega) _ | refine Only.trans ?_ (by assumption)))⟩
set_option maxHeartbeats 2000000 in
theorem implStateScramble_any (cs : List Value) (x : Puzzle) (fp : List Nat) (seed : Int) (w : World) (h : Rp.rep w cs x fp) :
    Calls Tryz.prog 14 #[.agg cs.toArray, .int .i64 seed] w fun e w' => ∃ v f, e = .returned (.tuple #[v, .bool (stScr x seed).isSome]) ∧ Rd w' v ((stScr x seed).getD []) f ∧ Fresh w.heap.size w' f ∧ Only [] w w' := by
  have h0 := h
  have hgr := rndS_grp cs x fp seed w h
  obtain ⟨v2, rfl, p0, p1, h2⟩ := h
  clear p0 p1 h2
  rcases hq : (rndS x seed).2
  · have Hn := Lib.hid (stScr_no hq)
    have Hq := Lib.hid hq
    clear hq hgr
    go_enter Tryz.func14, Tryz.ntmps14
    go_wp2_with (first
      | (go_at_call 8; (with_reducible refine (implRandomState_any [.int .i64 x.points, .string x.names, v2] x _ seed _ (Rp.keep h0 (by with_reducible repeat (first | exact Only.refl _ _ | assumption | refine Only.drewN ?_ _ | refine Only.drew ?_ | refine Only.alloc ?_ _ | refine Only.setCell ?_ (by intro hh; exfalso; simp at hh; try omega) _ | refine Only.trans ?_ (by assumption))))).mono ?_); rintro e w1 ⟨u1, f1, he, r1, F1, t1⟩; rw [Hq.out] at he; subst he; obtain ⟨a1, c1, rfl, -⟩ := r1.ints)
      | fail "no arm")
    exact bodyPost_ret (v := .tuple #[.slice none 0 0, .bool false]) (by simp [results, Tryz.results14, go_sem]) rfl ⟨.slice none 0 0, [], by rw [Hn.out]; rfl, by rw [Hn.out]; exact nil_rd _, Fresh.nil _ _, (by with_reducible repeat (first | exact Only.refl _ _ | assumption | refine Only.drewN ?_ _ | refine Only.drew ?_ | refine Only.alloc ?_ _ | refine Only.setCell ?_ (by intro hh; exfalso; simp at hh; try omega) _ | refine Only.trans ?_ (by assumption)))⟩
  · obtain ⟨hv, -⟩ := rndS_valid hq
    have hf := validPz_facts hv
    have hn0 : 0 ≤ x.points := by omega
    have hn1 : x.points ≤ 1000 := by omega
    have Hn := Lib.hid (stScr_yes hq)
    have Hg := Lib.hid (hgr hq)
    have Hq := Lib.hid hq
    clear hq hgr hv hf
    go_enter Tryz.func14, Tryz.ntmps14
    go_wp2_with (first
      | (go_at_call 8; (with_reducible refine (implRandomState_any [.int .i64 x.points, .string x.names, v2] x _ seed _ (Rp.keep h0 (by with_reducible repeat (first | exact Only.refl _ _ | assumption | refine Only.drewN ?_ _ | refine Only.drew ?_ | refine Only.alloc ?_ _ | refine Only.setCell ?_ (by intro hh; exfalso; simp at hh; try omega) _ | refine Only.trans ?_ (by assumption))))).mono ?_); rintro e w1 ⟨u1, f1, he, r1, F1, t1⟩; rw [Hq.out] at he; subst he; have k1 : Only [] w w1 := (by with_reducible repeat (first | exact Only.refl _ _ | assumption | refine Only.drewN ?_ _ | refine Only.drew ?_ | refine Only.alloc ?_ _ | refine Only.setCell ?_ (by intro hh; exfalso; simp at hh; try omega) _ | refine Only.trans ?_ (by assumption))); have hB := Blk.keep (Blk.new_at (t := 29) (cs := [.int .i64 x.points, .string x.names, v2]) rfl) t1; have x0 := hB.cell 0 rfl; have x1 := hB.cell 1 rfl; have x2 := hB.cell 2 rfl)
      | fail "no arm")
    have HW := Lib.hid (fun (V : World) (u2 : Value) (f2 : List Nat) (hV : Only [] w1 V) (hu : Rd V u2 (PM.pts x.points.toNat) f2) => implWordBetween_id [.int .i64 x.points, .string x.names, v2] x _ u2 _ _ f2 f1 V (Rp.keep h0 (k1.trans hV)) hu (Rp.keep r1 hV) Hg.out)
    go_region_held3 (fun w' => Only [] w1 w' ∧ w'.cell? ⟨w.heap.size, 0, none⟩ = some (.int .i64 x.points) ∧ w'.cell? ⟨w.heap.size, 1, none⟩ = some (.string x.names) ∧ w'.cell? ⟨w.heap.size, 2, none⟩ = some (v2)) (((refine and_of ?_ (fun h__ => ⟨h__.cell (by simp) x0, h__.cell (by simp) x1, h__.cell (by simp) x2⟩)); first | exact (Only.refl _ _).drew | exact ((Only.refl _ _).drewN _).drew | exact Only.trans (And.left (by assumption)) (by assumption) | exact Only.alloc (And.left (by assumption)) _ | assumption)) (first | (go_at_call 34; (with_reducible refine (implIdentity_e x.points _ hn0 hn1).mono ?_); rintro e w2 ⟨u2, f2, rfl, r2, F2, t2⟩; have k2 : Only [] w1 w2 := Only.trans (And.left (by assumption)) t2) | (go_at_call 33; (with_reducible refine (HW.out _ u2 f2 (And.left (by assumption)) (Rp.keep r2 (by with_reducible repeat (first | exact Only.refl _ _ | assumption | refine Only.drewN ?_ _ | refine Only.drew ?_ | refine Only.alloc ?_ _ | refine Only.setCell ?_ (by intro hh; exfalso; simp at hh; try omega) _ | refine Only.trans ?_ (by assumption))))).mono ?_); rintro e w3 ⟨u3, f3, rfl, r3, F3, t3⟩; have k3 : Only [] w1 w3 := Only.trans (And.left (by assumption)) t3) | fail "no arm")
    have hsz := (k1.trans k2).size
    go_wp2
    exact bodyPost_ret (v := .tuple #[u3, .bool (optX x (PM.inv (rndS x seed).1)).isSome]) (by simp [results, Tryz.results14, go_sem]) rfl ⟨u3, f3, by rw [Hn.out], by rw [Hn.out]; exact r3, F3.mono hsz, k1.trans k3⟩


end Go.Proofs.YtndcifpbbnebmaaGreat

namespace Go.Proofs.YtndcifpbbnebmaaGreat
open Go.RowKit
set_option maxRecDepth 10000
set_option maxHeartbeats 2000000 in
theorem specApplyWord_yes (cs : List Value) (x : Puzzle) (fp : List Nat) (vs vl : Value) (s l : List Int) (fs fl : List Nat) (w : World) (h : Rp.rep w cs x fp) (hs : Rd w vs s fs) (hl : Rd w vl l fl) (hst : stateB x s = true) (hq : validW x.moves.length l = true) :
    Calls Tryz.prog 15 #[.agg cs.toArray, vs, vl] w fun e w' => ∃ v fp', e = .returned (.tuple #[v, .bool true]) ∧ Rd w' v (appW x s l) fp' ∧ Fresh w.heap.size w' fp' ∧ Only [] w w' := by
  have h0 := h
  obtain ⟨v2, rfl, p0, p1, h2⟩ := h
  obtain ⟨A2, C2, _, _, rfl, -, -⟩ := h2.open_
  obtain ⟨⟨n1, n20⟩, hml, hmp, hpn⟩ := stateB_pn hst
  have hlt := (validW_ltrs hml hq).2
  have hev := evW_pn hmp l hlt
  have Hmp := Lib.hid hmp
  have Hpn := Lib.hid hpn
  have Hlt := Lib.hid hlt
  have Hev := Lib.hid hev
  clear hmp hpn hlt hev
  have X0 := Blk.new w [.int .i64 x.points, .string x.names, .slice A2 x.moves.length C2] 29
  simp only [List.toArray] at X0
  go_enter Tryz.func15, Tryz.ntmps15
  go_wp2_with (first
    | (go_at_call 25; (with_reducible refine (specIsState_any [.int .i64 x.points, .string x.names, .slice A2 x.moves.length C2] x _ vs s _ _ (Rp.keep h0 (by with_reducible repeat (first | exact Only.refl _ _ | assumption | refine Only.drewN ?_ _ | refine Only.drew ?_ | refine Only.alloc ?_ _ | refine Only.setCell ?_ (by intro hh; exfalso; simp at hh; try omega) _ | refine Only.trans ?_ (by assumption)))) (Rp.keep hs (by with_reducible repeat (first | exact Only.refl _ _ | assumption | refine Only.drewN ?_ _ | refine Only.drew ?_ | refine Only.alloc ?_ _ | refine Only.setCell ?_ (by intro hh; exfalso; simp at hh; try omega) _ | refine Only.trans ?_ (by assumption))))).mono ?_); rintro e w1 ⟨he, t1⟩; rw [hst] at he; subst he; have X1 := X0.keep t1; have y2 := X1.cell 2 rfl)
    | (go_at_call 35; (with_reducible refine (isWordOf_rd x.moves.length vl l _ _ (Rp.keep hl (by with_reducible repeat (first | exact Only.refl _ _ | assumption | refine Only.drewN ?_ _ | refine Only.drew ?_ | refine Only.alloc ?_ _ | refine Only.setCell ?_ (by intro hh; exfalso; simp at hh; try omega) _ | refine Only.trans ?_ (by assumption)))) (by omega) (by omega)).mono ?_); rintro e w2 ⟨he, d2⟩; rw [hq] at he; subst he; have t2 := d2.only []; have X2 := X1.keep t2; have z0 := X2.cell 0 rfl; have z2 := X2.cell 2 rfl)
    | (go_at_call 37; (with_reducible refine (specEvaluate_i x.points n1 n20 _ _ x.moves l _ _ _ (Rp.keep h2 (by with_reducible repeat (first | exact Only.refl _ _ | assumption | refine Only.drewN ?_ _ | refine Only.drew ?_ | refine Only.alloc ?_ _ | refine Only.setCell ?_ (by intro hh; exfalso; simp at hh; try omega) _ | refine Only.trans ?_ (by assumption)))) (Rp.keep hl (by with_reducible repeat (first | exact Only.refl _ _ | assumption | refine Only.drewN ?_ _ | refine Only.drew ?_ | refine Only.alloc ?_ _ | refine Only.setCell ?_ (by intro hh; exfalso; simp at hh; try omega) _ | refine Only.trans ?_ (by assumption)))) Hmp.out (by omega) Hlt.out).mono ?_); rintro en w3 ⟨v3, f3, rfl, r3, F3, t3⟩)
    | (go_at_call 36; (with_reducible refine (specCompose_rd x.points.toNat _ _ _ _ _ _ _ (Rp.keep hs (by with_reducible repeat (first | exact Only.refl _ _ | assumption | refine Only.drewN ?_ _ | refine Only.drew ?_ | refine Only.alloc ?_ _ | refine Only.setCell ?_ (by intro hh; exfalso; simp at hh; try omega) _ | refine Only.trans ?_ (by assumption)))) r3 Hpn.out Hev.out (by omega)).mono ?_); rintro en w4 ⟨v4, f4, rfl, r4, F4, t4⟩)
    | fail "no arm")
  exact bodyPost_ret (v := .tuple #[v4, .bool true]) (by simp [results, Tryz.results15, go_sem]) rfl ⟨_, f4, rfl, r4, F4.mono (Only.size (fp := []) (by with_reducible repeat (first | exact Only.refl _ _ | assumption | refine Only.drewN ?_ _ | refine Only.drew ?_ | refine Only.alloc ?_ _ | refine Only.setCell ?_ (by intro hh; exfalso; simp at hh; try omega) _ | refine Only.trans ?_ (by assumption)))), (by with_reducible repeat (first | exact Only.refl _ _ | assumption | refine Only.drewN ?_ _ | refine Only.drew ?_ | refine Only.alloc ?_ _ | refine Only.setCell ?_ (by intro hh; exfalso; simp at hh; try omega) _ | refine Only.trans ?_ (by assumption)))⟩


end Go.Proofs.YtndcifpbbnebmaaGreat

namespace Go.Proofs.YtndcifpbbnebmaaGreat
open Go.RowKit
set_option maxRecDepth 10000
theorem validW_ltrsI {n : Nat} (hn : n ≤ 8) {wl : List Int} : validW n wl = true ↔ wl.length ≤ 200 ∧ ∀ a ∈ wl, a ∈ ltrs n := by
  unfold validW
  rw [Bool.and_eq_true, decide_eq_true_iff, List.all_eq_true]
  have : ∀ a, okLetter n a = true ↔ a ∈ ltrs n := by
    intro a; rw [okLetter_iff, mem_ltrs]; omega
  simp only [this]





end Go.Proofs.YtndcifpbbnebmaaGreat

namespace Go.Proofs.YtndcifpbbnebmaaGreat
open Go.RowKit
set_option maxRecDepth 10000

section
variable {x : Puzzle} {t : Table}
theorem fold_comp (hp : ∀ g ∈ x.moves, PM.PN x.points.toNat g) : ∀ (w p q : List Int), PM.PN x.points.toNat p → PM.PN x.points.toNat q → (∀ l ∈ w, l ∈ ltrs x.moves.length) → w.foldl (nxt x) (PM.comp p q) = PM.comp p (w.foldl (nxt x) q)
  | [], _, _, _, _, _ => rfl
  | l :: w, p, q, h1, h2, h3 => by
    have hl := mv_pn hp (h3 l (by simp))
    show w.foldl (nxt x) (PM.comp (PM.comp p q) (mv x.moves l)) = PM.comp p (w.foldl (nxt x) (PM.comp q (mv x.moves l)))
    rw [PM.comp_assoc h1 h2]
    exact fold_comp hp w p _ h1 (h2.comp hl) (fun l' hl' => h3 l' (List.mem_cons_of_mem _ hl'))
theorem fold_ev (hp : ∀ g ∈ x.moves, PM.PN x.points.toNat g) {p : List Int} (pp : PM.PN x.points.toNat p) {w : List Int} (hw : ∀ l ∈ w, l ∈ ltrs x.moves.length) : w.foldl (nxt x) p = PM.comp p (evW x.points.toNat x.moves w) := by
  have h := fold_comp hp w p (PM.pts x.points.toNat) pp (PM.PN.id _) hw
  rw [PM.comp_id pp] at h
  exact h
theorem fold_walk (hb : Built x t) : ∀ (w : List Int) (i : Nat), i < t.patterns.length → (∀ l ∈ w, l ∈ ltrs x.moves.length) → ∃ j : Nat, j < t.patterns.length ∧ t.patterns.getD j [] = w.foldl (nxt x) (t.patterns.getD i []) ∧ t.distances.getD j 0 ≤ t.distances.getD i 0 + w.length
  | [], i, hi, _ => ⟨i, hi, rfl, by simp⟩
  | l :: w, i, hi, h => by
    obtain ⟨i', b1, b2, b3, -⟩ := hb.step hi (h l (by simp))
    obtain ⟨j, c1, c2, c3⟩ := fold_walk hb w i' b1 (fun l' hl' => h l' (List.mem_cons_of_mem _ hl'))
    refine ⟨j, c1, by rw [c2, b2]; rfl, ?_⟩
    rw [List.length_cons]; push_cast; omega
theorem fold_end (hb : Built x t) : ∀ (n i : Nat), i < t.patterns.length → t.distances.getD i 0 = n → (oW x t n (t.patterns.getD i [])).foldl (nxt x) (t.patterns.getD i []) = t.tracked
  | 0, i, hi, hd => by
    have h3 := (hb.dep i hi).2.2
    have h0 : i = 0 := by
      rcases Nat.eq_zero_or_pos i with h | h
      · exact h
      · have := h3 h; rw [hd] at this; omega
    exact (hb.root hi).2 h0
  | n + 1, i, hi, hd => by
    obtain ⟨k, j, hD⟩ := hb.down hi (n := n) (by rw [hd]; rfl)
    rw [hD.oW_]
    show (oW x t n (t.patterns.getD j [])).foldl (nxt x) (nxt x (t.patterns.getD i []) _) = _
    rw [← hD.nx]
    exact fold_end hb n j hD.hj hD.ds
/-- the optimal word leads to the solved state: it undoes the state -/
theorem opt_leads {s wd : List Int} (he : expl x = some t) (hs : PM.Grp x.points.toNat x.moves s) (ho : optX x s = some wd) : evW x.points.toNat x.moves wd = PM.inv s ∧ ∀ l ∈ wd, l ∈ ltrs x.moves.length := by
  obtain ⟨hb, htr⟩ := expl_built he
  have hp := validPz_pn hb.v
  have hpn := hs.pn hp
  obtain ⟨i, hi, e1, -, e2, hd0, hd3⟩ := distX_yes he ((expl_reach he).1 ((expl_mem he).2 hs))
  obtain ⟨N, hN⟩ : ∃ N : Nat, t.distances.getD i 0 = (N : Int) := ⟨_, (Int.toNat_of_nonneg hd0).symm⟩
  have hc : 0 ≤ distX x s ∧ distX x s ≤ 200 := by
    by_cases hc : 0 ≤ distX x s ∧ distX x s ≤ 200
    · exact hc
    · rw [optX_no hc] at ho; cases ho
  rw [optX_yes he hc, e2, hN, Int.toNat_natCast] at ho
  injection ho with ho
  subst ho
  have hl : ∀ l ∈ oW x t N s, l ∈ ltrs x.moves.length := by rw [← e1]; exact oW_letters hb N i hi hN
  have hf := fold_end hb N i hi hN
  rw [e1, htr, fold_ev hp hpn hl] at hf
  exact ⟨PM.inv_of hpn (evW_pn hp _ hl) hf, hl⟩
theorem dist_inv_le {s : List Int} (he : expl x = some t) (hs : PM.Grp x.points.toNat x.moves s) : distX x (PM.inv s) ≤ distX x s := by
  obtain ⟨hb, htr⟩ := expl_built he
  have hp := validPz_pn hb.v
  have hpn := hs.pn hp
  obtain ⟨i, hi, e1, -, e2, hd0, hd3⟩ := distX_yes he ((expl_reach he).1 ((expl_mem he).2 hs))
  obtain ⟨N, hN⟩ : ∃ N : Nat, t.distances.getD i 0 = (N : Int) := ⟨_, (Int.toNat_of_nonneg hd0).symm⟩
  have hl : ∀ l ∈ oW x t N s, l ∈ ltrs x.moves.length := by rw [← e1]; exact oW_letters hb N i hi hN
  have hf := fold_end hb N i hi hN
  rw [e1, htr, fold_ev hp hpn hl] at hf
  have hev := PM.inv_of hpn (evW_pn hp _ hl) hf
  have hpos : 0 < t.patterns.length := by omega
  obtain ⟨j, j1, j2, j3⟩ := fold_walk hb (oW x t N s) 0 hpos hl
  have h00 : t.distances.getD 0 0 = 0 := hb.bi.d0
  rw [(hb.root hpos).2 rfl, htr, fold_ev hp (PM.PN.id _) hl, hev, PM.id_comp hpn.inv] at j2
  rw [h00, oW_len] at j3
  obtain ⟨i', hi', f1, f3, f2, -, -⟩ := distX_yes he ((expl_reach he).1 ((expl_mem he).2 (hs.inv hp)))
  have hij : (i' : Int) = j := by rw [← f3, ← j2, hb.idx j1]
  have hij' : i' = j := by omega
  subst hij'
  rw [f2, e2, hN]
  omega
theorem dist_inv {s : List Int} (he : expl x = some t) (hs : PM.Grp x.points.toNat x.moves s) : distX x (PM.inv s) = distX x s := by
  obtain ⟨hb, -⟩ := expl_built he
  have hp := validPz_pn hb.v
  have h1 := dist_inv_le he hs
  have h2 := dist_inv_le he (hs.inv hp)
  rw [PM.inv_inv (hs.pn hp)] at h2
  omega
end
/-- a small puzzle has few states -/
theorem card_small {x : Puzzle} (hv : validPz x = true) (h5 : x.points ≤ 5) (hex : ∃ G T, PM.Chain x.points.toNat x.moves G T) : cardG x ≤ 120 := by
  obtain ⟨G, T, h⟩ := hex
  have hf := validPz_facts hv
  have hn : 0 < x.points.toNat := by omega
  have h1 := chain_card h hn (validPz_pn hv)
  have h2 := (PM.ordM_rng h.inv.wf x.points.toNat (Nat.le_refl _)).2
  have h3 := PM.fac_mono (show x.points.toNat ≤ 5 by omega)
  have h4 : PM.fac 5 = 120 := by decide
  unfold cardG
  omega
/-- the scramble of a random state of a small puzzle -/
theorem stScr_small {x : Puzzle} {seed : Int} (h5 : x.points ≤ 5) (hex : ∃ G T, PM.Chain x.points.toNat x.moves G T) (hq : (rndS x seed).2 = true) (hg : PM.Grp x.points.toNat x.moves (rndS x seed).1) :
    ∃ wd, stScr x seed = some wd ∧ (wd.length : Int) = distX x (rndS x seed).1 ∧ validW x.moves.length wd = true ∧ appW x (PM.pts x.points.toNat) wd = (rndS x seed).1 := by
  obtain ⟨hv, -⟩ := rndS_valid hq
  have hc := card_small hv h5 hex
  obtain ⟨t, ht⟩ := expl_some hv (by omega)
  obtain ⟨hb, -⟩ := expl_built ht
  have hp := validPz_pn hv
  have hgi := hg.inv hp
  obtain ⟨i, hi, e1, -, e2, hd0, hd3⟩ := distX_yes ht ((expl_reach ht).1 ((expl_mem ht).2 hgi))
  have hdep := (hb.dep i hi).2.1
  have hln := expl_len ht
  have hox := optX_yes ht (s := PM.inv (rndS x seed).1) ⟨by omega, by omega⟩
  obtain ⟨wd, hwd⟩ : ∃ wd, wd = oW x t (distX x (PM.inv (rndS x seed).1)).toNat (PM.inv (rndS x seed).1) := ⟨_, rfl⟩
  rw [← hwd] at hox
  obtain ⟨l1, l2⟩ := optX_len hox
  obtain ⟨o1, o2⟩ := opt_leads ht hgi hox
  rw [PM.inv_inv (hg.pn hp)] at o1
  have hm8 := (gensB_iff.1 (validPz_gensB hv)).2.1
  refine ⟨wd, by rw [stScr_yes hq, hox], by rw [l1, dist_inv ht hg], (validW_ltrsI hm8).2 ⟨l2, o2⟩, ?_⟩
  unfold appW
  rw [o1, PM.id_comp (hg.pn hp)]
end Go.Proofs.YtndcifpbbnebmaaGreat

namespace PM
theorem desc_alike {n : Nat} {T : Rows} (hw : WF n T) (sel : Nat → Nat → Nat) (hs : ∀ i, i < n → sel i (cntR n T i) < cntR n T i) : ∀ (k i : Nat) (m : List Int), i + k = n → PN n m → PN n (desc T n sel k i m) ∧ Alike i (desc T n sel k i m) m
  | 0, _, _, _, hm => ⟨hm, fun _ _ _ => rfl⟩
  | k + 1, i, m, hi, hm => by
    have hl := cho_len (T := T) (i := i) hm
    have hlt : sel i (cho n T i m).length < (cho n T i m).length := by rw [hl]; exact hs i (by omega)
    have hv : (cho n T i m).getD (sel i (cho n T i m).length) 0 ∈ cho n T i m := by rw [List.getD_eq_getElem?_getD, List.getElem?_eq_getElem hlt]; exact List.getElem_mem hlt
    obtain ⟨p1, p2, -⟩ := putV_pn hw (by omega : i < n) hm hv
    obtain ⟨q1, q2⟩ := desc_alike hw sel hs k (i + 1) _ (by omega) p1
    exact ⟨q1, fun x x0 x1 => (q2 x x0 (by omega)).trans (p2 x x0 x1)⟩
/-- the entry that a level chooses stays -/
theorem desc_at {n : Nat} {T : Rows} (hw : WF n T) (sel : Nat → Nat → Nat) (hs : ∀ i, i < n → sel i (cntR n T i) < cntR n T i) {i : Nat} (hi : i < n) {m : List Int} (hm : PN n m) {q : Nat} (hq : q = sel i (cho n T i m).length) (hl : q < (cho n T i m).length) :
    at_ (desc T n sel (n - i) i m) (i : Int) = (cho n T i m)[q] := by
  rw [desc_step hi m hq hl]
  have hv : (cho n T i m)[q] ∈ cho n T i m := List.getElem_mem hl
  obtain ⟨p1, p2, p3⟩ := putV_pn hw hi hm hv
  obtain ⟨-, q2⟩ := desc_alike hw sel hs (n - (i + 1)) (i + 1) _ (by omega) p1
  rw [q2 (i : Int) (by omega) (by omega), p3]
theorem asc_lt {l : List Int} (h : Asc l) {a b : Nat} (hb : b < l.length) (hab : a < b) : l[a]'(Nat.lt_trans hab hb) < l[b] := List.pairwise_iff_getElem.1 h a b _ hb hab
theorem asc_cmp {l : List Int} (h : Asc l) {a b : Nat} (ha : a < l.length) (hb : b < l.length) : l[a] < l[b] ↔ a < b := by
  constructor
  · intro hl
    rcases Nat.lt_trichotomy a b with h1 | h1 | h1
    · exact h1
    · subst h1; omega
    · have := asc_lt h ha h1; omega
  · exact fun hab => asc_lt h hb hab
end PM
namespace Go.Proofs.YtndcifpbbnebmaaGreat
open Go.RowKit
set_option maxRecDepth 10000

/-- one level more: what the levels above stand for -/
theorem sum_step {k a b q r : Nat} (hq : q = (k % a) / r) (hb : k % a % r = k % b) (hbr : b = r) : (k - k % a) + q * r = k - k % b := by
  subst hbr
  have h1 := Nat.div_add_mod (k % a) b
  have h2 := Nat.mod_le k a
  rw [← hq, hb, Nat.mul_comm] at h1
  omega
set_option maxHeartbeats 4000000 in
theorem countBelow_at (n : Nat) {B : Nat} {L : Lay} {gv : Nat → Value} {gens : List (List Int)} {G : PM.Gens} {T : PM.Rows} {M F : List Nat} (k : Nat) (vp : Value) (p : List Int) (fp : List Nat) (w : World) (hC : Ch 32 B w L gv n G T M F) (hCh : PM.Chain n gens G T) (hoT : L.oT = 1) (hpn : ∀ g ∈ gens, PM.PN n g) (hp : Rd w vp p fp) (hk : k < ordC n gens n) (hpe : p = memAt n gens k) :
    Calls Tryz.prog 29 #[.pointer (some ⟨L.g, 0, none⟩), vp] w fun e w' => e = .returned (.tuple #[.int .i64 k, .bool true]) ∧ Only [] w w' := by
  have hn : 0 < n := hC.pos
  have hn20 : n ≤ 20 := hC.le
  obtain ⟨aP, cP, rfl, IP⟩ := hp.ints
  have hgood := msel_good hCh hn hpn k
  have hpd : p = PM.desc T n (msel n gens k) (n - 0) 0 (PM.pts n) := by rw [hpe, Nat.sub_zero]; exact (hCh.descG hn hpn (msel n gens k) hgood).symm
  have hpp : PM.PN n p := by rw [hpe]; exact (hCh.descG_grp hn hpn (msel n gens k) hgood).pn hpn
  have hpl : p.length = n := hpp.1
  have cn := hC.cn
  have HOE : Hid (∀ j, j ≤ n → PM.ordM T n j = ordC n gens j) := Lib.hid (fun j hj => ordC_eq hCh hn hpn hj)
  have Hst : Hid (∀ i, i < n → k % ordC n gens (n - i) % ordC n gens (n - (i + 1)) = k % ordC n gens (n - (i + 1))) := Lib.hid (fun i hi => mod_step hCh hn hpn k hi)
  have Hpos : Hid (∀ j, j ≤ n → 1 ≤ ordC n gens j) := Lib.hid (fun j hj => ordC_pos hCh hn hpn hj)
  have Hle : Hid (∀ j, j ≤ n → ordC n gens j ≤ 2432902008176640000) := Lib.hid (fun j hj => ordC_le hCh hn hpn hn20 hj)
  have Hk0 : Hid (k - k % ordC n gens (n - 0) = 0) := Lib.hid (by rw [Nat.sub_zero, Nat.mod_eq_of_lt hk]; omega)
  have Hk1 : Hid (k - k % ordC n gens (n - n) = k) := Lib.hid (by
    have h1 : ordC n gens (n - n) = 1 := by rw [← HOE.out _ (by omega), Nat.sub_self]; rfl
    rw [h1, Nat.mod_one]; rfl)
  have hkle : k ≤ 2432902008176640000 := by have := Hle.out n (Nat.le_refl _); omega
  have Hgood := Lib.hid hgood
  have Hwf := Lib.hid hCh.inv.wf
  have HoT := Lib.hid hoT
  have HC := Lib.hid hC
  have HCh := Lib.hid hCh
  have Hpn := Lib.hid hpn
  have Hpd := Lib.hid hpd
  have Hpl := Lib.hid hpl
  have HIP := Lib.hid IP
  have hpb := IP.bound
  rw [hpl] at hpb
  clear hC hCh hoT hpn hgood hpd hpp hpl hpe hk hp IP
  go_enter Tryz.func29, Tryz.ntmps29
  go_wp2_with (first
    | (go_at_call 51; (with_reducible refine (perChoice_any w HC.out Hwf.out HoT.out).mono ?_); rintro en w5 ⟨v5, rfl, hA5, t5⟩; obtain ⟨a5, c5, rfl, I5⟩ := hA5.rd.ints; have cn5 := t5.cell (by simp) cn)
    | (go_at_call 52; (with_reducible refine (specIdentity_any n w5 (by omega)).mono ?_); rintro en w6 ⟨v6, f6, rfl, r6, F6, t6⟩)
    | fail "no arm")
  have k56 : Only [] w w6 := t5.trans t6
  have hC6 := (HC.out.keep t5).keep t6
  have I6 := I5.keep t6
  have cn6 := t6.cell (by simp) cn5
  have IP6 := HIP.out.keep k56
  have hp5 : (perL n T 0).length = n := perL_len n T 0
  have Hp5 := Lib.hid hp5
  clear t5 t6 F6 hA5 I5 hp5 HC HIP cn cn5
  go_loopw [7, 8, 9] (fun v tot i wr => ∃ (j : Nat) (m : List Int) (f : List Nat), j ≤ n ∧ i = .int .i64 j ∧ tot = .int .i64 (k - k % ordC n gens (n - j) : Nat) ∧ Rd wr v m f ∧ PM.Grp n gens m ∧ Hid (p = PM.desc T n (msel n gens k) (n - j) j m) ∧ Only [] w6 wr)
    (fun _ _ i _ => n - (intOf i).toNat)
  case atStart => exact ⟨0, PM.pts n, f6, Nat.zero_le _, rfl, by rw [Hk0.out]; rfl, r6, .id, Hpd, Only.refl _ _⟩
  case round =>
    obtain ⟨W2, hnew⟩ : ∃ W, W = wr := ⟨_, rfl⟩
    subst hnew
    clear r6
    obtain ⟨j, m, f, hj, rfl, rfl, hr, hgr, hRR, hO⟩ := hrel
    have yn := hO.cell (by simp) cn6
    by_cases hlt : j < n
    · have hC2 := hC6.keep hO
      have hpm : PM.PN n m := hgr.pn Hpn.out
      have hwf := Hwf.out
      obtain ⟨C, hCd⟩ : ∃ C, C = PM.cho n T j m := ⟨_, rfl⟩
      have hCl : C.length = PM.cntR n T j := by rw [hCd, PM.cho_len hpm]
      have hCl2 : C.length ≤ 20 := by rw [hCl]; have := PM.cntR_le n T j; omega
      have hasc : PM.Asc C := by rw [hCd]; exact PM.choO_asc _ _
      obtain ⟨r, hrr⟩ : ∃ r, r = ordC n gens (n - (j + 1)) := ⟨_, rfl⟩
      obtain ⟨q, hq⟩ : ∃ q, q = (k % ordC n gens (n - j)) / r := ⟨_, rfl⟩
      have hqs : q = msel n gens k j C.length := by rw [hq, hrr]; rfl
      have hql : q < C.length := by
        have h1 := Hgood.out j hlt
        rw [hCl]
        have h2 : msel n gens k j C.length = msel n gens k j (PM.cntR n T j) := rfl
        rw [hqs, h2]; exact h1
      have hkm : C[q] ∈ PM.cho n T j m := by rw [← hCd]; exact List.getElem_mem hql
      have hgr2 := HCh.out.putV hn Hpn.out hlt hgr hkm
      have hRR2 : p = PM.desc T n (msel n gens k) (n - (j + 1)) (j + 1) (PM.putV T j m C[q]) := by
        subst hCd
        rw [hRR.out]
        exact PM.desc_step hlt m hqs hql
      have hjp : j < p.length := by rw [Hpl.out]; exact hlt
      have hpj : p[j] = C[q] := by
        rw [← PM.at_nat p j hjp]
        have h1 := PM.desc_at hwf (msel n gens k) Hgood.out hlt hpm (q := q) (by rw [hqs, hCd]) (by rw [← hCd]; exact hql)
        rw [← hRR.out] at h1
        rw [h1]
        subst hCd
        rfl
      obtain ⟨tot, htot⟩ : ∃ tot, tot = k - k % ordC n gens (n - j) := ⟨_, rfl⟩
      have htot2 : tot + q * r = k - k % ordC n gens (n - (j + 1)) := by rw [htot]; exact sum_step hq (by rw [hrr]; exact Hst.out j hlt) hrr.symm
      have htl : tot + q * r ≤ k := by rw [htot2]; omega
      have hrl : r ≤ 2432902008176640000 := by rw [hrr]; exact Hle.out _ (by omega)
      have hjs : j < (perL n T 0).length := by rw [Hp5.out]; exact hlt
      have hjI : (j : Int) < ((perL n T 0).length : Int) := by omega
      have hjP : (j : Int) < (p.length : Int) := by omega
      obtain ⟨b2, o2, rfl, -, c2⟩ := (I6.keep hO).at_ j hjs
      rw [perL_get hjs, HOE.out _ (by omega), ← hrr] at c2
      obtain ⟨b4, o4, rfl, -, c4⟩ := (IP6.keep hO).at_ j hjp
      rw [hpj] at c4
      have HcS := Lib.hid (choicesAt_any W2 hC2 HoT.out j hlt u7 m f hr hpm)
      rw [← hCd] at HcS
      rw [← htot]
      obtain ⟨x, hx⟩ : ∃ x, x = C[q] := ⟨_, rfl⟩
      have Hx := Lib.hid hx
      rw [← hx] at c4 hkm hgr2 hRR2
      have Hht := Lib.hid htot2
      have HRR2 := Lib.hid hRR2
      have Hgr2 := Lib.hid hgr2
      have Hkm := Lib.hid hkm
      have Hpm := Lib.hid hpm
      have HC2 := Lib.hid hC2
      have Hasc := Lib.hid hasc
      have hltI : (j : Int) < (n : Int) := by omega
      have hxm : decide (x ∈ C) = true := by rw [decide_eq_true_iff, Hx.out]; exact List.getElem_mem hql
      have Hxm := Lib.hid hxm
      clear hCd hCl hrr hq hqs hRR2 hgr2 hkm hpm hwf hC2 hgr hRR htot htot2 hx hasc hxm hpj
      go_wp2_with (first
        | (go_at_call 53; (with_reducible refine (HcS.out).mono ?_); rintro en w7 ⟨b6, o6, c6, f6', rfl, I7, F7, t7⟩; have c27 := t7.cell (by simp) c2; have c47 := t7.cell (by simp) c4; have yn7 := t7.cell (by simp) yn)
        | fail "no arm")
      go_loopw [8, 11] (fun o c wr => ∃ i : Nat, i ≤ q ∧ c = .int .i64 i ∧ o = .int .i64 ((tot + i * r : Nat) : Int) ∧ Only [] w7 wr)
        (fun _ c _ => q + 1 - (intOf c).toNat)
      case atStart => exact ⟨0, Nat.zero_le _, rfl, by rw [Nat.zero_mul, Nat.add_zero], Only.refl _ _⟩
      case round =>
        obtain ⟨W4, hnew⟩ : ∃ W, W = wr := ⟨_, rfl⟩
        subst hnew
        obtain ⟨i, hi, rfl, rfl, hK⟩ := hrel
        have hil : i < C.length := by omega
        have hiI : (i : Int) < (C.length : Int) := by omega
        obtain ⟨b8, o8, e8, -, c8⟩ := (I7.keep hK).at_ i hil
        injection e8 with e8; injection e8 with e81 e82; subst e81; subst e82
        have c2w := hK.cell (by simp) c27
        have c4w := hK.cell (by simp) c47
        have ynw := hK.cell (by simp) yn7
        obtain ⟨y, hy⟩ : ∃ y, y = C[i] := ⟨_, rfl⟩
        rw [← hy] at c8
        have hyx : y < x ↔ i < q := by rw [hy, Hx.out]; exact PM.asc_cmp Hasc.out hil hql
        clear hy
        obtain ⟨s, hs⟩ : ∃ s, s = tot + i * r := ⟨_, rfl⟩
        rw [← hs]
        by_cases hiq : i < q
        · have hlt9 : y < x := hyx.2 hiq
          have hs2 : tot + (i + 1) * r = s + r := by rw [hs, Nat.succ_mul]; omega
          have hsle : s + r ≤ k := by
            rw [← hs2]
            have := Nat.mul_le_mul_right r (show i + 1 ≤ q by omega)
            omega
          have hw : IntKind.i64.wrap ((s : Int) + (r : Int)) = ((s + r : Nat) : Int) := by rw [IntKind.wrap_i64]; omega
          have hwi : IntKind.i64.wrap ((i : Int) + 1) = ((i + 1 : Nat) : Int) := by rw [IntKind.wrap_i64]; omega
          obtain ⟨s', hs'⟩ : ∃ s', s' = s + r := ⟨_, rfl⟩
          rw [← hs'] at hw hs2
          have Hs2 := Lib.hid hs2
          clear hyx hs hs2 hs' hsle
          go_wp2
          go_quiet (fail)
          go_wp2
          go_roundw
          case rel => exact ⟨i + 1, by omega, by go_num, by rw [Hs2.out], (by with_reducible repeat (first | exact Only.refl _ _ | assumption | refine Only.drewN ?_ _ | refine Only.drew ?_ | refine Only.trans ?_ (by assumption)))⟩
          case measure => simp [intOf]; omega
        · have hie : i = q := by omega
          have hlt9 : ¬ y < x := fun h => hiq (hyx.1 h)
          have hsf : s = k - k % ordC n gens (n - (j + 1)) := by rw [hs, hie]; exact Hht.out
          have Hsf := Lib.hid hsf
          clear hyx hs hsf hie hiq
          go_wp2
          go_quiet (fail)
          go_wp2_with (first
            | (go_at_call 54; (with_reducible refine (containsInt_any (some ⟨b6, o6, none⟩) c6 C x f6' _ (I7.keep (by with_reducible repeat (first | exact Only.refl _ _ | assumption | refine Only.drewN ?_ _ | refine Only.drew ?_ | refine Only.trans ?_ (by assumption))))).mono ?_); rintro en w8 ⟨he, n8, rfl⟩; rw [Hxm.out] at he; subst he)
            | (go_at_call 55; (with_reducible refine (withEntry_any _ (HC2.out.keep (by with_reducible repeat (first | exact Only.refl _ _ | assumption | refine Only.drewN ?_ _ | refine Only.drew ?_ | refine Only.trans ?_ (by assumption)))) Hwf.out HoT.out j hlt u7 m f (Rp.keep hr (by with_reducible repeat (first | exact Only.refl _ _ | assumption | refine Only.drewN ?_ _ | refine Only.drew ?_ | refine Only.trans ?_ (by assumption)))) Hpm.out x Hkm.out).mono ?_); rintro en w9 ⟨v9, f9, rfl, r9, F9, t9⟩; have K9 : Only [] W2 w9 := Only.trans (by with_reducible repeat (first | exact Only.refl _ _ | assumption | refine Only.drewN ?_ _ | refine Only.drew ?_ | refine Only.trans ?_ (by assumption))) t9)
            | fail "no arm")
          exact ⟨⟨j + 1, _, f9, by omega, by go_num, by rw [Hsf.out], r9, Hgr2.out, HRR2, hO.trans K9⟩, by simp [intOf]; omega⟩
    · obtain rfl : j = n := by omega
      have hge : ¬ ((j : Int) < (j : Int)) := by omega
      rw [Hk1.out]
      go_wp2
      exact bodyPost_ret (v := .tuple #[.int .i64 k, .bool true]) (by simp [results, Tryz.results29, go_sem]) rfl ⟨rfl, k56.trans hO⟩
theorem rank_chain (n : Nat) (vg : Value) (gens : List (List Int)) (fpg : List Nat) (w : World) (hg : Rd w vg gens fpg) (hgs : gensB n gens = true) : ∃ G T, PM.Chain n gens G T := by
  obtain ⟨⟨n1, n20⟩, hgl, hpn⟩ := gensB_iff.1 hgs
  obtain ⟨e, w', fr, ⟨L, gv, G, T, M, F, -, -, -, -, h, -⟩, -⟩ := buildChain_any n (by omega) (by omega) vg gens fpg w hg (by simpa using hpn) (by omega) []
  exact ⟨G, T, h⟩
set_option maxHeartbeats 1000000 in
theorem specRank_at (n : Nat) (vg vp : Value) (gens : List (List Int)) (p : List Int) (fpg fp : List Nat) (k : Nat) (w : World) (hg : Rd w vg gens fpg) (hp : Rd w vp p fp) (hgs : gensB n gens = true) (hk : k < ordC n gens n) (hpe : p = memAt n gens k) :
    Calls Tryz.prog 12 #[.int .i64 n, vg, vp] w fun e w' => e = .returned (.int .i64 k) ∧ Only [] w w' := by
  obtain ⟨⟨n1, n20⟩, hgl, hpn⟩ := gensB_iff.1 hgs
  have hpn' : ∀ g ∈ gens, PM.PN n g := by simpa using hpn
  have hn : 0 < n := by omega
  have hn20 : n ≤ 20 := by omega
  obtain ⟨G0, T0, h0⟩ := rank_chain n vg gens fpg w hg hgs
  have hpp : PM.PN n p := by rw [hpe]; exact (h0.descG_grp hn hpn' (msel n gens k) (msel_good h0 hn hpn' k)).pn hpn'
  have Hgb : Hid (genB n p = true) := Lib.hid ((genB_iff n1 n20).2 (by simpa using hpp))
  have Hgs := Lib.hid hgs
  have Hpn := Lib.hid hpn'
  have Hk := Lib.hid hk
  have Hpe := Lib.hid hpe
  clear hpn hpn' hgs hk hpe h0 hpp
  go_enter Tryz.func12, Tryz.ntmps12
  go_wp2_with (first
    | (go_at_call 27; (with_reducible refine (specIsGens_rd n vg gens fpg w hg).mono ?_); rintro en w1 ⟨he, t1⟩; rw [Hgs.out] at he; subst he; have t1 := t1.only [])
    | (go_at_call 28; (with_reducible refine (isPermOf_rd (n : Int) vp p fp w1 (Rp.keep hp t1)).mono ?_); rintro en w2 ⟨he, t2⟩; rw [Hgb.out] at he; subst he; have t2 := t2.only [])
    | (go_at_call 30; (with_reducible refine (buildChain_any n hn hn20 vg gens fpg w2 (Rp.keep hg (t1.trans t2)) Hpn.out (by omega)).mono ?_); rintro en w3 ⟨L, gv, G, T, M, F, rfl, hoG, hoT, hC, hCh, t3⟩; have HC := Lib.hid hC; have HCh := Lib.hid hCh; have HoT := Lib.hid hoT; clear hC hCh hoT hoG)
    | (go_at_call 29; (with_reducible refine (countBelow_at n k vp p fp w3 HC.out HCh.out HoT.out Hpn.out (Rp.keep hp ((t1.trans t2).trans t3)) Hk.out Hpe.out).mono ?_); rintro en w4 ⟨rfl, t4⟩)
    | fail "no arm")
  go_ret
  exact ⟨rfl, ((t1.trans t2).trans t3).trans t4⟩
theorem specRank_i (n : Int) (vg vp : Value) (gens : List (List Int)) (p : List Int) (fpg fp : List Nat) (k : Nat) (w : World) (hg : Rd w vg gens fpg) (hp : Rd w vp p fp) (hgs : gensB n gens = true) (hk : k < ordC n.toNat gens n.toNat) (hpe : p = memAt n.toNat gens k) :
    Calls Tryz.prog 12 #[.int .i64 n, vg, vp] w fun e w' => e = .returned (.int .i64 k) ∧ Only [] w w' := by
  obtain ⟨⟨n1, n20⟩, -, -⟩ := gensB_iff.1 hgs
  obtain ⟨m, rfl⟩ := Int.eq_ofNat_of_zero_le (by omega : 0 ≤ n)
  exact specRank_at m vg vp gens p fpg fp k w hg hp hgs hk hpe
end Go.Proofs.YtndcifpbbnebmaaGreat

namespace Go.Proofs.YtndcifpbbnebmaaGreat
open Go.RowKit
set_option maxRecDepth 10000

set_option maxHeartbeats 4000000 in
theorem FnRandomStates_any (w : World) (v : Value) (l : List UInt8) (fc : List Nat) (h : Rd w v l fc) :
    Calls Tryz.prog 3 #[v] w fun e w' => e = .returned (.bool true) ∧ Only [] w w' := by
  by_cases hb : 4096 < l.length
  · have hd : decide (4096 < l.length) = true := by simp [hb]
    go_enter Tryz.func3, Tryz.ntmps3
    go_wp2_with ((go_at_call 4; (with_reducible refine (big_any v l fc _ h).mono ?_); rintro e w1 ⟨he, t1⟩; rw [hd] at he; subst he))
    go_ret
    exact ⟨rfl, (by with_reducible repeat (first | exact Only.refl _ _ | assumption | refine Only.drewN ?_ _ | refine Only.drew ?_ | refine Only.alloc ?_ _ | refine Only.setCell ?_ (by intro hh; exfalso; simp at hh; try omega) _ | refine Only.trans ?_ (by assumption)))⟩
  have hd : decide (4096 < l.length) = false := by simp [hb]
  have hl : l.length ≤ 4096 := by omega
  have hfc : ∀ b ∈ fc, b < w.heap.size := fun b hb => Rp.lt h b hb
  go_enter Tryz.func3, Tryz.ntmps3
  go_upto_region 5 with (first
    | (go_at_call 4; (with_reducible refine (big_any v l fc _ h).mono ?_); rintro e w1 ⟨he, t1⟩; rw [hd] at he; subst he; have k1 : Only [] w w1 := (by with_reducible repeat (first | exact Only.refl _ _ | assumption | refine Only.drewN ?_ _ | refine Only.drew ?_ | refine Only.alloc ?_ _ | refine Only.setCell ?_ (by intro hh; exfalso; simp at hh; try omega) _ | refine Only.trans ?_ (by assumption))))
    | (go_at_call 5; (with_reducible refine (roll_any v l fc 909 _ (Rp.keep h (by with_reducible repeat (first | exact Only.refl _ _ | assumption | refine Only.drewN ?_ _ | refine Only.drew ?_ | refine Only.alloc ?_ _ | refine Only.setCell ?_ (by intro hh; exfalso; simp at hh; try omega) _ | refine Only.trans ?_ (by assumption)))) hl).mono ?_); rintro e w2 ⟨g, rfl, D2, hg, t2⟩; have k2 : Only [] w w2 := (by with_reducible repeat (first | exact Only.refl _ _ | assumption | refine Only.drewN ?_ _ | refine Only.drew ?_ | refine Only.alloc ?_ _ | refine Only.setCell ?_ (by intro hh; exfalso; simp at hh; try omega) _ | refine Only.trans ?_ (by assumption))))
    | (go_at_call 6; (with_reducible refine (w6Puzzle_any g fc l _ D2 hl).mono ?_); rintro e w3 ⟨cs, x, fp, rfl, rP, hv, p3, p5, m1, m3, FP, D3, K3⟩; obtain ⟨v2, rfl, q0, q1, rM⟩ := rP; obtain ⟨A2, C2, _, _, rfl, -, -⟩ := rM.open_)
    | fail "no arm")
  obtain ⟨W3, hW3⟩ : ∃ W3, W3 = w3.alloc (.cells #[.int .i64 x.points, .string x.names, .slice A2 x.moves.length C2] 29) := ⟨_, rfl⟩
  have hP : Blk W3 w3.heap.size [.int .i64 x.points, .string x.names, .slice A2 x.moves.length C2] := by rw [hW3]; exact Blk.new w3 _ _
  have ka : Only [] w3 W3 := by rw [hW3]; exact (Only.refl _ _).alloc _
  have DW := D3.keep ka
  have rP : Rp.rep W3 [.int .i64 x.points, .string x.names, .slice A2 x.moves.length C2] x fp := Rp.keep ⟨_, rfl, q0, q1, rM⟩ ka
  have hgl := DW.lt
  have hgw : w.heap.size ≤ g := by have := k1.size; omega
  have hK3 : Only [] w W3 := ((k2.weaken [g]).trans (K3.trans (ka.weaken [g]))).mono fun b hb hl => by simp at hb; omega
  have hPg : ∀ b ∈ fp, b ∉ [g] := fun b hb hm => by have := FP.ge b hb; have := D2.lt; simp at hm; omega
  have hgp : w3.heap.size ∉ [g] := by simp; have := D3.lt; omega
  rw [← hW3]
  clear hW3 q0 q1 rM k1 k2 t1 t2 K3 ka D3 D2 FP
  go_upto_region 6 with ((go_at_call 7; (with_reducible refine (below_any g fc l 100000 _ (DW.keep (by with_reducible repeat (first | exact Only.refl _ _ | assumption | refine Only.drewN ?_ _ | refine Only.drew ?_ | refine Only.alloc ?_ _ | refine Only.setCell ?_ (by intro hh; exfalso; simp at hh; try omega) _ | refine Only.trans ?_ (by assumption)))) (by omega) (by omega) hl).mono ?_); rintro e w5 ⟨r, rfl, r0, r1, D5, K5⟩))
  have K5w : Only [g] W3 w5 := Only.trans ((Only.refl [g] W3)) K5
  have hKw5 : Only [] w w5 := hK3.then_ K5w (fun b hb hl => by simp at hb; omega)
  have hP5 := hP.only K5w hgp
  have rP5 := Rp.only rP K5w hPg
  clear hP rP K5 K5w hK3 DW D5 hPg hgp hgl hfc hd hb
  have hex : ∃ G T, PM.Chain x.points.toNat x.moves G T := by
    obtain ⟨v2, e2, -, -, h2⟩ := id rP5
    injection e2 with _ e2; injection e2 with _ e2; injection e2 with e2 _
    subst e2
    exact chain_ex x.points _ x.moves _ w5 h2 (validPz_gensB hv)
  have hrM : ∃ fm, Rd w5 (.slice A2 x.moves.length C2) x.moves fm := by
    obtain ⟨v2, e2, -, -, h2⟩ := id rP5
    injection e2 with _ e2; injection e2 with _ e2; injection e2 with e2 _
    subst e2
    exact ⟨_, h2⟩
  obtain ⟨fm, rM⟩ := hrM
  have hri : inR r 0 2147483646 = true := inR_iff.2 (by omega)
  have hq : (rndS x r).2 = true := by unfold rndS; rw [if_pos ⟨hv, hri⟩]
  have hgr := rndS_grp _ x fp r w5 rP5 hq
  obtain ⟨wd, s1, s2, s3, s4⟩ := stScr_small p5 hex hq hgr
  obtain ⟨hv', hst1⟩ := rndS_valid hq
  have hgs := validPz_gensB hv
  have hpn := validPz_pn hv
  have hn : 0 < x.points.toNat := by omega
  obtain ⟨G, T, hCh⟩ := hex
  have ho1 := ordC_pos hCh hn hpn (Nat.le_refl _)
  have hkl := rstK_lt (seed := r) ho1
  have hmd := rstK_mod (seed := r) ho1
  have ho2 := ordC_le hCh hn hpn (by omega) (Nat.le_refl _)
  have hcard := card_small hv p5 ⟨G, T, hCh⟩
  obtain ⟨t, ht⟩ := expl_some hv (by omega)
  have hrb := (expl_reach ht).1 ((expl_mem ht).2 hgr)
  have hri0 := (expl_reach ht).1 ((expl_mem ht).2 (PM.Grp.id (n := x.points.toNat) (G := x.moves)))
  unfold reachB at hri0
  rw [Bool.and_eq_true] at hri0
  obtain ⟨st, hst⟩ : ∃ st, st = (rndS x r).1 := ⟨_, rfl⟩
  rw [← hst] at s2 s4 hrb hst1
  obtain ⟨K, hK⟩ : ∃ K, K = rstK x.points.toNat x.moves r := ⟨_, rfl⟩
  rw [← hK] at hkl hmd hst1
  obtain ⟨od, hod⟩ : ∃ od, od = ordC x.points.toNat x.moves x.points.toNat := ⟨_, rfl⟩
  rw [← hod] at hmd ho1 ho2
  obtain ⟨dd, hdd⟩ : ∃ dd, dd = distX x st := ⟨_, rfl⟩
  rw [← hdd] at s2
  have hx1 := nxR_rng r
  have hy1 := nxR_rng (nxR r)
  obtain ⟨a, ha⟩ : ∃ a, a = nxR r := ⟨_, rfl⟩
  obtain ⟨b, hbb⟩ : ∃ b, b = nxR a := ⟨_, rfl⟩
  rw [← ha] at hx1 hy1 hmd
  rw [← hbb] at hy1 hmd
  have hwm : IntKind.i64.wrap (a * 2147483647) = a * 2147483647 := by rw [IntKind.wrap_i64]; omega
  have hwa : IntKind.i64.wrap (a * 2147483647 + b) = a * 2147483647 + b := by rw [IntKind.wrap_i64]; omega
  have hr0 : ¬ (od = 0) := by omega
  have tEq : ((wd.length : Int) == dd) = true := by rw [s2]; simp
  have hn0 : 0 ≤ x.points := by omega
  have hn1 : x.points ≤ 1000 := by omega
  have Hss := Lib.hid s1
  have Hvw := Lib.hid s3
  have Hap := Lib.hid s4
  have Hst := Lib.hid hst
  have Hq := Lib.hid hq
  have Hrb := Lib.hid hrb
  have Hi0 := Lib.hid hri0.1
  have Ha := Lib.hid ha
  have Hb := Lib.hid hbb
  have Hod := Lib.hid hod
  have Hdd := Lib.hid hdd
  have Hkl := Lib.hid hkl
  have Hst1 := Lib.hid hst1
  have Hgs := Lib.hid hgs
  have HeV := Lib.hid (show eqV st st = true from by unfold eqV; simp)
  have Hrs : Hid ((rndS x r) = (st, true)) := Lib.hid (by rw [hst, ← hq])
  have HSC : Hid (∀ V : World, Only [] w5 V → Calls Tryz.prog 13 #[.agg [.int .i64 x.points, .string x.names, .slice A2 x.moves.length C2].toArray] V fun e w' => e = .returned (.int .i64 (od : Nat)) ∧ Only [] V w') := Lib.hid (fun V hV => by
    rw [hod]
    refine (specStateCount_yes _ x _ V (Rp.keep rP5 hV) hv).mono ?_
    rintro e w' ⟨e1, -, -, e4⟩
    exact ⟨e1, e4⟩)
  clear hst hq hrb hri0 ha hbb hod hdd hkl hst1 hgs s1 s2 s3 s4 hK hCh hcard ht hgr hpn hv' hri
  have x0 := hP5.cell 0 rfl
  have x1 := hP5.cell 1 rfl
  have x2 := hP5.cell 2 rfl
  go_upto_region 10 with (first
    | (go_at_call 8; (with_reducible refine (implRandomState_any [.int .i64 x.points, .string x.names, .slice A2 x.moves.length C2] x fp r w5 rP5).mono ?_); rintro e w6 ⟨u6, f6, he, r6, F6, t6⟩; rw [Hrs.out] at he r6; subst he; obtain ⟨a6, c6, rfl, I6⟩ := id r6.ints; have hP6 := hP5.keep t6; have y0 := hP6.cell 0 rfl; have y1 := hP6.cell 1 rfl; have y2 := hP6.cell 2 rfl)
    | (go_at_call 9; (with_reducible refine (implNextRandom_any r _).mono ?_); rintro e w7 ⟨he, h1⟩; rw [← Ha.out] at he; subst he; rw [h1]; clear h1)
    | (go_at_call 10; (with_reducible refine (specIsReachable_any [.int .i64 x.points, .string x.names, .slice A2 x.moves.length C2] x fp (.slice a6 st.length c6) st f6 w6 (Rp.keep rP5 t6) r6).mono ?_); rintro e w8 ⟨he, t8⟩; rw [Hrb.out] at he; subst he)
    | (go_at_call 11; (with_reducible refine (specNextRandom_any r _).mono ?_); rintro e w7 ⟨he, h1⟩; rw [← Ha.out] at he; subst he; rw [h1]; clear h1)
    | fail "no arm")
  have k58 : Only [] w5 w8 := t6.trans t8
  have hP8 := hP5.keep k58
  have z0 := hP8.cell 0 rfl
  have z1 := hP8.cell 1 rfl
  have z2 := hP8.cell 2 rfl
  have HRk : Hid (∀ V : World, Only [] w8 V → Calls Tryz.prog 12 #[.int .i64 x.points, .slice A2 x.moves.length C2, .slice a6 st.length c6] V fun e w' => e = .returned (.int .i64 (K : Nat)) ∧ Only [] V w') := Lib.hid (fun V hV => specRank_i x.points _ _ x.moves st fm f6 K V (Rp.keep rM (k58.trans hV)) (Rp.keep r6 (t8.trans hV)) Hgs.out Hkl.out Hst1.out)
  go_region_held3 (fun w' => Only [] w8 w' ∧ w'.cell? ⟨w3.heap.size, 0, none⟩ = some (.int .i64 x.points) ∧ w'.cell? ⟨w3.heap.size, 1, none⟩ = some (.string x.names) ∧ w'.cell? ⟨w3.heap.size, 2, none⟩ = some (.slice A2 x.moves.length C2)) (((refine and_of ?_ (fun h__ => ⟨h__.cell (by simp) z0, h__.cell (by simp) z1, h__.cell (by simp) z2⟩)); first | exact (Only.refl _ _).drew | exact ((Only.refl _ _).drewN _).drew | exact Only.trans (And.left (by assumption)) (by assumption) | exact Only.alloc (And.left (by assumption)) _ | assumption)) (first | (go_at_call 12; (with_reducible refine (HRk.out _ (And.left (by assumption))).mono ?_); rintro e w9 ⟨rfl, t9⟩; have k9 : Only [] w8 w9 := Only.trans (And.left (by assumption)) t9) | (go_at_call 9; (with_reducible refine (implNextRandom_any a _).mono ?_); rintro e w7 ⟨he, h1⟩; rw [← Hb.out] at he; subst he; rw [h1]; clear h1) | (go_at_call 13; (with_reducible refine (HSC.out _ (Only.trans k58 (And.left (by assumption)))).mono ?_); rintro e wA ⟨rfl, tA⟩; have kA : Only [] w8 wA := Only.trans (And.left (by assumption)) tA) | fail "no arm")
  rename_i hHd
  obtain ⟨kA', zA0, zA1, zA2⟩ := hHd
  have kA5 : Only [] w5 wA := k58.trans kA'
  go_upto_region 13 with ((go_at_call 14; (with_reducible refine (implStateScramble_any [.int .i64 x.points, .string x.names, .slice A2 x.moves.length C2] x fp r _ (Rp.keep rP5 kA5)).mono ?_); rintro e wB ⟨uB, fB, he, rB, FB, tB⟩; rw [Hss.out] at he rB; simp only [Option.isSome_some, Option.getD_some] at he rB; subst he; obtain ⟨aB, cB, rfl, IB⟩ := id rB.ints))
  have kB : Only [] w5 wB := kA5.trans tB
  have hPB := hP5.keep kB
  have b0 := hPB.cell 0 rfl
  have b1 := hPB.cell 1 rfl
  have b2 := hPB.cell 2 rfl
  have HAp := Lib.hid (fun (V : World) (u : Value) (f : List Nat) (hV : Only [] wB V) (hu : Rd V u (PM.pts x.points.toNat) f) => specApplyWord_yes [.int .i64 x.points, .string x.names, .slice A2 x.moves.length C2] x fp u (.slice aB wd.length cB) (PM.pts x.points.toNat) wd f fB V (Rp.keep rP5 (kB.trans hV)) hu (Rp.keep rB hV) Hi0.out Hvw.out)
  go_region_held3 (fun w' => Only [] wB w' ∧ w'.cell? ⟨w3.heap.size, 0, none⟩ = some (.int .i64 x.points) ∧ w'.cell? ⟨w3.heap.size, 1, none⟩ = some (.string x.names) ∧ w'.cell? ⟨w3.heap.size, 2, none⟩ = some (.slice A2 x.moves.length C2)) (((refine and_of ?_ (fun h__ => ⟨h__.cell (by simp) b0, h__.cell (by simp) b1, h__.cell (by simp) b2⟩)); first | exact (Only.refl _ _).drew | exact ((Only.refl _ _).drewN _).drew | exact Only.trans (And.left (by assumption)) (by assumption) | exact Only.alloc (And.left (by assumption)) _ | assumption)) (first | (go_at_call 16; (with_reducible refine (w6Identity_i x.points _ hn0 hn1).mono ?_); rintro e wC ⟨uC, fC, rfl, rC, FC, tC⟩; have kC : Only [] wB wC := Only.trans (And.left (by assumption)) tC) | (go_at_call 15; (with_reducible refine (HAp.out _ uC fC (And.left (by assumption)) (Rp.keep rC (by with_reducible repeat (first | exact Only.refl _ _ | assumption | refine Only.drewN ?_ _ | refine Only.drew ?_ | refine Only.alloc ?_ _ | refine Only.setCell ?_ (by intro hh; exfalso; simp at hh; try omega) _ | refine Only.trans ?_ (by assumption))))).mono ?_); rintro e wD ⟨uD, fD, rfl, rD, FD, tD⟩; have kD : Only [] wB wD := Only.trans (And.left (by assumption)) tD; rw [Hap.out] at rD; obtain ⟨aD, cD, rfl, ID⟩ := id rD.ints) | fail "no arm")
  rename_i hHe
  obtain ⟨kD', d0, d1, d2⟩ := hHe
  have kD5 : Only [] w5 wD := kB.trans kD'
  have I6D : IntsA wD a6 c6 st f6 := (I6.keep t8).keep ((kA'.trans tB).trans kD')
  have r6D : Rd wD (.slice a6 st.length c6) st f6 := Rp.keep r6 ((t8.trans (kA'.trans tB)).trans kD')
  go_wp2_with (first
    | (go_at_call 17; (with_reducible refine (likeInts_any a6 aD c6 cD st st f6 fD wD I6D ID).mono ?_); rintro e wE ⟨he, tE⟩; rw [HeV.out] at he; subst he; obtain ⟨nE, rfl⟩ := tE)
    | (go_at_call 18; (with_reducible refine (specDistance_any [.int .i64 x.points, .string x.names, .slice A2 x.moves.length C2] x fp (.slice a6 st.length c6) st f6 _ (Rp.keep rP5 (kD5.trans (by with_reducible repeat (first | exact Only.refl _ _ | assumption | refine Only.drewN ?_ _ | refine Only.drew ?_ | refine Only.alloc ?_ _ | refine Only.setCell ?_ (by intro hh; exfalso; simp at hh; try omega) _ | refine Only.trans ?_ (by assumption))))) (Rp.keep r6D (by with_reducible repeat (first | exact Only.refl _ _ | assumption | refine Only.drewN ?_ _ | refine Only.drew ?_ | refine Only.alloc ?_ _ | refine Only.setCell ?_ (by intro hh; exfalso; simp at hh; try omega) _ | refine Only.trans ?_ (by assumption))))).mono ?_); rintro e wF ⟨he, tF⟩; rw [← Hdd.out] at he; subst he; have kF : Only [] wD wF := Only.trans (by with_reducible repeat (first | exact Only.refl _ _ | assumption | refine Only.drewN ?_ _ | refine Only.drew ?_ | refine Only.alloc ?_ _ | refine Only.setCell ?_ (by intro hh; exfalso; simp at hh; try omega) _ | refine Only.trans ?_ (by assumption))) tF)
    | fail "no arm")
  go_ret
  exact ⟨rfl, hKw5.trans (kD5.trans kF)⟩
end Go.Proofs.YtndcifpbbnebmaaGreat
