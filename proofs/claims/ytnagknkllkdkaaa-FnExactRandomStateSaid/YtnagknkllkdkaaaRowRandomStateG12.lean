/- RandomState, of the reference and of the program (law 33). The law on RandomState: its walk. (Printed by gen_exact.py.) -/
import Derived.Test.YtnagknkllkdkaaaRowRandomStateG11
import Derived.Test.YtnagknkllkdkaaaRowRandomStateG8
import Derived.Deep.RegionHeld3
import Derived.Test.YtnagknkllkdkaaaRowRandomStateG4
import Derived.Deep.DeepCutAuto
namespace Go.Proofs.Ytnagknkllkdkaaa
open Go.RowKit
set_option maxRecDepth 10000

/-- the rank of a seed's random state -/
noncomputable def rstK (n : Nat) (gens : List (List Int)) (seed : Int) : Nat := ((nxR seed * 2147483647 + nxR (nxR seed)) % (ordC n gens n : Int)).toNat
noncomputable def rndS (x : Puzzle) (seed : Int) : List Int × Bool :=
  if validPz x = true ∧ inR seed 0 2147483646 = true then (memAt x.points.toNat x.moves (rstK x.points.toNat x.moves seed), true) else ([], false)
theorem rstK_lt {n : Nat} {gens : List (List Int)} {seed : Int} (h : 1 ≤ ordC n gens n) : rstK n gens seed < ordC n gens n := by
  unfold rstK
  have h1 := Int.emod_lt_of_pos (nxR seed * 2147483647 + nxR (nxR seed)) (show (0 : Int) < (ordC n gens n : Int) by omega)
  have h2 := Int.emod_nonneg (nxR seed * 2147483647 + nxR (nxR seed)) (show (ordC n gens n : Int) ≠ 0 by omega)
  omega
theorem rstK_mod {n : Nat} {gens : List (List Int)} {seed : Int} (h : 1 ≤ ordC n gens n) : Int.tmod (nxR seed * 2147483647 + nxR (nxR seed)) (ordC n gens n : Int) = (rstK n gens seed : Int) := by
  have h1 := nxR_rng seed
  have h2 := nxR_rng (nxR seed)
  rw [Int.tmod_eq_emod_of_nonneg (by omega)]
  unfold rstK
  have h3 := Int.emod_nonneg (nxR seed * 2147483647 + nxR (nxR seed)) (show (ordC n gens n : Int) ≠ 0 by omega)
  omega
set_option maxHeartbeats 1000000 in
theorem specGroupOrder_yes (n : Nat) (vg : Value) (gens : List (List Int)) (fpg : List Nat) (w : World) (hg : Rd w vg gens fpg) (hgs : gensB n gens = true) :
    Calls Try.prog 28 #[.int .i64 n, vg] w fun e w' => e = .returned (.int .i64 (ordC n gens n : Nat)) ∧ 1 ≤ ordC n gens n ∧ ordC n gens n ≤ 2432902008176640000 ∧ Only [] w w' := by
  obtain ⟨⟨n1, n20⟩, hgl, hpn⟩ := gensB_iff.1 hgs
  have hpn' : ∀ g ∈ gens, PM.PN n g := by simpa using hpn
  have hn : 0 < n := by omega
  have hn20 : n ≤ 20 := by omega
  have Hgs := Lib.hid hgs
  have Hpn := Lib.hid hpn'
  clear hpn hpn' hgs
  go_enter Try.func28, Try.ntmps28
  go_wp2_with (first
    | (go_at_call 47; (with_reducible refine (specIsGens_rd n vg gens fpg w hg).mono ?_); rintro en w1 ⟨he, t1⟩; rw [Hgs.out] at he; subst he; have t1 := t1.only [])
    | (go_at_call 48; (with_reducible refine (buildChain_any n hn hn20 vg gens fpg w1 (Rp.keep hg t1) Hpn.out (by omega)).mono ?_); rintro en w3 ⟨L, gv, G, T, M, F, rfl, hoG, hoT, hC, hCh, t3⟩; have HC := Lib.hid hC; have HCh := Lib.hid hCh; have HoT := Lib.hid hoT; clear hC hCh hoT hoG)
    | (go_at_call 50; (with_reducible refine (chainOrder_any w3 HC.out HCh.out.inv.wf HoT.out).mono ?_); rintro en w4 ⟨he, t4⟩; rw [ordC_eq HCh.out hn Hpn.out (Nat.le_refl _)] at he; subst he)
    | fail "no arm")
  go_ret
  exact ⟨rfl, ordC_pos HCh.out hn Hpn.out (Nat.le_refl _), ordC_le HCh.out hn Hpn.out hn20 (Nat.le_refl _), (t1.trans t3).trans t4⟩
theorem specGroupOrder_i (n : Int) (vg : Value) (gens : List (List Int)) (fpg : List Nat) (w : World) (hg : Rd w vg gens fpg) (hgs : gensB n gens = true) :
    Calls Try.prog 28 #[.int .i64 n, vg] w fun e w' => e = .returned (.int .i64 (ordC n.toNat gens n.toNat : Nat)) ∧ 1 ≤ ordC n.toNat gens n.toNat ∧ ordC n.toNat gens n.toNat ≤ 2432902008176640000 ∧ Only [] w w' := by
  obtain ⟨⟨n1, n20⟩, -, -⟩ := gensB_iff.1 hgs
  obtain ⟨m, rfl⟩ := Int.eq_ofNat_of_zero_le (by omega : 0 ≤ n)
  exact specGroupOrder_yes m vg gens fpg w hg hgs
theorem specMemberAt_i (n : Int) (vg : Value) (gens : List (List Int)) (fpg : List Nat) (k : Nat) (w : World) (hg : Rd w vg gens fpg) (hgs : gensB n gens = true) (hk : k < ordC n.toNat gens n.toNat) :
    Calls Try.prog 18 #[.int .i64 n, vg, .int .i64 k] w fun e w' => ∃ v f, e = .returned (.tuple #[v, .bool true]) ∧ Rd w' v (memAt n.toNat gens k) f ∧ Fresh w.heap.size w' f ∧ Only [] w w' := by
  obtain ⟨⟨n1, n20⟩, -, -⟩ := gensB_iff.1 hgs
  obtain ⟨m, rfl⟩ := Int.eq_ofNat_of_zero_le (by omega : 0 ≤ n)
  exact specMemberAt_yes m vg gens fpg k w hg hgs hk
theorem specStateCount_yes (cs : List Value) (x : Puzzle) (fp : List Nat) (w : World) (h : Rp.rep w cs x fp) (hv : validPz x = true) :
    Calls Try.prog 33 #[.agg cs.toArray] w fun e w' => e = .returned (.int .i64 (ordC x.points.toNat x.moves x.points.toNat : Nat)) ∧ 1 ≤ ordC x.points.toNat x.moves x.points.toNat ∧ ordC x.points.toNat x.moves x.points.toNat ≤ 2432902008176640000 ∧ Only [] w w' := by
  have h0 := h
  obtain ⟨v2, rfl, p0, p1, h2⟩ := h
  obtain ⟨A2, C2, ob, fps, rfl, -, -⟩ := h2.open_
  have Hgs := Lib.hid (validPz_gensB hv)
  go_enter Try.func33, Try.ntmps33
  go_wp2_with (first
    | (go_at_call 30; (with_reducible refine (specIsValidPuzzle_any [.int .i64 x.points, .string x.names, .slice A2 x.moves.length C2] x _ _ (Rp.keep h0 (by with_reducible repeat (first | exact Only.refl _ _ | assumption | refine Only.drewN ?_ _ | refine Only.drew ?_ | refine Only.alloc ?_ _ | refine Only.setCell ?_ (by intro hh; exfalso; simp at hh; try omega) _ | refine Only.trans ?_ (by assumption))))).mono ?_); rintro e w1 ⟨he, t1⟩; rw [hv] at he; subst he; have y1 := t1.cells_eq w.heap.size (by simp) (by simp); have k1 : Only [] w w1 := (by with_reducible repeat (first | exact Only.refl _ _ | assumption | refine Only.drewN ?_ _ | refine Only.drew ?_ | refine Only.alloc ?_ _ | refine Only.setCell ?_ (by intro hh; exfalso; simp at hh; try omega) _ | refine Only.trans ?_ (by assumption))))
    | (go_at_call 28; (with_reducible refine (specGroupOrder_i x.points _ x.moves _ w1 (Rp.keep h2 k1) Hgs.out).mono ?_); rintro en w3 ⟨rfl, o1, o2, t3⟩)
    | fail "no arm")
  go_ret
  exact ⟨rfl, o1, o2, k1.trans t3⟩
set_option maxHeartbeats 4000000 in
theorem specRandomState_any (cs : List Value) (x : Puzzle) (fp : List Nat) (seed : Int) (w : World) (h : Rp.rep w cs x fp) :
    Calls Try.prog 7 #[.agg cs.toArray, .int .i64 seed] w fun e w' => ∃ v f, e = .returned (.tuple #[v, .bool (rndS x seed).2]) ∧ Rd w' v (rndS x seed).1 f ∧ Fresh w.heap.size w' f ∧ Only [] w w' := by
  have h0 := h
  obtain ⟨v2, rfl, p0, p1, h2⟩ := h
  obtain ⟨A2, C2, ob, fps, rfl, -, -⟩ := h2.open_
  obtain ⟨st, hst⟩ : ∃ st, st = rndS x seed := ⟨_, rfl⟩
  rw [← hst]
  have HS := Lib.hid hst
  clear hst p0 p1
  rcases hq : validPz x
  · have hp : st = ([], false) := by rw [HS.out]; unfold rndS; rw [if_neg (by rw [hq]; simp)]
    have Hp := Lib.hid hp; clear hp
    go_enter Try.func7, Try.ntmps7
    go_wp2_with (first
      | (go_at_call 30; (with_reducible refine (specIsValidPuzzle_any [.int .i64 x.points, .string x.names, .slice A2 x.moves.length C2] x _ _ (Rp.keep h0 (by with_reducible repeat (first | exact Only.refl _ _ | assumption | refine Only.drewN ?_ _ | refine Only.drew ?_ | refine Only.alloc ?_ _ | refine Only.setCell ?_ (by intro hh; exfalso; simp at hh; try omega) _ | refine Only.trans ?_ (by assumption))))).mono ?_); rintro e w1 ⟨he, t1⟩; rw [hq] at he; subst he; have k1 : Only [] w w1 := (by with_reducible repeat (first | exact Only.refl _ _ | assumption | refine Only.drewN ?_ _ | refine Only.drew ?_ | refine Only.alloc ?_ _ | refine Only.setCell ?_ (by intro hh; exfalso; simp at hh; try omega) _ | refine Only.trans ?_ (by assumption))))
      | fail "no arm")
    exact bodyPost_ret (v := .tuple #[.slice (some ⟨w1.heap.size, 0, none⟩) 0 0, .bool false]) (by simp [results, Try.results7, go_sem]) rfl ⟨.slice (some ⟨w1.heap.size, 0, none⟩) 0 0, [], by rw [Hp.out], by rw [Hp.out]; exact (IntsA.nil _ _ (by simp [maxLen])).rd, Fresh.nil _ _, k1.alloc _⟩
  have Hgs := Lib.hid (validPz_gensB hq)
  rcases hr : inR seed 0 2147483646
  · have hp : st = ([], false) := by rw [HS.out]; unfold rndS; rw [if_neg (by rw [hr]; simp)]
    have Hp := Lib.hid hp; clear hp
    go_enter Try.func7, Try.ntmps7
    go_wp2_with (first
      | (go_at_call 30; (with_reducible refine (specIsValidPuzzle_any [.int .i64 x.points, .string x.names, .slice A2 x.moves.length C2] x _ _ (Rp.keep h0 (by with_reducible repeat (first | exact Only.refl _ _ | assumption | refine Only.drewN ?_ _ | refine Only.drew ?_ | refine Only.alloc ?_ _ | refine Only.setCell ?_ (by intro hh; exfalso; simp at hh; try omega) _ | refine Only.trans ?_ (by assumption))))).mono ?_); rintro e w1 ⟨he, t1⟩; rw [hq] at he; subst he; have k1 : Only [] w w1 := (by with_reducible repeat (first | exact Only.refl _ _ | assumption | refine Only.drewN ?_ _ | refine Only.drew ?_ | refine Only.alloc ?_ _ | refine Only.setCell ?_ (by intro hh; exfalso; simp at hh; try omega) _ | refine Only.trans ?_ (by assumption))))
      | (go_at_call 31; (with_reducible refine (specIsSeed_any seed _).mono ?_); rintro e w2 ⟨he, h1⟩; rw [hr] at he; subst he; rw [h1]; clear h1)
      | fail "no arm")
    exact bodyPost_ret (v := .tuple #[.slice (some ⟨w1.heap.size, 0, none⟩) 0 0, .bool false]) (by simp [results, Try.results7, go_sem]) rfl ⟨.slice (some ⟨w1.heap.size, 0, none⟩) 0 0, [], by rw [Hp.out], by rw [Hp.out]; exact (IntsA.nil _ _ (by simp [maxLen])).rd, Fresh.nil _ _, k1.alloc _⟩
  obtain ⟨od, hod⟩ : ∃ od, od = ordC x.points.toNat x.moves x.points.toNat := ⟨_, rfl⟩
  obtain ⟨k, hk⟩ : ∃ k, k = rstK x.points.toNat x.moves seed := ⟨_, rfl⟩
  have hp : st = (memAt x.points.toNat x.moves k, true) := by rw [HS.out]; unfold rndS; rw [if_pos ⟨hq, hr⟩, ← hk]
  have hx1 := nxR_rng seed
  have hy1 := nxR_rng (nxR seed)
  have hmd : 1 ≤ od → Int.tmod (nxR seed * 2147483647 + nxR (nxR seed)) (od : Int) = (k : Int) := fun h => by rw [hk, hod]; exact rstK_mod (by rw [← hod]; exact h)
  have hkl : 1 ≤ od → k < ordC x.points.toNat x.moves x.points.toNat := fun h => by rw [hk]; exact rstK_lt (by rw [← hod]; exact h)
  obtain ⟨a, ha⟩ : ∃ a, a = nxR seed := ⟨_, rfl⟩
  obtain ⟨b, hb⟩ : ∃ b, b = nxR a := ⟨_, rfl⟩
  rw [← ha] at hx1 hy1 hmd
  rw [← hb] at hy1 hmd
  have hwm : IntKind.i64.wrap (a * 2147483647) = a * 2147483647 := by rw [IntKind.wrap_i64]; omega
  have hwa : IntKind.i64.wrap (a * 2147483647 + b) = a * 2147483647 + b := by rw [IntKind.wrap_i64]; omega
  have Hp := Lib.hid hp
  have Hod := Lib.hid hod
  have Hmd := Lib.hid hmd
  have Hkl := Lib.hid hkl
  have Ha := Lib.hid ha
  have Hb := Lib.hid hb
  have HX : Hid (∀ V : World, Only [] w V → Calls Try.prog 33 #[.agg [.int .i64 x.points, .string x.names, .slice A2 x.moves.length C2].toArray] V fun e w' => e = .returned (.int .i64 (od : Nat)) ∧ 1 ≤ od ∧ od ≤ 2432902008176640000 ∧ Only [] V w') := Lib.hid (fun V hV => by
    rw [hod]; exact specStateCount_yes _ x _ V (Rp.keep h0 hV) hq)
  clear hp hod hk hmd hkl ha hb
  go_enter Try.func7, Try.ntmps7
  go_upto_region 4 with (first
    | (go_at_call 30; (with_reducible refine (specIsValidPuzzle_any [.int .i64 x.points, .string x.names, .slice A2 x.moves.length C2] x _ _ (Rp.keep h0 (by with_reducible repeat (first | exact Only.refl _ _ | assumption | refine Only.drewN ?_ _ | refine Only.drew ?_ | refine Only.alloc ?_ _ | refine Only.setCell ?_ (by intro hh; exfalso; simp at hh; try omega) _ | refine Only.trans ?_ (by assumption))))).mono ?_); rintro e w1 ⟨he, t1⟩; rw [hq] at he; subst he; have k1 : Only [] w w1 := (by with_reducible repeat (first | exact Only.refl _ _ | assumption | refine Only.drewN ?_ _ | refine Only.drew ?_ | refine Only.alloc ?_ _ | refine Only.setCell ?_ (by intro hh; exfalso; simp at hh; try omega) _ | refine Only.trans ?_ (by assumption))); have hB := Blk.keep (Blk.new_at (t := 29) (cs := [.int .i64 x.points, .string x.names, .slice A2 x.moves.length C2]) rfl) t1)
    | (go_at_call 31; (with_reducible refine (specIsSeed_any seed _).mono ?_); rintro e w2 ⟨he, h1⟩; rw [hr] at he; subst he; rw [h1]; clear h1)
    | (go_at_call 32; (with_reducible refine (specNextRandom_any seed _).mono ?_); rintro e w2 ⟨he, h1⟩; rw [← Ha.out] at he; subst he; rw [h1]; clear h1)
    | fail "no arm")
  have x0 := hB.cell 0 rfl
  have x1 := hB.cell 1 rfl
  have x2 := hB.cell 2 rfl
  go_region_held3 (fun w' => Only [] w1 w' ∧ w'.cell? ⟨w.heap.size, 0, none⟩ = some (.int .i64 x.points) ∧ w'.cell? ⟨w.heap.size, 1, none⟩ = some (.string x.names) ∧ w'.cell? ⟨w.heap.size, 2, none⟩ = some (.slice A2 x.moves.length C2)) (((refine and_of ?_ (fun h__ => ⟨h__.cell (by simp) x0, h__.cell (by simp) x1, h__.cell (by simp) x2⟩)); first | exact (Only.refl _ _).drew | exact ((Only.refl _ _).drewN _).drew | exact Only.trans (And.left (by assumption)) (by assumption) | exact Only.alloc (And.left (by assumption)) _ | assumption)) (first | (go_at_call 32; (with_reducible refine (specNextRandom_any a _).mono ?_); rintro e w2 ⟨he, h1⟩; rw [← Hb.out] at he; subst he; rw [h1]; clear h1) | (go_at_call 33; (with_reducible refine (HX.out _ (Only.trans k1 (And.left (by assumption)))).mono ?_); rintro e w3 ⟨rfl, o1, o2, t3⟩; have k3 : Only [] w1 w3 := Only.trans (And.left (by assumption)) t3; have hr0 : ¬ (od = 0) := (by omega); have hmd := Hmd.out o1) | fail "no arm")
  rename_i hHd
  obtain ⟨k4, z0, z1, z2⟩ := hHd
  go_wp2_with (first
    | (go_at_call 18; (with_reducible refine (specMemberAt_i x.points _ x.moves _ k w3 (Rp.keep h2 (k1.trans k4)) Hgs.out (Hkl.out o1)).mono ?_); rintro e w5 ⟨v, f, rfl, r5, F5, t5⟩)
    | fail "no arm")
  have k5 : Only [] w w5 := (k1.trans k4).trans t5
  have hsz := (k1.trans k4).size
  exact bodyPost_ret (v := .tuple #[v, .bool true]) (by simp [results, Try.results7, go_sem]) rfl ⟨v, f, by rw [Hp.out], by rw [Hp.out]; exact r5, F5.mono hsz, k5⟩
theorem rsChain_i (n : Int) (vg : Value) (gens : List (List Int)) (fpg : List Nat) (w : World) (hg : Rd w vg gens fpg) (hgs : gensB n gens = true) :
    Calls Try.prog 37 #[.int .i64 n, vg] w fun e w' => ∃ (L : Lay) (gv : Nat → Value) (G : PM.Gens) (T : PM.Rows) (M F : List Nat), e = .returned (.pointer (some ⟨L.g, 0, none⟩)) ∧ L.oG = 1 ∧ L.oT = 2 ∧ Ch 26 w.heap.size w' L gv n.toNat G T M F ∧ PM.Chain n.toNat gens G T ∧ Only [] w w' := by
  obtain ⟨⟨n1, n20⟩, hgl, hpn⟩ := gensB_iff.1 hgs
  obtain ⟨m, rfl⟩ := Int.eq_ofNat_of_zero_le (by omega : 0 ≤ n)
  exact implNewChain_any m (by omega) (by omega) vg gens fpg w hg hpn (by omega)
theorem implOrder_ord (n : Nat) {B : Nat} {L : Lay} {gv : Nat → Value} {gens : List (List Int)} {G : PM.Gens} {T : PM.Rows} {M F : List Nat} (w : World) (hC : Ch 26 B w L gv n G T M F) (hCh : PM.Chain n gens G T) (hT : L.oT = 2) (hpn : ∀ g ∈ gens, PM.PN n g) :
    Calls Try.prog 40 #[.pointer (some ⟨L.g, 0, none⟩), .int .i64 0] w fun e w' => e = .returned (.int .i64 (ordC n gens n : Nat)) ∧ 1 ≤ ordC n gens n ∧ ordC n gens n ≤ 2432902008176640000 ∧ Only [] w w' := by
  refine (implOrder0 hC hCh.inv.wf hT).mono ?_
  rintro e w' ⟨he, t⟩
  rw [ordC_eq hCh hC.pos hpn (Nat.le_refl _)] at he
  exact ⟨he, ordC_pos hCh hC.pos hpn (Nat.le_refl _), ordC_le hCh hC.pos hpn hC.le (Nat.le_refl _), t⟩
set_option maxHeartbeats 4000000 in
theorem implRandomState_any (cs : List Value) (x : Puzzle) (fp : List Nat) (seed : Int) (w : World) (h : Rp.rep w cs x fp) :
    Calls Try.prog 9 #[.agg cs.toArray, .int .i64 seed] w fun e w' => ∃ v f, e = .returned (.tuple #[v, .bool (rndS x seed).2]) ∧ Rd w' v (rndS x seed).1 f ∧ Fresh w.heap.size w' f ∧ Only [] w w' := by
  have h0 := h
  obtain ⟨v2, rfl, p0, p1, h2⟩ := h
  obtain ⟨A2, C2, ob, fps, rfl, -, -⟩ := h2.open_
  obtain ⟨st, hst⟩ : ∃ st, st = rndS x seed := ⟨_, rfl⟩
  rw [← hst]
  have HS := Lib.hid hst
  clear hst p0 p1
  rcases hq : validPz x
  · have hp : st = ([], false) := by rw [HS.out]; unfold rndS; rw [if_neg (by rw [hq]; simp)]
    have Hp := Lib.hid hp; clear hp
    go_enter Try.func9, Try.ntmps9
    go_wp2_with (first
      | (go_at_call 35; (with_reducible refine (implIsValidPuzzle_any [.int .i64 x.points, .string x.names, .slice A2 x.moves.length C2] x _ _ (Rp.keep h0 (by with_reducible repeat (first | exact Only.refl _ _ | assumption | refine Only.drewN ?_ _ | refine Only.drew ?_ | refine Only.alloc ?_ _ | refine Only.setCell ?_ (by intro hh; exfalso; simp at hh; try omega) _ | refine Only.trans ?_ (by assumption))))).mono ?_); rintro e w1 ⟨he, t1⟩; rw [hq] at he; subst he; have k1 : Only [] w w1 := (by with_reducible repeat (first | exact Only.refl _ _ | assumption | refine Only.drewN ?_ _ | refine Only.drew ?_ | refine Only.alloc ?_ _ | refine Only.setCell ?_ (by intro hh; exfalso; simp at hh; try omega) _ | refine Only.trans ?_ (by assumption))))
      | fail "no arm")
    exact bodyPost_ret (v := .tuple #[.slice none 0 0, .bool false]) (by simp [results, Try.results9, go_sem]) rfl ⟨.slice none 0 0, [], by rw [Hp.out], by rw [Hp.out]; exact nil_rd _, Fresh.nil _ _, k1⟩
  have Hgs := Lib.hid (validPz_gensB hq)
  rcases hr : inR seed 0 2147483646
  · have hp : st = ([], false) := by rw [HS.out]; unfold rndS; rw [if_neg (by rw [hr]; simp)]
    have Hp := Lib.hid hp; clear hp
    go_enter Try.func9, Try.ntmps9
    go_wp2_with (first
      | (go_at_call 35; (with_reducible refine (implIsValidPuzzle_any [.int .i64 x.points, .string x.names, .slice A2 x.moves.length C2] x _ _ (Rp.keep h0 (by with_reducible repeat (first | exact Only.refl _ _ | assumption | refine Only.drewN ?_ _ | refine Only.drew ?_ | refine Only.alloc ?_ _ | refine Only.setCell ?_ (by intro hh; exfalso; simp at hh; try omega) _ | refine Only.trans ?_ (by assumption))))).mono ?_); rintro e w1 ⟨he, t1⟩; rw [hq] at he; subst he; have k1 : Only [] w w1 := (by with_reducible repeat (first | exact Only.refl _ _ | assumption | refine Only.drewN ?_ _ | refine Only.drew ?_ | refine Only.alloc ?_ _ | refine Only.setCell ?_ (by intro hh; exfalso; simp at hh; try omega) _ | refine Only.trans ?_ (by assumption))))
      | (go_at_call 36; (with_reducible refine (implIsSeed_any seed _).mono ?_); rintro e w2 ⟨he, h1⟩; rw [hr] at he; subst he; rw [h1]; clear h1)
      | fail "no arm")
    exact bodyPost_ret (v := .tuple #[.slice none 0 0, .bool false]) (by simp [results, Try.results9, go_sem]) rfl ⟨.slice none 0 0, [], by rw [Hp.out], by rw [Hp.out]; exact nil_rd _, Fresh.nil _ _, k1⟩
  have hpn := (gensB_iff.1 Hgs.out).2.2
  have Hpn := Lib.hid hpn
  obtain ⟨k, hk⟩ : ∃ k, k = rstK x.points.toNat x.moves seed := ⟨_, rfl⟩
  obtain ⟨od, hod⟩ : ∃ od, od = ordC x.points.toNat x.moves x.points.toNat := ⟨_, rfl⟩
  have hp : st = (memAt x.points.toNat x.moves k, true) := by rw [HS.out]; unfold rndS; rw [if_pos ⟨hq, hr⟩, ← hk]
  have hx1 := nxR_rng seed
  have hy1 := nxR_rng (nxR seed)
  have hmd : 1 ≤ od → Int.tmod (nxR seed * 2147483647 + nxR (nxR seed)) (od : Int) = (k : Int) := fun h => by rw [hk, hod]; exact rstK_mod (by rw [← hod]; exact h)
  have hkl : 1 ≤ od → k < ordC x.points.toNat x.moves x.points.toNat := fun h => by rw [hk]; exact rstK_lt (by rw [← hod]; exact h)
  obtain ⟨a, ha⟩ : ∃ a, a = nxR seed := ⟨_, rfl⟩
  obtain ⟨b, hb⟩ : ∃ b, b = nxR a := ⟨_, rfl⟩
  rw [← ha] at hx1 hy1 hmd
  rw [← hb] at hy1 hmd
  have hwm : IntKind.i64.wrap (a * 2147483647) = a * 2147483647 := by rw [IntKind.wrap_i64]; omega
  have hwa : IntKind.i64.wrap (a * 2147483647 + b) = a * 2147483647 + b := by rw [IntKind.wrap_i64]; omega
  have Hp := Lib.hid hp
  have Hod := Lib.hid hod
  have Hmd := Lib.hid hmd
  have Hkl := Lib.hid hkl
  have Ha := Lib.hid ha
  have Hb := Lib.hid hb
  clear hp hod hk hmd hkl ha hb hpn
  go_enter Try.func9, Try.ntmps9
  go_wp2_with (first
    | (go_at_call 35; (with_reducible refine (implIsValidPuzzle_any [.int .i64 x.points, .string x.names, .slice A2 x.moves.length C2] x _ _ (Rp.keep h0 (by with_reducible repeat (first | exact Only.refl _ _ | assumption | refine Only.drewN ?_ _ | refine Only.drew ?_ | refine Only.alloc ?_ _ | refine Only.setCell ?_ (by intro hh; exfalso; simp at hh; try omega) _ | refine Only.trans ?_ (by assumption))))).mono ?_); rintro e w1 ⟨he, t1⟩; rw [hq] at he; subst he; have k1 : Only [] w w1 := (by with_reducible repeat (first | exact Only.refl _ _ | assumption | refine Only.drewN ?_ _ | refine Only.drew ?_ | refine Only.alloc ?_ _ | refine Only.setCell ?_ (by intro hh; exfalso; simp at hh; try omega) _ | refine Only.trans ?_ (by assumption))); have hB := Blk.keep (Blk.new_at (t := 29) (cs := [.int .i64 x.points, .string x.names, .slice A2 x.moves.length C2]) rfl) t1; have x0 := hB.cell 0 rfl; have x2 := hB.cell 2 rfl)
    | (go_at_call 36; (with_reducible refine (implIsSeed_any seed _).mono ?_); rintro e w2 ⟨he, h1⟩; rw [hr] at he; subst he; rw [h1]; clear h1)
    | (go_at_call 37; (with_reducible refine (rsChain_i x.points _ x.moves _ w1 (Rp.keep h2 k1) Hgs.out).mono ?_); rintro e w3 ⟨L, gv, G, T, M, F, rfl, -, hoT, hC, hCh, t3⟩; have HC := Lib.hid hC; have HCh := Lib.hid hCh; have HoT := Lib.hid hoT; clear hC hCh hoT)
    | (go_at_call 38; (with_reducible refine (implNextRandom_any seed _).mono ?_); rintro e w2 ⟨he, h1⟩; rw [← Ha.out] at he; subst he; rw [h1]; clear h1)
    | (go_at_call 38; (with_reducible refine (implNextRandom_any a _).mono ?_); rintro e w2 ⟨he, h1⟩; rw [← Hb.out] at he; subst he; rw [h1]; clear h1)
    | (go_at_call 40; (with_reducible refine (implOrder_ord x.points.toNat w3 HC.out HCh.out HoT.out Hpn.out).mono ?_); rintro e w4 ⟨he, o1, o2, t4⟩; rw [← Hod.out] at he o1 o2; subst he; have hr0 : ¬ ((od : Int) = 0) := (by omega); have hmd := Hmd.out o1)
    | (go_at_call 39; (with_reducible refine (memberAt_yes x.points.toNat k w4 (HC.out.keep t4) HCh.out HoT.out Hpn.out (Hkl.out o1)).mono ?_); rintro e w5 ⟨v, f, rfl, r5, F5, t5⟩)
    | fail "no arm")
  have k5 : Only [] w w5 := ((k1.trans t3).trans t4).trans t5
  have hsz := ((k1.trans t3).trans t4).size
  exact bodyPost_ret (v := .tuple #[v, .bool true]) (by simp [results, Try.results9, go_sem]) rfl ⟨v, f, by rw [Hp.out], by rw [Hp.out]; exact r5, F5.mono hsz, k5⟩
end Go.Proofs.Ytnagknkllkdkaaa

namespace Go.Proofs.Ytnagknkllkdkaaa
open Go.RowKit
set_option maxRecDepth 10000

theorem tr_nil (k : Nat) (y : Int) : PM.tr [] k y = [] := by unfold PM.tr; split <;> simp
theorem desc_nil (n : Nat) (sel : Nat → Nat → Nat) : ∀ (k i : Nat) (m : List Int), 0 < k → (PM.desc [] n sel k i m).length = 0
  | k + 1, i, m, _ => by
    have hp : ∀ v, PM.putV [] i m v = [] := fun v => by unfold PM.putV; rw [tr_nil]; rfl
    show (PM.desc [] n sel k (i + 1) (PM.putV [] i m _)).length = 0
    rw [hp]
    cases k with
    | zero => rfl
    | succ k => exact desc_nil n sel (k + 1) (i + 1) [] (by omega)
theorem memAt_len {n : Nat} {gens : List (List Int)} {k : Nat} (hn : 0 < n) (hp : ∀ g ∈ gens, PM.PN n g) : (memAt n gens k).length ≤ n := by
  unfold memAt
  by_cases hex : ∃ T, ∃ G, PM.Chain n gens G T
  · obtain ⟨T, G, h⟩ := hex
    exact Nat.le_of_eq ((h.descG_grp hn hp (msel n gens k) (msel_good h hn hp k)).pn hp).1
  · unfold PM.descG PM.chainR
    rw [dif_neg hex, desc_nil _ _ _ _ _ hn]
    exact Nat.zero_le _
theorem rndS_cnt (x : Puzzle) (seed : Int) : Mk.cnt (rndS x seed).1 ≤ 20 := by
  show cntL (rndS x seed).1 ≤ 20
  rw [cntL_ints]
  unfold rndS
  split
  · rename_i h
    obtain ⟨⟨n1, n20⟩, -, hp⟩ := gensB_iff.1 (validPz_gensB h.1)
    have := memAt_len (k := rstK x.points.toNat x.moves seed) (by omega : 0 < x.points.toNat) hp
    show (memAt x.points.toNat x.moves (rstK x.points.toNat x.moves seed)).length ≤ 20
    omega
  · simp
set_option maxHeartbeats 4000000 in
theorem FnExactRandomState_any (w : World) (caP : List Value) (aP : Puzzle) (faP : List Nat) (raP : Rp.rep w caP aP faP) (aSeed : Int) (iaSeed : I64 aSeed) :
    Calls Try.prog 3 #[.agg caP.toArray, .int .i64 aSeed] w fun e w' => e = .returned (.bool true) ∧ Only [] w w' := by
  have qaP := raP
  obtain ⟨uaP2, rfl, -, -, zaP2⟩ := qaP
  obtain ⟨AaP2, CaP2, _, _, rfl, -⟩ := zaP2.open_
  have LaP := Rp.lt raP
  have ibaSeed := iaSeed; unfold I64 at ibaSeed; obtain ⟨ilaSeed, ihaSeed⟩ := ibaSeed
  rcases szV_cases (1048576) aP with ⟨esaP, msaP⟩ | ⟨esaP, psaP, msaP⟩
  · go_enter Try.func3, Try.ntmps3
    go_wp2_with (with_reducible refine (szPuzzle_any [.int .i64 aP.points, .string aP.names, .slice AaP2 aP.moves.length CaP2] aP _ (1048576) _ (Rp.keep raP ((Only.refl [] _).alloc (.cells #[.int .i64 aP.points, .string aP.names, .slice AaP2 aP.moves.length CaP2] 24))) (by omega) (by omega)).mono ?_; rintro e w1 ⟨rfl, t0⟩)
    go_ret
    exact ⟨rfl, (by with_reducible repeat (first | exact Only.refl _ _ | assumption | refine Only.drewN ?_ _ | refine Only.drew ?_ | refine Only.alloc ?_ _ | refine Only.setCell ?_ (by intro hh; exfalso; simp at hh; try omega) _ | refine Only.trans ?_ (by assumption)))⟩
  have smaP : Sm.sm aP := SzSm.of_ _ (by omega)
  have csaP : Mk.cnt aP ≤ 1048576 := Nat.le_trans (CntSz.le aP) (by omega)
  have hcnt := rndS_cnt aP aSeed
  go_enter Try.func3, Try.ntmps3
  go_wp2_with fail
  with_reducible refine (szPuzzle_any [.int .i64 aP.points, .string aP.names, .slice AaP2 aP.moves.length CaP2] aP _ (1048576) _ (Rp.keep raP ((Only.refl [] _).alloc (.cells #[.int .i64 aP.points, .string aP.names, .slice AaP2 aP.moves.length CaP2] 24))) (by omega) (by omega)).mono ?_
  rintro e w1 ⟨rfl, t0⟩
  rw [esaP]
  have T0 : Only [] w w1 := ((Only.refl [] _).alloc (.cells #[.int .i64 aP.points, .string aP.names, .slice AaP2 aP.moves.length CaP2] 24)).trans t0
  have S0 : w.heap.size + 1 ≤ w1.heap.size := by have := t0.size; simp at this; omega
  have BaP : Blk w1 w.heap.size [.int .i64 aP.points, .string aP.names, .slice AaP2 aP.moves.length CaP2] := (Blk.keep (Blk.new_at (by simp)) t0)
  have LBaP : w.heap.size < w1.heap.size := BaP.lt
  have HBaP := Lib.hid BaP; clear BaP
  have caP_1_0 := (HBaP.out).cell 0 rfl
  have caP_1_1 := (HBaP.out).cell 1 rfl
  have caP_1_2 := (HBaP.out).cell 2 rfl
  go_wp2_with fail
  with_reducible refine (toPuzzle_any [.int .i64 aP.points, .string aP.names, .slice AaP2 aP.moves.length CaP2] aP _ _ (Rp.keep raP T0) smaP).mono ?_
  rintro e w2 ⟨u1, f1, rfl, r1, F1, t1⟩
  have T1 : Only [] w1 w2 := t1
  have S1 : w1.heap.size + 0 ≤ w2.heap.size := by have := T1.size; omega
  clear caP_1_0 caP_1_1 caP_1_2
  have q1 := r1
  obtain ⟨u12, rfl, -, -, z12⟩ := q1
  obtain ⟨A12, C12, _, _, rfl, -⟩ := z12.open_
  have L1 := Rp.lt r1
  have G1 : ∀ b ∈ f1, w1.heap.size ≤ b := fun b hb => by have := F1.ge b hb; omega
  go_wp2_with fail
  with_reducible refine (specRandomState_any [.int .i64 aP.points, .string aP.names, .slice A12 aP.moves.length C12] aP _ aSeed _ r1).mono ?_
  rintro e w3 ⟨v2, f2, rfl, r2, F2, t2⟩
  have T2 : Only [] w2 w3 := t2
  have S2 : w2.heap.size + 0 ≤ w3.heap.size := by have := T2.size; omega
  have L2 := Rp.lt r2
  have G2 : ∀ b ∈ f2, w2.heap.size ≤ b := fun b hb => by have := F2.ge b hb; omega
  have caP_3_0 := ((Blk.keep (Blk.keep HBaP.out T1) T2)).cell 0 rfl
  have caP_3_1 := ((Blk.keep (Blk.keep HBaP.out T1) T2)).cell 1 rfl
  have caP_3_2 := ((Blk.keep (Blk.keep HBaP.out T1) T2)).cell 2 rfl
  go_wp2_with fail
  with_reducible refine (toPuzzle_any [.int .i64 aP.points, .string aP.names, .slice AaP2 aP.moves.length CaP2] aP _ _ (Rp.keep (Rp.keep (Rp.keep raP T0) T1) T2) smaP).mono ?_
  rintro e w4 ⟨u3, f3, rfl, r3, F3, t3⟩
  have T3 : Only [] w3 w4 := t3
  have S3 : w3.heap.size + 0 ≤ w4.heap.size := by have := T3.size; omega
  clear caP_3_0 caP_3_1 caP_3_2
  have q3 := r3
  obtain ⟨u32, rfl, -, -, z32⟩ := q3
  obtain ⟨A32, C32, _, _, rfl, -⟩ := z32.open_
  have L3 := Rp.lt r3
  have G3 : ∀ b ∈ f3, w3.heap.size ≤ b := fun b hb => by have := F3.ge b hb; omega
  go_wp2_with fail
  with_reducible refine (implRandomState_any [.int .i64 aP.points, .string aP.names, .slice A32 aP.moves.length C32] aP _ aSeed _ (Rp.keep r3 ((Only.refl [] _).alloc (.cells #[.int .i64 aP.points, .string aP.names, .slice A32 aP.moves.length C32] 29)))).mono ?_
  rintro e w5 ⟨v4, f4, rfl, r4, F4, t4⟩
  have T4 : Only [] w4 w5 := ((Only.refl [] _).alloc (.cells #[.int .i64 aP.points, .string aP.names, .slice A32 aP.moves.length C32] 29)).trans t4
  have S4 : w4.heap.size + 1 ≤ w5.heap.size := by have := t4.size; simp at this; omega
  have B3 : Blk w5 w4.heap.size [.int .i64 aP.points, .string aP.names, .slice A32 aP.moves.length C32] := (Blk.keep (Blk.new_at (by simp)) t4)
  have LB3 : w4.heap.size < w5.heap.size := B3.lt
  have HB3 := Lib.hid B3; clear B3
  have L4 := Rp.lt r4
  have G4 : ∀ b ∈ f4, w4.heap.size + 1 ≤ b := fun b hb => by have := F4.ge b hb; simp at this; omega
  have e5 : eqV (rndS aP aSeed).1 (rndS aP aSeed).1 = true := eqV_yes rfl
  go_wp2_with fail
  with_reducible refine (eqInt64S_rd v4 v2 (rndS aP aSeed).1 (rndS aP aSeed).1 _ _ _ r4 (Rp.keep (Rp.keep r2 T3) T4)).mono ?_
  rintro e w6 ⟨rfl, d5⟩
  have t5 := d5.only []
  have T5 : Only [] w5 w6 := t5
  have S5 : w5.heap.size + 0 ≤ w6.heap.size := by have := T5.size; omega
  go_upto_region 10 with fail
  have e7 : eqV aP aP = true := eqV_yes rfl
  go_region_held3 (fun w' => Only [] w6 w' ∧ w'.cell? ⟨w4.heap.size, 0, none⟩ = some (.int .i64 aP.points) ∧ w'.cell? ⟨w4.heap.size, 1, none⟩ = some (.string aP.names) ∧ w'.cell? ⟨w4.heap.size, 2, none⟩ = some (.slice A32 aP.moves.length C32) ∧ w'.cell? ⟨w.heap.size, 0, none⟩ = some (.int .i64 aP.points) ∧ w'.cell? ⟨w.heap.size, 1, none⟩ = some (.string aP.names) ∧ w'.cell? ⟨w.heap.size, 2, none⟩ = some (.slice AaP2 aP.moves.length CaP2)) ((refine and_of ?_ (fun h__ => ⟨(Blk.keep (Blk.keep HB3.out T5) h__).cell 0 rfl, (Blk.keep (Blk.keep HB3.out T5) h__).cell 1 rfl, (Blk.keep (Blk.keep HB3.out T5) h__).cell 2 rfl, (Blk.keep (Blk.keep (Blk.keep (Blk.keep (Blk.keep (Blk.keep HBaP.out T1) T2) T3) T4) T5) h__).cell 0 rfl, (Blk.keep (Blk.keep (Blk.keep (Blk.keep (Blk.keep (Blk.keep HBaP.out T1) T2) T3) T4) T5) h__).cell 1 rfl, (Blk.keep (Blk.keep (Blk.keep (Blk.keep (Blk.keep (Blk.keep HBaP.out T1) T2) T3) T4) T5) h__).cell 2 rfl⟩); first | exact (Only.refl _ _).drew | exact Only.trans (And.left (by assumption)) (by assumption))) (first
    | (go_at_call 8; (with_reducible refine (toPuzzle_any [.int .i64 aP.points, .string aP.names, .slice AaP2 aP.moves.length CaP2] aP _ _ (Rp.keep (Rp.keep (Rp.keep (Rp.keep (Rp.keep (Rp.keep (Rp.keep raP T0) T1) T2) T3) T4) T5) (And.left (by assumption))) smaP).mono ?_); rintro e w7 ⟨u5, f5, rfl, r5, F5, t6⟩)
    | (go_at_call 11; (with_reducible refine (eqPuzzle_any [.int .i64 aP.points, .string aP.names, .slice A32 aP.moves.length C32] u5 aP aP _ _ _ (Rp.keep (Rp.keep (Rp.keep r3 T4) T5) (And.left (by assumption))) (Rp.keep r5 (by first | exact Only.refl _ _ | assumption | exact Only.trans (by assumption) (by assumption)))).mono ?_); rintro e w8 ⟨rfl, t7⟩)
    | fail "no arm")
  have T6 : Only [] w6 w7 := ((Only.refl _ _).drew).trans t6
  have S6 : w6.heap.size + 0 ≤ w7.heap.size := by have := T6.size; omega
  have L5 := Rp.lt r5
  have G5 : ∀ b ∈ f5, w6.heap.size ≤ b := fun b hb => by have := F5.ge b hb; first | omega | (simp at this; omega)
  have T7 : Only [] w7 w8 := t7
  have S7 : w7.heap.size + 0 ≤ w8.heap.size := by have := T7.size; omega
  have c3_8_0 := ((Blk.keep (Blk.keep (Blk.keep HB3.out T5) T6) T7)).cell 0 rfl
  have c3_8_1 := ((Blk.keep (Blk.keep (Blk.keep HB3.out T5) T6) T7)).cell 1 rfl
  have c3_8_2 := ((Blk.keep (Blk.keep (Blk.keep HB3.out T5) T6) T7)).cell 2 rfl
  have m8 : (1 : Int) + (Mk.cnt aP : Nat) ≤ 4611686018427387904 := by omega
  go_wp2_with fail
  with_reducible refine (markPuzzle_any [.int .i64 aP.points, .string aP.names, .slice A32 aP.moves.length C32] aP f3 (1) _ (Rp.keep (Rp.keep (Rp.keep (Rp.keep r3 T4) T5) T6) T7) F3.nd (Own.keep (Own.keep (Own.keep (Own.keep F3.own T4) T5) T6) T7) (by omega) m8).mono ?_
  rintro e w9 ⟨rfl, rr8, oo8, t8⟩
  have T8 : Only f3 w8 w9 := t8
  have S8 : w8.heap.size + 0 ≤ w9.heap.size := by have := T8.size; omega
  clear c3_8_0 c3_8_1 c3_8_2
  clear r3
  have r3 := rr8
  have O3 := oo8
  have e9 : eqV (rndS aP aSeed).1 (rndS aP aSeed).1 = true := eqV_yes rfl
  go_wp2_with fail
  with_reducible refine (eqInt64S_rd v4 v2 (rndS aP aSeed).1 (rndS aP aSeed).1 _ _ _ (Rp.only (Rp.keep (Rp.keep (Rp.keep r4 T5) T6) T7) T8 (fun b hb hm => by have := G4 b hb; have := L3 b hm; omega)) (Rp.only (Rp.keep (Rp.keep (Rp.keep (Rp.keep (Rp.keep r2 T3) T4) T5) T6) T7) T8 (fun b hb hm => by have := L2 b hb; have := G3 b hm; omega))).mono ?_
  rintro e w10 ⟨rfl, d9⟩
  have t9 := d9.only []
  have T9 : Only [] w9 w10 := t9
  have S9 : w9.heap.size + 0 ≤ w10.heap.size := by have := T9.size; omega
  have m10 : (1 : Int) + (Mk.cnt (rndS aP aSeed).1 : Nat) ≤ 4611686018427387904 := by omega
  go_wp2_with fail
  with_reducible refine (markInt64S_rd v4 (rndS aP aSeed).1 f4 (1) _ (Rp.keep (Rp.only (Rp.keep (Rp.keep (Rp.keep r4 T5) T6) T7) T8 (fun b hb hm => by have := G4 b hb; have := L3 b hm; omega)) T9) (Own.keep (Own.only (Own.keep (Own.keep (Own.keep F4.own T5) T6) T7) T8 (fun b hb hm => by have := G4 b hb; have := L3 b hm; omega)) T9) (by omega) m10).mono ?_
  rintro e w11 ⟨rfl, rr10, oo10, t10⟩
  have T10 : Only f4 w10 w11 := t10
  have S10 : w10.heap.size + 0 ≤ w11.heap.size := by have := T10.size; omega
  clear r4
  have r4 := rr10
  have O4 := oo10
  have h11 : heldV (1) (Mk.mark (1) (rndS aP aSeed).1) = 1 + (Mk.cnt (rndS aP aSeed).1 : Nat) := heldV_mark (1) (rndS aP aSeed).1
  have m11 : (1 : Int) + (Mk.cnt (Mk.mark (1) (rndS aP aSeed).1) : Nat) ≤ 4611686018427387904 := by rw [MkL.cnt]; omega
  go_wp2_with fail
  with_reducible refine (heldInt64S_rd v4 (Mk.mark (1) (rndS aP aSeed).1) _ (1) _ r4 (by omega) m11).mono ?_
  rintro e w12 ⟨rfl, d11⟩
  have t11 := d11.only []
  have T11 : Only [] w11 w12 := t11
  have S11 : w11.heap.size + 0 ≤ w12.heap.size := by have := T11.size; omega
  have caP_12_0 := ((Blk.keep (Blk.only (Blk.keep (Blk.only (Blk.keep (Blk.keep (Blk.keep (Blk.keep (Blk.keep (Blk.keep (Blk.keep HBaP.out T1) T2) T3) T4) T5) T6) T7) T8 (fun hm => by have := G3 _ hm; have := LBaP; omega)) T9) T10 (fun hm => by have := G4 _ hm; have := LBaP; omega)) T11)).cell 0 rfl
  have caP_12_1 := ((Blk.keep (Blk.only (Blk.keep (Blk.only (Blk.keep (Blk.keep (Blk.keep (Blk.keep (Blk.keep (Blk.keep (Blk.keep HBaP.out T1) T2) T3) T4) T5) T6) T7) T8 (fun hm => by have := G3 _ hm; have := LBaP; omega)) T9) T10 (fun hm => by have := G4 _ hm; have := LBaP; omega)) T11)).cell 1 rfl
  have caP_12_2 := ((Blk.keep (Blk.only (Blk.keep (Blk.only (Blk.keep (Blk.keep (Blk.keep (Blk.keep (Blk.keep (Blk.keep (Blk.keep HBaP.out T1) T2) T3) T4) T5) T6) T7) T8 (fun hm => by have := G3 _ hm; have := LBaP; omega)) T9) T10 (fun hm => by have := G4 _ hm; have := LBaP; omega)) T11)).cell 2 rfl
  go_wp2_with fail
  with_reducible refine (toPuzzle_any [.int .i64 aP.points, .string aP.names, .slice AaP2 aP.moves.length CaP2] aP _ _ (Rp.keep (Rp.only (Rp.keep (Rp.only (Rp.keep (Rp.keep (Rp.keep (Rp.keep (Rp.keep (Rp.keep (Rp.keep (Rp.keep raP T0) T1) T2) T3) T4) T5) T6) T7) T8 (fun b hb hm => by have := LaP b hb; have := G3 b hm; omega)) T9) T10 (fun b hb hm => by have := LaP b hb; have := G4 b hm; omega)) T11) smaP).mono ?_
  rintro e w13 ⟨u6, f6, rfl, r6, F6, t12⟩
  have T12 : Only [] w12 w13 := t12
  have S12 : w12.heap.size + 0 ≤ w13.heap.size := by have := T12.size; omega
  clear caP_12_0 caP_12_1 caP_12_2
  have q6 := r6
  obtain ⟨u62, rfl, -, -, z62⟩ := q6
  obtain ⟨A62, C62, _, _, rfl, -⟩ := z62.open_
  have L6 := Rp.lt r6
  have G6 : ∀ b ∈ f6, w12.heap.size ≤ b := fun b hb => by have := F6.ge b hb; omega
  go_wp2_with fail
  with_reducible refine (implRandomState_any [.int .i64 aP.points, .string aP.names, .slice A62 aP.moves.length C62] aP _ aSeed _ r6).mono ?_
  rintro e w14 ⟨v7, f7, rfl, r7, F7, t13⟩
  have T13 : Only [] w13 w14 := t13
  have S13 : w13.heap.size + 0 ≤ w14.heap.size := by have := T13.size; omega
  have L7 := Rp.lt r7
  have G7 : ∀ b ∈ f7, w13.heap.size ≤ b := fun b hb => by have := F7.ge b hb; omega
  have e14 : eqV (rndS aP aSeed).1 (rndS aP aSeed).1 = true := eqV_yes rfl
  go_wp2_with fail
  with_reducible refine (eqInt64S_rd v7 v2 (rndS aP aSeed).1 (rndS aP aSeed).1 _ _ _ r7 (Rp.keep (Rp.keep (Rp.keep (Rp.only (Rp.keep (Rp.only (Rp.keep (Rp.keep (Rp.keep (Rp.keep (Rp.keep r2 T3) T4) T5) T6) T7) T8 (fun b hb hm => by have := L2 b hb; have := G3 b hm; omega)) T9) T10 (fun b hb hm => by have := L2 b hb; have := G4 b hm; omega)) T11) T12) T13)).mono ?_
  rintro e w15 ⟨rfl, d14⟩
  have t14 := d14.only []
  have T14 : Only [] w14 w15 := t14
  have S14 : w14.heap.size + 0 ≤ w15.heap.size := by have := T14.size; omega
  have h15 : heldV (1) (Mk.mark (1) (rndS aP aSeed).1) = 1 + (Mk.cnt (rndS aP aSeed).1 : Nat) := heldV_mark (1) (rndS aP aSeed).1
  have m15 : (1 : Int) + (Mk.cnt (Mk.mark (1) (rndS aP aSeed).1) : Nat) ≤ 4611686018427387904 := by rw [MkL.cnt]; omega
  go_wp2_with fail
  with_reducible refine (heldInt64S_rd v4 (Mk.mark (1) (rndS aP aSeed).1) _ (1) _ (Rp.keep (Rp.keep (Rp.keep (Rp.keep r4 T11) T12) T13) T14) (by omega) m15).mono ?_
  rintro e w16 ⟨rfl, d15⟩
  have t15 := d15.only []
  have T15 : Only [] w15 w16 := t15
  have S15 : w15.heap.size + 0 ≤ w16.heap.size := by have := T15.size; omega
  go_wp2
  go_ret
  refine ⟨rfl, ?_⟩
  exact (Only.keepThen (Only.keepThen (Only.keepThen (Only.keepThen (Only.keepThen (Only.then_ (Only.keepThen (Only.then_ (Only.keepThen (Only.keepThen (Only.keepThen (Only.keepThen (Only.keepThen (Only.keepThen (Only.keepThen T0 T1) T2) T3) T4) T5) T6) T7) T8 (fun b hb hl => by have := G3 b hb; omega)) T9) T10 (fun b hb hl => by have := G4 b hb; omega)) T11) T12) T13) T14) T15)
end Go.Proofs.Ytnagknkllkdkaaa
