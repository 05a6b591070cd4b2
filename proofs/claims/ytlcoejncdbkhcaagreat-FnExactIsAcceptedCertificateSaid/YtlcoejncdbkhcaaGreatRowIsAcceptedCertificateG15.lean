/- Valid tables, sets of tables: the reference's and the program's functions (laws 40, 42, 43, 52). (Printed by mkvtab.py.) The reference's LowerBound (laws 40, 42, 43, 52). Maps from strings to int64 that a call makes. (Printed by mkmapi.py out of XMap.) The first pattern with a key, in plain words. -/
import Derived.Test.YtlcoejncdbkhcaaGreatRowIsAcceptedCertificateG14
import Derived.Test.YtlcoejncdbkhcaaGreatRowIsAcceptedCertificateG10
import Derived.Test.YtlcoejncdbkhcaaGreatRowIsAcceptedCertificateG3
import Derived.Deep.RegionHeld3
import Derived.Test.YtlcoejncdbkhcaaGreatRowIsAcceptedCertificateG12
import Derived.Test.YtlcoejncdbkhcaaGreatRowIsAcceptedCertificateG11
namespace Go.Proofs.YtlcoejncdbkhcaaGreat
open Go.RowKit
set_option maxRecDepth 10000

set_option maxHeartbeats 2000000 in
theorem specIsValidTable_any (cs ds : List Value) (x : Puzzle) (t : Table) (fp f2 : List Nat) (w : World) (h : Rp.rep w cs x fp) (h2 : Rp.rep w ds t f2) (htl : t.tracked.length ≤ 2097152) :
    Calls Tryz.prog 224 #[.agg cs.toArray, .agg ds.toArray] w fun e w' => e = .returned (.bool (validT x t)) ∧ Only [] w w' := by
  have h0 := h
  have h20 := h2
  obtain ⟨v2, rfl, p0, p1, hm⟩ := h
  obtain ⟨A3, C3, _, _, rfl, -, -⟩ := hm.open_
  obtain ⟨u0, u1, u2, q0, q1, q2, rfl, rfl, r0, r1, r2⟩ := h2
  obtain ⟨A0, C0, _, _, rfl, -, -⟩ := r0.open_
  obtain ⟨A1, C1, _, _, rfl, -, -⟩ := r1.open_
  obtain ⟨A2, C2, _, _, rfl, -, -⟩ := r2.open_
  have h20' : Rp.rep w [.slice A0 t.tracked.length C0, .slice A1 t.patterns.length C1, .slice A2 t.distances.length C2] t (q0 ++ (q1 ++ q2)) := h20
  have Y0 : Blk ((w.alloc (.cells #[.int .i64 x.points, .string x.names, .slice A3 x.moves.length C3] 37)).alloc (.cells #[.slice A0 t.tracked.length C0, .slice A1 t.patterns.length C1, .slice A2 t.distances.length C2] 32)) (w.heap.size + 1) [.slice A0 t.tracked.length C0, .slice A1 t.patterns.length C1, .slice A2 t.distances.length C2] := Blk.new_at (by simp)
  have y0 := Y0.cell 0 rfl
  clear p0 p1 r1 r2
  rcases hb : bTab x t.tracked with _ | u
  · have hv : validT x t = false := by unfold validT; rw [hb]; rfl
    have Hb := Lib.hid hb
    have Hv := Lib.hid hv
    clear hb hv
    go_enter Tryz.func224, Tryz.ntmps224
    go_wp2_with (first
      | (go_at_call 71; (with_reducible refine (specBuildTable_any [.int .i64 x.points, .string x.names, .slice A3 x.moves.length C3] x _ _ t.tracked _ _ (Rp.keep h0 (by with_reducible repeat (first | exact Only.refl _ _ | assumption | refine Only.drewN ?_ _ | refine Only.drew ?_ | refine Only.alloc ?_ _ | refine Only.setCell ?_ (by intro hh; exfalso; simp at hh; try omega) _ | refine Only.trans ?_ (by assumption)))) (Rp.keep r0 (by with_reducible repeat (first | exact Only.refl _ _ | assumption | refine Only.drewN ?_ _ | refine Only.drew ?_ | refine Only.alloc ?_ _ | refine Only.setCell ?_ (by intro hh; exfalso; simp at hh; try omega) _ | refine Only.trans ?_ (by assumption)))) htl).mono ?_); rintro e w4 ⟨cs4, f4, he4, r4, F4, t4⟩; rw [Hb.out] at he4 r4; obtain ⟨u1, u2, u3, e1, e2, e3, rfl, -, s1, s2, s3⟩ := r4; obtain ⟨a1, k1, _, _, rfl, -, -⟩ := s1.open_; obtain ⟨a2, k2, _, _, rfl, -, -⟩ := s2.open_; obtain ⟨a3, k3, _, _, rfl, -, -⟩ := s3.open_; subst he4; have Z := Blk.new w4 [.slice none 0 0, .slice none 0 0, .slice none 0 0] 32; have g0 := Z.cell 0 rfl; have g1 := Z.cell 1 rfl; have g2 := Z.cell 2 rfl; have p0 := Z.frozen 0; have p1 := Z.frozen 1; have p2 := Z.frozen 2)
      | fail "no arm")
    go_ret
    exact ⟨ret_bool Hv.out.symm, (by with_reducible repeat (first | exact Only.refl _ _ | assumption | refine Only.drewN ?_ _ | refine Only.drew ?_ | refine Only.alloc ?_ _ | refine Only.setCell ?_ (by intro hh; exfalso; simp at hh; try omega) _ | refine Only.trans ?_ (by assumption)))⟩
  · have hv : validT x t = eqV u t := by unfold validT; rw [hb]; rfl
    have Hb := Lib.hid hb
    have Hv := Lib.hid hv
    clear hb hv
    go_enter Tryz.func224, Tryz.ntmps224
    go_wp2_with (first
      | (go_at_call 71; (with_reducible refine (specBuildTable_any [.int .i64 x.points, .string x.names, .slice A3 x.moves.length C3] x _ _ t.tracked _ _ (Rp.keep h0 (by with_reducible repeat (first | exact Only.refl _ _ | assumption | refine Only.drewN ?_ _ | refine Only.drew ?_ | refine Only.alloc ?_ _ | refine Only.setCell ?_ (by intro hh; exfalso; simp at hh; try omega) _ | refine Only.trans ?_ (by assumption)))) (Rp.keep r0 (by with_reducible repeat (first | exact Only.refl _ _ | assumption | refine Only.drewN ?_ _ | refine Only.drew ?_ | refine Only.alloc ?_ _ | refine Only.setCell ?_ (by intro hh; exfalso; simp at hh; try omega) _ | refine Only.trans ?_ (by assumption)))) htl).mono ?_); rintro e w4 ⟨cs4, f4, he4, r4, F4, t4⟩; rw [Hb.out] at he4 r4; have rr := id r4; obtain ⟨u1, u2, u3, e1, e2, e3, rfl, -, s1, s2, s3⟩ := r4; simp only [List.cons_append, List.nil_append, Option.getD] at rr; obtain ⟨a1, k1, _, _, rfl, -, -⟩ := s1.open_; obtain ⟨a2, k2, _, _, rfl, -, -⟩ := s2.open_; obtain ⟨a3, k3, _, _, rfl, -, -⟩ := s3.open_; subst he4; have Z := Blk.new w4 [.slice none 0 0, .slice none 0 0, .slice none 0 0] 32; have g0 := Z.cell 0 rfl; have g1 := Z.cell 1 rfl; have g2 := Z.cell 2 rfl; have p0 := Z.frozen 0; have p1 := Z.frozen 1; have p2 := Z.frozen 2; have Zn := Blk.new w4 [.slice a1 u.tracked.length k1, .slice a2 u.patterns.length k2, .slice a3 u.distances.length k3] 32; have n0 := Zn.cell 0 rfl; have n1 := Zn.cell 1 rfl; have n2 := Zn.cell 2 rfl; have Yn := (Y0.keep t4).keep ((Only.refl [] w4).alloc (.cells #[.slice a1 u.tracked.length k1, .slice a2 u.patterns.length k2, .slice a3 u.distances.length k3] 32)); have m0 := Yn.cell 0 rfl; have m1 := Yn.cell 1 rfl; have m2 := Yn.cell 2 rfl; have rn := Rp.keep rr ((Only.refl [] w4).alloc (.cells #[.slice a1 u.tracked.length k1, .slice a2 u.patterns.length k2, .slice a3 u.distances.length k3] 32)))
      | (go_at_call 153; (with_reducible refine (specSameTable_any [.slice a1 u.tracked.length k1, .slice a2 u.patterns.length k2, .slice a3 u.distances.length k3] [.slice A0 t.tracked.length C0, .slice A1 t.patterns.length C1, .slice A2 t.distances.length C2] u t _ _ _ rn (Rp.keep h20' (by with_reducible repeat (first | exact Only.refl _ _ | assumption | refine Only.drewN ?_ _ | refine Only.drew ?_ | refine Only.alloc ?_ _ | refine Only.setCell ?_ (by intro hh; exfalso; simp at hh; try omega) _ | refine Only.trans ?_ (by assumption))))).mono ?_); rintro e w5 ⟨rfl, t5⟩)
      | fail "no arm")
    go_ret
    exact ⟨ret_bool Hv.out.symm, (by with_reducible repeat (first | exact Only.refl _ _ | assumption | refine Only.drewN ?_ _ | refine Only.drew ?_ | refine Only.alloc ?_ _ | refine Only.setCell ?_ (by intro hh; exfalso; simp at hh; try omega) _ | refine Only.trans ?_ (by assumption)))⟩
set_option maxHeartbeats 2000000 in
theorem implIsValidTable_any (cs ds : List Value) (x : Puzzle) (t : Table) (fp f2 : List Nat) (w : World) (h : Rp.rep w cs x fp) (h2 : Rp.rep w ds t f2) (htl : t.tracked.length ≤ 2097152) :
    Calls Tryz.prog 229 #[.agg cs.toArray, .agg ds.toArray] w fun e w' => e = .returned (.bool (validT x t)) ∧ Only [] w w' := by
  have h0 := h
  have h20 := h2
  obtain ⟨v2, rfl, p0, p1, hm⟩ := h
  obtain ⟨A3, C3, _, _, rfl, -, -⟩ := hm.open_
  obtain ⟨u0, u1, u2, q0, q1, q2, rfl, rfl, r0, r1, r2⟩ := h2
  obtain ⟨A0, C0, _, _, rfl, -, -⟩ := r0.open_
  obtain ⟨A1, C1, _, _, rfl, -, -⟩ := r1.open_
  obtain ⟨A2, C2, _, _, rfl, -, -⟩ := r2.open_
  have h20' : Rp.rep w [.slice A0 t.tracked.length C0, .slice A1 t.patterns.length C1, .slice A2 t.distances.length C2] t (q0 ++ (q1 ++ q2)) := h20
  have Y0 : Blk ((w.alloc (.cells #[.int .i64 x.points, .string x.names, .slice A3 x.moves.length C3] 37)).alloc (.cells #[.slice A0 t.tracked.length C0, .slice A1 t.patterns.length C1, .slice A2 t.distances.length C2] 32)) (w.heap.size + 1) [.slice A0 t.tracked.length C0, .slice A1 t.patterns.length C1, .slice A2 t.distances.length C2] := Blk.new_at (by simp)
  have y0 := Y0.cell 0 rfl
  clear p0 p1 r1 r2
  rcases hb : bTab x t.tracked with _ | u
  · have hv : validT x t = false := by unfold validT; rw [hb]; rfl
    have Hb := Lib.hid hb
    have Hv := Lib.hid hv
    clear hb hv
    go_enter Tryz.func229, Tryz.ntmps229
    go_wp2_with (first
      | (go_at_call 77; (with_reducible refine (implBuildTable_any [.int .i64 x.points, .string x.names, .slice A3 x.moves.length C3] x _ _ t.tracked _ _ (Rp.keep h0 (by with_reducible repeat (first | exact Only.refl _ _ | assumption | refine Only.drewN ?_ _ | refine Only.drew ?_ | refine Only.alloc ?_ _ | refine Only.setCell ?_ (by intro hh; exfalso; simp at hh; try omega) _ | refine Only.trans ?_ (by assumption)))) (Rp.keep r0 (by with_reducible repeat (first | exact Only.refl _ _ | assumption | refine Only.drewN ?_ _ | refine Only.drew ?_ | refine Only.alloc ?_ _ | refine Only.setCell ?_ (by intro hh; exfalso; simp at hh; try omega) _ | refine Only.trans ?_ (by assumption)))) htl).mono ?_); rintro e w4 ⟨cs4, f4, he4, r4, F4, t4⟩; rw [Hb.out] at he4 r4; obtain ⟨u1, u2, u3, e1, e2, e3, rfl, -, s1, s2, s3⟩ := r4; obtain ⟨a1, k1, _, _, rfl, -, -⟩ := s1.open_; obtain ⟨a2, k2, _, _, rfl, -, -⟩ := s2.open_; obtain ⟨a3, k3, _, _, rfl, -, -⟩ := s3.open_; subst he4; have Z := Blk.new w4 [.slice none 0 0, .slice none 0 0, .slice none 0 0] 32; have g0 := Z.cell 0 rfl; have g1 := Z.cell 1 rfl; have g2 := Z.cell 2 rfl; have p0 := Z.frozen 0; have p1 := Z.frozen 1; have p2 := Z.frozen 2)
      | fail "no arm")
    go_ret
    exact ⟨ret_bool Hv.out.symm, (by with_reducible repeat (first | exact Only.refl _ _ | assumption | refine Only.drewN ?_ _ | refine Only.drew ?_ | refine Only.alloc ?_ _ | refine Only.setCell ?_ (by intro hh; exfalso; simp at hh; try omega) _ | refine Only.trans ?_ (by assumption)))⟩
  · have hv : validT x t = eqV u t := by unfold validT; rw [hb]; rfl
    have Hb := Lib.hid hb
    have Hv := Lib.hid hv
    clear hb hv
    go_enter Tryz.func229, Tryz.ntmps229
    go_wp2_with (first
      | (go_at_call 77; (with_reducible refine (implBuildTable_any [.int .i64 x.points, .string x.names, .slice A3 x.moves.length C3] x _ _ t.tracked _ _ (Rp.keep h0 (by with_reducible repeat (first | exact Only.refl _ _ | assumption | refine Only.drewN ?_ _ | refine Only.drew ?_ | refine Only.alloc ?_ _ | refine Only.setCell ?_ (by intro hh; exfalso; simp at hh; try omega) _ | refine Only.trans ?_ (by assumption)))) (Rp.keep r0 (by with_reducible repeat (first | exact Only.refl _ _ | assumption | refine Only.drewN ?_ _ | refine Only.drew ?_ | refine Only.alloc ?_ _ | refine Only.setCell ?_ (by intro hh; exfalso; simp at hh; try omega) _ | refine Only.trans ?_ (by assumption)))) htl).mono ?_); rintro e w4 ⟨cs4, f4, he4, r4, F4, t4⟩; rw [Hb.out] at he4 r4; have rr := id r4; obtain ⟨u1, u2, u3, e1, e2, e3, rfl, -, s1, s2, s3⟩ := r4; simp only [List.cons_append, List.nil_append, Option.getD] at rr; obtain ⟨a1, k1, _, _, rfl, -, -⟩ := s1.open_; obtain ⟨a2, k2, _, _, rfl, -, -⟩ := s2.open_; obtain ⟨a3, k3, _, _, rfl, -, -⟩ := s3.open_; subst he4; have Z := Blk.new w4 [.slice none 0 0, .slice none 0 0, .slice none 0 0] 32; have g0 := Z.cell 0 rfl; have g1 := Z.cell 1 rfl; have g2 := Z.cell 2 rfl; have p0 := Z.frozen 0; have p1 := Z.frozen 1; have p2 := Z.frozen 2; have Zn := Blk.new w4 [.slice a1 u.tracked.length k1, .slice a2 u.patterns.length k2, .slice a3 u.distances.length k3] 32; have n0 := Zn.cell 0 rfl; have n1 := Zn.cell 1 rfl; have n2 := Zn.cell 2 rfl; have Yn := (Y0.keep t4).keep ((Only.refl [] w4).alloc (.cells #[.slice a1 u.tracked.length k1, .slice a2 u.patterns.length k2, .slice a3 u.distances.length k3] 32)); have m0 := Yn.cell 0 rfl; have m1 := Yn.cell 1 rfl; have m2 := Yn.cell 2 rfl; have rn := Rp.keep rr ((Only.refl [] w4).alloc (.cells #[.slice a1 u.tracked.length k1, .slice a2 u.patterns.length k2, .slice a3 u.distances.length k3] 32)))
      | (go_at_call 107; (with_reducible refine (implSameTable_any [.slice a1 u.tracked.length k1, .slice a2 u.patterns.length k2, .slice a3 u.distances.length k3] [.slice A0 t.tracked.length C0, .slice A1 t.patterns.length C1, .slice A2 t.distances.length C2] u t _ _ _ rn (Rp.keep h20' (by with_reducible repeat (first | exact Only.refl _ _ | assumption | refine Only.drewN ?_ _ | refine Only.drew ?_ | refine Only.alloc ?_ _ | refine Only.setCell ?_ (by intro hh; exfalso; simp at hh; try omega) _ | refine Only.trans ?_ (by assumption))))).mono ?_); rintro e w5 ⟨rfl, t5⟩)
      | fail "no arm")
    go_ret
    exact ⟨ret_bool Hv.out.symm, (by with_reducible repeat (first | exact Only.refl _ _ | assumption | refine Only.drewN ?_ _ | refine Only.drew ?_ | refine Only.alloc ?_ _ | refine Only.setCell ?_ (by intro hh; exfalso; simp at hh; try omega) _ | refine Only.trans ?_ (by assumption)))⟩
set_option maxHeartbeats 2000000 in
theorem specIsTableSet_any (cs : List Value) (x : Puzzle) (fp : List Nat) (v : Value) (ts : List Table) (ft : List Nat) (w : World) (h : Rp.rep w cs x fp) (hv : Rd w v ts ft) (hsm : ∀ t ∈ ts, t.tracked.length ≤ 2097152) :
    Calls Tryz.prog 187 #[.agg cs.toArray, v] w fun e w' => e = .returned (.bool (tabSet x ts)) ∧ Only [] w w' := by
  have h0 := h
  obtain ⟨v2, rfl, p0, p1, h2⟩ := h
  obtain ⟨A3, C3, _, _, rfl, -, -⟩ := h2.open_
  obtain ⟨a, cap, ob, fps, rfl, -, hS⟩ := hv.open_
  have hb := hS.bound
  clear p0 p1
  have X0 := Blk.new w [.int .i64 x.points, .string x.names, .slice A3 x.moves.length C3] 37
  rcases hq : validPz x
  · have Hn := Lib.hid (by unfold tabSet; rw [hq]; rfl : tabSet x ts = false)
    go_enter Tryz.func187, Tryz.ntmps187
    go_wp2_with ((go_at_call 112; (with_reducible refine (specIsValidPuzzle_any [.int .i64 x.points, .string x.names, .slice A3 x.moves.length C3] x _ _ (Rp.keep h0 (by with_reducible repeat (first | exact Only.refl _ _ | assumption | refine Only.drewN ?_ _ | refine Only.drew ?_ | refine Only.alloc ?_ _ | refine Only.setCell ?_ (by intro hh; exfalso; simp at hh; try omega) _ | refine Only.trans ?_ (by assumption))))).mono ?_); rintro e w1 ⟨he, t1⟩; rw [hq] at he; subst he))
    go_ret
    exact ⟨ret_bool Hn.out.symm, (by with_reducible repeat (first | exact Only.refl _ _ | assumption | refine Only.drewN ?_ _ | refine Only.drew ?_ | refine Only.alloc ?_ _ | refine Only.setCell ?_ (by intro hh; exfalso; simp at hh; try omega) _ | refine Only.trans ?_ (by assumption)))⟩
  by_cases hl : ts.length ≤ 4
  · have hn : tabSet x ts = ts.all (validT x) := by unfold tabSet; rw [hq, decide_eq_true hl]; rfl
    have Hn := Lib.hid hn
    have Hsm := Lib.hid hsm
    clear hn hsm
    go_enter Tryz.func187, Tryz.ntmps187
    go_wp2_with ((go_at_call 112; (with_reducible refine (specIsValidPuzzle_any [.int .i64 x.points, .string x.names, .slice A3 x.moves.length C3] x _ _ (Rp.keep h0 (by with_reducible repeat (first | exact Only.refl _ _ | assumption | refine Only.drewN ?_ _ | refine Only.drew ?_ | refine Only.alloc ?_ _ | refine Only.setCell ?_ (by intro hh; exfalso; simp at hh; try omega) _ | refine Only.trans ?_ (by assumption))))).mono ?_); rintro e w1 ⟨he, t1⟩; rw [hq] at he; subst he))
    have K1 : Only [] w w1 := (by with_reducible repeat (first | exact Only.refl _ _ | assumption | refine Only.drewN ?_ _ | refine Only.drew ?_ | refine Only.alloc ?_ _ | refine Only.setCell ?_ (by intro hh; exfalso; simp at hh; try omega) _ | refine Only.trans ?_ (by assumption)))
    have X1 := X0.keep t1
    clear X0 t1
    go_loopw [5] (fun i wr => ∃ j : Nat, j ≤ ts.length ∧ i = .int .i64 j ∧ (∀ t ∈ ts.take j, validT x t = true) ∧ Only [] w1 wr)
      (fun i _ => ts.length - (intOf i).toNat)
    case atStart => exact ⟨0, Nat.zero_le _, rfl, by simp, Only.refl _ _⟩
    case round =>
      obtain ⟨W2, hnew⟩ : ∃ W, W = wr := ⟨_, rfl⟩
      subst hnew
      obtain ⟨j, hj, rfl, hr, hK⟩ := hrel
      have Hr := Lib.hid hr
      clear hr
      by_cases hlt : j < ts.length
      · obtain ⟨b, off, v1, v2, v3, rfl, -, c1, c2, c3, hv0⟩ := hS.at3 j hlt
        have KK := K1.trans hK
        have d1 := KK.cell (by simp) c1
        have d2 := KK.cell (by simp) c2
        have d3 := KK.cell (by simp) c3
        have X2 := X1.keep hK
        have x0 := X2.cell 0 rfl
        have x1 := X2.cell 1 rfl
        have x2 := X2.cell 2 rfl
        have Hc := Lib.hid (fun (W : World) (hh : Only [] W2 W) => specIsValidTable_any [.int .i64 x.points, .string x.names, .slice A3 x.moves.length C3] [v1, v2, v3] x ts[j] _ _ W (Rp.keep h0 (KK.trans hh)) (Rp.keep hv0 (KK.trans hh)) (Hsm.out _ (List.getElem_mem hlt)))
        have Hmem := Lib.hid (List.getElem_mem hlt)
        clear c1 c2 c3 hv0
        rcases hp : validT x ts[j]
        all_goals go_wp2
        all_goals go_region_held3 (fun w' => Only [] W2 w' ∧ w'.cell? ⟨w.heap.size, 0, none⟩ = some (.int .i64 x.points) ∧ w'.cell? ⟨w.heap.size, 1, none⟩ = some (.string x.names) ∧ w'.cell? ⟨w.heap.size, 2, none⟩ = some (.slice A3 x.moves.length C3) ∧ w'.cell? ⟨b, off + j * 3, none⟩ = some (v1) ∧ w'.cell? ⟨b, off + j * 3 + 1, none⟩ = some (v2) ∧ w'.cell? ⟨b, off + j * 3 + 2, none⟩ = some (v3)) (((refine and_of ?_ (fun h__ => ⟨h__.cell (by simp) x0, h__.cell (by simp) x1, h__.cell (by simp) x2, h__.cell (by simp) d1, h__.cell (by simp) d2, h__.cell (by simp) d3⟩)); first | exact (Only.refl _ _).drew | exact ((Only.refl _ _).drewN _).drew | exact Only.trans (And.left (by assumption)) (by assumption) | exact Only.alloc (And.left (by assumption)) _ | assumption)) (first | (go_at_call 224; (with_reducible refine (Hc.out _ (And.left (by assumption))).mono ?_); rintro e w4 ⟨he, t4⟩; rw [hp] at he; subst he) | fail "no arm")
        all_goals have k4 : Only [] W2 w4 := (Only.refl [] W2).trans (And.left (by assumption))
        all_goals go_wp2
        · go_ret
          exact ⟨ret_bool (by rw [Hn.out]; exact (List.all_eq_false.2 ⟨_, Hmem.out, by simp [hp]⟩).symm), KK.trans k4⟩
        · go_roundw
          case rel => exact ⟨j + 1, by omega, by go_num, by
            rw [take_succ_get ts j hlt]; intro t ht
            rcases List.mem_append.1 ht with ht | ht
            · exact Hr.out t ht
            · simp at ht; subst ht; exact hp, hK.trans k4⟩
          case measure => simp [intOf]; omega
      · go_wp2
        go_ret
        exact ⟨ret_bool (by rw [Hn.out]; exact (List.all_eq_true.2 (by have := Hr.out; rwa [List.take_of_length_le (by omega)] at this)).symm), K1.trans hK⟩
  · have Hn := Lib.hid (by unfold tabSet; rw [hq, decide_eq_false hl]; rfl : tabSet x ts = false)
    go_enter Tryz.func187, Tryz.ntmps187
    go_wp2_with ((go_at_call 112; (with_reducible refine (specIsValidPuzzle_any [.int .i64 x.points, .string x.names, .slice A3 x.moves.length C3] x _ _ (Rp.keep h0 (by with_reducible repeat (first | exact Only.refl _ _ | assumption | refine Only.drewN ?_ _ | refine Only.drew ?_ | refine Only.alloc ?_ _ | refine Only.setCell ?_ (by intro hh; exfalso; simp at hh; try omega) _ | refine Only.trans ?_ (by assumption))))).mono ?_); rintro e w1 ⟨he, t1⟩; rw [hq] at he; subst he))
    go_ret
    exact ⟨ret_bool Hn.out.symm, (by with_reducible repeat (first | exact Only.refl _ _ | assumption | refine Only.drewN ?_ _ | refine Only.drew ?_ | refine Only.alloc ?_ _ | refine Only.setCell ?_ (by intro hh; exfalso; simp at hh; try omega) _ | refine Only.trans ?_ (by assumption)))⟩
set_option maxHeartbeats 400000 in
theorem IndexFunc_tabs (f : FuncId) (caps : Array Value) (pr : Table → Bool) (hcf : ∀ args w, (callFunc f args).run Tryz.prog w = .ok (.enter f args) w)
    (v : Value) (l : List Table) (fp : List Nat) (w : World) (h : Rd w v l fp)
    (hc : ∀ x ∈ l, ∀ v1 v2 v3 f' w', Only [] w w' → Rp.rep w' [v1, v2, v3] x f' → Calls Tryz.prog f (#[.agg #[v1, v2, v3]] ++ caps) w' fun e w'' => e = .returned (.bool (pr x)) ∧ Only [] w' w'') :
    Calls Tryz.prog 241 #[v, .func (.func f) #[] caps] w fun e w' => e = .returned (.int .i64 (idxF pr l)) ∧ Only [] w w' := by
  obtain ⟨a, cap, ob, fps, rfl, -, hI⟩ := h.open_
  have hb := hI.bound
  have HC := Lib.hid hc
  clear hc
  go_enter Tryz.func241, Tryz.ntmps241
  go_wp2
  go_loopw [5, 8] (fun i t wr => ∃ j : Nat, j ≤ l.length ∧ t = .int .i64 j ∧ (∀ x ∈ l.take j, pr x = false) ∧ Only [] w wr)
    (fun _ t _ => l.length - (intOf t).toNat)
  case atStart => exact ⟨0, Nat.zero_le _, rfl, by simp, Only.refl _ _⟩
  case round =>
    obtain ⟨j, hj, rfl, hr, hK⟩ := hrel
    have Hr := Lib.hid hr; clear hr
    by_cases hlt : j < l.length
    · obtain ⟨b, off, v1, v2, v3, rfl, -, c1, c2, c3, hv0⟩ := hI.at3 j hlt
      have d1 := hK.cell (by simp) c1
      have d2 := hK.cell (by simp) c2
      have d3 := hK.cell (by simp) c3
      have hv := Rp.keep hv0 hK
      clear c1 c2 c3 hv0
      rcases hp : pr l[j]
      all_goals go_wp2_with (with_reducible refine (HC.out l[j] (List.getElem_mem _) v1 v2 v3 _ wr hK hv).mono ?_; rintro e w1 ⟨rfl, hk1⟩)
      · go_roundw
        case rel => exact ⟨j + 1, by omega, by go_num, by
          rw [take_succ_get l j hlt]; intro x hx
          rcases List.mem_append.1 hx with hx | hx
          · exact Hr.out x hx
          · simp at hx; subst hx; exact hp, hK.trans hk1⟩
        case measure => simp [intOf]; omega
      · go_ret
        exact ⟨ret_int (idxF_some hlt Hr.out hp).symm, hK.trans hk1⟩
    · go_wp2
      go_ret
      exact ⟨ret_int (idxF_none (by have := Hr.out; rwa [List.take_of_length_le (by omega)] at this)).symm, hK⟩
set_option maxHeartbeats 400000 in
theorem ContainsFunc_tabs (f : FuncId) (caps : Array Value) (pr : Table → Bool) (hcf : ∀ args w, (callFunc f args).run Tryz.prog w = .ok (.enter f args) w)
    (v : Value) (l : List Table) (fp : List Nat) (w : World) (h : Rd w v l fp)
    (hc : ∀ x ∈ l, ∀ v1 v2 v3 f' w', Only [] w w' → Rp.rep w' [v1, v2, v3] x f' → Calls Tryz.prog f (#[.agg #[v1, v2, v3]] ++ caps) w' fun e w'' => e = .returned (.bool (pr x)) ∧ Only [] w' w'') :
    Calls Tryz.prog 227 #[v, .func (.func f) #[] caps] w fun e w' => e = .returned (.bool (l.any pr)) ∧ Only [] w w' := by
  have HC := Lib.hid hc
  clear hc
  go_enter Tryz.func227, Tryz.ntmps227
  go_wp2_with ((go_at_call 241; (with_reducible refine (IndexFunc_tabs f caps pr hcf v l _ w h HC.out).mono ?_); rintro e w1 ⟨rfl, hk⟩))
  go_ret
  exact ⟨ret_bool idxF_ge, hk⟩
set_option maxHeartbeats 1000000 in
theorem TabSet_closure (v2 : Value) (x : Puzzle) (fp : List Nat) (v1 v3 v4 : Value) (t : Table) (ft : List Nat) (b : Nat) (w : World) (h : Rp.rep w [.int .i64 x.points, .string x.names, v2] x fp) (hB : Blk w b [.int .i64 x.points, .string x.names, v2]) (ht : Rp.rep w [v1, v3, v4] t ft) (htl : t.tracked.length ≤ 2097152) :
    Calls Tryz.prog 228 #[.agg #[v1, v3, v4], .pointer (some ⟨b, 0, none⟩)] w fun e w' => e = .returned (.bool (!validT x t)) ∧ Only [] w w' := by
  have Y := hB.keep ((Only.refl [] w).alloc (.cells #[v1, v3, v4] 32))
  have y0 := Y.cell 0 rfl
  have y1 := Y.cell 1 rfl
  have y2 := Y.cell 2 rfl
  go_enter Tryz.func228, Tryz.ntmps228
  go_wp2_with ((go_at_call 229; (with_reducible refine (implIsValidTable_any [.int .i64 x.points, .string x.names, v2] [v1, v3, v4] x t _ _ _ (Rp.keep h (by with_reducible repeat (first | exact Only.refl _ _ | assumption | refine Only.drewN ?_ _ | refine Only.drew ?_ | refine Only.alloc ?_ _ | refine Only.setCell ?_ (by intro hh; exfalso; simp at hh; try omega) _ | refine Only.trans ?_ (by assumption)))) (Rp.keep ht (by with_reducible repeat (first | exact Only.refl _ _ | assumption | refine Only.drewN ?_ _ | refine Only.drew ?_ | refine Only.alloc ?_ _ | refine Only.setCell ?_ (by intro hh; exfalso; simp at hh; try omega) _ | refine Only.trans ?_ (by assumption)))) htl).mono ?_); rintro e w1 ⟨rfl, t1⟩))
  go_ret
  exact ⟨rfl, (by with_reducible repeat (first | exact Only.refl _ _ | assumption | refine Only.drewN ?_ _ | refine Only.drew ?_ | refine Only.alloc ?_ _ | refine Only.setCell ?_ (by intro hh; exfalso; simp at hh; try omega) _ | refine Only.trans ?_ (by assumption)))⟩
set_option maxHeartbeats 1000000 in
theorem implIsTableSet_any (cs : List Value) (x : Puzzle) (fp : List Nat) (v : Value) (ts : List Table) (ft : List Nat) (w : World) (h : Rp.rep w cs x fp) (hv : Rd w v ts ft) (hsm : ∀ t ∈ ts, t.tracked.length ≤ 2097152) :
    Calls Tryz.prog 189 #[.agg cs.toArray, v] w fun e w' => e = .returned (.bool (tabSet x ts)) ∧ Only [] w w' := by
  have h0 := h
  obtain ⟨v2, rfl, p0, p1, h2⟩ := h
  obtain ⟨A3, C3, _, _, rfl, -, -⟩ := h2.open_
  obtain ⟨a, cap, ob, fps, rfl, -, hS⟩ := hv.open_
  have hb := hS.bound
  clear p0 p1
  have X0 := Blk.new w [.int .i64 x.points, .string x.names, .slice A3 x.moves.length C3] 37
  rcases hq : validPz x
  · have Hn := Lib.hid (by unfold tabSet; rw [hq]; rfl : tabSet x ts = false)
    go_enter Tryz.func189, Tryz.ntmps189
    go_wp2_with ((go_at_call 122; (with_reducible refine (implIsValidPuzzle_any [.int .i64 x.points, .string x.names, .slice A3 x.moves.length C3] x _ _ (Rp.keep h0 (by with_reducible repeat (first | exact Only.refl _ _ | assumption | refine Only.drewN ?_ _ | refine Only.drew ?_ | refine Only.alloc ?_ _ | refine Only.setCell ?_ (by intro hh; exfalso; simp at hh; try omega) _ | refine Only.trans ?_ (by assumption))))).mono ?_); rintro e w1 ⟨he, t1⟩; rw [hq] at he; subst he))
    go_ret
    exact ⟨ret_bool Hn.out.symm, (by with_reducible repeat (first | exact Only.refl _ _ | assumption | refine Only.drewN ?_ _ | refine Only.drew ?_ | refine Only.alloc ?_ _ | refine Only.setCell ?_ (by intro hh; exfalso; simp at hh; try omega) _ | refine Only.trans ?_ (by assumption)))⟩
  by_cases hl : ts.length ≤ 4
  · have hn : tabSet x ts = !(ts.any fun t => !validT x t) := by unfold tabSet; rw [hq, decide_eq_true hl, List.not_any_eq_all_not]; simp
    have Hn := Lib.hid hn
    have hl' : (ts.length : Int) ≤ 4 := by omega
    have Hc := Lib.hid (fun (W : World) (hh : Only [] (w.alloc (.cells #[.int .i64 x.points, .string x.names, .slice A3 x.moves.length C3] 37)) W) => ContainsFunc_tabs 228 #[.pointer (some ⟨w.heap.size, 0, none⟩)] (fun t => !validT x t) Tryz.call228 (.slice a ts.length cap) ts _ W (Rp.keep hv (((Only.refl [] w).alloc _).trans hh))
      (fun t ht v1 v3 v4 f' w' hw hu => TabSet_closure _ x fp v1 v3 v4 t f' w.heap.size w' (Rp.keep h0 ((((Only.refl [] w).alloc _).trans hh).trans hw)) ((X0.keep hh).keep hw) hu (hsm t ht)))
    clear hn hsm
    rcases hany : ts.any fun t => !validT x t
    all_goals go_enter Tryz.func189, Tryz.ntmps189
    all_goals go_wp2_with (first
      | (go_at_call 122; (with_reducible refine (implIsValidPuzzle_any [.int .i64 x.points, .string x.names, .slice A3 x.moves.length C3] x _ _ (Rp.keep h0 (by with_reducible repeat (first | exact Only.refl _ _ | assumption | refine Only.drewN ?_ _ | refine Only.drew ?_ | refine Only.alloc ?_ _ | refine Only.setCell ?_ (by intro hh; exfalso; simp at hh; try omega) _ | refine Only.trans ?_ (by assumption))))).mono ?_); rintro e w1 ⟨he, t1⟩; rw [hq] at he; subst he)
      | (go_at_call 227; (with_reducible refine (Hc.out _ (by with_reducible repeat (first | exact Only.refl _ _ | assumption | refine Only.drewN ?_ _ | refine Only.drew ?_ | refine Only.alloc ?_ _ | refine Only.setCell ?_ (by intro hh; exfalso; simp at hh; try omega) _ | refine Only.trans ?_ (by assumption)))).mono ?_); rintro e w2 ⟨he, t2⟩; rw [hany] at he; subst he)
      | fail "no arm")
    all_goals go_ret
    all_goals exact ⟨ret_bool (by rw [Hn.out, hany]; rfl), (by with_reducible repeat (first | exact Only.refl _ _ | assumption | refine Only.drewN ?_ _ | refine Only.drew ?_ | refine Only.alloc ?_ _ | refine Only.setCell ?_ (by intro hh; exfalso; simp at hh; try omega) _ | refine Only.trans ?_ (by assumption)))⟩
  · have Hn := Lib.hid (by unfold tabSet; rw [hq, decide_eq_false hl]; rfl : tabSet x ts = false)
    have hl' : ¬ (ts.length : Int) ≤ 4 := by omega
    go_enter Tryz.func189, Tryz.ntmps189
    go_wp2_with ((go_at_call 122; (with_reducible refine (implIsValidPuzzle_any [.int .i64 x.points, .string x.names, .slice A3 x.moves.length C3] x _ _ (Rp.keep h0 (by with_reducible repeat (first | exact Only.refl _ _ | assumption | refine Only.drewN ?_ _ | refine Only.drew ?_ | refine Only.alloc ?_ _ | refine Only.setCell ?_ (by intro hh; exfalso; simp at hh; try omega) _ | refine Only.trans ?_ (by assumption))))).mono ?_); rintro e w1 ⟨he, t1⟩; rw [hq] at he; subst he))
    go_ret
    exact ⟨ret_bool Hn.out.symm, (by with_reducible repeat (first | exact Only.refl _ _ | assumption | refine Only.drewN ?_ _ | refine Only.drew ?_ | refine Only.alloc ?_ _ | refine Only.setCell ?_ (by intro hh; exfalso; simp at hh; try omega) _ | refine Only.trans ?_ (by assumption)))⟩
end Go.Proofs.YtlcoejncdbkhcaaGreat

namespace Go.Proofs.YtlcoejncdbkhcaaGreat
open Go.RowKit
set_option maxRecDepth 10000

set_option maxHeartbeats 1000000 in
theorem tableEntry_any (ds : List Value) (t : Table) (f2 : List Nat) (v : Value) (p : List Int) (f3 : List Nat) (w : World) (h : Rp.rep w ds t f2) (h2 : Rd w v p f3) :
    Calls Tryz.prog 225 #[.agg ds.toArray, v] w fun e w' => e = .returned (.int .i64 (idxL t.patterns p)) ∧ Only [] w w' := by
  obtain ⟨u0, u1, u2, q0, q1, q2, rfl, rfl, r0, r1, r2⟩ := h
  obtain ⟨A1, C1, ob, fps, rfl, -, hS⟩ := r1.open_
  have hb := hS.bound
  have X0 := Blk.new w [u0, .slice A1 t.patterns.length C1, u2] 32
  simp only [List.toArray] at X0
  go_enter Tryz.func225, Tryz.ntmps225
  go_wp2
  go_loopw [5] (fun i wr => ∃ j : Nat, j ≤ t.patterns.length ∧ i = .int .i64 j ∧ (∀ q ∈ t.patterns.take j, decide (q = p) = false) ∧ Only [] (w.alloc (.cells #[u0, .slice A1 t.patterns.length C1, u2] 32)) wr)
    (fun i _ => t.patterns.length - (intOf i).toNat)
  case atStart => exact ⟨0, Nat.zero_le _, rfl, by simp, Only.refl _ _⟩
  case round =>
    obtain ⟨W2, hnew⟩ : ∃ W, W = wr := ⟨_, rfl⟩
    subst hnew
    obtain ⟨j, hj, rfl, hr, hK⟩ := hrel
    have Hr := Lib.hid hr
    clear hr
    have y1 := (X0.keep hK).cell 1 rfl
    have KK := ((Only.refl [] w).alloc (.cells #[u0, .slice A1 t.patterns.length C1, u2] 32)).trans hK
    by_cases hlt : j < t.patterns.length
    · obtain ⟨b, off, u, rfl, -, hc0, hu0⟩ := hS.atRow j hlt
      have hc := KK.cell (by simp) hc0
      have hu := Rp.keep hu0 KK
      have h2' := Rp.keep h2 KK
      clear hc0 hu0
      rcases hq : eqV t.patterns[j] p
      all_goals go_wp2_with ((go_at_call 201; (with_reducible refine (equalInts_rd u v t.patterns[j] p _ _ _ (Rp.keep hu (by with_reducible repeat (first | exact Only.refl _ _ | assumption | refine Only.drewN ?_ _ | refine Only.drew ?_ | refine Only.alloc ?_ _ | refine Only.setCell ?_ (by intro hh; exfalso; simp at hh; try omega) _ | refine Only.trans ?_ (by assumption)))) (Rp.keep h2' (by with_reducible repeat (first | exact Only.refl _ _ | assumption | refine Only.drewN ?_ _ | refine Only.drew ?_ | refine Only.alloc ?_ _ | refine Only.setCell ?_ (by intro hh; exfalso; simp at hh; try omega) _ | refine Only.trans ?_ (by assumption))))).mono ?_); rintro e w3 ⟨he, k3⟩; rw [hq] at he; subst he; have t3 := Drew.only k3 []))
      · go_roundw
        case rel => exact ⟨j + 1, by omega, by go_num, by
          rw [take_succ_get _ j hlt]; intro q hq2
          rcases List.mem_append.1 hq2 with hq2 | hq2
          · exact Hr.out q hq2
          · simp at hq2; subst hq2; exact decide_eq_false (eqV_iff'.1 hq), hK.trans t3⟩
        case measure => simp [intOf]; omega
      · go_ret
        exact ⟨ret_int (idxF_some hlt Hr.out (decide_eq_true (eqV_iff.1 hq))).symm, KK.trans t3⟩
    · go_wp2
      go_ret
      exact ⟨ret_int (idxF_none (by have := Hr.out; rwa [List.take_of_length_le (by omega)] at this)).symm, KK⟩
set_option maxHeartbeats 1000000 in
theorem projectState_any (u v : Value) (ix l : List Int) (f2 f1 : List Nat) (w : World) (h' : Rd w u ix f2) (h : Rd w v l f1) (hx : ∀ x ∈ ix, 0 ≤ x ∧ x < l.length) (hl : ix.length ≤ 1000) :
    Calls Tryz.prog 226 #[u, v] w fun e w' => ∃ v fp', e = .returned v ∧ Rd w' v (PM.comp ix l) fp' ∧ Fresh w.heap.size w' fp' ∧ Only [] w w' := by
  obtain ⟨a, cap, rfl, hI⟩ := h.ints
  obtain ⟨a', cap', rfl, hI'⟩ := h'.ints
  have hb := hI.bound
  obtain ⟨i0, hi, hz0, hz1, hz2⟩ := info_parts Tryz.info2
  go_enter Tryz.func226, Tryz.ntmps226
  go_wp2
  go_loopw [5, 6] (fun o i wr => ∃ (j : Nat) (fs : List (List Nat)), j ≤ ix.length ∧ i = .int .i64 j ∧ Acc w.heap.size 2 wr o (PM.comp (ix.take j) l) fs ∧ Fresh w.heap.size wr fs.flatten ∧ Only [] w wr)
    (fun _ i _ => ix.length - (intOf i).toNat)
  case atStart => exact ⟨0, [], Nat.zero_le _, rfl, Acc.made w w.heap.size _ rfl (Nat.le_refl _), Fresh.nil _ _, (Only.refl _ _).alloc _⟩
  case round =>
    obtain ⟨j, fs, hj, rfl, hA, hF, hK⟩ := hrel
    by_cases hlt : j < ix.length
    · obtain ⟨b, off, rfl, -, hc0⟩ := hI'.at_ j hlt
      obtain ⟨hr0, hr1⟩ := hx ix[j] (List.getElem_mem _)
      have hxl : ix[j].toNat < l.length := by omega
      obtain ⟨b2, off2, rfl, -, hd0⟩ := hI.at_ ix[j].toNat hxl
      have hc := hK.cell (by simp) hc0
      have hd := hK.cell (by simp) hd0
      have hsz := hK.size
      have hlj : (PM.comp (ix.take j) l).length + 1 ≤ 1073741824 := by rw [PM.comp_len, List.length_take]; omega
      have e1 : PM.at_ l ix[j] = l[ix[j].toNat] := by
        have := PM.at_nat l ix[j].toNat hxl
        rwa [show ((ix[j].toNat : Nat) : Int) = ix[j] by omega] at this
      have hst : PM.comp (ix.take (j + 1)) l = PM.comp (ix.take j) l ++ [l[ix[j].toNat]] := by
        rw [take_succ_get ix j hlt]
        simp only [PM.comp, List.map_append, List.map_cons, List.map_nil, e1]
      have Hst := Lib.hid hst
      have hI9 := hI.wf l[ix[j].toNat] (List.getElem_mem hxl)
      have HI := Lib.hid hI9
      clear hc0 hd0 hst e1 hI9
      go_wp2_with ((at_builtin; refine wpList_pushF rfl _ _ 25 rfl w.heap.size 2 i0 _ 8 Tryz.underlying25 hi hz0 hz1 hz2 rfl (by decide) (by decide) wr _ (PM.comp (ix.take j) l) fs rfl hA hF ((Only.refl _ _).alloc _) hsz wr.heap.size 1 [.int .i64 l[ix[j].toNat]] l[ix[j].toNat] [] rfl (lit_src wr [.int .i64 l[ix[j].toNat]] _ rfl) (by intro u hu; simp at hu; subst hu; rfl) (int_rd _ HI.out) (Fresh.nil _ _) hlj w (hK.alloc _) (Nat.le_refl _) ?_; intro v3 w3 hA3 hF3 hK3 _))
      go_roundw
      case rel => exact ⟨j + 1, _, by omega, by go_num, by rw [Hst.out]; exact hA3, hF3, hK3⟩
      case measure => simp [intOf]; omega
    · have hjl : j = ix.length := by omega
      rw [hjl, List.take_length] at hA
      have HA := Lib.hid hA
      clear hjl hA
      go_wp2
      go_ret
      exact ⟨_, _, rfl, HA.out.rd (by decide), HA.out.fresh hF, hK⟩
/-- what looking a reachable state up in a valid table asks -/
theorem lookT_rng_ix {x : Puzzle} {t : Table} (h : validT x t = true) {s : List Int} (hs : reachB x s = true) : (∀ z ∈ t.tracked, 0 ≤ z ∧ z < s.length) ∧ t.tracked.length ≤ 1000 ∧ s.length ≤ 1000 := by
  have hb := validT_built h
  have hf := validPz_facts hb.v
  have htr := trackB_iff.1 hb.tk
  have hl := htr.2.len
  have hst := stateB_pn (reachB_state hs)
  have hlen : s.length = x.points.toNat := hst.2.2.2.1
  refine ⟨fun z hz => by have := htr.2.1 z hz; omega, by omega, by omega⟩
set_option maxHeartbeats 4000000 in
theorem lookupBounds_any (x : Puzzle) (v : Value) (ts : List Table) (ft : List Nat) (u : Value) (s : List Int) (fs0 : List Nat) (w : World) (hv : Rd w v ts ft) (hu : Rd w u s fs0) (hts : ∀ t ∈ ts, validT x t = true) (hs : reachB x s = true) (hl : ts.length ≤ 4) :
    Calls Tryz.prog 188 #[v, u] w fun e w' => ∃ v fp', e = .returned v ∧ Rd w' v (lbs ts s) fp' ∧ Fresh w.heap.size w' fp' ∧ Only [] w w' := by
  obtain ⟨a, cap, ob, fps, rfl, -, hS⟩ := hv.open_
  obtain ⟨a2, cap2, rfl, hI2⟩ := hu.ints
  have hb := hS.bound
  have Hts := Lib.hid hts
  have Hs := Lib.hid hs
  clear hts hs
  obtain ⟨i0, hi, hz0, hz1, hz2⟩ := info_parts Tryz.info2
  go_enter Tryz.func188, Tryz.ntmps188
  go_wp2
  go_loopw [5, 6] (fun o i wr => ∃ (j : Nat) (fs : List (List Nat)), j ≤ ts.length ∧ i = .int .i64 j ∧ Acc w.heap.size 2 wr o (lbs (ts.take j) s) fs ∧ Fresh w.heap.size wr fs.flatten ∧ Only [] w wr)
    (fun _ i _ => ts.length - (intOf i).toNat)
  case atStart => exact ⟨0, [], Nat.zero_le _, rfl, Acc.made w w.heap.size _ rfl (Nat.le_refl _), Fresh.nil _ _, (Only.refl _ _).alloc _⟩
  case round =>
    obtain ⟨j, fs, hj, rfl, hA, hF, hK⟩ := hrel
    by_cases hlt : j < ts.length
    · obtain ⟨b, off, v1, v2, v3, rfl, -, c1, c2, c3, hv0⟩ := hS.at3 j hlt
      have q := hv0
      obtain ⟨_, _, _, g1, g2, g3, hq, -, s1, s2, s3⟩ := q
      injection hq with e1 hq; injection hq with e2 hq; injection hq with e3 hq; subst e1; subst e2; subst e3
      clear hq
      have hvt := Hts.out ts[j] (List.getElem_mem hlt)
      obtain ⟨n1, n2, n3⟩ := lookT_rng_ix hvt Hs.out
      obtain ⟨m, hm1, hm2, hm3, hm4, hm5⟩ := lookT_entry hvt Hs.out
      have hrg := lookT_rng hvt Hs.out
      obtain ⟨A1, C1, rfl, I1⟩ := s1.ints
      obtain ⟨A2, C2, _, _, rfl, -⟩ := s2.open_
      obtain ⟨A3, C3, rfl, I3⟩ := s3.ints
      obtain ⟨b3, o3, rfl, -, hc3⟩ := I3.at_ m hm2
      have hd : ts[j].distances[m] = lookT ts[j] s := by rw [hm5, getD_get hm2]
      rw [hd] at hc3
      have d1 := hK.cell (by simp) c1
      have d2 := hK.cell (by simp) c2
      have d3 := hK.cell (by simp) c3
      have d4 := hK.cell (by simp) hc3
      have hsz := hK.size
      have hlj : (lbs (ts.take j) s).length + 1 ≤ 1073741824 := by unfold lbs; simp; omega
      have hst : lbs (ts.take (j + 1)) s = lbs (ts.take j) s ++ [lookT ts[j] s] := by rw [take_succ_get ts j hlt]; unfold lbs; rw [List.map_append]; rfl
      have Hst := Lib.hid hst
      have hI9 : I64 (lookT ts[j] s) := by unfold I64; omega
      have HI := Lib.hid hI9
      have Hm3 := Lib.hid hm3
      have hi1 : (0 : Int) ≤ (j : Int) := by omega
      have hi2 : (j : Int) < (ts.length : Int) := by omega
      have hi3 : (0 : Int) ≤ (m : Int) := by omega
      have hi4 : (m : Int) < (ts[j].distances.length : Int) := by omega
      have hcw : ∀ W, Only [] w W → Rp.rep W [.slice A1 ts[j].tracked.length C1, .slice A2 ts[j].patterns.length C2, .slice (some ⟨b3, o3, none⟩) ts[j].distances.length C3] ts[j] _ := fun W hh => Rp.keep hv0 hh
      have Hcw := Lib.hid hcw
      clear hst hI9 hm3 hm4 hm5 hd hrg hcw hvt
      go_upto_region 5 with fail
      go_region_held3 (fun w' => Only [] w w' ∧ w'.cell? ⟨b, off + j * 3, none⟩ = some (.slice A1 ts[j].tracked.length C1) ∧ w'.cell? ⟨b, off + j * 3 + 1, none⟩ = some (.slice A2 ts[j].patterns.length C2) ∧ w'.cell? ⟨b, off + j * 3 + 2, none⟩ = some (.slice (some ⟨b3, o3, none⟩) ts[j].distances.length C3) ∧ w'.cell? ⟨b3, o3 + m, none⟩ = some (.int .i64 (lookT ts[j] s))) ((refine and_of ?_ (fun h__ => ⟨h__.cell (by simp) c1, h__.cell (by simp) c2, h__.cell (by simp) c3, h__.cell (by simp) hc3⟩); first | assumption | exact hK.drew | exact Only.trans (And.left (by assumption)) (by assumption) | exact Only.alloc (And.left (by assumption)) _)) (first
        | (go_at_call 226; (with_reducible refine (projectState_any (.slice A1 ts[j].tracked.length C1) _ ts[j].tracked s _ _ _ (Rp.keep s1 (And.left (by assumption))) (Rp.keep hu (And.left (by assumption))) n1 n2).mono ?_); rintro e x1 ⟨p1, q1, rfl, r1, F1, y1⟩)
        | (go_at_call 225; (with_reducible refine (tableEntry_any [.slice A1 ts[j].tracked.length C1, .slice A2 ts[j].patterns.length C2, .slice (some ⟨b3, o3, none⟩) ts[j].distances.length C3] ts[j] _ p1 (PM.comp ts[j].tracked s) _ _ (Hcw.out _ (And.left (by assumption))) (Rp.keep r1 (by first | exact Only.refl _ _ | assumption))).mono ?_); rintro e x2 ⟨he, y2⟩; rw [Hm3.out] at he; subst he)
        | (refine step_pushF rfl _ _ 25 rfl w.heap.size 2 i0 _ 8 Tryz.underlying25 hi hz0 hz1 hz2 rfl (by decide) (by decide) wr _ (lbs (ts.take j) s) fs rfl hA hF ((((Only.refl [] wr).drew.trans y1).trans y2).alloc _) hsz x2.heap.size 1 [.int .i64 (lookT ts[j] s)] (lookT ts[j] s) [] rfl (lit_src x2 [.int .i64 (lookT ts[j] s)] _ rfl) (by intro u hu; simp at hu; subst hu; rfl) (int_rd _ HI.out) (Fresh.nil _ _) hlj w (And.left (by assumption)) (Nat.le_refl _) ?_; intro v9 w9 hA9 hF9 hK9 hW9)
        | fail "no arm")
      go_wp2
      go_roundw
      case rel => exact ⟨j + 1, _, by omega, by go_num, by rw [Hst.out]; exact hA9, hF9, hK9⟩
      case measure => simp [intOf]; omega
    · have hjl : j = ts.length := by omega
      rw [hjl, List.take_length] at hA
      have HA := Lib.hid hA
      clear hjl hA
      go_wp2
      go_ret
      exact ⟨_, _, rfl, HA.out.rd (by decide), HA.out.fresh hF, hK⟩
theorem wrapmax (a b : Int) : (if a < b then b else a) = max a b := by
  split <;> omega
set_option maxHeartbeats 2000000 in
theorem lookupBound_any (x : Puzzle) (v : Value) (ts : List Table) (ft : List Nat) (u : Value) (s : List Int) (fs0 : List Nat) (w : World) (hv : Rd w v ts ft) (hu : Rd w u s fs0) (hts : ∀ t ∈ ts, validT x t = true) (hs : reachB x s = true) (hl : ts.length ≤ 4) :
    Calls Tryz.prog 134 #[v, u] w fun e w' => e = .returned (.int .i64 (lbMax ts s)) ∧ Only [] w w' := by
  go_enter Tryz.func134, Tryz.ntmps134
  go_upto_region 4 with ((go_at_call 188; (with_reducible refine (lookupBounds_any x v ts ft u s fs0 _ (Rp.keep hv (by with_reducible repeat (first | exact Only.refl _ _ | assumption | refine Only.drewN ?_ _ | refine Only.drew ?_ | refine Only.alloc ?_ _ | refine Only.setCell ?_ (by intro hh; exfalso; simp at hh; try omega) _ | refine Only.trans ?_ (by assumption)))) (Rp.keep hu (by with_reducible repeat (first | exact Only.refl _ _ | assumption | refine Only.drewN ?_ _ | refine Only.drew ?_ | refine Only.alloc ?_ _ | refine Only.setCell ?_ (by intro hh; exfalso; simp at hh; try omega) _ | refine Only.trans ?_ (by assumption)))) hts hs hl).mono ?_); rintro e w1 ⟨u1, f1, rfl, r1, F1, t1⟩; obtain ⟨a1, c1, rfl, I1⟩ := r1.ints))
  obtain ⟨L, hL⟩ : ∃ L, L = lbs ts s := ⟨_, rfl⟩
  have hfin : lbMax ts s = L.foldl max 0 := by rw [hL]; rfl
  have Hfin := Lib.hid hfin
  rw [← hL] at I1 r1 ⊢
  clear hL hfin
  have hb := I1.bound
  go_loopw [6, 7] (fun o i wr => ∃ j : Nat, j ≤ L.length ∧ i = .int .i64 j ∧ o = .int .i64 ((L.take j).foldl max 0) ∧ Only [] w1 wr)
    (fun _ i _ => L.length - (intOf i).toNat)
  case atStart => exact ⟨0, Nat.zero_le _, rfl, rfl, Only.refl _ _⟩
  case round =>
    obtain ⟨j, hj, rfl, rfl, hK⟩ := hrel
    by_cases hlt : j < L.length
    · obtain ⟨b, off, rfl, -, hc0⟩ := I1.at_ j hlt
      have hc := hK.cell (by simp) hc0
      have hst : (L.take (j + 1)).foldl max 0 = max ((L.take j).foldl max 0) L[j] := by rw [take_succ_get L j hlt, List.foldl_append]; rfl
      have Hst := Lib.hid hst
      clear hst
      go_wp2
      go_roundw
      case rel => exact ⟨j + 1, by omega, by go_num, by rw [Hst.out, wrapmax], hK⟩
      case measure => simp [intOf]; omega
    · obtain rfl : j = L.length := by omega
      rw [List.take_length]
      go_wp2
      go_ret
      exact ⟨ret_int Hfin.out.symm, t1.trans hK⟩
set_option maxHeartbeats 2000000 in
theorem isHeuristicCase_any (cs : List Value) (x : Puzzle) (fp : List Nat) (v : Value) (ts : List Table) (ft : List Nat) (u : Value) (s : List Int) (fs0 : List Nat) (w : World) (h : Rp.rep w cs x fp) (hv : Rd w v ts ft) (hu : Rd w u s fs0) (hsm : ∀ t ∈ ts, t.tracked.length ≤ 2097152) :
    Calls Tryz.prog 133 #[.agg cs.toArray, v, u] w fun e w' => e = .returned (.bool (tabSet x ts && reachB x s)) ∧ Only [] w w' := by
  have h0 := h
  obtain ⟨v2, rfl, p0, p1, h2⟩ := h
  clear p0 p1 h2
  have X0 := Blk.new w [.int .i64 x.points, .string x.names, v2] 37
  simp only [List.toArray] at X0
  rcases hq : tabSet x ts
  · go_enter Tryz.func133, Tryz.ntmps133
    go_wp2_with ((go_at_call 187; (with_reducible refine (specIsTableSet_any [.int .i64 x.points, .string x.names, v2] x _ v ts _ _ (Rp.keep h0 (by with_reducible repeat (first | exact Only.refl _ _ | assumption | refine Only.drewN ?_ _ | refine Only.drew ?_ | refine Only.alloc ?_ _ | refine Only.setCell ?_ (by intro hh; exfalso; simp at hh; try omega) _ | refine Only.trans ?_ (by assumption)))) (Rp.keep hv (by with_reducible repeat (first | exact Only.refl _ _ | assumption | refine Only.drewN ?_ _ | refine Only.drew ?_ | refine Only.alloc ?_ _ | refine Only.setCell ?_ (by intro hh; exfalso; simp at hh; try omega) _ | refine Only.trans ?_ (by assumption)))) hsm).mono ?_); rintro e w1 ⟨he, t1⟩; rw [hq] at he; subst he))
    go_ret
    exact ⟨rfl, (by with_reducible repeat (first | exact Only.refl _ _ | assumption | refine Only.drewN ?_ _ | refine Only.drew ?_ | refine Only.alloc ?_ _ | refine Only.setCell ?_ (by intro hh; exfalso; simp at hh; try omega) _ | refine Only.trans ?_ (by assumption)))⟩
  · go_enter Tryz.func133, Tryz.ntmps133
    go_wp2_with (first
      | (go_at_call 187; (with_reducible refine (specIsTableSet_any [.int .i64 x.points, .string x.names, v2] x _ v ts _ _ (Rp.keep h0 (by with_reducible repeat (first | exact Only.refl _ _ | assumption | refine Only.drewN ?_ _ | refine Only.drew ?_ | refine Only.alloc ?_ _ | refine Only.setCell ?_ (by intro hh; exfalso; simp at hh; try omega) _ | refine Only.trans ?_ (by assumption)))) (Rp.keep hv (by with_reducible repeat (first | exact Only.refl _ _ | assumption | refine Only.drewN ?_ _ | refine Only.drew ?_ | refine Only.alloc ?_ _ | refine Only.setCell ?_ (by intro hh; exfalso; simp at hh; try omega) _ | refine Only.trans ?_ (by assumption)))) hsm).mono ?_); rintro e w1 ⟨he, t1⟩; rw [hq] at he; subst he; have X1 := X0.keep t1; have y0 := X1.cell 0 rfl; have y1 := X1.cell 1 rfl; have y2 := X1.cell 2 rfl)
      | (go_at_call 69; (with_reducible refine (specIsReachable_any [.int .i64 x.points, .string x.names, v2] x _ u s _ _ (Rp.keep h0 (by with_reducible repeat (first | exact Only.refl _ _ | assumption | refine Only.drewN ?_ _ | refine Only.drew ?_ | refine Only.alloc ?_ _ | refine Only.setCell ?_ (by intro hh; exfalso; simp at hh; try omega) _ | refine Only.trans ?_ (by assumption)))) (Rp.keep hu (by with_reducible repeat (first | exact Only.refl _ _ | assumption | refine Only.drewN ?_ _ | refine Only.drew ?_ | refine Only.alloc ?_ _ | refine Only.setCell ?_ (by intro hh; exfalso; simp at hh; try omega) _ | refine Only.trans ?_ (by assumption))))).mono ?_); rintro e w2 ⟨rfl, t2⟩)
      | fail "no arm")
    go_ret
    exact ⟨rfl, (by with_reducible repeat (first | exact Only.refl _ _ | assumption | refine Only.drewN ?_ _ | refine Only.drew ?_ | refine Only.alloc ?_ _ | refine Only.setCell ?_ (by intro hh; exfalso; simp at hh; try omega) _ | refine Only.trans ?_ (by assumption)))⟩
set_option maxHeartbeats 2000000 in
theorem specLowerBound_any (cs : List Value) (x : Puzzle) (fp : List Nat) (v : Value) (ts : List Table) (ft : List Nat) (u : Value) (s : List Int) (fs0 : List Nat) (w : World) (h : Rp.rep w cs x fp) (hv : Rd w v ts ft) (hu : Rd w u s fs0) (hsm : ∀ t ∈ ts, t.tracked.length ≤ 2097152) :
    Calls Tryz.prog 87 #[.agg cs.toArray, v, u] w fun e w' => e = .returned (.int .i64 (lb x ts s)) ∧ Only [] w w' := by
  have h0 := h
  obtain ⟨v2, rfl, p0, p1, h2⟩ := h
  clear p0 p1 h2
  have X0 := Blk.new w [.int .i64 x.points, .string x.names, v2] 37
  simp only [List.toArray] at X0
  rcases hq : tabSet x ts && reachB x s
  · have Hn := Lib.hid (by unfold lb; rw [hq]; rfl : lb x ts s = -1)
    go_enter Tryz.func87, Tryz.ntmps87
    go_wp2_with ((go_at_call 133; (with_reducible refine (isHeuristicCase_any [.int .i64 x.points, .string x.names, v2] x _ v ts _ u s _ _ (Rp.keep h0 (by with_reducible repeat (first | exact Only.refl _ _ | assumption | refine Only.drewN ?_ _ | refine Only.drew ?_ | refine Only.alloc ?_ _ | refine Only.setCell ?_ (by intro hh; exfalso; simp at hh; try omega) _ | refine Only.trans ?_ (by assumption)))) (Rp.keep hv (by with_reducible repeat (first | exact Only.refl _ _ | assumption | refine Only.drewN ?_ _ | refine Only.drew ?_ | refine Only.alloc ?_ _ | refine Only.setCell ?_ (by intro hh; exfalso; simp at hh; try omega) _ | refine Only.trans ?_ (by assumption)))) (Rp.keep hu (by with_reducible repeat (first | exact Only.refl _ _ | assumption | refine Only.drewN ?_ _ | refine Only.drew ?_ | refine Only.alloc ?_ _ | refine Only.setCell ?_ (by intro hh; exfalso; simp at hh; try omega) _ | refine Only.trans ?_ (by assumption)))) hsm).mono ?_); rintro e w1 ⟨he, t1⟩; rw [hq] at he; subst he))
    go_ret
    exact ⟨ret_int Hn.out.symm, (by with_reducible repeat (first | exact Only.refl _ _ | assumption | refine Only.drewN ?_ _ | refine Only.drew ?_ | refine Only.alloc ?_ _ | refine Only.setCell ?_ (by intro hh; exfalso; simp at hh; try omega) _ | refine Only.trans ?_ (by assumption)))⟩
  · have Hn := Lib.hid (by unfold lb; rw [if_pos hq] : lb x ts s = lbMax ts s)
    have hq2 := hq
    rw [Bool.and_eq_true, tabSet_iff] at hq2
    obtain ⟨⟨-, q1, q2⟩, q3⟩ := hq2
    have Q2 := Lib.hid q2
    have Q3 := Lib.hid q3
    clear q2 q3
    go_enter Tryz.func87, Tryz.ntmps87
    go_wp2_with (first
      | (go_at_call 133; (with_reducible refine (isHeuristicCase_any [.int .i64 x.points, .string x.names, v2] x _ v ts _ u s _ _ (Rp.keep h0 (by with_reducible repeat (first | exact Only.refl _ _ | assumption | refine Only.drewN ?_ _ | refine Only.drew ?_ | refine Only.alloc ?_ _ | refine Only.setCell ?_ (by intro hh; exfalso; simp at hh; try omega) _ | refine Only.trans ?_ (by assumption)))) (Rp.keep hv (by with_reducible repeat (first | exact Only.refl _ _ | assumption | refine Only.drewN ?_ _ | refine Only.drew ?_ | refine Only.alloc ?_ _ | refine Only.setCell ?_ (by intro hh; exfalso; simp at hh; try omega) _ | refine Only.trans ?_ (by assumption)))) (Rp.keep hu (by with_reducible repeat (first | exact Only.refl _ _ | assumption | refine Only.drewN ?_ _ | refine Only.drew ?_ | refine Only.alloc ?_ _ | refine Only.setCell ?_ (by intro hh; exfalso; simp at hh; try omega) _ | refine Only.trans ?_ (by assumption)))) hsm).mono ?_); rintro e w1 ⟨he, t1⟩; rw [hq] at he; subst he)
      | (go_at_call 134; (with_reducible refine (lookupBound_any x v ts _ u s _ _ (Rp.keep hv (by with_reducible repeat (first | exact Only.refl _ _ | assumption | refine Only.drewN ?_ _ | refine Only.drew ?_ | refine Only.alloc ?_ _ | refine Only.setCell ?_ (by intro hh; exfalso; simp at hh; try omega) _ | refine Only.trans ?_ (by assumption)))) (Rp.keep hu (by with_reducible repeat (first | exact Only.refl _ _ | assumption | refine Only.drewN ?_ _ | refine Only.drew ?_ | refine Only.alloc ?_ _ | refine Only.setCell ?_ (by intro hh; exfalso; simp at hh; try omega) _ | refine Only.trans ?_ (by assumption)))) Q2.out Q3.out q1).mono ?_); rintro e w2 ⟨rfl, t2⟩)
      | fail "no arm")
    go_ret
    exact ⟨ret_int Hn.out.symm, (by with_reducible repeat (first | exact Only.refl _ _ | assumption | refine Only.drewN ?_ _ | refine Only.drew ?_ | refine Only.alloc ?_ _ | refine Only.setCell ?_ (by intro hh; exfalso; simp at hh; try omega) _ | refine Only.trans ?_ (by assumption)))⟩
end Go.Proofs.YtlcoejncdbkhcaaGreat

namespace Go.Proofs.YtlcoejncdbkhcaaGreat
open Go.RowKit
set_option maxRecDepth 10000
open Go.Maps (Keyed)

theorem Tryz.zeroInt64 (w : World) : (zeroValue 2).run Tryz.prog w = .ok (.int .i64 0) w := by kernel_rfl
/-- block M is a map of at most k entries; g: what lies at a key -/
def Mq (w : World) (M k : Nat) (g : ByteArray → Option Int) : Prop :=
  ∃ D : DataW Unit, w.ownsMap Tryz.prog 9 (plainElem Tryz.prog 2) M k D ∧ ∀ s : ByteArray, s.size ≤ maxLen →
    Go.Maps.has D (.string s.data.toList) = (g s).isSome ∧ ∀ n, g s = some n → D.atKey (.string s.data.toList) (.lit (.int .i64 0)) = .lit (.int .i64 n)
theorem Mq.lt {w : World} {M k : Nat} {g : ByteArray → Option Int} (h : Mq w M k g) : M < w.heap.size := by
  obtain ⟨D, h1, -⟩ := h; exact h1.lt
theorem Mq.frame {w w' : World} {M k : Nat} {g : ByteArray → Option Int} (h : Mq w M k g) (hf : w'.heap[M]? = w.heap[M]?) : Mq w' M k g := by
  obtain ⟨D, ⟨es, c, h1, h2⟩, h3⟩ := h
  exact ⟨D, ⟨es, c, by rw [hf]; exact h1, h2⟩, h3⟩
theorem Mq.only {w w' : World} {fp : List Nat} {M k : Nat} {g : ByteArray → Option Int} (h : Mq w M k g) (ho : Only fp w w') (hn : M ∉ fp) : Mq w' M k g := h.frame (ho.block M h.lt hn)
theorem Mq.keep {w w' : World} {M k : Nat} {g : ByteArray → Option Int} (h : Mq w M k g) (ho : Only [] w w') : Mq w' M k g := h.only ho (by simp)
theorem Mq.made (w : World) {M : Nat} (hM : M = w.heap.size) : Mq (w.alloc (.map #[] 0)) M 0 (fun _ => none) := by
  subst hM
  exact ⟨.map [], World.ownsMap_made _ _ _ _, fun s _ => ⟨rfl, by simp⟩⟩
theorem Mq.congr {w : World} {M k : Nat} {g g' : ByteArray → Option Int} (h : Mq w M k g) (hg : ∀ s, g s = g' s) : Mq w M k g' := by
  have : g = g' := funext hg
  rw [← this]; exact h
section
variable {w : World} {M k : Nat} {g : ByteArray → Option Int}
/-- m[k] -/
theorem Mq.run_at (h : Mq w M k g) {s : ByteArray} (hs : s.size ≤ maxLen) : (Instr.lookup 194 (.map (some M)) (.string s) false).run Tryz.prog w = .ok (.int .i64 ((g s).getD 0)) w := by
  obtain ⟨D, hown, hg⟩ := h
  obtain ⟨h1, h2⟩ := hg s hs
  obtain ⟨c, hrun, hc1, -⟩ := hown.lookup_int Tryz.lawStr Tryz.underlying194 Tryz.underlying2 (Tryz.zeroInt64 w) (Go.WideMaps.keyOf_string_mk Tryz.underlying9 hs)
  have hcv : c = (g s).getD 0 := by
    cases hgs : g s with
    | none =>
      rw [hgs] at h1
      rw [Go.Maps.atKey_of_not_has h1] at hc1
      injection hc1 with hc1; injection hc1 with _ hc1; simp [hc1]
    | some n =>
      rw [h2 n hgs] at hc1
      injection hc1 with hc1; injection hc1 with _ hc1; simp [hc1]
  rw [hrun, hcv]
theorem Mq.run_at_yes (h : Mq w M k g) {s : ByteArray} (hs : s.size ≤ maxLen) {n : Int} (hg : g s = some n) : (Instr.lookup 194 (.map (some M)) (.string s) false).run Tryz.prog w = .ok (.int .i64 n) w := by
  rw [h.run_at hs, hg]; rfl
/-- m[k] = v -/
theorem Mq.run_put (h : Mq w M k g) {s : ByteArray} (hs : s.size ≤ maxLen) {n : Int} (hn : I64 n) (hk : k < maxLen) :
    ∃ w', (Instr.mapUpdate 194 (.map (some M)) (.string s) (.int .i64 n)).run Tryz.prog w = .ok () w' ∧ Mq w' M (k + 1) (fun s' => if s' = s then some n else g s') ∧ Only [M] w w' := by
  obtain ⟨D, hown, hg⟩ := h
  have hwf : (Lit.int .i64 n).wf = true := WalkArith.wf_i64 hn
  obtain ⟨w', hrun, r1, r2⟩ := hown.store Tryz.lawStr Tryz.underlying194 hk (Go.WideMaps.keyOf_string_mk Tryz.underlying9 hs) (plainElem_int Tryz.underlying2 hwf)
  have hmap := hown.isMap
  refine ⟨w', hrun, ⟨_, r1, fun s' hs' => ?_⟩, ?_⟩
  · by_cases he : s' = s
    · subst he
      have hkl : WideAt.IsKeyLit (Lit.string s'.data.toList) := trivial
      exact ⟨by rw [Go.Maps.has_put_same hmap hkl]; simp, fun m' hm' => by
        rw [Go.Maps.atKey_put_same hmap hkl]; simp at hm'; rw [hm']⟩
    · have hne : (Lit.string s'.data.toList) ≠ .string s.data.toList := by
        intro e; injection e with e
        apply he
        have : s'.data = s.data := Array.toList_inj.1 e
        cases s'; cases s; simp at this; rw [this]
      obtain ⟨h1, h2⟩ := hg s' hs'
      exact ⟨by rw [Go.Maps.has_put_other hne, h1]; simp [he], fun m' hm' => by
        rw [Go.Maps.atKey_put_other hne]; simp [he] at hm'; exact h2 m' hm'⟩
  · exact (Only.refl _ _).grown r2.grown (by intro j hj _; injection hj with hj; subst hj; simp)
end
theorem Mq.mono {w : World} {M k k' : Nat} {g : ByteArray → Option Int} (h : Mq w M k g) (hk : k ≤ k') : Mq w M k' g := by
  obtain ⟨D, h1, h2⟩ := h
  exact ⟨D, h1.mono hk, h2⟩
/-- a map as a value in memory: its entries -/
structure KM where
  g : ByteArray → Option Int
instance : Rp KM where
  size := 1
  rep w cs x fp := ∃ M k, cs = [.map (some M)] ∧ fp = [M] ∧ Mq w M k x.g
  len h := by obtain ⟨_, _, rfl, _⟩ := h; rfl
  frame h hf := by
    obtain ⟨M, k, h1, h2, h3⟩ := h
    subst h2
    exact ⟨M, k, h1, rfl, h3.frame (hf M (by simp))⟩
  lt h := by
    obtain ⟨M, k, h1, h2, h3⟩ := h
    subst h2
    intro b hb
    simp at hb; subst hb; exact h3.lt
end Go.Proofs.YtlcoejncdbkhcaaGreat

namespace Go.Proofs.YtlcoejncdbkhcaaGreat
open Go.RowKit
set_option maxRecDepth 10000

/-- where the first pattern with this key lies -/
def firstG (l : List (List Int)) (s : ByteArray) : Option Int := (l.findIdx? fun p => kB p = s).map fun i : Nat => (i : Int)
theorem firstG_snoc (l : List (List Int)) (p : List Int) (s : ByteArray) : firstG (l ++ [p]) s = match firstG l s with | some i => some i | none => if s = kB p then some (l.length : Int) else none := by
  unfold firstG
  rw [List.findIdx?_append]
  cases h : l.findIdx? (fun p => decide (kB p = s)) with
  | some i => simp
  | none =>
    by_cases hp : kB p = s
    · simp [hp]
    · have : ¬ s = kB p := fun e => hp e.symm
      simp [hp, this]
def Byt (l : List Int) : Prop := ∀ x ∈ l, 0 ≤ x ∧ x < 256
theorem firstG_idx {l : List (List Int)} (h : ∀ p ∈ l, Byt p) {q : List Int} (hq : Byt q) : firstG l (kB q) = if 0 ≤ idxL l q then some (idxL l q) else none := by
  have hfun : l.findIdx? (fun p => decide (kB p = kB q)) = l.findIdx? (fun p => decide (p = q)) := by
    induction l with
    | nil => rfl
    | cons p l ih =>
      rw [List.findIdx?_cons, List.findIdx?_cons, ih (fun r hr => h r (by simp [hr]))]
      have : decide (kB p = kB q) = decide (p = q) := by
        rw [decide_eq_decide]; exact kB_eq (h p (by simp)) hq
      rw [this]
  unfold firstG idxL idxF
  rw [hfun]
  cases l.findIdx? (fun p => decide (p = q)) with
  | some i => simp
  | none => simp
theorem patB_byt {n : Int} {k : Nat} {l : List Int} (h : patB n k l = true) (hn : n ≤ 256) : Byt l := fun x hx => by
  have := (patB_iff.1 h).2.1 x hx; omega
end Go.Proofs.YtlcoejncdbkhcaaGreat
