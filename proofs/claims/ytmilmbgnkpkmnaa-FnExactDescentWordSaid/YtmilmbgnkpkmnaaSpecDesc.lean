/- The reference's DescentLetter. (Written by mkdesc.py.) -/
import Derived.Test.YtmilmbgnkpkmnaaSpecTab3
import Derived.Test.YtmilmbgnkpkmnaaDescMath
namespace Go.Proofs.Ytmilmbgnkpkmnaa
open Go.RowKit
set_option maxRecDepth 10000

set_option maxHeartbeats 4000000 in
theorem specDescentLetter_any (cs ds : List Value) (x : Puzzle) (t : Table) (u : Value) (p : List Int) (f1 f2 f3 : List Nat) (w : World) (h : Rp.rep w cs x f1) (h2 : Rp.rep w ds t f2) (h3 : Rd w u p f3) :
    Calls Try.prog 20 #[.agg cs.toArray, .agg ds.toArray, u] w fun e w' => e = .returned (.int .i64 (dLet x t p)) ∧ Only [] w w' := by
  have h0 := h
  have h20 := h2
  obtain ⟨v2, rfl, p0, p1, hm⟩ := h
  obtain ⟨u0, u1, u2, q0, q1, q2, rfl, rfl, r0, r1, r2⟩ := h2
  obtain ⟨A0, C0, rfl, I0⟩ := r0.ints
  obtain ⟨A1, C1, ob, fps, rfl, -, hs⟩ := r1.open_
  obtain ⟨A2, C2, rfl, I2⟩ := r2.ints
  have b1 := hs.bound
  have hB2 := Blk.new_at (w := w.alloc (.cells [.int .i64 x.points, .string x.names, v2].toArray 26)) (g := w.heap.size + 1) (cs := [.slice A0 t.tracked.length C0, .slice A1 t.patterns.length C1, .slice A2 t.distances.length C2]) (t := 42) (by simp)
  have hB1 := Blk.keep (Blk.new_at (w := w) (cs := [.int .i64 x.points, .string x.names, v2]) (t := 26) rfl) ((Only.refl [] _).alloc (.cells [.slice A0 t.tracked.length C0, .slice A1 t.patterns.length C1, .slice A2 t.distances.length C2].toArray 42))
  rcases hc : checkT x t
  · have hf := dLet_no (x := x) (t := t) (p := p) (by rw [hc]; simp)
    have Hf := Lib.hid hf; clear hf
    go_enter Try.func20, Try.ntmps20
    go_wp2_with ((go_at_call 58; (with_reducible refine (l30Checkable_any [.int .i64 x.points, .string x.names, v2] [.slice A0 t.tracked.length C0, .slice A1 t.patterns.length C1, .slice A2 t.distances.length C2] x t _ _ _ (Rp.keep h0 (by with_reducible repeat (first | exact Only.refl _ _ | assumption | refine Only.drewN ?_ _ | refine Only.drew ?_ | refine Only.alloc ?_ _ | refine Only.setCell ?_ (by intro hh; exfalso; simp at hh; try omega) _ | refine Only.trans ?_ (by assumption)))) (Rp.keep h20 (by with_reducible repeat (first | exact Only.refl _ _ | assumption | refine Only.drewN ?_ _ | refine Only.drew ?_ | refine Only.alloc ?_ _ | refine Only.setCell ?_ (by intro hh; exfalso; simp at hh; try omega) _ | refine Only.trans ?_ (by assumption))))).mono ?_); rintro e w1 ⟨he, t1⟩; rw [hc] at he; subst he))
    go_ret
    exact ⟨ret_int Hf.out.symm, (by with_reducible repeat (first | exact Only.refl _ _ | assumption | refine Only.drewN ?_ _ | refine Only.drew ?_ | refine Only.alloc ?_ _ | refine Only.setCell ?_ (by intro hh; exfalso; simp at hh; try omega) _ | refine Only.trans ?_ (by assumption)))⟩
  obtain ⟨n, hn⟩ : ∃ n, n = idxL t.patterns p := ⟨_, rfl⟩
  by_cases hneg : n < 0
  · have hf := dLet_no (x := x) (t := t) (p := p) (by rw [← hn]; omega)
    have Hf := Lib.hid hf; clear hf
    have HN := Lib.hid hn; clear hn
    go_enter Try.func20, Try.ntmps20
    go_wp2_with (first | (go_at_call 58; (with_reducible refine (l30Checkable_any [.int .i64 x.points, .string x.names, v2] [.slice A0 t.tracked.length C0, .slice A1 t.patterns.length C1, .slice A2 t.distances.length C2] x t _ _ _ (Rp.keep h0 (by with_reducible repeat (first | exact Only.refl _ _ | assumption | refine Only.drewN ?_ _ | refine Only.drew ?_ | refine Only.alloc ?_ _ | refine Only.setCell ?_ (by intro hh; exfalso; simp at hh; try omega) _ | refine Only.trans ?_ (by assumption)))) (Rp.keep h20 (by with_reducible repeat (first | exact Only.refl _ _ | assumption | refine Only.drewN ?_ _ | refine Only.drew ?_ | refine Only.alloc ?_ _ | refine Only.setCell ?_ (by intro hh; exfalso; simp at hh; try omega) _ | refine Only.trans ?_ (by assumption))))).mono ?_); rintro e w1 ⟨he, t1⟩; rw [hc] at he; subst he; have z1 := (hB2.keep t1).cell 1 rfl) | (go_at_call 59; (with_reducible refine (indexOfList_rd _ u t.patterns p _ _ _ (Rp.keep r1 (by with_reducible repeat (first | exact Only.refl _ _ | assumption | refine Only.drewN ?_ _ | refine Only.drew ?_ | refine Only.alloc ?_ _ | refine Only.setCell ?_ (by intro hh; exfalso; simp at hh; try omega) _ | refine Only.trans ?_ (by assumption)))) (Rp.keep h3 (by with_reducible repeat (first | exact Only.refl _ _ | assumption | refine Only.drewN ?_ _ | refine Only.drew ?_ | refine Only.alloc ?_ _ | refine Only.setCell ?_ (by intro hh; exfalso; simp at hh; try omega) _ | refine Only.trans ?_ (by assumption))))).mono ?_); rintro e w2 ⟨he, m2, rfl⟩; rw [← HN.out] at he; subst he))
    go_ret
    exact ⟨ret_int Hf.out.symm, (by with_reducible repeat (first | exact Only.refl _ _ | assumption | refine Only.drewN ?_ _ | refine Only.drew ?_ | refine Only.alloc ?_ _ | refine Only.setCell ?_ (by intro hh; exfalso; simp at hh; try omega) _ | refine Only.trans ?_ (by assumption)))⟩
  have hf := dLet_yes (p := p) hc (by omega)
  obtain ⟨hmem, hnl0⟩ := idxL_mem (l := t.patterns) (p := p) (by omega)
  rw [← hn] at hf hnl0
  have hpat := (checkT_iff.1 hc).2.2.2 p hmem
  have hwf := wfT_iff.1 (checkT_iff.1 hc).2.1
  have hnl : n.toNat < t.distances.length := by have := hwf.2.2.1; omega
  have hnl' : n < (t.distances.length : Int) := by omega
  have hn0 : 0 ≤ n := by omega
  obtain ⟨bd, od, rfl, -, hcD0⟩ := I2.at_ n.toNat hnl
  have hdr := hwf.2.2.2.2 _ (List.getElem_mem hnl)
  rw [inR_iff] at hdr
  have hat := atD_of (t := t) (j := n) (i := n.toNat) (by omega) hnl
  obtain ⟨d, hd⟩ : ∃ d, d = t.distances[n.toNat] := ⟨_, rfl⟩
  rw [← hd] at hcD0 hdr hat
  rw [hat] at hf
  have Hf := Lib.hid hf
  have HN := Lib.hid hn
  have hw1 : IntKind.i64.wrap (d - 1) = d - 1 := by rw [IntKind.wrap_i64]; omega
  clear hf hn hd hat hwf
  go_enter Try.func20, Try.ntmps20
  go_wp2_with (first | (go_at_call 58; (with_reducible refine (l30Checkable_any [.int .i64 x.points, .string x.names, v2] [.slice A0 t.tracked.length C0, .slice A1 t.patterns.length C1, .slice (some ⟨bd, od, none⟩) t.distances.length C2] x t _ _ _ (Rp.keep h0 (by with_reducible repeat (first | exact Only.refl _ _ | assumption | refine Only.drewN ?_ _ | refine Only.drew ?_ | refine Only.alloc ?_ _ | refine Only.setCell ?_ (by intro hh; exfalso; simp at hh; try omega) _ | refine Only.trans ?_ (by assumption)))) (Rp.keep h20 (by with_reducible repeat (first | exact Only.refl _ _ | assumption | refine Only.drewN ?_ _ | refine Only.drew ?_ | refine Only.alloc ?_ _ | refine Only.setCell ?_ (by intro hh; exfalso; simp at hh; try omega) _ | refine Only.trans ?_ (by assumption))))).mono ?_); rintro e w1 ⟨he, t1⟩; rw [hc] at he; subst he; have c1 := hB1.keep t1; have c2 := hB2.keep t1; have z1 := c2.cell 1 rfl; have hKw : Only [] w w1 := (by with_reducible repeat (first | exact Only.refl _ _ | assumption | refine Only.drewN ?_ _ | refine Only.drew ?_ | refine Only.alloc ?_ _ | refine Only.setCell ?_ (by intro hh; exfalso; simp at hh; try omega) _ | refine Only.trans ?_ (by assumption)))) | (go_at_call 59; (with_reducible refine (indexOfList_rd _ u t.patterns p _ _ _ (Rp.keep r1 (by with_reducible repeat (first | exact Only.refl _ _ | assumption | refine Only.drewN ?_ _ | refine Only.drew ?_ | refine Only.alloc ?_ _ | refine Only.setCell ?_ (by intro hh; exfalso; simp at hh; try omega) _ | refine Only.trans ?_ (by assumption)))) (Rp.keep h3 (by with_reducible repeat (first | exact Only.refl _ _ | assumption | refine Only.drewN ?_ _ | refine Only.drew ?_ | refine Only.alloc ?_ _ | refine Only.setCell ?_ (by intro hh; exfalso; simp at hh; try omega) _ | refine Only.trans ?_ (by assumption))))).mono ?_); rintro e w2 ⟨he, k2⟩; rw [← HN.out] at he; subst he; have hk2 := Drew.only k2 []; have y0 := (c1.keep hk2).cell 0 rfl; have y1 := (c1.keep hk2).cell 1 rfl; have y2 := (c1.keep hk2).cell 2 rfl; have z0 := (c2.keep hk2).cell 0 rfl; have z1 := (c2.keep hk2).cell 1 rfl; have z2 := (c2.keep hk2).cell 2 rfl; have hKw2 : Only [] w w2 := hKw.trans hk2; have hcD := hKw2.cell (by simp) hcD0))
  go_region_held3 (fun w' => Only [] w2 w' ∧ w'.cell? ⟨w.heap.size, 0, none⟩ = some (.int .i64 x.points) ∧ w'.cell? ⟨w.heap.size, 1, none⟩ = some (.string x.names) ∧ w'.cell? ⟨w.heap.size, 2, none⟩ = some (v2) ∧ w'.cell? ⟨w.heap.size + 1, 0, none⟩ = some (.slice A0 t.tracked.length C0) ∧ w'.cell? ⟨w.heap.size + 1, 1, none⟩ = some (.slice A1 t.patterns.length C1) ∧ w'.cell? ⟨w.heap.size + 1, 2, none⟩ = some (.slice (some ⟨bd, od, none⟩) t.distances.length C2) ∧ w'.cell? ⟨bd, od + n.toNat, none⟩ = some (.int .i64 d)) (((refine and_of ?_ (fun h__ => ⟨h__.cell (by simp) y0, h__.cell (by simp) y1, h__.cell (by simp) y2, h__.cell (by simp) z0, h__.cell (by simp) z1, h__.cell (by simp) z2, h__.cell (by simp) hcD⟩)); first | exact (Only.refl _ _).drew | exact ((Only.refl _ _).drewN _).drew | exact Only.trans (And.left (by assumption)) (by assumption) | exact Only.alloc (And.left (by assumption)) _ | assumption)) (first | (go_at_call 60; (try rw [hw1]); (with_reducible refine (l30Descent_any [.int .i64 x.points, .string x.names, v2] [.slice A0 t.tracked.length C0, .slice A1 t.patterns.length C1, .slice (some ⟨bd, od, none⟩) t.distances.length C2] x t _ p (d - 1) _ _ _ _ (Rp.keep h0 (hKw2.trans (And.left (by assumption)))) (Rp.keep h20 (hKw2.trans (And.left (by assumption)))) (Rp.keep h3 (hKw2.trans (And.left (by assumption)))) hc hpat).mono ?_); rintro e w4 ⟨rfl, t4⟩) | fail "no arm")
  go_wp2
  go_ret
  exact ⟨ret_int Hf.out.symm, (by with_reducible repeat (first | exact Only.refl _ _ | assumption | refine Only.drewN ?_ _ | refine Only.drew ?_ | refine Only.alloc ?_ _ | refine Only.setCell ?_ (by intro hh; exfalso; simp at hh; try omega) _ | refine Only.trans ?_ (by assumption)))⟩
end Go.Proofs.Ytmilmbgnkpkmnaa
