/- The reference's tables: what can be checked, where a letter leads. -/
import Derived.Test.YtmilmbgnkpkmnaaFault
import Derived.Deep.RegionHeld3
namespace Go.Proofs.Ytmilmbgnkpkmnaa
open Go.RowKit
set_option maxRecDepth 10000

set_option maxHeartbeats 1000000 in
theorem specIsTrackedSet_any (cs : List Value) (x : Puzzle) (fp : List Nat) (v : Value) (l : List Int) (f2 : List Nat) (w : World) (h : Rp.rep w cs x fp) (h2 : Rd w v l f2) :
    Calls Try.prog 85 #[.agg cs.toArray, v] w fun e w' => e = .returned (.bool (validPz x && trackB x.points l)) ∧ Only [] w w' := by
  have h0 := h
  obtain ⟨v2, rfl, p0, p1, hm⟩ := h
  rcases hq : validPz x
  · go_enter Try.func85, Try.ntmps85
    go_wp2_with ((go_at_call 49; (with_reducible refine (specIsValidPuzzle_any [.int .i64 x.points, .string x.names, v2] x _ _ (Rp.keep h0 (by with_reducible repeat (first | exact Only.refl _ _ | assumption | refine Only.drewN ?_ _ | refine Only.drew ?_ | refine Only.alloc ?_ _ | refine Only.setCell ?_ (by intro hh; exfalso; simp at hh; try omega) _ | refine Only.trans ?_ (by assumption))))).mono ?_); rintro e w1 ⟨he, t1⟩; rw [hq] at he; subst he))
    go_ret
    exact ⟨rfl, (by with_reducible repeat (first | exact Only.refl _ _ | assumption | refine Only.drewN ?_ _ | refine Only.drew ?_ | refine Only.alloc ?_ _ | refine Only.setCell ?_ (by intro hh; exfalso; simp at hh; try omega) _ | refine Only.trans ?_ (by assumption)))⟩
  obtain ⟨g1, g2, g3, g4⟩ := validPz_facts hq
  have hB := Blk.new_at (w := w) (cs := [.int .i64 x.points, .string x.names, v2]) (t := 26) rfl
  go_enter Try.func85, Try.ntmps85
  go_wp2_with (first | (go_at_call 49; (with_reducible refine (specIsValidPuzzle_any [.int .i64 x.points, .string x.names, v2] x _ _ (Rp.keep h0 (by with_reducible repeat (first | exact Only.refl _ _ | assumption | refine Only.drewN ?_ _ | refine Only.drew ?_ | refine Only.alloc ?_ _ | refine Only.setCell ?_ (by intro hh; exfalso; simp at hh; try omega) _ | refine Only.trans ?_ (by assumption))))).mono ?_); rintro e w1 ⟨he, t1⟩; rw [hq] at he; subst he; have y0 := (hB.keep t1).cell 0 rfl) | (go_at_call 109; (with_reducible refine (isPointList_rd x.points v l _ _ (Rp.keep h2 (by with_reducible repeat (first | exact Only.refl _ _ | assumption | refine Only.drewN ?_ _ | refine Only.drew ?_ | refine Only.alloc ?_ _ | refine Only.setCell ?_ (by intro hh; exfalso; simp at hh; try omega) _ | refine Only.trans ?_ (by assumption)))) (by omega) (by omega)).mono ?_); rintro e w2 ⟨rfl, m2, rfl⟩))
  go_ret
  exact ⟨rfl, (by with_reducible repeat (first | exact Only.refl _ _ | assumption | refine Only.drewN ?_ _ | refine Only.drew ?_ | refine Only.alloc ?_ _ | refine Only.setCell ?_ (by intro hh; exfalso; simp at hh; try omega) _ | refine Only.trans ?_ (by assumption)))⟩
set_option maxHeartbeats 1000000 in
theorem specIsPattern_any (cs : List Value) (x : Puzzle) (fp : List Nat) (v u : Value) (l p : List Int) (f2 f3 : List Nat) (w : World) (h : Rp.rep w cs x fp) (h2 : Rd w v l f2) (h3 : Rd w u p f3) :
    Calls Try.prog 86 #[.agg cs.toArray, v, u] w fun e w' => e = .returned (.bool ((validPz x && trackB x.points l) && patB x.points l.length p)) ∧ Only [] w w' := by
  have h0 := h
  have h20 := h2
  obtain ⟨v2, rfl, p0, p1, hm⟩ := h
  obtain ⟨A2, C2, rfl, I2⟩ := h2.ints
  have hb2 := I2.bound
  rcases hq : validPz x && trackB x.points l
  · go_enter Try.func86, Try.ntmps86
    go_wp2_with ((go_at_call 85; (with_reducible refine (specIsTrackedSet_any [.int .i64 x.points, .string x.names, v2] x _ _ l _ _ (Rp.keep h0 (by with_reducible repeat (first | exact Only.refl _ _ | assumption | refine Only.drewN ?_ _ | refine Only.drew ?_ | refine Only.alloc ?_ _ | refine Only.setCell ?_ (by intro hh; exfalso; simp at hh; try omega) _ | refine Only.trans ?_ (by assumption)))) (Rp.keep h20 (by with_reducible repeat (first | exact Only.refl _ _ | assumption | refine Only.drewN ?_ _ | refine Only.drew ?_ | refine Only.alloc ?_ _ | refine Only.setCell ?_ (by intro hh; exfalso; simp at hh; try omega) _ | refine Only.trans ?_ (by assumption))))).mono ?_); rintro e w1 ⟨he, t1⟩; rw [hq] at he; subst he))
    go_ret
    exact ⟨rfl, (by with_reducible repeat (first | exact Only.refl _ _ | assumption | refine Only.drewN ?_ _ | refine Only.drew ?_ | refine Only.alloc ?_ _ | refine Only.setCell ?_ (by intro hh; exfalso; simp at hh; try omega) _ | refine Only.trans ?_ (by assumption)))⟩
  obtain ⟨g1, g2, g3, g4⟩ := validPz_facts (Bool.and_eq_true_iff.1 hq).1
  have hB := Blk.new_at (w := w) (cs := [.int .i64 x.points, .string x.names, v2]) (t := 26) rfl
  go_enter Try.func86, Try.ntmps86
  go_wp2_with (first | (go_at_call 85; (with_reducible refine (specIsTrackedSet_any [.int .i64 x.points, .string x.names, v2] x _ _ l _ _ (Rp.keep h0 (by with_reducible repeat (first | exact Only.refl _ _ | assumption | refine Only.drewN ?_ _ | refine Only.drew ?_ | refine Only.alloc ?_ _ | refine Only.setCell ?_ (by intro hh; exfalso; simp at hh; try omega) _ | refine Only.trans ?_ (by assumption)))) (Rp.keep h20 (by with_reducible repeat (first | exact Only.refl _ _ | assumption | refine Only.drewN ?_ _ | refine Only.drew ?_ | refine Only.alloc ?_ _ | refine Only.setCell ?_ (by intro hh; exfalso; simp at hh; try omega) _ | refine Only.trans ?_ (by assumption))))).mono ?_); rintro e w1 ⟨he, t1⟩; rw [hq] at he; subst he; have y0 := (hB.keep t1).cell 0 rfl) | (go_at_call 110; (with_reducible refine (isDistinctList_rd x.points u p l.length _ _ (Rp.keep h3 (by with_reducible repeat (first | exact Only.refl _ _ | assumption | refine Only.drewN ?_ _ | refine Only.drew ?_ | refine Only.alloc ?_ _ | refine Only.setCell ?_ (by intro hh; exfalso; simp at hh; try omega) _ | refine Only.trans ?_ (by assumption)))) (by omega) (by omega) hb2).mono ?_); rintro e w2 ⟨rfl, m2, rfl⟩))
  go_ret
  exact ⟨rfl, (by with_reducible repeat (first | exact Only.refl _ _ | assumption | refine Only.drewN ?_ _ | refine Only.drew ?_ | refine Only.alloc ?_ _ | refine Only.setCell ?_ (by intro hh; exfalso; simp at hh; try omega) _ | refine Only.trans ?_ (by assumption)))⟩
set_option maxHeartbeats 2000000 in
theorem l30Checkable_any (cs ds : List Value) (x : Puzzle) (t : Table) (fp f2 : List Nat) (w : World) (h : Rp.rep w cs x fp) (h2 : Rp.rep w ds t f2) :
    Calls Try.prog 58 #[.agg cs.toArray, .agg ds.toArray] w fun e w' => e = .returned (.bool (checkT x t)) ∧ Only [] w w' := by
  have h0 := h
  have h20 := h2
  obtain ⟨v2, rfl, p0, p1, hm⟩ := h
  obtain ⟨u0, u1, u2, q0, q1, q2, rfl, rfl, r0, r1, r2⟩ := h2
  obtain ⟨A0, C0, rfl, I0⟩ := r0.ints
  obtain ⟨A1, C1, ob, fps, rfl, -, hs⟩ := r1.open_
  obtain ⟨A2, C2, rfl, I2⟩ := r2.ints
  have b0 := I0.bound
  have b1 := hs.bound
  have hB2 := Blk.new_at (w := w.alloc (.cells #[.int .i64 x.points, .string x.names, v2] 26)) (g := w.heap.size + 1) (cs := [.slice A0 t.tracked.length C0, .slice A1 t.patterns.length C1, .slice A2 t.distances.length C2]) (t := 42) (by simp)
  have hB1 := Blk.keep (Blk.new_at (w := w) (cs := [.int .i64 x.points, .string x.names, v2]) (t := 26) rfl) ((Only.refl [] _).alloc (.cells #[.slice A0 t.tracked.length C0, .slice A1 t.patterns.length C1, .slice A2 t.distances.length C2] 42))
  rcases hv : validPz x
  · have hf : checkT x t = false := by unfold checkT; rw [hv]; rfl
    have Hf := Lib.hid hf; clear hf
    go_enter Try.func58, Try.ntmps58
    go_wp2_with ((go_at_call 49; (with_reducible refine (specIsValidPuzzle_any [.int .i64 x.points, .string x.names, v2] x _ _ (Rp.keep h0 (by with_reducible repeat (first | exact Only.refl _ _ | assumption | refine Only.drewN ?_ _ | refine Only.drew ?_ | refine Only.alloc ?_ _ | refine Only.setCell ?_ (by intro hh; exfalso; simp at hh; try omega) _ | refine Only.trans ?_ (by assumption))))).mono ?_); rintro e w1 ⟨he, t1⟩; rw [hv] at he; subst he))
    go_ret
    exact ⟨ret_bool Hf.out.symm, (by with_reducible repeat (first | exact Only.refl _ _ | assumption | refine Only.drewN ?_ _ | refine Only.drew ?_ | refine Only.alloc ?_ _ | refine Only.setCell ?_ (by intro hh; exfalso; simp at hh; try omega) _ | refine Only.trans ?_ (by assumption)))⟩
  rcases hw : wfT t
  · have hf : checkT x t = false := by unfold checkT; rw [hw]; simp
    have Hf := Lib.hid hf; clear hf
    go_enter Try.func58, Try.ntmps58
    go_wp2_with (first | (go_at_call 49; (with_reducible refine (specIsValidPuzzle_any [.int .i64 x.points, .string x.names, v2] x _ _ (Rp.keep h0 (by with_reducible repeat (first | exact Only.refl _ _ | assumption | refine Only.drewN ?_ _ | refine Only.drew ?_ | refine Only.alloc ?_ _ | refine Only.setCell ?_ (by intro hh; exfalso; simp at hh; try omega) _ | refine Only.trans ?_ (by assumption))))).mono ?_); rintro e w1 ⟨he, t1⟩; rw [hv] at he; subst he; have y0 := (hB1.keep t1).cell 0 rfl; have y1 := (hB1.keep t1).cell 1 rfl; have y2 := (hB1.keep t1).cell 2 rfl; have z0 := (hB2.keep t1).cell 0 rfl; have z1 := (hB2.keep t1).cell 1 rfl; have z2 := (hB2.keep t1).cell 2 rfl) | (go_at_call 84; (with_reducible refine (specWfTable_any [.slice A0 t.tracked.length C0, .slice A1 t.patterns.length C1, .slice A2 t.distances.length C2] t _ _ (Rp.keep h20 (by with_reducible repeat (first | exact Only.refl _ _ | assumption | refine Only.drewN ?_ _ | refine Only.drew ?_ | refine Only.alloc ?_ _ | refine Only.setCell ?_ (by intro hh; exfalso; simp at hh; try omega) _ | refine Only.trans ?_ (by assumption))))).mono ?_); rintro e w2 ⟨he, t2⟩; rw [hw] at he; subst he))
    go_ret
    exact ⟨ret_bool Hf.out.symm, (by with_reducible repeat (first | exact Only.refl _ _ | assumption | refine Only.drewN ?_ _ | refine Only.drew ?_ | refine Only.alloc ?_ _ | refine Only.setCell ?_ (by intro hh; exfalso; simp at hh; try omega) _ | refine Only.trans ?_ (by assumption)))⟩
  rcases ht : trackB x.points t.tracked
  · have hf : checkT x t = false := by unfold checkT; rw [ht]; simp
    have Hf := Lib.hid hf; clear hf
    go_enter Try.func58, Try.ntmps58
    go_wp2_with (first | (go_at_call 49; (with_reducible refine (specIsValidPuzzle_any [.int .i64 x.points, .string x.names, v2] x _ _ (Rp.keep h0 (by with_reducible repeat (first | exact Only.refl _ _ | assumption | refine Only.drewN ?_ _ | refine Only.drew ?_ | refine Only.alloc ?_ _ | refine Only.setCell ?_ (by intro hh; exfalso; simp at hh; try omega) _ | refine Only.trans ?_ (by assumption))))).mono ?_); rintro e w1 ⟨he, t1⟩; rw [hv] at he; subst he; have c1 := hB1.keep t1; have c2 := hB2.keep t1; have y0 := c1.cell 0 rfl; have y1 := c1.cell 1 rfl; have y2 := c1.cell 2 rfl; have z0 := c2.cell 0 rfl; have z1 := c2.cell 1 rfl; have z2 := c2.cell 2 rfl) | (go_at_call 84; (with_reducible refine (specWfTable_any [.slice A0 t.tracked.length C0, .slice A1 t.patterns.length C1, .slice A2 t.distances.length C2] t _ _ (Rp.keep h20 (by with_reducible repeat (first | exact Only.refl _ _ | assumption | refine Only.drewN ?_ _ | refine Only.drew ?_ | refine Only.alloc ?_ _ | refine Only.setCell ?_ (by intro hh; exfalso; simp at hh; try omega) _ | refine Only.trans ?_ (by assumption))))).mono ?_); rintro e w2 ⟨he, t2⟩; rw [hw] at he; subst he; have k0 := (c1.keep t2).cell 0 rfl; have k1 := (c1.keep t2).cell 1 rfl; have k2 := (c1.keep t2).cell 2 rfl; have l0 := (c2.keep t2).cell 0 rfl) | (go_at_call 85; (with_reducible refine (specIsTrackedSet_any [.int .i64 x.points, .string x.names, v2] x _ _ t.tracked _ _ (Rp.keep h0 (by with_reducible repeat (first | exact Only.refl _ _ | assumption | refine Only.drewN ?_ _ | refine Only.drew ?_ | refine Only.alloc ?_ _ | refine Only.setCell ?_ (by intro hh; exfalso; simp at hh; try omega) _ | refine Only.trans ?_ (by assumption)))) (Rp.keep r0 (by with_reducible repeat (first | exact Only.refl _ _ | assumption | refine Only.drewN ?_ _ | refine Only.drew ?_ | refine Only.alloc ?_ _ | refine Only.setCell ?_ (by intro hh; exfalso; simp at hh; try omega) _ | refine Only.trans ?_ (by assumption))))).mono ?_); rintro e w3 ⟨he, t3⟩; rw [hv, ht] at he; subst he))
    go_ret
    exact ⟨ret_bool Hf.out.symm, (by with_reducible repeat (first | exact Only.refl _ _ | assumption | refine Only.drewN ?_ _ | refine Only.drew ?_ | refine Only.alloc ?_ _ | refine Only.setCell ?_ (by intro hh; exfalso; simp at hh; try omega) _ | refine Only.trans ?_ (by assumption)))⟩
  have hf : checkT x t = t.patterns.all (patB x.points t.tracked.length) := by unfold checkT; rw [hv, hw, ht]; rfl
  have Hf := Lib.hid hf; clear hf
  go_enter Try.func58, Try.ntmps58
  go_wp2_with (first | (go_at_call 49; (with_reducible refine (specIsValidPuzzle_any [.int .i64 x.points, .string x.names, v2] x _ _ (Rp.keep h0 (by with_reducible repeat (first | exact Only.refl _ _ | assumption | refine Only.drewN ?_ _ | refine Only.drew ?_ | refine Only.alloc ?_ _ | refine Only.setCell ?_ (by intro hh; exfalso; simp at hh; try omega) _ | refine Only.trans ?_ (by assumption))))).mono ?_); rintro e w1 ⟨he, t1⟩; rw [hv] at he; subst he; have c1 := hB1.keep t1; have c2 := hB2.keep t1; have y0 := c1.cell 0 rfl; have y1 := c1.cell 1 rfl; have y2 := c1.cell 2 rfl; have z0 := c2.cell 0 rfl; have z1 := c2.cell 1 rfl; have z2 := c2.cell 2 rfl) | (go_at_call 84; (with_reducible refine (specWfTable_any [.slice A0 t.tracked.length C0, .slice A1 t.patterns.length C1, .slice A2 t.distances.length C2] t _ _ (Rp.keep h20 (by with_reducible repeat (first | exact Only.refl _ _ | assumption | refine Only.drewN ?_ _ | refine Only.drew ?_ | refine Only.alloc ?_ _ | refine Only.setCell ?_ (by intro hh; exfalso; simp at hh; try omega) _ | refine Only.trans ?_ (by assumption))))).mono ?_); rintro e w2 ⟨he, t2⟩; rw [hw] at he; subst he; have k0 := (c1.keep t2).cell 0 rfl; have k1 := (c1.keep t2).cell 1 rfl; have k2 := (c1.keep t2).cell 2 rfl; have l0 := (c2.keep t2).cell 0 rfl) | (go_at_call 85; (with_reducible refine (specIsTrackedSet_any [.int .i64 x.points, .string x.names, v2] x _ _ t.tracked _ _ (Rp.keep h0 (by with_reducible repeat (first | exact Only.refl _ _ | assumption | refine Only.drewN ?_ _ | refine Only.drew ?_ | refine Only.alloc ?_ _ | refine Only.setCell ?_ (by intro hh; exfalso; simp at hh; try omega) _ | refine Only.trans ?_ (by assumption)))) (Rp.keep r0 (by with_reducible repeat (first | exact Only.refl _ _ | assumption | refine Only.drewN ?_ _ | refine Only.drew ?_ | refine Only.alloc ?_ _ | refine Only.setCell ?_ (by intro hh; exfalso; simp at hh; try omega) _ | refine Only.trans ?_ (by assumption))))).mono ?_); rintro e w3 ⟨he, t3⟩; rw [hv, ht] at he; subst he))
  have hK3 : Only [] w w3 := (by with_reducible repeat (first | exact Only.refl _ _ | assumption | refine Only.drewN ?_ _ | refine Only.drew ?_ | refine Only.alloc ?_ _ | refine Only.setCell ?_ (by intro hh; exfalso; simp at hh; try omega) _ | refine Only.trans ?_ (by assumption)))
  have c1' := (c1.keep t2).keep t3
  have c2' := (c2.keep t2).keep t3
  clear y0 y1 y2 z0 z1 z2 k0 k1 k2 l0 c1 c2 hB1 hB2
  go_loopw [5] (fun i wr => ∃ j : Nat, j ≤ t.patterns.length ∧ i = .int .i64 j ∧ (∀ p ∈ t.patterns.take j, patB x.points t.tracked.length p = true) ∧ Only [] w3 wr)
    (fun i _ => t.patterns.length - (intOf i).toNat)
  case atStart => exact ⟨0, Nat.zero_le _, rfl, by simp, Only.refl _ _⟩
  case round =>
    obtain ⟨j, hj, rfl, hr, hK⟩ := hrel
    have Hr := Lib.hid hr; clear hr
    have y0 := (c1'.keep hK).cell 0 rfl
    have y1 := (c1'.keep hK).cell 1 rfl
    have y2 := (c1'.keep hK).cell 2 rfl
    have z0 := (c2'.keep hK).cell 0 rfl
    have z1 := (c2'.keep hK).cell 1 rfl
    have hKw : Only [] w wr := (by with_reducible repeat (first | exact Only.refl _ _ | assumption | refine Only.drewN ?_ _ | refine Only.drew ?_ | refine Only.alloc ?_ _ | refine Only.setCell ?_ (by intro hh; exfalso; simp at hh; try omega) _ | refine Only.trans ?_ (by assumption)))
    by_cases hlt : j < t.patterns.length
    · obtain ⟨b, off, u, rfl, -, hc0, hu0⟩ := hs.atRow j hlt
      have hc := hKw.cell (by simp) hc0
      have hu := Rp.keep hu0 hKw
      clear hc0 hu0
      rcases c3 : patB x.points t.tracked.length t.patterns[j]
      all_goals go_wp2
      all_goals go_region_held3 (fun w' => Only [] wr w' ∧ w'.cell? ⟨w.heap.size, 0, none⟩ = some (.int .i64 x.points) ∧ w'.cell? ⟨w.heap.size, 1, none⟩ = some (.string x.names) ∧ w'.cell? ⟨w.heap.size, 2, none⟩ = some (v2) ∧ w'.cell? ⟨w.heap.size + 1, 0, none⟩ = some (.slice A0 t.tracked.length C0) ∧ w'.cell? ⟨w.heap.size + 1, 1, none⟩ = some (.slice (some ⟨b, off, none⟩) t.patterns.length C1) ∧ w'.cell? ⟨b, off + j, none⟩ = some (u)) (((refine and_of ?_ (fun h__ => ⟨h__.cell (by simp) y0, h__.cell (by simp) y1, h__.cell (by simp) y2, h__.cell (by simp) z0, h__.cell (by simp) z1, h__.cell (by simp) hc⟩)); first | exact (Only.refl _ _).drew | exact Only.trans (And.left (by assumption)) (by assumption))) (first | (go_at_call 86; (with_reducible refine (specIsPattern_any [.int .i64 x.points, .string x.names, v2] x _ _ _ t.tracked t.patterns[j] _ _ _ (Rp.keep h0 (hKw.trans (And.left (by assumption)))) (Rp.keep r0 (hKw.trans (And.left (by assumption)))) (Rp.keep hu (And.left (by assumption)))).mono ?_); rintro e w4 ⟨he, t4⟩; rw [hv, ht, c3] at he; subst he) | fail "no arm")
      all_goals go_wp2
      · go_ret
        exact ⟨ret_bool (by rw [Hf.out, eq_comm, List.all_eq_false]; exact ⟨t.patterns[j], List.getElem_mem _, by simp [c3]⟩), (by with_reducible repeat (first | exact Only.refl _ _ | assumption | refine Only.drewN ?_ _ | refine Only.drew ?_ | refine Only.alloc ?_ _ | refine Only.setCell ?_ (by intro hh; exfalso; simp at hh; try omega) _ | refine Only.trans ?_ (by assumption)))⟩
      · go_roundw
        case rel => exact ⟨j + 1, by omega, by go_num, mem_take_stepR hlt Hr.out c3, (by with_reducible repeat (first | exact Only.refl _ _ | assumption | refine Only.drewN ?_ _ | refine Only.drew ?_ | refine Only.alloc ?_ _ | refine Only.setCell ?_ (by intro hh; exfalso; simp at hh; try omega) _ | refine Only.trans ?_ (by assumption)))⟩
        case measure => simp [intOf]; omega
    · go_wp2
      go_ret
      exact ⟨ret_bool (by rw [Hf.out, eq_comm, List.all_eq_true]; have := Hr.out; rwa [List.take_of_length_le (by omega)] at this), (by with_reducible repeat (first | exact Only.refl _ _ | assumption | refine Only.drewN ?_ _ | refine Only.drew ?_ | refine Only.alloc ?_ _ | refine Only.setCell ?_ (by intro hh; exfalso; simp at hh; try omega) _ | refine Only.trans ?_ (by assumption)))⟩
end Go.Proofs.Ytmilmbgnkpkmnaa
