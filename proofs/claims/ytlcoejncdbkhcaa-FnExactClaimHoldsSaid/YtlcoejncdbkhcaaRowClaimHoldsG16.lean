/- ClaimHolds: the reference's and the program's (law 20). (Printed by mkclm.py.) laws.toClaim: a claim of the laws' own turned to the program's; sizes of claims. The law on ClaimHolds: its walk. (Printed by gen_exact.py.) -/
import Derived.Test.YtlcoejncdbkhcaaRowClaimHoldsG14
import Derived.Test.YtlcoejncdbkhcaaRowClaimHoldsG15
import Derived.Test.YtlcoejncdbkhcaaRowClaimHoldsG8
import Derived.Deep.RegionHeld3
import Derived.Deep.DeepCutAuto
namespace Go.Proofs.Ytlcoejncdbkhcaa
open Go.RowKit
set_option maxRecDepth 10000

noncomputable def clmB (x : Puzzle) (s : List Int) (c : Claim) : Bool := stateB x s && (if c.kind = 4 then decide (c.value = 0) && !reachB x s else if distX x s < 0 then false else if c.kind = 1 then decide (distX x s ≤ c.value) else if c.kind = 2 then decide (distX x s = c.value) else if c.kind = 3 then decide (c.value ≤ distX x s) else false)
section
variable {x : Puzzle} {s : List Int} {c : Claim}
theorem clm_state (h : stateB x s = false) : clmB x s c = false := by unfold clmB; rw [h]; rfl
theorem clm_un (h : stateB x s = true) (k : c.kind = 4) : clmB x s c = (decide (c.value = 0) && !reachB x s) := by unfold clmB; rw [h, if_pos k]; rfl
theorem clm_neg (h : stateB x s = true) (k : c.kind ≠ 4) (hd : distX x s = -1) : clmB x s c = false := by unfold clmB; rw [h, if_neg k, if_pos (by omega)]; rfl
theorem clm_pos (h : stateB x s = true) (k : c.kind ≠ 4) (hd : 0 ≤ distX x s) : clmB x s c = if c.kind = 1 then decide (distX x s ≤ c.value) else if c.kind = 2 then decide (distX x s = c.value) else if c.kind = 3 then decide (c.value ≤ distX x s) else false := by
  unfold clmB; rw [h, if_neg k, if_neg (by omega)]; rfl
end
set_option maxHeartbeats 8000000 in
theorem specClaim_any (cs ds : List Value) (x : Puzzle) (fp : List Nat) (v : Value) (s : List Int) (fs : List Nat) (c : Claim) (fc : List Nat) (w : World) (h : Rp.rep w cs x fp) (hu : Rd w v s fs) (hc : Rp.rep w ds c fc) :
    Calls Try.prog 5 #[.agg cs.toArray, v, .agg ds.toArray] w fun e w' => e = .returned (.bool (clmB x s c)) ∧ Only [] w w' := by
  have h0 := h
  obtain ⟨v2, rfl, p0, p1, h2⟩ := h
  obtain ⟨rfl, ik, iv, -⟩ := hc
  clear h2 p0 p1
  have X0 : Blk ((w.alloc (.cells #[.int .i64 x.points, .string x.names, v2] 30)).alloc (.cells #[.int .i64 c.kind, .int .i64 c.value] 33)) w.heap.size [.int .i64 x.points, .string x.names, v2] := (Blk.new w [.int .i64 x.points, .string x.names, v2] 30).keep ((Only.refl _ _).alloc _)
  have Y0 : Blk ((w.alloc (.cells #[.int .i64 x.points, .string x.names, v2] 30)).alloc (.cells #[.int .i64 c.kind, .int .i64 c.value] 33)) (w.heap.size + 1) [.int .i64 c.kind, .int .i64 c.value] := Blk.new_at (by simp)
  unfold I64 at ik iv
  obtain ⟨il, ih⟩ := ik
  obtain ⟨vl, vh⟩ := iv
  rcases hs : stateB x s
  · have Hn := Lib.hid (clm_state (c := c) hs)
    have Hs := Lib.hid hs
    clear hs
    go_enter Try.func5, Try.ntmps5
    go_wp2_with (first
      | (go_at_call 13; (with_reducible refine (specIsState_any [.int .i64 x.points, .string x.names, v2] x _ v s _ _ (Rp.keep h0 (by with_reducible repeat (first | exact Only.refl _ _ | assumption | refine Only.drewN ?_ _ | refine Only.drew ?_ | refine Only.alloc ?_ _ | refine Only.setCell ?_ (by intro hh; exfalso; simp at hh; try omega) _ | refine Only.trans ?_ (by assumption)))) (Rp.keep hu (by with_reducible repeat (first | exact Only.refl _ _ | assumption | refine Only.drewN ?_ _ | refine Only.drew ?_ | refine Only.alloc ?_ _ | refine Only.setCell ?_ (by intro hh; exfalso; simp at hh; try omega) _ | refine Only.trans ?_ (by assumption))))).mono ?_); rintro e w1 ⟨he, t1⟩; rw [Hs.out] at he; subst he)
      | fail "no arm")
    go_ret
    exact ⟨ret_bool Hn.out.symm, (by with_reducible repeat (first | exact Only.refl _ _ | assumption | refine Only.drewN ?_ _ | refine Only.drew ?_ | refine Only.alloc ?_ _ | refine Only.setCell ?_ (by intro hh; exfalso; simp at hh; try omega) _ | refine Only.trans ?_ (by assumption)))⟩
  have Hs := Lib.hid hs
  by_cases k4 : c.kind = 4
  · obtain ⟨r, hr⟩ : ∃ r, r = reachB x s := ⟨_, rfl⟩
    have Hr := Lib.hid hr
    have Hn := Lib.hid ((clm_un hs k4).trans (by rw [← hr]) : clmB x s c = (decide (c.value = 0) && !r))
    have b4 : (c.kind == 4) = true := by simp [k4]
    clear hs hr k4
    by_cases z : c.value = 0
    · have bz : (c.value == 0) = true := by simp [z]
      have dz : decide (c.value = 0) = true := decide_eq_true z
      have Hz := Lib.hid dz
      clear z dz
      cases r
      all_goals go_enter Try.func5, Try.ntmps5
      all_goals go_wp2_with (first
        | (go_at_call 13; (with_reducible refine (specIsState_any [.int .i64 x.points, .string x.names, v2] x _ v s _ _ (Rp.keep h0 (by with_reducible repeat (first | exact Only.refl _ _ | assumption | refine Only.drewN ?_ _ | refine Only.drew ?_ | refine Only.alloc ?_ _ | refine Only.setCell ?_ (by intro hh; exfalso; simp at hh; try omega) _ | refine Only.trans ?_ (by assumption)))) (Rp.keep hu (by with_reducible repeat (first | exact Only.refl _ _ | assumption | refine Only.drewN ?_ _ | refine Only.drew ?_ | refine Only.alloc ?_ _ | refine Only.setCell ?_ (by intro hh; exfalso; simp at hh; try omega) _ | refine Only.trans ?_ (by assumption))))).mono ?_); rintro e w1 ⟨he, t1⟩; rw [Hs.out] at he; subst he; have Y1 := Y0.keep t1; have X1 := X0.keep t1; have c0 := Y1.cell 0 rfl; have c1 := Y1.cell 1 rfl; have y0 := X1.cell 0 rfl; have y1 := X1.cell 1 rfl; have y2 := X1.cell 2 rfl)
        | (go_at_call 14; (with_reducible refine (specIsReachable_any [.int .i64 x.points, .string x.names, v2] x _ v s _ _ (Rp.keep h0 (by with_reducible repeat (first | exact Only.refl _ _ | assumption | refine Only.drewN ?_ _ | refine Only.drew ?_ | refine Only.alloc ?_ _ | refine Only.setCell ?_ (by intro hh; exfalso; simp at hh; try omega) _ | refine Only.trans ?_ (by assumption)))) (Rp.keep hu (by with_reducible repeat (first | exact Only.refl _ _ | assumption | refine Only.drewN ?_ _ | refine Only.drew ?_ | refine Only.alloc ?_ _ | refine Only.setCell ?_ (by intro hh; exfalso; simp at hh; try omega) _ | refine Only.trans ?_ (by assumption))))).mono ?_); rintro e w2 ⟨he, t2⟩; rw [← Hr.out] at he; subst he)
        | fail "no arm")
      all_goals go_ret
      all_goals exact ⟨ret_bool (by rw [Hn.out, Hz.out]; rfl), (by with_reducible repeat (first | exact Only.refl _ _ | assumption | refine Only.drewN ?_ _ | refine Only.drew ?_ | refine Only.alloc ?_ _ | refine Only.setCell ?_ (by intro hh; exfalso; simp at hh; try omega) _ | refine Only.trans ?_ (by assumption)))⟩
    · have bz : (c.value == 0) = false := by simp [z]
      have dz : decide (c.value = 0) = false := decide_eq_false z
      have Hz := Lib.hid dz
      clear z dz
      go_enter Try.func5, Try.ntmps5
      go_wp2_with (first
        | (go_at_call 13; (with_reducible refine (specIsState_any [.int .i64 x.points, .string x.names, v2] x _ v s _ _ (Rp.keep h0 (by with_reducible repeat (first | exact Only.refl _ _ | assumption | refine Only.drewN ?_ _ | refine Only.drew ?_ | refine Only.alloc ?_ _ | refine Only.setCell ?_ (by intro hh; exfalso; simp at hh; try omega) _ | refine Only.trans ?_ (by assumption)))) (Rp.keep hu (by with_reducible repeat (first | exact Only.refl _ _ | assumption | refine Only.drewN ?_ _ | refine Only.drew ?_ | refine Only.alloc ?_ _ | refine Only.setCell ?_ (by intro hh; exfalso; simp at hh; try omega) _ | refine Only.trans ?_ (by assumption))))).mono ?_); rintro e w1 ⟨he, t1⟩; rw [Hs.out] at he; subst he; have Y1 := Y0.keep t1; have X1 := X0.keep t1; have c0 := Y1.cell 0 rfl; have c1 := Y1.cell 1 rfl; have y0 := X1.cell 0 rfl; have y1 := X1.cell 1 rfl; have y2 := X1.cell 2 rfl)
        | (go_at_call 14; (with_reducible refine (specIsReachable_any [.int .i64 x.points, .string x.names, v2] x _ v s _ _ (Rp.keep h0 (by with_reducible repeat (first | exact Only.refl _ _ | assumption | refine Only.drewN ?_ _ | refine Only.drew ?_ | refine Only.alloc ?_ _ | refine Only.setCell ?_ (by intro hh; exfalso; simp at hh; try omega) _ | refine Only.trans ?_ (by assumption)))) (Rp.keep hu (by with_reducible repeat (first | exact Only.refl _ _ | assumption | refine Only.drewN ?_ _ | refine Only.drew ?_ | refine Only.alloc ?_ _ | refine Only.setCell ?_ (by intro hh; exfalso; simp at hh; try omega) _ | refine Only.trans ?_ (by assumption))))).mono ?_); rintro e w2 ⟨he, t2⟩; rw [← Hr.out] at he; subst he)
        | fail "no arm")
      go_ret
      exact ⟨ret_bool (by rw [Hn.out, Hz.out]; rfl), (by with_reducible repeat (first | exact Only.refl _ _ | assumption | refine Only.drewN ?_ _ | refine Only.drew ?_ | refine Only.alloc ?_ _ | refine Only.setCell ?_ (by intro hh; exfalso; simp at hh; try omega) _ | refine Only.trans ?_ (by assumption)))⟩
  have b4 : (c.kind == 4) = false := by simp [k4]
  obtain ⟨d, hd⟩ : ∃ d, d = distX x s := ⟨_, rfl⟩
  have Hd := Lib.hid hd
  have hor := distX_or x s
  rw [← hd] at hor
  have hdr : d = -1 ∨ 0 ≤ d := hor.imp id (fun h => h.1)
  clear hor
  rcases hdr with hneg | hpos
  · have Hn := Lib.hid (clm_neg hs k4 (by rw [← hd, hneg]))
    have bd : (d == -1) = true := by simp [hneg]
    have hlt : d < 0 := by omega
    clear hs hd k4 hneg
    go_enter Try.func5, Try.ntmps5
    go_wp2_with (first
      | (go_at_call 13; (with_reducible refine (specIsState_any [.int .i64 x.points, .string x.names, v2] x _ v s _ _ (Rp.keep h0 (by with_reducible repeat (first | exact Only.refl _ _ | assumption | refine Only.drewN ?_ _ | refine Only.drew ?_ | refine Only.alloc ?_ _ | refine Only.setCell ?_ (by intro hh; exfalso; simp at hh; try omega) _ | refine Only.trans ?_ (by assumption)))) (Rp.keep hu (by with_reducible repeat (first | exact Only.refl _ _ | assumption | refine Only.drewN ?_ _ | refine Only.drew ?_ | refine Only.alloc ?_ _ | refine Only.setCell ?_ (by intro hh; exfalso; simp at hh; try omega) _ | refine Only.trans ?_ (by assumption))))).mono ?_); rintro e w1 ⟨he, t1⟩; rw [Hs.out] at he; subst he; have Y1 := Y0.keep t1; have X1 := X0.keep t1; have c0 := Y1.cell 0 rfl; have c1 := Y1.cell 1 rfl; have y0 := X1.cell 0 rfl; have y1 := X1.cell 1 rfl; have y2 := X1.cell 2 rfl)
      | (go_at_call 15; (with_reducible refine (specDistance_any [.int .i64 x.points, .string x.names, v2] x _ v s _ _ (Rp.keep h0 (by with_reducible repeat (first | exact Only.refl _ _ | assumption | refine Only.drewN ?_ _ | refine Only.drew ?_ | refine Only.alloc ?_ _ | refine Only.setCell ?_ (by intro hh; exfalso; simp at hh; try omega) _ | refine Only.trans ?_ (by assumption)))) (Rp.keep hu (by with_reducible repeat (first | exact Only.refl _ _ | assumption | refine Only.drewN ?_ _ | refine Only.drew ?_ | refine Only.alloc ?_ _ | refine Only.setCell ?_ (by intro hh; exfalso; simp at hh; try omega) _ | refine Only.trans ?_ (by assumption))))).mono ?_); rintro e w2 ⟨he, t2⟩; rw [← Hd.out] at he; subst he; have Y2 := Y1.keep t2; have c0 := Y2.cell 0 rfl; have c1 := Y2.cell 1 rfl)
      | fail "no arm")
    go_ret
    exact ⟨ret_bool Hn.out.symm, (by with_reducible repeat (first | exact Only.refl _ _ | assumption | refine Only.drewN ?_ _ | refine Only.drew ?_ | refine Only.alloc ?_ _ | refine Only.setCell ?_ (by intro hh; exfalso; simp at hh; try omega) _ | refine Only.trans ?_ (by assumption)))⟩
  · have bd : (d == -1) = false := by simp; omega
    have hlt : ¬ d < 0 := by omega
    have hrg := clm_pos hs k4 (by rw [← hd]; exact hpos)
    rw [← hd] at hrg
    have Hn := Lib.hid hrg
    clear hs hd hrg
    by_cases k1 : c.kind = 1
    · have b1 : (c.kind == 1) = true := by simp [k1]
      have hf : clmB x s c = decide (d ≤ c.value) := by rw [Hn.out, if_pos k1]
      have Hf := Lib.hid hf
      clear hf k1 k4
      by_cases hq : d ≤ c.value
      all_goals go_enter Try.func5, Try.ntmps5
      all_goals go_wp2_with (first
        | (go_at_call 13; (with_reducible refine (specIsState_any [.int .i64 x.points, .string x.names, v2] x _ v s _ _ (Rp.keep h0 (by with_reducible repeat (first | exact Only.refl _ _ | assumption | refine Only.drewN ?_ _ | refine Only.drew ?_ | refine Only.alloc ?_ _ | refine Only.setCell ?_ (by intro hh; exfalso; simp at hh; try omega) _ | refine Only.trans ?_ (by assumption)))) (Rp.keep hu (by with_reducible repeat (first | exact Only.refl _ _ | assumption | refine Only.drewN ?_ _ | refine Only.drew ?_ | refine Only.alloc ?_ _ | refine Only.setCell ?_ (by intro hh; exfalso; simp at hh; try omega) _ | refine Only.trans ?_ (by assumption))))).mono ?_); rintro e w1 ⟨he, t1⟩; rw [Hs.out] at he; subst he; have Y1 := Y0.keep t1; have X1 := X0.keep t1; have c0 := Y1.cell 0 rfl; have c1 := Y1.cell 1 rfl; have y0 := X1.cell 0 rfl; have y1 := X1.cell 1 rfl; have y2 := X1.cell 2 rfl)
        | (go_at_call 15; (with_reducible refine (specDistance_any [.int .i64 x.points, .string x.names, v2] x _ v s _ _ (Rp.keep h0 (by with_reducible repeat (first | exact Only.refl _ _ | assumption | refine Only.drewN ?_ _ | refine Only.drew ?_ | refine Only.alloc ?_ _ | refine Only.setCell ?_ (by intro hh; exfalso; simp at hh; try omega) _ | refine Only.trans ?_ (by assumption)))) (Rp.keep hu (by with_reducible repeat (first | exact Only.refl _ _ | assumption | refine Only.drewN ?_ _ | refine Only.drew ?_ | refine Only.alloc ?_ _ | refine Only.setCell ?_ (by intro hh; exfalso; simp at hh; try omega) _ | refine Only.trans ?_ (by assumption))))).mono ?_); rintro e w2 ⟨he, t2⟩; rw [← Hd.out] at he; subst he; have Y2 := Y1.keep t2; have c0 := Y2.cell 0 rfl; have c1 := Y2.cell 1 rfl)
        | fail "no arm")
      all_goals go_ret
      all_goals exact ⟨ret_bool (by first | (rw [Hf.out]; done) | (rw [Hf.out]; simp [hq])), (by with_reducible repeat (first | exact Only.refl _ _ | assumption | refine Only.drewN ?_ _ | refine Only.drew ?_ | refine Only.alloc ?_ _ | refine Only.setCell ?_ (by intro hh; exfalso; simp at hh; try omega) _ | refine Only.trans ?_ (by assumption)))⟩
    have b1 : (c.kind == 1) = false := by simp [k1]
    by_cases k2 : c.kind = 2
    · have b2 : (c.kind == 2) = true := by simp [k2]
      have hf : clmB x s c = decide (d = c.value) := by rw [Hn.out, if_neg k1, if_pos k2]
      have Hf := Lib.hid hf
      clear hf k1 k2 k4
      by_cases hq : d = c.value
      · have bq : (d == c.value) = true := by simp [hq]
        have HQ := Lib.hid hq
        clear hq
        go_enter Try.func5, Try.ntmps5
        go_wp2_with (first
          | (go_at_call 13; (with_reducible refine (specIsState_any [.int .i64 x.points, .string x.names, v2] x _ v s _ _ (Rp.keep h0 (by with_reducible repeat (first | exact Only.refl _ _ | assumption | refine Only.drewN ?_ _ | refine Only.drew ?_ | refine Only.alloc ?_ _ | refine Only.setCell ?_ (by intro hh; exfalso; simp at hh; try omega) _ | refine Only.trans ?_ (by assumption)))) (Rp.keep hu (by with_reducible repeat (first | exact Only.refl _ _ | assumption | refine Only.drewN ?_ _ | refine Only.drew ?_ | refine Only.alloc ?_ _ | refine Only.setCell ?_ (by intro hh; exfalso; simp at hh; try omega) _ | refine Only.trans ?_ (by assumption))))).mono ?_); rintro e w1 ⟨he, t1⟩; rw [Hs.out] at he; subst he; have Y1 := Y0.keep t1; have X1 := X0.keep t1; have c0 := Y1.cell 0 rfl; have c1 := Y1.cell 1 rfl; have y0 := X1.cell 0 rfl; have y1 := X1.cell 1 rfl; have y2 := X1.cell 2 rfl)
          | (go_at_call 15; (with_reducible refine (specDistance_any [.int .i64 x.points, .string x.names, v2] x _ v s _ _ (Rp.keep h0 (by with_reducible repeat (first | exact Only.refl _ _ | assumption | refine Only.drewN ?_ _ | refine Only.drew ?_ | refine Only.alloc ?_ _ | refine Only.setCell ?_ (by intro hh; exfalso; simp at hh; try omega) _ | refine Only.trans ?_ (by assumption)))) (Rp.keep hu (by with_reducible repeat (first | exact Only.refl _ _ | assumption | refine Only.drewN ?_ _ | refine Only.drew ?_ | refine Only.alloc ?_ _ | refine Only.setCell ?_ (by intro hh; exfalso; simp at hh; try omega) _ | refine Only.trans ?_ (by assumption))))).mono ?_); rintro e w2 ⟨he, t2⟩; rw [← Hd.out] at he; subst he; have Y2 := Y1.keep t2; have c0 := Y2.cell 0 rfl; have c1 := Y2.cell 1 rfl)
          | fail "no arm")
        go_ret
        exact ⟨ret_bool (by rw [Hf.out, decide_eq_true HQ.out]), (by with_reducible repeat (first | exact Only.refl _ _ | assumption | refine Only.drewN ?_ _ | refine Only.drew ?_ | refine Only.alloc ?_ _ | refine Only.setCell ?_ (by intro hh; exfalso; simp at hh; try omega) _ | refine Only.trans ?_ (by assumption)))⟩
      · have bq : (d == c.value) = false := by simp [hq]
        have HQ := Lib.hid hq
        clear hq
        go_enter Try.func5, Try.ntmps5
        go_wp2_with (first
          | (go_at_call 13; (with_reducible refine (specIsState_any [.int .i64 x.points, .string x.names, v2] x _ v s _ _ (Rp.keep h0 (by with_reducible repeat (first | exact Only.refl _ _ | assumption | refine Only.drewN ?_ _ | refine Only.drew ?_ | refine Only.alloc ?_ _ | refine Only.setCell ?_ (by intro hh; exfalso; simp at hh; try omega) _ | refine Only.trans ?_ (by assumption)))) (Rp.keep hu (by with_reducible repeat (first | exact Only.refl _ _ | assumption | refine Only.drewN ?_ _ | refine Only.drew ?_ | refine Only.alloc ?_ _ | refine Only.setCell ?_ (by intro hh; exfalso; simp at hh; try omega) _ | refine Only.trans ?_ (by assumption))))).mono ?_); rintro e w1 ⟨he, t1⟩; rw [Hs.out] at he; subst he; have Y1 := Y0.keep t1; have X1 := X0.keep t1; have c0 := Y1.cell 0 rfl; have c1 := Y1.cell 1 rfl; have y0 := X1.cell 0 rfl; have y1 := X1.cell 1 rfl; have y2 := X1.cell 2 rfl)
          | (go_at_call 15; (with_reducible refine (specDistance_any [.int .i64 x.points, .string x.names, v2] x _ v s _ _ (Rp.keep h0 (by with_reducible repeat (first | exact Only.refl _ _ | assumption | refine Only.drewN ?_ _ | refine Only.drew ?_ | refine Only.alloc ?_ _ | refine Only.setCell ?_ (by intro hh; exfalso; simp at hh; try omega) _ | refine Only.trans ?_ (by assumption)))) (Rp.keep hu (by with_reducible repeat (first | exact Only.refl _ _ | assumption | refine Only.drewN ?_ _ | refine Only.drew ?_ | refine Only.alloc ?_ _ | refine Only.setCell ?_ (by intro hh; exfalso; simp at hh; try omega) _ | refine Only.trans ?_ (by assumption))))).mono ?_); rintro e w2 ⟨he, t2⟩; rw [← Hd.out] at he; subst he; have Y2 := Y1.keep t2; have c0 := Y2.cell 0 rfl; have c1 := Y2.cell 1 rfl)
          | fail "no arm")
        go_ret
        exact ⟨ret_bool (by rw [Hf.out, decide_eq_false HQ.out]), (by with_reducible repeat (first | exact Only.refl _ _ | assumption | refine Only.drewN ?_ _ | refine Only.drew ?_ | refine Only.alloc ?_ _ | refine Only.setCell ?_ (by intro hh; exfalso; simp at hh; try omega) _ | refine Only.trans ?_ (by assumption)))⟩
    have b2 : (c.kind == 2) = false := by simp [k2]
    by_cases k3 : c.kind = 3
    · have b3 : (c.kind == 3) = true := by simp [k3]
      have hf : clmB x s c = decide (c.value ≤ d) := by rw [Hn.out, if_neg k1, if_neg k2, if_pos k3]
      have Hf := Lib.hid hf
      clear hf k1 k2 k3 k4
      by_cases hq : c.value ≤ d
      all_goals go_enter Try.func5, Try.ntmps5
      all_goals go_wp2_with (first
        | (go_at_call 13; (with_reducible refine (specIsState_any [.int .i64 x.points, .string x.names, v2] x _ v s _ _ (Rp.keep h0 (by with_reducible repeat (first | exact Only.refl _ _ | assumption | refine Only.drewN ?_ _ | refine Only.drew ?_ | refine Only.alloc ?_ _ | refine Only.setCell ?_ (by intro hh; exfalso; simp at hh; try omega) _ | refine Only.trans ?_ (by assumption)))) (Rp.keep hu (by with_reducible repeat (first | exact Only.refl _ _ | assumption | refine Only.drewN ?_ _ | refine Only.drew ?_ | refine Only.alloc ?_ _ | refine Only.setCell ?_ (by intro hh; exfalso; simp at hh; try omega) _ | refine Only.trans ?_ (by assumption))))).mono ?_); rintro e w1 ⟨he, t1⟩; rw [Hs.out] at he; subst he; have Y1 := Y0.keep t1; have X1 := X0.keep t1; have c0 := Y1.cell 0 rfl; have c1 := Y1.cell 1 rfl; have y0 := X1.cell 0 rfl; have y1 := X1.cell 1 rfl; have y2 := X1.cell 2 rfl)
        | (go_at_call 15; (with_reducible refine (specDistance_any [.int .i64 x.points, .string x.names, v2] x _ v s _ _ (Rp.keep h0 (by with_reducible repeat (first | exact Only.refl _ _ | assumption | refine Only.drewN ?_ _ | refine Only.drew ?_ | refine Only.alloc ?_ _ | refine Only.setCell ?_ (by intro hh; exfalso; simp at hh; try omega) _ | refine Only.trans ?_ (by assumption)))) (Rp.keep hu (by with_reducible repeat (first | exact Only.refl _ _ | assumption | refine Only.drewN ?_ _ | refine Only.drew ?_ | refine Only.alloc ?_ _ | refine Only.setCell ?_ (by intro hh; exfalso; simp at hh; try omega) _ | refine Only.trans ?_ (by assumption))))).mono ?_); rintro e w2 ⟨he, t2⟩; rw [← Hd.out] at he; subst he; have Y2 := Y1.keep t2; have c0 := Y2.cell 0 rfl; have c1 := Y2.cell 1 rfl)
        | fail "no arm")
      all_goals go_ret
      all_goals exact ⟨ret_bool (by first | (rw [Hf.out]; done) | (rw [Hf.out]; simp [hq])), (by with_reducible repeat (first | exact Only.refl _ _ | assumption | refine Only.drewN ?_ _ | refine Only.drew ?_ | refine Only.alloc ?_ _ | refine Only.setCell ?_ (by intro hh; exfalso; simp at hh; try omega) _ | refine Only.trans ?_ (by assumption)))⟩
    · have b3 : (c.kind == 3) = false := by simp [k3]
      have hf : clmB x s c = false := by rw [Hn.out, if_neg k1, if_neg k2, if_neg k3]
      have Hf := Lib.hid hf
      clear hf k1 k2 k3 k4
      go_enter Try.func5, Try.ntmps5
      go_wp2_with (first
        | (go_at_call 13; (with_reducible refine (specIsState_any [.int .i64 x.points, .string x.names, v2] x _ v s _ _ (Rp.keep h0 (by with_reducible repeat (first | exact Only.refl _ _ | assumption | refine Only.drewN ?_ _ | refine Only.drew ?_ | refine Only.alloc ?_ _ | refine Only.setCell ?_ (by intro hh; exfalso; simp at hh; try omega) _ | refine Only.trans ?_ (by assumption)))) (Rp.keep hu (by with_reducible repeat (first | exact Only.refl _ _ | assumption | refine Only.drewN ?_ _ | refine Only.drew ?_ | refine Only.alloc ?_ _ | refine Only.setCell ?_ (by intro hh; exfalso; simp at hh; try omega) _ | refine Only.trans ?_ (by assumption))))).mono ?_); rintro e w1 ⟨he, t1⟩; rw [Hs.out] at he; subst he; have Y1 := Y0.keep t1; have X1 := X0.keep t1; have c0 := Y1.cell 0 rfl; have c1 := Y1.cell 1 rfl; have y0 := X1.cell 0 rfl; have y1 := X1.cell 1 rfl; have y2 := X1.cell 2 rfl)
        | (go_at_call 15; (with_reducible refine (specDistance_any [.int .i64 x.points, .string x.names, v2] x _ v s _ _ (Rp.keep h0 (by with_reducible repeat (first | exact Only.refl _ _ | assumption | refine Only.drewN ?_ _ | refine Only.drew ?_ | refine Only.alloc ?_ _ | refine Only.setCell ?_ (by intro hh; exfalso; simp at hh; try omega) _ | refine Only.trans ?_ (by assumption)))) (Rp.keep hu (by with_reducible repeat (first | exact Only.refl _ _ | assumption | refine Only.drewN ?_ _ | refine Only.drew ?_ | refine Only.alloc ?_ _ | refine Only.setCell ?_ (by intro hh; exfalso; simp at hh; try omega) _ | refine Only.trans ?_ (by assumption))))).mono ?_); rintro e w2 ⟨he, t2⟩; rw [← Hd.out] at he; subst he; have Y2 := Y1.keep t2; have c0 := Y2.cell 0 rfl; have c1 := Y2.cell 1 rfl)
        | fail "no arm")
      go_ret
      exact ⟨ret_bool Hf.out.symm, (by with_reducible repeat (first | exact Only.refl _ _ | assumption | refine Only.drewN ?_ _ | refine Only.drew ?_ | refine Only.alloc ?_ _ | refine Only.setCell ?_ (by intro hh; exfalso; simp at hh; try omega) _ | refine Only.trans ?_ (by assumption)))⟩
set_option maxHeartbeats 8000000 in
theorem implClaim_any (cs ds : List Value) (x : Puzzle) (fp : List Nat) (v : Value) (s : List Int) (fs : List Nat) (c : Claim) (fc : List Nat) (w : World) (h : Rp.rep w cs x fp) (hu : Rd w v s fs) (hc : Rp.rep w ds c fc) :
    Calls Try.prog 9 #[.agg cs.toArray, v, .agg ds.toArray] w fun e w' => e = .returned (.bool (clmB x s c)) ∧ Only [] w w' := by
  have h0 := h
  obtain ⟨v2, rfl, p0, p1, h2⟩ := h
  obtain ⟨rfl, ik, iv, -⟩ := hc
  clear h2 p0 p1
  have X0 : Blk ((w.alloc (.cells #[.int .i64 x.points, .string x.names, v2] 30)).alloc (.cells #[.int .i64 c.kind, .int .i64 c.value] 33)) w.heap.size [.int .i64 x.points, .string x.names, v2] := (Blk.new w [.int .i64 x.points, .string x.names, v2] 30).keep ((Only.refl _ _).alloc _)
  have Y0 : Blk ((w.alloc (.cells #[.int .i64 x.points, .string x.names, v2] 30)).alloc (.cells #[.int .i64 c.kind, .int .i64 c.value] 33)) (w.heap.size + 1) [.int .i64 c.kind, .int .i64 c.value] := Blk.new_at (by simp)
  unfold I64 at ik iv
  obtain ⟨il, ih⟩ := ik
  obtain ⟨vl, vh⟩ := iv
  rcases hs : stateB x s
  · have Hn := Lib.hid (clm_state (c := c) hs)
    have Hs := Lib.hid hs
    clear hs
    go_enter Try.func9, Try.ntmps9
    go_wp2_with (first
      | (go_at_call 17; (with_reducible refine (implIsState_any [.int .i64 x.points, .string x.names, v2] x _ v s _ _ (Rp.keep h0 (by with_reducible repeat (first | exact Only.refl _ _ | assumption | refine Only.drewN ?_ _ | refine Only.drew ?_ | refine Only.alloc ?_ _ | refine Only.setCell ?_ (by intro hh; exfalso; simp at hh; try omega) _ | refine Only.trans ?_ (by assumption)))) (Rp.keep hu (by with_reducible repeat (first | exact Only.refl _ _ | assumption | refine Only.drewN ?_ _ | refine Only.drew ?_ | refine Only.alloc ?_ _ | refine Only.setCell ?_ (by intro hh; exfalso; simp at hh; try omega) _ | refine Only.trans ?_ (by assumption))))).mono ?_); rintro e w1 ⟨he, t1⟩; rw [Hs.out] at he; subst he)
      | fail "no arm")
    go_ret
    exact ⟨ret_bool Hn.out.symm, (by with_reducible repeat (first | exact Only.refl _ _ | assumption | refine Only.drewN ?_ _ | refine Only.drew ?_ | refine Only.alloc ?_ _ | refine Only.setCell ?_ (by intro hh; exfalso; simp at hh; try omega) _ | refine Only.trans ?_ (by assumption)))⟩
  have Hs := Lib.hid hs
  by_cases k4 : c.kind = 4
  · obtain ⟨r, hr⟩ : ∃ r, r = reachB x s := ⟨_, rfl⟩
    have Hr := Lib.hid hr
    have Hn := Lib.hid ((clm_un hs k4).trans (by rw [← hr]) : clmB x s c = (decide (c.value = 0) && !r))
    have b4 : (c.kind == 4) = true := by simp [k4]
    clear hs hr k4
    by_cases z : c.value = 0
    · have bz : (c.value == 0) = true := by simp [z]
      have dz : decide (c.value = 0) = true := decide_eq_true z
      have Hz := Lib.hid dz
      clear z dz
      cases r
      all_goals go_enter Try.func9, Try.ntmps9
      all_goals go_wp2_with (first
        | (go_at_call 17; (with_reducible refine (implIsState_any [.int .i64 x.points, .string x.names, v2] x _ v s _ _ (Rp.keep h0 (by with_reducible repeat (first | exact Only.refl _ _ | assumption | refine Only.drewN ?_ _ | refine Only.drew ?_ | refine Only.alloc ?_ _ | refine Only.setCell ?_ (by intro hh; exfalso; simp at hh; try omega) _ | refine Only.trans ?_ (by assumption)))) (Rp.keep hu (by with_reducible repeat (first | exact Only.refl _ _ | assumption | refine Only.drewN ?_ _ | refine Only.drew ?_ | refine Only.alloc ?_ _ | refine Only.setCell ?_ (by intro hh; exfalso; simp at hh; try omega) _ | refine Only.trans ?_ (by assumption))))).mono ?_); rintro e w1 ⟨he, t1⟩; rw [Hs.out] at he; subst he; have Y1 := Y0.keep t1; have X1 := X0.keep t1; have c0 := Y1.cell 0 rfl; have c1 := Y1.cell 1 rfl; have y0 := X1.cell 0 rfl; have y1 := X1.cell 1 rfl; have y2 := X1.cell 2 rfl)
        | (go_at_call 18; (with_reducible refine (implIsReachable_any [.int .i64 x.points, .string x.names, v2] x _ v s _ _ (Rp.keep h0 (by with_reducible repeat (first | exact Only.refl _ _ | assumption | refine Only.drewN ?_ _ | refine Only.drew ?_ | refine Only.alloc ?_ _ | refine Only.setCell ?_ (by intro hh; exfalso; simp at hh; try omega) _ | refine Only.trans ?_ (by assumption)))) (Rp.keep hu (by with_reducible repeat (first | exact Only.refl _ _ | assumption | refine Only.drewN ?_ _ | refine Only.drew ?_ | refine Only.alloc ?_ _ | refine Only.setCell ?_ (by intro hh; exfalso; simp at hh; try omega) _ | refine Only.trans ?_ (by assumption))))).mono ?_); rintro e w2 ⟨he, t2⟩; rw [← Hr.out] at he; subst he)
        | fail "no arm")
      all_goals go_ret
      all_goals exact ⟨ret_bool (by rw [Hn.out, Hz.out]; rfl), (by with_reducible repeat (first | exact Only.refl _ _ | assumption | refine Only.drewN ?_ _ | refine Only.drew ?_ | refine Only.alloc ?_ _ | refine Only.setCell ?_ (by intro hh; exfalso; simp at hh; try omega) _ | refine Only.trans ?_ (by assumption)))⟩
    · have bz : (c.value == 0) = false := by simp [z]
      have dz : decide (c.value = 0) = false := decide_eq_false z
      have Hz := Lib.hid dz
      clear z dz
      go_enter Try.func9, Try.ntmps9
      go_wp2_with (first
        | (go_at_call 17; (with_reducible refine (implIsState_any [.int .i64 x.points, .string x.names, v2] x _ v s _ _ (Rp.keep h0 (by with_reducible repeat (first | exact Only.refl _ _ | assumption | refine Only.drewN ?_ _ | refine Only.drew ?_ | refine Only.alloc ?_ _ | refine Only.setCell ?_ (by intro hh; exfalso; simp at hh; try omega) _ | refine Only.trans ?_ (by assumption)))) (Rp.keep hu (by with_reducible repeat (first | exact Only.refl _ _ | assumption | refine Only.drewN ?_ _ | refine Only.drew ?_ | refine Only.alloc ?_ _ | refine Only.setCell ?_ (by intro hh; exfalso; simp at hh; try omega) _ | refine Only.trans ?_ (by assumption))))).mono ?_); rintro e w1 ⟨he, t1⟩; rw [Hs.out] at he; subst he; have Y1 := Y0.keep t1; have X1 := X0.keep t1; have c0 := Y1.cell 0 rfl; have c1 := Y1.cell 1 rfl; have y0 := X1.cell 0 rfl; have y1 := X1.cell 1 rfl; have y2 := X1.cell 2 rfl)
        | (go_at_call 18; (with_reducible refine (implIsReachable_any [.int .i64 x.points, .string x.names, v2] x _ v s _ _ (Rp.keep h0 (by with_reducible repeat (first | exact Only.refl _ _ | assumption | refine Only.drewN ?_ _ | refine Only.drew ?_ | refine Only.alloc ?_ _ | refine Only.setCell ?_ (by intro hh; exfalso; simp at hh; try omega) _ | refine Only.trans ?_ (by assumption)))) (Rp.keep hu (by with_reducible repeat (first | exact Only.refl _ _ | assumption | refine Only.drewN ?_ _ | refine Only.drew ?_ | refine Only.alloc ?_ _ | refine Only.setCell ?_ (by intro hh; exfalso; simp at hh; try omega) _ | refine Only.trans ?_ (by assumption))))).mono ?_); rintro e w2 ⟨he, t2⟩; rw [← Hr.out] at he; subst he)
        | fail "no arm")
      go_ret
      exact ⟨ret_bool (by rw [Hn.out, Hz.out]; rfl), (by with_reducible repeat (first | exact Only.refl _ _ | assumption | refine Only.drewN ?_ _ | refine Only.drew ?_ | refine Only.alloc ?_ _ | refine Only.setCell ?_ (by intro hh; exfalso; simp at hh; try omega) _ | refine Only.trans ?_ (by assumption)))⟩
  have b4 : (c.kind == 4) = false := by simp [k4]
  obtain ⟨d, hd⟩ : ∃ d, d = distX x s := ⟨_, rfl⟩
  have Hd := Lib.hid hd
  have hor := distX_or x s
  rw [← hd] at hor
  have hdr : d = -1 ∨ 0 ≤ d := hor.imp id (fun h => h.1)
  clear hor
  rcases hdr with hneg | hpos
  · have Hn := Lib.hid (clm_neg hs k4 (by rw [← hd, hneg]))
    have bd : (d == -1) = true := by simp [hneg]
    have hlt : d < 0 := by omega
    clear hs hd k4 hneg
    go_enter Try.func9, Try.ntmps9
    go_wp2_with (first
      | (go_at_call 17; (with_reducible refine (implIsState_any [.int .i64 x.points, .string x.names, v2] x _ v s _ _ (Rp.keep h0 (by with_reducible repeat (first | exact Only.refl _ _ | assumption | refine Only.drewN ?_ _ | refine Only.drew ?_ | refine Only.alloc ?_ _ | refine Only.setCell ?_ (by intro hh; exfalso; simp at hh; try omega) _ | refine Only.trans ?_ (by assumption)))) (Rp.keep hu (by with_reducible repeat (first | exact Only.refl _ _ | assumption | refine Only.drewN ?_ _ | refine Only.drew ?_ | refine Only.alloc ?_ _ | refine Only.setCell ?_ (by intro hh; exfalso; simp at hh; try omega) _ | refine Only.trans ?_ (by assumption))))).mono ?_); rintro e w1 ⟨he, t1⟩; rw [Hs.out] at he; subst he; have Y1 := Y0.keep t1; have X1 := X0.keep t1; have c0 := Y1.cell 0 rfl; have c1 := Y1.cell 1 rfl; have y0 := X1.cell 0 rfl; have y1 := X1.cell 1 rfl; have y2 := X1.cell 2 rfl)
      | (go_at_call 19; (with_reducible refine (implDistance_any [.int .i64 x.points, .string x.names, v2] x _ v s _ _ (Rp.keep h0 (by with_reducible repeat (first | exact Only.refl _ _ | assumption | refine Only.drewN ?_ _ | refine Only.drew ?_ | refine Only.alloc ?_ _ | refine Only.setCell ?_ (by intro hh; exfalso; simp at hh; try omega) _ | refine Only.trans ?_ (by assumption)))) (Rp.keep hu (by with_reducible repeat (first | exact Only.refl _ _ | assumption | refine Only.drewN ?_ _ | refine Only.drew ?_ | refine Only.alloc ?_ _ | refine Only.setCell ?_ (by intro hh; exfalso; simp at hh; try omega) _ | refine Only.trans ?_ (by assumption))))).mono ?_); rintro e w2 ⟨he, t2⟩; rw [← Hd.out] at he; subst he; have Y2 := Y1.keep t2; have c0 := Y2.cell 0 rfl; have c1 := Y2.cell 1 rfl)
      | fail "no arm")
    go_ret
    exact ⟨ret_bool Hn.out.symm, (by with_reducible repeat (first | exact Only.refl _ _ | assumption | refine Only.drewN ?_ _ | refine Only.drew ?_ | refine Only.alloc ?_ _ | refine Only.setCell ?_ (by intro hh; exfalso; simp at hh; try omega) _ | refine Only.trans ?_ (by assumption)))⟩
  · have bd : (d == -1) = false := by simp; omega
    have hlt : ¬ d < 0 := by omega
    have hrg := clm_pos hs k4 (by rw [← hd]; exact hpos)
    rw [← hd] at hrg
    have Hn := Lib.hid hrg
    clear hs hd hrg
    by_cases k1 : c.kind = 1
    · have b1 : (c.kind == 1) = true := by simp [k1]
      have hf : clmB x s c = decide (d ≤ c.value) := by rw [Hn.out, if_pos k1]
      have Hf := Lib.hid hf
      clear hf k1 k4
      by_cases hq : d ≤ c.value
      all_goals go_enter Try.func9, Try.ntmps9
      all_goals go_wp2_with (first
        | (go_at_call 17; (with_reducible refine (implIsState_any [.int .i64 x.points, .string x.names, v2] x _ v s _ _ (Rp.keep h0 (by with_reducible repeat (first | exact Only.refl _ _ | assumption | refine Only.drewN ?_ _ | refine Only.drew ?_ | refine Only.alloc ?_ _ | refine Only.setCell ?_ (by intro hh; exfalso; simp at hh; try omega) _ | refine Only.trans ?_ (by assumption)))) (Rp.keep hu (by with_reducible repeat (first | exact Only.refl _ _ | assumption | refine Only.drewN ?_ _ | refine Only.drew ?_ | refine Only.alloc ?_ _ | refine Only.setCell ?_ (by intro hh; exfalso; simp at hh; try omega) _ | refine Only.trans ?_ (by assumption))))).mono ?_); rintro e w1 ⟨he, t1⟩; rw [Hs.out] at he; subst he; have Y1 := Y0.keep t1; have X1 := X0.keep t1; have c0 := Y1.cell 0 rfl; have c1 := Y1.cell 1 rfl; have y0 := X1.cell 0 rfl; have y1 := X1.cell 1 rfl; have y2 := X1.cell 2 rfl)
        | (go_at_call 19; (with_reducible refine (implDistance_any [.int .i64 x.points, .string x.names, v2] x _ v s _ _ (Rp.keep h0 (by with_reducible repeat (first | exact Only.refl _ _ | assumption | refine Only.drewN ?_ _ | refine Only.drew ?_ | refine Only.alloc ?_ _ | refine Only.setCell ?_ (by intro hh; exfalso; simp at hh; try omega) _ | refine Only.trans ?_ (by assumption)))) (Rp.keep hu (by with_reducible repeat (first | exact Only.refl _ _ | assumption | refine Only.drewN ?_ _ | refine Only.drew ?_ | refine Only.alloc ?_ _ | refine Only.setCell ?_ (by intro hh; exfalso; simp at hh; try omega) _ | refine Only.trans ?_ (by assumption))))).mono ?_); rintro e w2 ⟨he, t2⟩; rw [← Hd.out] at he; subst he; have Y2 := Y1.keep t2; have c0 := Y2.cell 0 rfl; have c1 := Y2.cell 1 rfl)
        | fail "no arm")
      all_goals go_ret
      all_goals exact ⟨ret_bool (by first | (rw [Hf.out]; done) | (rw [Hf.out]; simp [hq])), (by with_reducible repeat (first | exact Only.refl _ _ | assumption | refine Only.drewN ?_ _ | refine Only.drew ?_ | refine Only.alloc ?_ _ | refine Only.setCell ?_ (by intro hh; exfalso; simp at hh; try omega) _ | refine Only.trans ?_ (by assumption)))⟩
    have b1 : (c.kind == 1) = false := by simp [k1]
    by_cases k2 : c.kind = 2
    · have b2 : (c.kind == 2) = true := by simp [k2]
      have hf : clmB x s c = decide (d = c.value) := by rw [Hn.out, if_neg k1, if_pos k2]
      have Hf := Lib.hid hf
      clear hf k1 k2 k4
      by_cases hq : d = c.value
      · have bq : (d == c.value) = true := by simp [hq]
        have HQ := Lib.hid hq
        clear hq
        go_enter Try.func9, Try.ntmps9
        go_wp2_with (first
          | (go_at_call 17; (with_reducible refine (implIsState_any [.int .i64 x.points, .string x.names, v2] x _ v s _ _ (Rp.keep h0 (by with_reducible repeat (first | exact Only.refl _ _ | assumption | refine Only.drewN ?_ _ | refine Only.drew ?_ | refine Only.alloc ?_ _ | refine Only.setCell ?_ (by intro hh; exfalso; simp at hh; try omega) _ | refine Only.trans ?_ (by assumption)))) (Rp.keep hu (by with_reducible repeat (first | exact Only.refl _ _ | assumption | refine Only.drewN ?_ _ | refine Only.drew ?_ | refine Only.alloc ?_ _ | refine Only.setCell ?_ (by intro hh; exfalso; simp at hh; try omega) _ | refine Only.trans ?_ (by assumption))))).mono ?_); rintro e w1 ⟨he, t1⟩; rw [Hs.out] at he; subst he; have Y1 := Y0.keep t1; have X1 := X0.keep t1; have c0 := Y1.cell 0 rfl; have c1 := Y1.cell 1 rfl; have y0 := X1.cell 0 rfl; have y1 := X1.cell 1 rfl; have y2 := X1.cell 2 rfl)
          | (go_at_call 19; (with_reducible refine (implDistance_any [.int .i64 x.points, .string x.names, v2] x _ v s _ _ (Rp.keep h0 (by with_reducible repeat (first | exact Only.refl _ _ | assumption | refine Only.drewN ?_ _ | refine Only.drew ?_ | refine Only.alloc ?_ _ | refine Only.setCell ?_ (by intro hh; exfalso; simp at hh; try omega) _ | refine Only.trans ?_ (by assumption)))) (Rp.keep hu (by with_reducible repeat (first | exact Only.refl _ _ | assumption | refine Only.drewN ?_ _ | refine Only.drew ?_ | refine Only.alloc ?_ _ | refine Only.setCell ?_ (by intro hh; exfalso; simp at hh; try omega) _ | refine Only.trans ?_ (by assumption))))).mono ?_); rintro e w2 ⟨he, t2⟩; rw [← Hd.out] at he; subst he; have Y2 := Y1.keep t2; have c0 := Y2.cell 0 rfl; have c1 := Y2.cell 1 rfl)
          | fail "no arm")
        go_ret
        exact ⟨ret_bool (by rw [Hf.out, decide_eq_true HQ.out]), (by with_reducible repeat (first | exact Only.refl _ _ | assumption | refine Only.drewN ?_ _ | refine Only.drew ?_ | refine Only.alloc ?_ _ | refine Only.setCell ?_ (by intro hh; exfalso; simp at hh; try omega) _ | refine Only.trans ?_ (by assumption)))⟩
      · have bq : (d == c.value) = false := by simp [hq]
        have HQ := Lib.hid hq
        clear hq
        go_enter Try.func9, Try.ntmps9
        go_wp2_with (first
          | (go_at_call 17; (with_reducible refine (implIsState_any [.int .i64 x.points, .string x.names, v2] x _ v s _ _ (Rp.keep h0 (by with_reducible repeat (first | exact Only.refl _ _ | assumption | refine Only.drewN ?_ _ | refine Only.drew ?_ | refine Only.alloc ?_ _ | refine Only.setCell ?_ (by intro hh; exfalso; simp at hh; try omega) _ | refine Only.trans ?_ (by assumption)))) (Rp.keep hu (by with_reducible repeat (first | exact Only.refl _ _ | assumption | refine Only.drewN ?_ _ | refine Only.drew ?_ | refine Only.alloc ?_ _ | refine Only.setCell ?_ (by intro hh; exfalso; simp at hh; try omega) _ | refine Only.trans ?_ (by assumption))))).mono ?_); rintro e w1 ⟨he, t1⟩; rw [Hs.out] at he; subst he; have Y1 := Y0.keep t1; have X1 := X0.keep t1; have c0 := Y1.cell 0 rfl; have c1 := Y1.cell 1 rfl; have y0 := X1.cell 0 rfl; have y1 := X1.cell 1 rfl; have y2 := X1.cell 2 rfl)
          | (go_at_call 19; (with_reducible refine (implDistance_any [.int .i64 x.points, .string x.names, v2] x _ v s _ _ (Rp.keep h0 (by with_reducible repeat (first | exact Only.refl _ _ | assumption | refine Only.drewN ?_ _ | refine Only.drew ?_ | refine Only.alloc ?_ _ | refine Only.setCell ?_ (by intro hh; exfalso; simp at hh; try omega) _ | refine Only.trans ?_ (by assumption)))) (Rp.keep hu (by with_reducible repeat (first | exact Only.refl _ _ | assumption | refine Only.drewN ?_ _ | refine Only.drew ?_ | refine Only.alloc ?_ _ | refine Only.setCell ?_ (by intro hh; exfalso; simp at hh; try omega) _ | refine Only.trans ?_ (by assumption))))).mono ?_); rintro e w2 ⟨he, t2⟩; rw [← Hd.out] at he; subst he; have Y2 := Y1.keep t2; have c0 := Y2.cell 0 rfl; have c1 := Y2.cell 1 rfl)
          | fail "no arm")
        go_ret
        exact ⟨ret_bool (by rw [Hf.out, decide_eq_false HQ.out]), (by with_reducible repeat (first | exact Only.refl _ _ | assumption | refine Only.drewN ?_ _ | refine Only.drew ?_ | refine Only.alloc ?_ _ | refine Only.setCell ?_ (by intro hh; exfalso; simp at hh; try omega) _ | refine Only.trans ?_ (by assumption)))⟩
    have b2 : (c.kind == 2) = false := by simp [k2]
    by_cases k3 : c.kind = 3
    · have b3 : (c.kind == 3) = true := by simp [k3]
      have hf : clmB x s c = decide (c.value ≤ d) := by rw [Hn.out, if_neg k1, if_neg k2, if_pos k3]
      have Hf := Lib.hid hf
      clear hf k1 k2 k3 k4
      by_cases hq : c.value ≤ d
      all_goals go_enter Try.func9, Try.ntmps9
      all_goals go_wp2_with (first
        | (go_at_call 17; (with_reducible refine (implIsState_any [.int .i64 x.points, .string x.names, v2] x _ v s _ _ (Rp.keep h0 (by with_reducible repeat (first | exact Only.refl _ _ | assumption | refine Only.drewN ?_ _ | refine Only.drew ?_ | refine Only.alloc ?_ _ | refine Only.setCell ?_ (by intro hh; exfalso; simp at hh; try omega) _ | refine Only.trans ?_ (by assumption)))) (Rp.keep hu (by with_reducible repeat (first | exact Only.refl _ _ | assumption | refine Only.drewN ?_ _ | refine Only.drew ?_ | refine Only.alloc ?_ _ | refine Only.setCell ?_ (by intro hh; exfalso; simp at hh; try omega) _ | refine Only.trans ?_ (by assumption))))).mono ?_); rintro e w1 ⟨he, t1⟩; rw [Hs.out] at he; subst he; have Y1 := Y0.keep t1; have X1 := X0.keep t1; have c0 := Y1.cell 0 rfl; have c1 := Y1.cell 1 rfl; have y0 := X1.cell 0 rfl; have y1 := X1.cell 1 rfl; have y2 := X1.cell 2 rfl)
        | (go_at_call 19; (with_reducible refine (implDistance_any [.int .i64 x.points, .string x.names, v2] x _ v s _ _ (Rp.keep h0 (by with_reducible repeat (first | exact Only.refl _ _ | assumption | refine Only.drewN ?_ _ | refine Only.drew ?_ | refine Only.alloc ?_ _ | refine Only.setCell ?_ (by intro hh; exfalso; simp at hh; try omega) _ | refine Only.trans ?_ (by assumption)))) (Rp.keep hu (by with_reducible repeat (first | exact Only.refl _ _ | assumption | refine Only.drewN ?_ _ | refine Only.drew ?_ | refine Only.alloc ?_ _ | refine Only.setCell ?_ (by intro hh; exfalso; simp at hh; try omega) _ | refine Only.trans ?_ (by assumption))))).mono ?_); rintro e w2 ⟨he, t2⟩; rw [← Hd.out] at he; subst he; have Y2 := Y1.keep t2; have c0 := Y2.cell 0 rfl; have c1 := Y2.cell 1 rfl)
        | fail "no arm")
      all_goals go_ret
      all_goals exact ⟨ret_bool (by first | (rw [Hf.out]; done) | (rw [Hf.out]; simp [hq])), (by with_reducible repeat (first | exact Only.refl _ _ | assumption | refine Only.drewN ?_ _ | refine Only.drew ?_ | refine Only.alloc ?_ _ | refine Only.setCell ?_ (by intro hh; exfalso; simp at hh; try omega) _ | refine Only.trans ?_ (by assumption)))⟩
    · have b3 : (c.kind == 3) = false := by simp [k3]
      have hf : clmB x s c = false := by rw [Hn.out, if_neg k1, if_neg k2, if_neg k3]
      have Hf := Lib.hid hf
      clear hf k1 k2 k3 k4
      go_enter Try.func9, Try.ntmps9
      go_wp2_with (first
        | (go_at_call 17; (with_reducible refine (implIsState_any [.int .i64 x.points, .string x.names, v2] x _ v s _ _ (Rp.keep h0 (by with_reducible repeat (first | exact Only.refl _ _ | assumption | refine Only.drewN ?_ _ | refine Only.drew ?_ | refine Only.alloc ?_ _ | refine Only.setCell ?_ (by intro hh; exfalso; simp at hh; try omega) _ | refine Only.trans ?_ (by assumption)))) (Rp.keep hu (by with_reducible repeat (first | exact Only.refl _ _ | assumption | refine Only.drewN ?_ _ | refine Only.drew ?_ | refine Only.alloc ?_ _ | refine Only.setCell ?_ (by intro hh; exfalso; simp at hh; try omega) _ | refine Only.trans ?_ (by assumption))))).mono ?_); rintro e w1 ⟨he, t1⟩; rw [Hs.out] at he; subst he; have Y1 := Y0.keep t1; have X1 := X0.keep t1; have c0 := Y1.cell 0 rfl; have c1 := Y1.cell 1 rfl; have y0 := X1.cell 0 rfl; have y1 := X1.cell 1 rfl; have y2 := X1.cell 2 rfl)
        | (go_at_call 19; (with_reducible refine (implDistance_any [.int .i64 x.points, .string x.names, v2] x _ v s _ _ (Rp.keep h0 (by with_reducible repeat (first | exact Only.refl _ _ | assumption | refine Only.drewN ?_ _ | refine Only.drew ?_ | refine Only.alloc ?_ _ | refine Only.setCell ?_ (by intro hh; exfalso; simp at hh; try omega) _ | refine Only.trans ?_ (by assumption)))) (Rp.keep hu (by with_reducible repeat (first | exact Only.refl _ _ | assumption | refine Only.drewN ?_ _ | refine Only.drew ?_ | refine Only.alloc ?_ _ | refine Only.setCell ?_ (by intro hh; exfalso; simp at hh; try omega) _ | refine Only.trans ?_ (by assumption))))).mono ?_); rintro e w2 ⟨he, t2⟩; rw [← Hd.out] at he; subst he; have Y2 := Y1.keep t2; have c0 := Y2.cell 0 rfl; have c1 := Y2.cell 1 rfl)
        | fail "no arm")
      go_ret
      exact ⟨ret_bool Hf.out.symm, (by with_reducible repeat (first | exact Only.refl _ _ | assumption | refine Only.drewN ?_ _ | refine Only.drew ?_ | refine Only.alloc ?_ _ | refine Only.setCell ?_ (by intro hh; exfalso; simp at hh; try omega) _ | refine Only.trans ?_ (by assumption)))⟩
end Go.Proofs.Ytlcoejncdbkhcaa

namespace Go.Proofs.Ytlcoejncdbkhcaa
open Go.RowKit
set_option maxRecDepth 10000

instance : Mk Claim where
  mark _ x := x
  cnt _ := 0
instance : Sz Claim where
  sz _ := 0
instance : Sm Claim where
  sm _ := True

set_option maxHeartbeats 1000000 in
theorem toClaim_any (cs : List Value) (x : Claim) (fp : List Nat) (w : World) (h : Rp.rep w cs x fp) (_hsm : Sm.sm x) :
    Calls Try.prog 8 #[.agg cs.toArray] w fun e w' => ∃ cs' fp', e = .returned (.agg cs'.toArray) ∧ Rp.rep w' cs' x fp' ∧ Fresh w.heap.size w' fp' ∧ Only [] w w' := by
  obtain ⟨rfl, p0, p1, -⟩ := h
  go_enter Try.func8, Try.ntmps8
  go_wp2
  refine bodyPost_ret (v := .agg #[.int .i64 x.kind, .int .i64 x.value]) (by simp [results, Try.results8, go_sem]) rfl ⟨[.int .i64 x.kind, .int .i64 x.value], [], rfl, ⟨rfl, p0, p1, rfl⟩, Fresh.nil _ _, (by with_reducible repeat (first | exact Only.refl _ _ | assumption | refine Only.drewN ?_ _ | refine Only.drew ?_ | refine Only.alloc ?_ _ | refine Only.setCell ?_ (by intro hh; exfalso; simp at hh; try omega) _ | refine Only.trans ?_ (by assumption)))⟩

end Go.Proofs.Ytlcoejncdbkhcaa

namespace Go.Proofs.Ytlcoejncdbkhcaa
open Go.RowKit
set_option maxRecDepth 10000

set_option maxHeartbeats 4000000 in
theorem FnExactClaimHolds_any (w : World) (caP : List Value) (aP : Puzzle) (faP : List Nat) (raP : Rp.rep w caP aP faP) (vaS : Value) (aS : List Int) (faS : List Nat) (raS : Rd w vaS aS faS) (caClaim : List Value) (aClaim : Claim) (faClaim : List Nat) (raClaim : Rp.rep w caClaim aClaim faClaim) :
    Calls Try.prog 3 #[.agg caP.toArray, vaS, .agg caClaim.toArray] w fun e w' => e = .returned (.bool true) ∧ Only [] w w' := by
  have qaP := raP
  obtain ⟨uaP2, rfl, -, -, zaP2⟩ := qaP
  obtain ⟨AaP2, CaP2, _, _, rfl, -⟩ := zaP2.open_
  have LaP := Rp.lt raP
  obtain ⟨AaS, CaS, _, _, rfl, -⟩ := raS.open_
  have LaS := Rp.lt raS
  have hbaS : aS.length ≤ 9223372036854775807 := by obtain ⟨_, _, _, _, hq, -, hs⟩ := raS.open_; have := hs.bound; exact this
  have qaClaim := raClaim
  obtain ⟨rfl, -, -⟩ := qaClaim
  have LaClaim := Rp.lt raClaim
  by_cases lenaS : 1048576 < aS.length
  · go_enter Try.func3, Try.ntmps3
    go_wp2
    go_ret
    exact ⟨rfl, (by with_reducible repeat (first | exact Only.refl _ _ | assumption | refine Only.drewN ?_ _ | refine Only.drew ?_ | refine Only.alloc ?_ _ | refine Only.setCell ?_ (by intro hh; exfalso; simp at hh; try omega) _ | refine Only.trans ?_ (by assumption)))⟩
  have smaS : Sm.sm aS := ⟨by omega, fun _ _ => trivial⟩
  have smaClaim : Sm.sm aClaim := trivial
  have csaS : Mk.cnt aS ≤ 1048576 := by simp only [Mk.cnt, cntL_ints]; omega
  rcases szV_cases (1048576) aP with ⟨esaP, msaP⟩ | ⟨esaP, psaP, msaP⟩
  · go_enter Try.func3, Try.ntmps3
    go_wp2_with (with_reducible refine (szPuzzle_any [.int .i64 aP.points, .string aP.names, .slice AaP2 aP.moves.length CaP2] aP _ (1048576) _ (Rp.keep raP (((Only.refl [] _).alloc (.cells #[.int .i64 aP.points, .string aP.names, .slice AaP2 aP.moves.length CaP2] 24)).alloc (.cells #[.int .i64 aClaim.kind, .int .i64 aClaim.value] 27))) (by omega) (by omega)).mono ?_; rintro e w1 ⟨rfl, t0⟩)
    go_ret
    exact ⟨rfl, (by with_reducible repeat (first | exact Only.refl _ _ | assumption | refine Only.drewN ?_ _ | refine Only.drew ?_ | refine Only.alloc ?_ _ | refine Only.setCell ?_ (by intro hh; exfalso; simp at hh; try omega) _ | refine Only.trans ?_ (by assumption)))⟩
  have smaP : Sm.sm aP := SzSm.of_ _ (by omega)
  have csaP : Mk.cnt aP ≤ 1048576 := Nat.le_trans (CntSz.le aP) (by omega)
  go_enter Try.func3, Try.ntmps3
  go_wp2_with fail
  with_reducible refine (szPuzzle_any [.int .i64 aP.points, .string aP.names, .slice AaP2 aP.moves.length CaP2] aP _ (1048576) _ (Rp.keep raP (((Only.refl [] _).alloc (.cells #[.int .i64 aP.points, .string aP.names, .slice AaP2 aP.moves.length CaP2] 24)).alloc (.cells #[.int .i64 aClaim.kind, .int .i64 aClaim.value] 27))) (by omega) (by omega)).mono ?_
  rintro e w1 ⟨rfl, t0⟩
  rw [esaP]
  have T0 : Only [] w w1 := (((Only.refl [] _).alloc (.cells #[.int .i64 aP.points, .string aP.names, .slice AaP2 aP.moves.length CaP2] 24)).alloc (.cells #[.int .i64 aClaim.kind, .int .i64 aClaim.value] 27)).trans t0
  have S0 : w.heap.size + 2 ≤ w1.heap.size := by have := t0.size; simp at this; omega
  have BaP : Blk w1 w.heap.size [.int .i64 aP.points, .string aP.names, .slice AaP2 aP.moves.length CaP2] := (Blk.keep (Blk.keep (Blk.new_at (by simp)) ((Only.refl _ _).alloc _)) t0)
  have LBaP : w.heap.size < w1.heap.size := BaP.lt
  have HBaP := Lib.hid BaP; clear BaP
  have BaClaim : Blk w1 (w.heap.size + 1) [.int .i64 aClaim.kind, .int .i64 aClaim.value] := (Blk.keep (Blk.new_at (by simp)) t0)
  have LBaClaim : (w.heap.size + 1) < w1.heap.size := BaClaim.lt
  have HBaClaim := Lib.hid BaClaim; clear BaClaim
  go_upto_region 7 with fail
  go_region_held3 (fun w' => Only [] w1 w' ∧ w'.cell? ⟨w.heap.size, 0, none⟩ = some (.int .i64 aP.points) ∧ w'.cell? ⟨w.heap.size, 1, none⟩ = some (.string aP.names) ∧ w'.cell? ⟨w.heap.size, 2, none⟩ = some (.slice AaP2 aP.moves.length CaP2) ∧ w'.cell? ⟨(w.heap.size + 1), 0, none⟩ = some (.int .i64 aClaim.kind) ∧ w'.cell? ⟨(w.heap.size + 1), 1, none⟩ = some (.int .i64 aClaim.value)) ((refine and_of ?_ (fun h__ => ⟨(Blk.keep HBaP.out h__).cell 0 rfl, (Blk.keep HBaP.out h__).cell 1 rfl, (Blk.keep HBaP.out h__).cell 2 rfl, (Blk.keep HBaClaim.out h__).cell 0 rfl, (Blk.keep HBaClaim.out h__).cell 1 rfl⟩); first | exact (Only.refl _ _).drew | exact Only.trans (And.left (by assumption)) (by assumption))) (first
    | (go_at_call 6; (with_reducible refine (toPuzzle_any [.int .i64 aP.points, .string aP.names, .slice AaP2 aP.moves.length CaP2] aP _ _ (Rp.keep (Rp.keep raP T0) (And.left (by assumption))) smaP).mono ?_); rintro e w2 ⟨u1, f1, rfl, r1, F1, t1⟩)
    | (go_at_call 7; (with_reducible refine (toInt64S_sm (.slice AaS aS.length CaS) aS _ _ (Rp.keep (Rp.keep raS T0) (And.left (by assumption))) smaS).mono ?_); rintro e w3 ⟨v2, f2, rfl, r2, F2, t2⟩)
    | (go_at_call 8; (with_reducible refine (toClaim_any [.int .i64 aClaim.kind, .int .i64 aClaim.value] aClaim _ _ (Rp.keep (Rp.keep raClaim T0) (And.left (by assumption))) smaClaim).mono ?_); rintro e w4 ⟨u3, f3, rfl, r3, F3, t3⟩)
    | (go_at_call 5; (with_reducible refine (specClaim_any u1 u3 aP _ v2 aS _ aClaim _ _ (Rp.keep r1 (by first | exact Only.refl _ _ | assumption | exact Only.trans (by assumption) (by assumption))) (Rp.keep r2 (by first | exact Only.refl _ _ | assumption | exact Only.trans (by assumption) (by assumption))) (Rp.keep r3 (by first | exact Only.refl _ _ | assumption | exact Only.trans (by assumption) (by assumption)))).mono ?_); rintro e w5 ⟨rfl, t4⟩)
    | fail "no arm")
  have T1 : Only [] w1 w2 := ((Only.refl _ _).drew).trans t1
  have S1 : w1.heap.size + 0 ≤ w2.heap.size := by have := T1.size; omega
  have L1 := Rp.lt r1
  have G1 : ∀ b ∈ f1, w1.heap.size ≤ b := fun b hb => by have := F1.ge b hb; first | omega | (simp at this; omega)
  have T2 : Only [] w2 w3 := t2
  have S2 : w2.heap.size + 0 ≤ w3.heap.size := by have := T2.size; omega
  have L2 := Rp.lt r2
  have G2 : ∀ b ∈ f2, w2.heap.size ≤ b := fun b hb => by have := F2.ge b hb; first | omega | (simp at this; omega)
  have T3 : Only [] w3 w4 := t3
  have S3 : w3.heap.size + 0 ≤ w4.heap.size := by have := T3.size; omega
  have L3 := Rp.lt r3
  have G3 : ∀ b ∈ f3, w3.heap.size ≤ b := fun b hb => by have := F3.ge b hb; first | omega | (simp at this; omega)
  have T4 : Only [] w4 w5 := t4
  have S4 : w4.heap.size + 0 ≤ w5.heap.size := by have := T4.size; omega
  have caP_5_0 := ((Blk.keep (Blk.keep (Blk.keep (Blk.keep HBaP.out T1) T2) T3) T4)).cell 0 rfl
  have caP_5_1 := ((Blk.keep (Blk.keep (Blk.keep (Blk.keep HBaP.out T1) T2) T3) T4)).cell 1 rfl
  have caP_5_2 := ((Blk.keep (Blk.keep (Blk.keep (Blk.keep HBaP.out T1) T2) T3) T4)).cell 2 rfl
  go_wp2_with fail
  with_reducible refine (toPuzzle_any [.int .i64 aP.points, .string aP.names, .slice AaP2 aP.moves.length CaP2] aP _ _ (Rp.keep (Rp.keep (Rp.keep (Rp.keep (Rp.keep raP T0) T1) T2) T3) T4) smaP).mono ?_
  rintro e w6 ⟨u4, f4, rfl, r4, F4, t5⟩
  have T5 : Only [] w5 w6 := t5
  have S5 : w5.heap.size + 0 ≤ w6.heap.size := by have := T5.size; omega
  clear caP_5_0 caP_5_1 caP_5_2
  have q4 := r4
  obtain ⟨u42, rfl, -, -, z42⟩ := q4
  obtain ⟨A42, C42, _, _, rfl, -⟩ := z42.open_
  have L4 := Rp.lt r4
  have G4 : ∀ b ∈ f4, w5.heap.size ≤ b := fun b hb => by have := F4.ge b hb; omega
  go_wp2_with fail
  with_reducible refine (toInt64S_sm (.slice AaS aS.length CaS) aS _ _ (Rp.keep (Rp.keep (Rp.keep (Rp.keep (Rp.keep (Rp.keep (Rp.keep raS T0) T1) T2) T3) T4) T5) ((Only.refl [] _).alloc (.cells #[.int .i64 aP.points, .string aP.names, .slice A42 aP.moves.length C42] 30))) smaS).mono ?_
  rintro e w7 ⟨v5, f5, rfl, r5, F5, t6⟩
  have T6 : Only [] w6 w7 := ((Only.refl [] _).alloc (.cells #[.int .i64 aP.points, .string aP.names, .slice A42 aP.moves.length C42] 30)).trans t6
  have S6 : w6.heap.size + 1 ≤ w7.heap.size := by have := t6.size; simp at this; omega
  have B4 : Blk w7 w6.heap.size [.int .i64 aP.points, .string aP.names, .slice A42 aP.moves.length C42] := (Blk.keep (Blk.new_at (by simp)) t6)
  have LB4 : w6.heap.size < w7.heap.size := B4.lt
  have HB4 := Lib.hid B4; clear B4
  have L5 := Rp.lt r5
  have G5 : ∀ b ∈ f5, w6.heap.size + 1 ≤ b := fun b hb => by have := F5.ge b hb; simp at this; omega
  go_upto_region 10 with fail
  go_region_held3 (fun w' => Only [] w7 w' ∧ w'.cell? ⟨(w.heap.size + 1), 0, none⟩ = some (.int .i64 aClaim.kind) ∧ w'.cell? ⟨(w.heap.size + 1), 1, none⟩ = some (.int .i64 aClaim.value) ∧ w'.cell? ⟨w6.heap.size, 0, none⟩ = some (.int .i64 aP.points) ∧ w'.cell? ⟨w6.heap.size, 1, none⟩ = some (.string aP.names) ∧ w'.cell? ⟨w6.heap.size, 2, none⟩ = some (.slice A42 aP.moves.length C42)) ((refine and_of ?_ (fun h__ => ⟨(Blk.keep (Blk.keep (Blk.keep (Blk.keep (Blk.keep (Blk.keep (Blk.keep HBaClaim.out T1) T2) T3) T4) T5) T6) h__).cell 0 rfl, (Blk.keep (Blk.keep (Blk.keep (Blk.keep (Blk.keep (Blk.keep (Blk.keep HBaClaim.out T1) T2) T3) T4) T5) T6) h__).cell 1 rfl, (Blk.keep HB4.out h__).cell 0 rfl, (Blk.keep HB4.out h__).cell 1 rfl, (Blk.keep HB4.out h__).cell 2 rfl⟩); first | exact (Only.refl _ _).drew | exact Only.trans (And.left (by assumption)) (by assumption))) (first
    | (go_at_call 8; (with_reducible refine (toClaim_any [.int .i64 aClaim.kind, .int .i64 aClaim.value] aClaim _ _ (Rp.keep (Rp.keep (Rp.keep (Rp.keep (Rp.keep (Rp.keep (Rp.keep (Rp.keep raClaim T0) T1) T2) T3) T4) T5) T6) (And.left (by assumption))) smaClaim).mono ?_); rintro e w8 ⟨u6, f6, rfl, r6, F6, t7⟩)
    | (go_at_call 9; (with_reducible refine (implClaim_any [.int .i64 aP.points, .string aP.names, .slice A42 aP.moves.length C42] u6 aP _ v5 aS _ aClaim _ _ (Rp.keep (Rp.keep r4 T6) (And.left (by assumption))) (Rp.keep r5 (And.left (by assumption))) (Rp.keep r6 (by first | exact Only.refl _ _ | assumption | exact Only.trans (by assumption) (by assumption)))).mono ?_); rintro e w9 ⟨rfl, t8⟩)
    | fail "no arm")
  have T7 : Only [] w7 w8 := ((Only.refl _ _).drew).trans t7
  have S7 : w7.heap.size + 0 ≤ w8.heap.size := by have := T7.size; omega
  have L6 := Rp.lt r6
  have G6 : ∀ b ∈ f6, w7.heap.size ≤ b := fun b hb => by have := F6.ge b hb; first | omega | (simp at this; omega)
  have T8 : Only [] w8 w9 := t8
  have S8 : w8.heap.size + 0 ≤ w9.heap.size := by have := T8.size; omega
  go_upto_region 13 with fail
  have e10 : eqV aP aP = true := eqV_yes rfl
  go_region_held3 (fun w' => Only [] w9 w' ∧ w'.cell? ⟨w6.heap.size, 0, none⟩ = some (.int .i64 aP.points) ∧ w'.cell? ⟨w6.heap.size, 1, none⟩ = some (.string aP.names) ∧ w'.cell? ⟨w6.heap.size, 2, none⟩ = some (.slice A42 aP.moves.length C42) ∧ w'.cell? ⟨w.heap.size, 0, none⟩ = some (.int .i64 aP.points) ∧ w'.cell? ⟨w.heap.size, 1, none⟩ = some (.string aP.names) ∧ w'.cell? ⟨w.heap.size, 2, none⟩ = some (.slice AaP2 aP.moves.length CaP2)) ((refine and_of ?_ (fun h__ => ⟨(Blk.keep (Blk.keep (Blk.keep HB4.out T7) T8) h__).cell 0 rfl, (Blk.keep (Blk.keep (Blk.keep HB4.out T7) T8) h__).cell 1 rfl, (Blk.keep (Blk.keep (Blk.keep HB4.out T7) T8) h__).cell 2 rfl, (Blk.keep (Blk.keep (Blk.keep (Blk.keep (Blk.keep (Blk.keep (Blk.keep (Blk.keep (Blk.keep HBaP.out T1) T2) T3) T4) T5) T6) T7) T8) h__).cell 0 rfl, (Blk.keep (Blk.keep (Blk.keep (Blk.keep (Blk.keep (Blk.keep (Blk.keep (Blk.keep (Blk.keep HBaP.out T1) T2) T3) T4) T5) T6) T7) T8) h__).cell 1 rfl, (Blk.keep (Blk.keep (Blk.keep (Blk.keep (Blk.keep (Blk.keep (Blk.keep (Blk.keep (Blk.keep HBaP.out T1) T2) T3) T4) T5) T6) T7) T8) h__).cell 2 rfl⟩); first | exact (Only.refl _ _).drew | exact Only.trans (And.left (by assumption)) (by assumption))) (first
    | (go_at_call 6; (with_reducible refine (toPuzzle_any [.int .i64 aP.points, .string aP.names, .slice AaP2 aP.moves.length CaP2] aP _ _ (Rp.keep (Rp.keep (Rp.keep (Rp.keep (Rp.keep (Rp.keep (Rp.keep (Rp.keep (Rp.keep (Rp.keep raP T0) T1) T2) T3) T4) T5) T6) T7) T8) (And.left (by assumption))) smaP).mono ?_); rintro e w10 ⟨u7, f7, rfl, r7, F7, t9⟩)
    | (go_at_call 10; (with_reducible refine (eqPuzzle_any [.int .i64 aP.points, .string aP.names, .slice A42 aP.moves.length C42] u7 aP aP _ _ _ (Rp.keep (Rp.keep (Rp.keep (Rp.keep r4 T6) T7) T8) (And.left (by assumption))) (Rp.keep r7 (by first | exact Only.refl _ _ | assumption | exact Only.trans (by assumption) (by assumption)))).mono ?_); rintro e w11 ⟨rfl, t10⟩)
    | fail "no arm")
  have T9 : Only [] w9 w10 := ((Only.refl _ _).drew).trans t9
  have S9 : w9.heap.size + 0 ≤ w10.heap.size := by have := T9.size; omega
  have L7 := Rp.lt r7
  have G7 : ∀ b ∈ f7, w9.heap.size ≤ b := fun b hb => by have := F7.ge b hb; first | omega | (simp at this; omega)
  have T10 : Only [] w10 w11 := t10
  have S10 : w10.heap.size + 0 ≤ w11.heap.size := by have := T10.size; omega
  go_wp2_with fail
  with_reducible refine (toInt64S_sm (.slice AaS aS.length CaS) aS _ _ (Rp.keep (Rp.keep (Rp.keep (Rp.keep (Rp.keep (Rp.keep (Rp.keep (Rp.keep (Rp.keep (Rp.keep (Rp.keep raS T0) T1) T2) T3) T4) T5) T6) T7) T8) T9) T10) smaS).mono ?_
  rintro e w12 ⟨v8, f8, rfl, r8, F8, t11⟩
  have T11 : Only [] w11 w12 := t11
  have S11 : w11.heap.size + 0 ≤ w12.heap.size := by have := T11.size; omega
  have L8 := Rp.lt r8
  have G8 : ∀ b ∈ f8, w11.heap.size ≤ b := fun b hb => by have := F8.ge b hb; omega
  have e12 : eqV aS aS = true := eqV_yes rfl
  go_wp2_with fail
  with_reducible refine (eqInt64S_rd v5 v8 aS aS _ _ _ (Rp.keep (Rp.keep (Rp.keep (Rp.keep (Rp.keep r5 T7) T8) T9) T10) T11) r8).mono ?_
  rintro e w13 ⟨rfl, d12⟩
  have t12 := d12.only []
  have T12 : Only [] w12 w13 := t12
  have S12 : w12.heap.size + 0 ≤ w13.heap.size := by have := T12.size; omega
  go_wp2
  go_ret
  refine ⟨rfl, ?_⟩
  exact (Only.keepThen (Only.keepThen (Only.keepThen (Only.keepThen (Only.keepThen (Only.keepThen (Only.keepThen (Only.keepThen (Only.keepThen (Only.keepThen (Only.keepThen (Only.keepThen T0 T1) T2) T3) T4) T5) T6) T7) T8) T9) T10) T11) T12)
end Go.Proofs.Ytlcoejncdbkhcaa
