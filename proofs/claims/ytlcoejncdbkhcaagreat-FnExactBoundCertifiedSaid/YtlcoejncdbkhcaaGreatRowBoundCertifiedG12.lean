/- States and reachable states: the reference's and the program's functions. Session: plain data, how it lies in memory, the laws' own helpers on it. (Printed by gen_struct.py.) Valid sessions: the reference's and the program's functions. A new session: the reference's and the program's. What the functions on sessions do with words and histories: pushes, evaluation of words, copies. Words evaluated: the reference's and the program's functions. Histories: a word more, a word less; copies of sessions. Copies of sessions: the reference's and the program's; what they are made of. (Printed by mkseops2.py.) PlayWord: the reference's and the program's. Words taken back from a history: what both RedoWord and UndoWord need. (Printed by mkredo.py.) -/
import Derived.Test.YtlcoejncdbkhcaaGreatRowBoundCertifiedG11
import Derived.Test.YtlcoejncdbkhcaaGreatRowBoundCertifiedG4
import Derived.Test.YtlcoejncdbkhcaaGreatRowBoundCertifiedG2
import Derived.Test.YtlcoejncdbkhcaaGreatRowBoundCertifiedG5
import Derived.Test.YtlcoejncdbkhcaaGreatRowBoundCertifiedG10
import Derived.StillTailTactics
import Derived.Deep.RegionHeld3
import Derived.Deep.DeepCutAuto
import Derived.Test.YtlcoejncdbkhcaaGreatRowBoundCertifiedG6
import Derived.BigQuiet
import Derived.Deep.RegionLaw
namespace Go.Proofs.YtlcoejncdbkhcaaGreat
open Go.RowKit
set_option maxRecDepth 10000

open Classical in
/-- membership in the group that gens generate -/
noncomputable def memB (n : Nat) (gens : List (List Int)) (p : List Int) : Bool := decide (PM.Grp n gens p)
def stateB (x : Puzzle) (s : List Int) : Bool := validPz x && genB x.points s
noncomputable def reachB (x : Puzzle) (s : List Int) : Bool := stateB x s && memB x.points.toNat x.moves s
theorem gensB_iff {n : Int} {gens : List (List Int)} : gensB n gens = true ↔ (1 ≤ n ∧ n ≤ 20) ∧ gens.length ≤ 8 ∧ ∀ g ∈ gens, PM.PN n.toNat g := by
  unfold gensB
  rw [Bool.and_eq_true, Bool.and_eq_true, inR_iff, decide_eq_true_iff, List.all_eq_true]
  constructor
  · rintro ⟨⟨h1, h2⟩, h3⟩
    refine ⟨h1, h2, fun g hg => ?_⟩
    have h := h3 g hg
    unfold genB at h
    rw [Bool.and_eq_true, decide_eq_true_iff, permB_iff] at h
    exact ⟨by omega, h.2.2⟩
  · rintro ⟨h1, h2, h3⟩
    refine ⟨⟨h1, h2⟩, fun g hg => ?_⟩
    obtain ⟨h4, h5⟩ := h3 g hg
    unfold genB
    rw [Bool.and_eq_true, decide_eq_true_iff, permB_iff]
    exact ⟨by omega, ⟨by omega, by omega⟩, h5⟩
theorem genB_iff {n : Int} {g : List Int} (h0 : 1 ≤ n) (h1 : n ≤ 20) : genB n g = true ↔ PM.PN n.toNat g := by
  unfold genB
  rw [Bool.and_eq_true, decide_eq_true_iff, permB_iff]
  constructor
  · rintro ⟨h2, -, h3⟩; exact ⟨by omega, h3⟩
  · rintro ⟨h2, h3⟩; exact ⟨by omega, ⟨by omega, by omega⟩, h3⟩
theorem validPz_gensB {x : Puzzle} (h : validPz x = true) : gensB x.points x.moves = true := by
  unfold validPz at h
  rw [Bool.and_eq_true] at h
  exact h.1
theorem stateB_pn {x : Puzzle} {s : List Int} (h : stateB x s = true) : (1 ≤ x.points ∧ x.points ≤ 20) ∧ x.moves.length ≤ 8 ∧ (∀ g ∈ x.moves, PM.PN x.points.toNat g) ∧ PM.PN x.points.toNat s := by
  unfold stateB at h
  rw [Bool.and_eq_true] at h
  obtain ⟨a, b, c⟩ := gensB_iff.1 (validPz_gensB h.1)
  exact ⟨a, b, c, (genB_iff a.1 a.2).1 h.2⟩
theorem reachB_state {x : Puzzle} {s : List Int} (h : reachB x s = true) : stateB x s = true := by
  unfold reachB at h
  rw [Bool.and_eq_true] at h; exact h.1
theorem stateB_valid {x : Puzzle} {s : List Int} (h : stateB x s = true) : validPz x = true := by
  unfold stateB at h
  rw [Bool.and_eq_true] at h; exact h.1
set_option maxHeartbeats 1000000 in
theorem isPermOf_rd (n : Int) (v : Value) (s : List Int) (fp : List Nat) (w : World) (h : Rd w v s fp) :
    Calls Tryz.prog 113 #[.int .i64 n, v] w fun e w' => e = .returned (.bool (genB n s)) ∧ Drew w w' := by
  obtain ⟨a, cap, rfl, hI⟩ := h.ints
  have hb := hI.bound
  by_cases c1 : (s.length : Int) = n
  · have d1 : ((s.length : Int) == n) = true := by simp [c1]
    have hg : genB n s = permB s := by simp [genB, c1]
    have Hg := Lib.hid hg; clear hg c1
    go_enter Tryz.func113, Tryz.ntmps113
    go_wp2_with ((go_at_call 164; (with_reducible refine (specIsPerm_rd _ s fp _ h).mono ?_); rintro e w1 ⟨rfl, t1⟩))
    go_ret
    exact ⟨ret_bool Hg.out.symm, t1⟩
  · have d1 : ((s.length : Int) == n) = false := by simp [c1]
    have hg : genB n s = false := by simp [genB, c1]
    have Hg := Lib.hid hg; clear hg c1
    go_enter Tryz.func113, Tryz.ntmps113
    go_wp2
    go_ret
    exact ⟨ret_bool Hg.out.symm, Drew.refl _⟩
set_option maxHeartbeats 1000000 in
theorem specIsState_any (cs : List Value) (x : Puzzle) (fp : List Nat) (v : Value) (s : List Int) (fs : List Nat) (w : World) (h : Rp.rep w cs x fp) (hs : Rd w v s fs) :
    Calls Tryz.prog 68 #[.agg cs.toArray, v] w fun e w' => e = .returned (.bool (stateB x s)) ∧ Only [] w w' := by
  have h0 := h
  obtain ⟨v2, rfl, p0, p1, h2⟩ := h
  obtain ⟨A2, C2, ob, fps, rfl, -, -⟩ := h2.open_
  rcases hq : validPz x
  all_goals have hf : stateB x s = (validPz x && genB x.points s) := rfl
  all_goals rw [hq] at hf
  all_goals have Hf := Lib.hid hf
  all_goals clear hf
  all_goals go_enter Tryz.func68, Tryz.ntmps68
  all_goals go_wp2_with (first | (go_at_call 112; (with_reducible refine (specIsValidPuzzle_any [.int .i64 x.points, .string x.names, .slice A2 x.moves.length C2] x _ _ (Rp.keep h0 (by with_reducible repeat (first | exact Only.refl _ _ | assumption | refine Only.drewN ?_ _ | refine Only.drew ?_ | refine Only.alloc ?_ _ | refine Only.setCell ?_ (by intro hh; exfalso; simp at hh; try omega) _ | refine Only.trans ?_ (by assumption))))).mono ?_); rintro e w1 ⟨rfl, t1⟩; have y1 := t1.cells_eq w.heap.size (by simp) (by simp)) | (go_at_call 113; (with_reducible refine (isPermOf_rd x.points _ s _ _ (Rp.keep hs (by with_reducible repeat (first | exact Only.refl _ _ | assumption | refine Only.drewN ?_ _ | refine Only.drew ?_ | refine Only.alloc ?_ _ | refine Only.setCell ?_ (by intro hh; exfalso; simp at hh; try omega) _ | refine Only.trans ?_ (by assumption))))).mono ?_); rintro e w2 ⟨rfl, d2⟩; have t2 := d2.only []) | fail "no arm")
  all_goals go_ret
  all_goals exact ⟨ret_bool Hf.out.symm, (by with_reducible repeat (first | exact Only.refl _ _ | assumption | refine Only.drewN ?_ _ | refine Only.drew ?_ | refine Only.alloc ?_ _ | refine Only.setCell ?_ (by intro hh; exfalso; simp at hh; try omega) _ | refine Only.trans ?_ (by assumption)))⟩
set_option maxHeartbeats 1000000 in
theorem implIsStateOf_any (cs : List Value) (x : Puzzle) (fp : List Nat) (v : Value) (s : List Int) (fs : List Nat) (w : World) (h : Rp.rep w cs x fp) (hs : Rd w v s fs) :
    Calls Tryz.prog 123 #[.agg cs.toArray, v] w fun e w' => e = .returned (.bool (genB x.points s)) ∧ Only [] w w' := by
  have h0 := h
  obtain ⟨v2, rfl, p0, p1, h2⟩ := h
  obtain ⟨A2, C2, ob, fps, rfl, -, -⟩ := h2.open_
  by_cases c1 : (s.length : Int) = x.points
  · have d1 : ((s.length : Int) == x.points) = true := by simp [c1]
    have hg : genB x.points s = permB s := by simp [genB, c1]
    have Hg := Lib.hid hg; clear hg c1
    go_enter Tryz.func123, Tryz.ntmps123
    go_wp2
    go_quiet (first
      | (go_at_call 97; exact quiet_drewN0 (lengthInt_q _ s fs _ (Rp.keep hs (by with_reducible repeat (first | exact Only.refl _ _ | assumption | refine Only.drewN ?_ _ | refine Only.drew ?_ | refine Only.alloc ?_ _ | refine Only.setCell ?_ (by intro hh; exfalso; simp at hh; try omega) _ | refine Only.trans ?_ (by assumption))))))
      | (go_at_call 97; exact quiet_drewN (lengthInt_q _ s fs _ (Rp.keep hs (by with_reducible repeat (first | exact Only.refl _ _ | assumption | refine Only.drewN ?_ _ | refine Only.drew ?_ | refine Only.alloc ?_ _ | refine Only.setCell ?_ (by intro hh; exfalso; simp at hh; try omega) _ | refine Only.trans ?_ (by assumption))))))
      | (go_at_call 176; exact quiet_drewN (implIsPerm_rd _ s fs _ (Rp.keep hs (by with_reducible repeat (first | exact Only.refl _ _ | assumption | refine Only.drewN ?_ _ | refine Only.drew ?_ | refine Only.alloc ?_ _ | refine Only.setCell ?_ (by intro hh; exfalso; simp at hh; try omega) _ | refine Only.trans ?_ (by assumption))))))
      | (go_at_call 176; exact quiet_drewN0 (implIsPerm_rd _ s fs _ (Rp.keep hs (by with_reducible repeat (first | exact Only.refl _ _ | assumption | refine Only.drewN ?_ _ | refine Only.drew ?_ | refine Only.alloc ?_ _ | refine Only.setCell ?_ (by intro hh; exfalso; simp at hh; try omega) _ | refine Only.trans ?_ (by assumption)))))))
    go_wp2
    go_ret
    exact ⟨ret_bool Hg.out.symm, (by with_reducible repeat (first | exact Only.refl _ _ | assumption | refine Only.drewN ?_ _ | refine Only.drew ?_ | refine Only.alloc ?_ _ | refine Only.setCell ?_ (by intro hh; exfalso; simp at hh; try omega) _ | refine Only.trans ?_ (by assumption)))⟩
  · have d1 : ((s.length : Int) == x.points) = false := by simp [c1]
    have hg : genB x.points s = false := by simp [genB, c1]
    have Hg := Lib.hid hg; clear hg c1
    go_enter Tryz.func123, Tryz.ntmps123
    go_wp2
    go_quiet (first
      | (go_at_call 97; exact quiet_drewN0 (lengthInt_q _ s fs _ (Rp.keep hs (by with_reducible repeat (first | exact Only.refl _ _ | assumption | refine Only.drewN ?_ _ | refine Only.drew ?_ | refine Only.alloc ?_ _ | refine Only.setCell ?_ (by intro hh; exfalso; simp at hh; try omega) _ | refine Only.trans ?_ (by assumption))))))
      | (go_at_call 97; exact quiet_drewN (lengthInt_q _ s fs _ (Rp.keep hs (by with_reducible repeat (first | exact Only.refl _ _ | assumption | refine Only.drewN ?_ _ | refine Only.drew ?_ | refine Only.alloc ?_ _ | refine Only.setCell ?_ (by intro hh; exfalso; simp at hh; try omega) _ | refine Only.trans ?_ (by assumption)))))))
    go_wp2
    go_ret
    exact ⟨ret_bool Hg.out.symm, (by with_reducible repeat (first | exact Only.refl _ _ | assumption | refine Only.drewN ?_ _ | refine Only.drew ?_ | refine Only.alloc ?_ _ | refine Only.setCell ?_ (by intro hh; exfalso; simp at hh; try omega) _ | refine Only.trans ?_ (by assumption)))⟩
set_option maxHeartbeats 1000000 in
theorem implIsState_any (cs : List Value) (x : Puzzle) (fp : List Nat) (v : Value) (s : List Int) (fs : List Nat) (w : World) (h : Rp.rep w cs x fp) (hs : Rd w v s fs) :
    Calls Tryz.prog 74 #[.agg cs.toArray, v] w fun e w' => e = .returned (.bool (stateB x s)) ∧ Only [] w w' := by
  have h0 := h
  obtain ⟨v2, rfl, p0, p1, h2⟩ := h
  obtain ⟨A2, C2, ob, fps, rfl, -, -⟩ := h2.open_
  rcases hq : validPz x
  all_goals have hf : stateB x s = (validPz x && genB x.points s) := rfl
  all_goals rw [hq] at hf
  all_goals have Hf := Lib.hid hf
  all_goals clear hf
  all_goals go_enter Tryz.func74, Tryz.ntmps74
  all_goals go_wp2_with (first | (go_at_call 122; (with_reducible refine (implIsValidPuzzle_any [.int .i64 x.points, .string x.names, .slice A2 x.moves.length C2] x _ _ (Rp.keep h0 (by with_reducible repeat (first | exact Only.refl _ _ | assumption | refine Only.drewN ?_ _ | refine Only.drew ?_ | refine Only.alloc ?_ _ | refine Only.setCell ?_ (by intro hh; exfalso; simp at hh; try omega) _ | refine Only.trans ?_ (by assumption))))).mono ?_); rintro e w1 ⟨rfl, t1⟩; have y1 := t1.cells_eq w.heap.size (by simp) (by simp)) | (go_at_call 123; (with_reducible refine (implIsStateOf_any [.int .i64 x.points, .string x.names, .slice A2 x.moves.length C2] x _ _ s _ _ (Rp.keep h0 (by with_reducible repeat (first | exact Only.refl _ _ | assumption | refine Only.drewN ?_ _ | refine Only.drew ?_ | refine Only.alloc ?_ _ | refine Only.setCell ?_ (by intro hh; exfalso; simp at hh; try omega) _ | refine Only.trans ?_ (by assumption)))) (Rp.keep hs (by with_reducible repeat (first | exact Only.refl _ _ | assumption | refine Only.drewN ?_ _ | refine Only.drew ?_ | refine Only.alloc ?_ _ | refine Only.setCell ?_ (by intro hh; exfalso; simp at hh; try omega) _ | refine Only.trans ?_ (by assumption))))).mono ?_); rintro e w2 ⟨rfl, t2⟩) | fail "no arm")
  all_goals go_ret
  all_goals exact ⟨ret_bool Hf.out.symm, (by with_reducible repeat (first | exact Only.refl _ _ | assumption | refine Only.drewN ?_ _ | refine Only.drew ?_ | refine Only.alloc ?_ _ | refine Only.setCell ?_ (by intro hh; exfalso; simp at hh; try omega) _ | refine Only.trans ?_ (by assumption)))⟩
theorem specSift0 {e : TypeId} {B : Nat} {L : Lay} {gv : Nat → Value} {n : Nat} {G : PM.Gens} {T : PM.Rows} {M F : List Nat} {w : World} (hC : Ch e B w L gv n G T M F) (hw : PM.WF n T) (hT : L.oT = 1)
    {vp : Value} {p : List Int} {fp : List Nat} (hp : Rd w vp p fp) (pp : PM.PN n p) :
    Calls Tryz.prog 209 #[.pointer (some ⟨L.g, 0, none⟩), .int .i64 0, vp] w fun e w' => ∃ (v : Value) (lv : Nat), e = .returned (.tuple #[v, .int .i64 lv]) ∧ PM.has T n n p = decide (lv = n) ∧ Only [] w w' :=
  specSift_any w hC hw hT 0 vp p fp (Nat.zero_le _) hp pp
set_option maxHeartbeats 1000000 in
theorem chainHas_any {e : TypeId} {B : Nat} {L : Lay} {gv : Nat → Value} {n : Nat} {G : PM.Gens} {T : PM.Rows} {M F : List Nat} (w : World) (hC : Ch e B w L gv n G T M F) (hw : PM.WF n T) (hT : L.oT = 1)
    (vp : Value) (p : List Int) (fp : List Nat) (hp : Rd w vp p fp) (pp : PM.PN n p) :
    Calls Tryz.prog 165 #[.pointer (some ⟨L.g, 0, none⟩), vp] w fun e w' => e = .returned (.bool (PM.has T n n p)) ∧ Only [] w w' := by
  have cn0 := hC.cn
  obtain ⟨ap, cp, rfl, -⟩ := hp.ints
  rcases hh : PM.has T n n p
  · have Hh := Lib.hid hh
    clear hh
    go_enter Tryz.func165, Tryz.ntmps165
    go_wp2_with (first | (go_at_call 209; (with_reducible refine (specSift0 hC hw hT hp pp).mono ?_); rintro en w1 ⟨v1, lv1, rfl, he, t1⟩; rw [Hh.out] at he; have hlv : lv1 ≠ n := of_decide_eq_false he.symm; clear he; have hlv2 : ((lv1 : Int) == (n : Int)) = false := (by rw [beq_eq_false_iff_ne]; omega); have cn1 := t1.cell (by simp) cn0) | fail "no arm")
    go_ret
    exact ⟨rfl, t1⟩
  · have Hh := Lib.hid hh
    clear hh
    go_enter Tryz.func165, Tryz.ntmps165
    go_wp2_with (first | (go_at_call 209; (with_reducible refine (specSift0 hC hw hT hp pp).mono ?_); rintro en w1 ⟨v1, lv1, rfl, he, t1⟩; rw [Hh.out] at he; have hlv : n = lv1 := (of_decide_eq_true he.symm).symm; clear he; subst hlv; have cn1 := t1.cell (by simp) cn0) | fail "no arm")
    go_ret
    exact ⟨rfl, t1⟩
theorem memB_has {n : Nat} {gens : List (List Int)} {G : PM.Gens} {T : PM.Rows} (h : PM.Chain n gens G T) (hn : 0 < n) (hp : ∀ g ∈ gens, PM.PN n g) {p : List Int} (hpn : PM.PN n p) : PM.has T n n p = memB n gens p := by
  rw [Bool.eq_iff_iff, h.has_iff hn hp hpn]
  unfold memB
  simp
set_option maxHeartbeats 1000000 in
theorem specIsMember_yes (n : Nat) (vg vp : Value) (gens : List (List Int)) (p : List Int) (fg fp : List Nat) (w : World) (hg : Rd w vg gens fg) (hp : Rd w vp p fp) (hgs : gensB n gens = true) (hpn : PM.PN n p) :
    Calls Tryz.prog 114 #[.int .i64 n, vg, vp] w fun e w' => e = .returned (.bool (memB n gens p)) ∧ Only [] w w' := by
  obtain ⟨h1, h2, h3⟩ := gensB_iff.1 hgs
  have hn : 0 < n := by omega
  have hn20 : n ≤ 20 := by omega
  have h3' : ∀ g ∈ gens, PM.PN n g := fun g hg => by simpa using h3 g hg
  have hpm : permB p = true := permB_iff.2 ⟨by have := hpn.1; omega, hpn.2⟩
  have hlen : ((p.length : Int) == (n : Int)) = true := by rw [beq_iff_eq]; have := hpn.1; omega
  obtain ⟨ap, cp, rfl, hIp⟩ := hp.ints
  have hb := hIp.bound
  have Hgs := Lib.hid hgs
  have Hpn := Lib.hid hpn
  have H3 := Lib.hid h3'
  have Hpm := Lib.hid hpm
  clear h1 h3 h3' hgs hpn hpm
  go_enter Tryz.func114, Tryz.ntmps114
  go_wp2_with (first
    | (go_at_call 162; (with_reducible refine (specIsGens_rd n vg gens fg _ (Rp.keep hg (by with_reducible repeat (first | exact Only.refl _ _ | assumption | refine Only.drewN ?_ _ | refine Only.drew ?_ | refine Only.alloc ?_ _ | refine Only.setCell ?_ (by intro hh; exfalso; simp at hh; try omega) _ | refine Only.trans ?_ (by assumption))))).mono ?_); rintro en w1 ⟨he, d1⟩; rw [Hgs.out] at he; subst he; have t1 := d1.only [])
    | (go_at_call 164; (with_reducible refine (specIsPerm_rd _ p fp _ (Rp.keep hp (by with_reducible repeat (first | exact Only.refl _ _ | assumption | refine Only.drewN ?_ _ | refine Only.drew ?_ | refine Only.alloc ?_ _ | refine Only.setCell ?_ (by intro hh; exfalso; simp at hh; try omega) _ | refine Only.trans ?_ (by assumption))))).mono ?_); rintro en w2 ⟨he, d2⟩; rw [Hpm.out] at he; subst he; have t2 := d2.only [])
    | (go_at_call 166; (with_reducible refine (buildChain_any n hn hn20 vg gens fg _ (Rp.keep hg (by with_reducible repeat (first | exact Only.refl _ _ | assumption | refine Only.drewN ?_ _ | refine Only.drew ?_ | refine Only.alloc ?_ _ | refine Only.setCell ?_ (by intro hh; exfalso; simp at hh; try omega) _ | refine Only.trans ?_ (by assumption)))) H3.out (by omega)).mono ?_); rintro en w3 ⟨L, gv, G, T, M, F, rfl, hoG, hoT, hC, hCh, t3⟩; have HC := Lib.hid hC; have HCh := Lib.hid hCh; have HoT := Lib.hid hoT; clear hC hCh hoT hoG)
    | (go_at_call 165; (with_reducible refine (chainHas_any _ HC.out HCh.out.inv.wf HoT.out _ p fp (Rp.keep hp (by with_reducible repeat (first | exact Only.refl _ _ | assumption | refine Only.drewN ?_ _ | refine Only.drew ?_ | refine Only.alloc ?_ _ | refine Only.setCell ?_ (by intro hh; exfalso; simp at hh; try omega) _ | refine Only.trans ?_ (by assumption)))) Hpn.out).mono ?_); rintro en w4 ⟨he, t4⟩; rw [memB_has HCh.out hn H3.out Hpn.out] at he; subst he)
    | fail "no arm")
  go_ret
  exact ⟨rfl, (by with_reducible repeat (first | exact Only.refl _ _ | assumption | refine Only.drewN ?_ _ | refine Only.drew ?_ | refine Only.alloc ?_ _ | refine Only.setCell ?_ (by intro hh; exfalso; simp at hh; try omega) _ | refine Only.trans ?_ (by assumption)))⟩
theorem specIsMember_i (n : Int) (vg vp : Value) (gens : List (List Int)) (p : List Int) (fg fp : List Nat) (w : World) (hg : Rd w vg gens fg) (hp : Rd w vp p fp) (hgs : gensB n gens = true) (hpn : PM.PN n.toNat p) :
    Calls Tryz.prog 114 #[.int .i64 n, vg, vp] w fun e w' => e = .returned (.bool (memB n.toNat gens p)) ∧ Only [] w w' := by
  have h1 := (gensB_iff.1 hgs).1
  obtain ⟨m, rfl⟩ := Int.eq_ofNat_of_zero_le (by omega : 0 ≤ n)
  exact specIsMember_yes m vg vp gens p fg fp w hg hp hgs hpn
set_option maxHeartbeats 1000000 in
theorem specIsReachable_any (cs : List Value) (x : Puzzle) (fp : List Nat) (v : Value) (s : List Int) (fs : List Nat) (w : World) (h : Rp.rep w cs x fp) (hs : Rd w v s fs) :
    Calls Tryz.prog 69 #[.agg cs.toArray, v] w fun e w' => e = .returned (.bool (reachB x s)) ∧ Only [] w w' := by
  have h0 := h
  obtain ⟨v2, rfl, p0, p1, h2⟩ := h
  obtain ⟨A2, C2, ob, fps, rfl, -, -⟩ := h2.open_
  rcases hq : stateB x s
  · have hf : reachB x s = false := by unfold reachB; rw [hq]; rfl
    have Hf := Lib.hid hf
    clear hf
    go_enter Tryz.func69, Tryz.ntmps69
    go_wp2_with (first
      | (go_at_call 68; (with_reducible refine (specIsState_any [.int .i64 x.points, .string x.names, .slice A2 x.moves.length C2] x _ _ s _ _ (Rp.keep h0 (by with_reducible repeat (first | exact Only.refl _ _ | assumption | refine Only.drewN ?_ _ | refine Only.drew ?_ | refine Only.alloc ?_ _ | refine Only.setCell ?_ (by intro hh; exfalso; simp at hh; try omega) _ | refine Only.trans ?_ (by assumption)))) (Rp.keep hs (by with_reducible repeat (first | exact Only.refl _ _ | assumption | refine Only.drewN ?_ _ | refine Only.drew ?_ | refine Only.alloc ?_ _ | refine Only.setCell ?_ (by intro hh; exfalso; simp at hh; try omega) _ | refine Only.trans ?_ (by assumption))))).mono ?_); rintro e w1 ⟨rfl, t1⟩; have y1 := t1.cells_eq w.heap.size (by simp) (by simp)) | fail "no arm")
    go_ret
    exact ⟨ret_bool Hf.out.symm, (by with_reducible repeat (first | exact Only.refl _ _ | assumption | refine Only.drewN ?_ _ | refine Only.drew ?_ | refine Only.alloc ?_ _ | refine Only.setCell ?_ (by intro hh; exfalso; simp at hh; try omega) _ | refine Only.trans ?_ (by assumption)))⟩
  · have hf : reachB x s = memB x.points.toNat x.moves s := by unfold reachB; rw [hq]; rfl
    have Hf := Lib.hid hf
    have hgs := validPz_gensB (stateB_valid hq)
    have hpn := (stateB_pn hq).2.2.2
    have Hgs := Lib.hid hgs
    have Hpn := Lib.hid hpn
    clear hf hgs hpn
    go_enter Tryz.func69, Tryz.ntmps69
    go_wp2_with (first
      | (go_at_call 68; (with_reducible refine (specIsState_any [.int .i64 x.points, .string x.names, .slice A2 x.moves.length C2] x _ _ s _ _ (Rp.keep h0 (by with_reducible repeat (first | exact Only.refl _ _ | assumption | refine Only.drewN ?_ _ | refine Only.drew ?_ | refine Only.alloc ?_ _ | refine Only.setCell ?_ (by intro hh; exfalso; simp at hh; try omega) _ | refine Only.trans ?_ (by assumption)))) (Rp.keep hs (by with_reducible repeat (first | exact Only.refl _ _ | assumption | refine Only.drewN ?_ _ | refine Only.drew ?_ | refine Only.alloc ?_ _ | refine Only.setCell ?_ (by intro hh; exfalso; simp at hh; try omega) _ | refine Only.trans ?_ (by assumption))))).mono ?_); rintro e w1 ⟨rfl, t1⟩; have y1 := t1.cells_eq w.heap.size (by simp) (by simp))
      | (go_at_call 114; (with_reducible refine (specIsMember_i x.points _ _ x.moves s _ _ _ (Rp.keep h2 (by with_reducible repeat (first | exact Only.refl _ _ | assumption | refine Only.drewN ?_ _ | refine Only.drew ?_ | refine Only.alloc ?_ _ | refine Only.setCell ?_ (by intro hh; exfalso; simp at hh; try omega) _ | refine Only.trans ?_ (by assumption)))) (Rp.keep hs (by with_reducible repeat (first | exact Only.refl _ _ | assumption | refine Only.drewN ?_ _ | refine Only.drew ?_ | refine Only.alloc ?_ _ | refine Only.setCell ?_ (by intro hh; exfalso; simp at hh; try omega) _ | refine Only.trans ?_ (by assumption)))) Hgs.out Hpn.out).mono ?_); rintro e w2 ⟨rfl, t2⟩) | fail "no arm")
    go_ret
    exact ⟨ret_bool Hf.out.symm, (by with_reducible repeat (first | exact Only.refl _ _ | assumption | refine Only.drewN ?_ _ | refine Only.drew ?_ | refine Only.alloc ?_ _ | refine Only.setCell ?_ (by intro hh; exfalso; simp at hh; try omega) _ | refine Only.trans ?_ (by assumption)))⟩
theorem implHas0 {e : TypeId} {B : Nat} {L : Lay} {gv : Nat → Value} {n : Nat} {G : PM.Gens} {T : PM.Rows} {M F : List Nat} {w : World} (hC : Ch e B w L gv n G T M F) (hw : PM.WF n T) (hT : L.oT = 2)
    {vp : Value} {p : List Int} {fp : List Nat} (hp : Rd w vp p fp) (pp : PM.PN n p) :
    Calls Tryz.prog 125 #[.pointer (some ⟨L.g, 0, none⟩), .int .i64 0, vp] w fun e w' => e = .returned (.bool (PM.has T n n p)) ∧ Only [] w w' :=
  implHas_any w hC hw hT 0 vp p fp (Nat.zero_le _) hp pp
theorem implNewChain_i (n : Int) (hn : 1 ≤ n) (hn20 : n ≤ 20) (vg : Value) (gens : List (List Int)) (fpg : List Nat) (w : World) (hg : Rd w vg gens fpg) (hpn : ∀ g ∈ gens, PM.PN n.toNat g) (hgl : gens.length ≤ 1000) :
    Calls Tryz.prog 124 #[.int .i64 n, vg] w fun e w' => ∃ (L : Lay) (gv : Nat → Value) (G : PM.Gens) (T : PM.Rows) (M F : List Nat), e = .returned (.pointer (some ⟨L.g, 0, none⟩)) ∧ L.oG = 1 ∧ L.oT = 2 ∧ Ch 25 w.heap.size w' L gv n.toNat G T M F ∧ PM.Chain n.toNat gens G T ∧ Only [] w w' := by
  obtain ⟨m, rfl⟩ := Int.eq_ofNat_of_zero_le (by omega : 0 ≤ n)
  exact implNewChain_any m (by omega) (by omega) vg gens fpg w hg hpn hgl
set_option maxHeartbeats 1000000 in
theorem implIsReachable_any (cs : List Value) (x : Puzzle) (fp : List Nat) (v : Value) (s : List Int) (fs : List Nat) (w : World) (h : Rp.rep w cs x fp) (hs : Rd w v s fs) :
    Calls Tryz.prog 75 #[.agg cs.toArray, v] w fun e w' => e = .returned (.bool (reachB x s)) ∧ Only [] w w' := by
  have h0 := h
  obtain ⟨v2, rfl, p0, p1, h2⟩ := h
  obtain ⟨A2, C2, ob, fps, rfl, -, -⟩ := h2.open_
  rcases hq : stateB x s
  · have hf : reachB x s = false := by unfold reachB; rw [hq]; rfl
    have Hf := Lib.hid hf
    clear hf
    go_enter Tryz.func75, Tryz.ntmps75
    go_wp2_with (first
      | (go_at_call 74; (with_reducible refine (implIsState_any [.int .i64 x.points, .string x.names, .slice A2 x.moves.length C2] x _ _ s _ _ (Rp.keep h0 (by with_reducible repeat (first | exact Only.refl _ _ | assumption | refine Only.drewN ?_ _ | refine Only.drew ?_ | refine Only.alloc ?_ _ | refine Only.setCell ?_ (by intro hh; exfalso; simp at hh; try omega) _ | refine Only.trans ?_ (by assumption)))) (Rp.keep hs (by with_reducible repeat (first | exact Only.refl _ _ | assumption | refine Only.drewN ?_ _ | refine Only.drew ?_ | refine Only.alloc ?_ _ | refine Only.setCell ?_ (by intro hh; exfalso; simp at hh; try omega) _ | refine Only.trans ?_ (by assumption))))).mono ?_); rintro e w1 ⟨rfl, t1⟩; have y1 := t1.cells_eq w.heap.size (by simp) (by simp)) | fail "no arm")
    go_ret
    exact ⟨ret_bool Hf.out.symm, (by with_reducible repeat (first | exact Only.refl _ _ | assumption | refine Only.drewN ?_ _ | refine Only.drew ?_ | refine Only.alloc ?_ _ | refine Only.setCell ?_ (by intro hh; exfalso; simp at hh; try omega) _ | refine Only.trans ?_ (by assumption)))⟩
  · have hf : reachB x s = memB x.points.toNat x.moves s := by unfold reachB; rw [hq]; rfl
    have Hf := Lib.hid hf
    obtain ⟨⟨n1, n20⟩, hml, hmp, hpn⟩ := stateB_pn hq
    have Hmp := Lib.hid hmp
    have Hpn := Lib.hid hpn
    clear hf hmp hpn
    go_enter Tryz.func75, Tryz.ntmps75
    go_wp2_with (first
      | (go_at_call 74; (with_reducible refine (implIsState_any [.int .i64 x.points, .string x.names, .slice A2 x.moves.length C2] x _ _ s _ _ (Rp.keep h0 (by with_reducible repeat (first | exact Only.refl _ _ | assumption | refine Only.drewN ?_ _ | refine Only.drew ?_ | refine Only.alloc ?_ _ | refine Only.setCell ?_ (by intro hh; exfalso; simp at hh; try omega) _ | refine Only.trans ?_ (by assumption)))) (Rp.keep hs (by with_reducible repeat (first | exact Only.refl _ _ | assumption | refine Only.drewN ?_ _ | refine Only.drew ?_ | refine Only.alloc ?_ _ | refine Only.setCell ?_ (by intro hh; exfalso; simp at hh; try omega) _ | refine Only.trans ?_ (by assumption))))).mono ?_); rintro e w1 ⟨rfl, t1⟩; have y1 := t1.cells_eq w.heap.size (by simp) (by simp))
      | (go_at_call 124; (with_reducible refine (implNewChain_i x.points n1 n20 _ x.moves _ _ (Rp.keep h2 (by with_reducible repeat (first | exact Only.refl _ _ | assumption | refine Only.drewN ?_ _ | refine Only.drew ?_ | refine Only.alloc ?_ _ | refine Only.setCell ?_ (by intro hh; exfalso; simp at hh; try omega) _ | refine Only.trans ?_ (by assumption)))) Hmp.out (by omega)).mono ?_); rintro en w3 ⟨L, gv, G, T, M, F, rfl, hoG, hoT, hC, hCh, t3⟩; have HC := Lib.hid hC; have HCh := Lib.hid hCh; have HoT := Lib.hid hoT; clear hC hCh hoT hoG)
      | (go_at_call 125; (with_reducible refine (implHas0 HC.out HCh.out.inv.wf HoT.out (Rp.keep hs (by with_reducible repeat (first | exact Only.refl _ _ | assumption | refine Only.drewN ?_ _ | refine Only.drew ?_ | refine Only.alloc ?_ _ | refine Only.setCell ?_ (by intro hh; exfalso; simp at hh; try omega) _ | refine Only.trans ?_ (by assumption)))) Hpn.out).mono ?_); rintro en w4 ⟨he, t4⟩; rw [memB_has HCh.out (by omega) Hmp.out Hpn.out] at he; subst he) | fail "no arm")
    go_ret
    exact ⟨ret_bool Hf.out.symm, (by with_reducible repeat (first | exact Only.refl _ _ | assumption | refine Only.drewN ?_ _ | refine Only.drew ?_ | refine Only.alloc ?_ _ | refine Only.setCell ?_ (by intro hh; exfalso; simp at hh; try omega) _ | refine Only.trans ?_ (by assumption)))⟩
end Go.Proofs.YtlcoejncdbkhcaaGreat

namespace Go.Proofs.YtlcoejncdbkhcaaGreat
open Go.RowKit
set_option maxRecDepth 10000

structure Session where
  puzzle : Puzzle
  state : List Int
  history : List (List Int)
  future : List (List Int)

instance : Rp Session where
  size := 6
  rep w cs x fp := ∃ c0 v1 v2 v3 f0 f1 f2 f3, cs = c0 ++ [v1] ++ [v2] ++ [v3] ∧ fp = f0 ++ (f1 ++ (f2 ++ f3)) ∧ Rp.rep w c0 x.puzzle f0 ∧ Rd w v1 x.state f1 ∧ Rd w v2 x.history f2 ∧ Rd w v3 x.future f3
  len h := by
    obtain ⟨c0, v1, v2, v3, f0, f1, f2, f3, rfl, -, h0, h1, h2, h3⟩ := h
    simp [Rp.len h0, Rp.size]
  frame h hf := by
    obtain ⟨c0, v1, v2, v3, f0, f1, f2, f3, hcs, rfl, h0, h1, h2, h3⟩ := h
    exact ⟨c0, v1, v2, v3, f0, f1, f2, f3, hcs, rfl, Rp.frame h0 fun b hb => hf b (by simp [hb]), Rp.frame h1 fun b hb => hf b (by simp [hb]), Rp.frame h2 fun b hb => hf b (by simp [hb]), Rp.frame h3 fun b hb => hf b (by simp [hb])⟩
  lt h := by
    obtain ⟨c0, v1, v2, v3, f0, f1, f2, f3, hcs, rfl, h0, h1, h2, h3⟩ := h
    intro b hb
    simp only [List.mem_append] at hb
    rcases hb with hb | hb | hb | hb
    · exact Rp.lt h0 b hb
    · exact Rp.lt h1 b hb
    · exact Rp.lt h2 b hb
    · exact Rp.lt h3 b hb

instance : Mk Session where
  mark k x := ⟨Mk.mark (k) x.puzzle, Mk.mark (k + (Mk.cnt x.puzzle : Nat)) x.state, Mk.mark (k + (Mk.cnt x.puzzle : Nat) + (Mk.cnt x.state : Nat)) x.history, Mk.mark (k + (Mk.cnt x.puzzle : Nat) + (Mk.cnt x.state : Nat) + (Mk.cnt x.history : Nat)) x.future⟩
  cnt x := Mk.cnt x.puzzle + Mk.cnt x.state + Mk.cnt x.history + Mk.cnt x.future
instance : Sz Session where
  sz x := Sz.sz x.puzzle + Sz.sz x.state + Sz.sz x.history + Sz.sz x.future
instance : Sm Session where
  sm x := Sm.sm x.puzzle ∧ Sm.sm x.state ∧ Sm.sm x.history ∧ Sm.sm x.future
instance : SzSm Session := ⟨fun x h => by
  have h' : Sz.sz x.puzzle + Sz.sz x.state + Sz.sz x.history + Sz.sz x.future ≤ 2097152 := h
  exact ⟨SzSm.of_ x.puzzle (by omega), SzSm.of_ x.state (by omega), SzSm.of_ x.history (by omega), SzSm.of_ x.future (by omega)⟩⟩
instance : CntSz Session := ⟨fun x => by
  have h' : Mk.cnt x.puzzle + Mk.cnt x.state + Mk.cnt x.history + Mk.cnt x.future ≤ Sz.sz x.puzzle + Sz.sz x.state + Sz.sz x.history + Sz.sz x.future := by have := CntSz.le x.puzzle; have := CntSz.le x.state; have := CntSz.le x.history; have := CntSz.le x.future; omega
  exact h'⟩
instance : MkL Session := ⟨fun k x => by simp [Mk.mark, Mk.cnt, markL_idem, markL_cnt], fun k x => by simp [Mk.mark, Mk.cnt, markL_cnt]⟩
theorem Session.eq_iff {x y : Session} : x = y ↔ x.puzzle = y.puzzle ∧ x.state = y.state ∧ x.history = y.history ∧ x.future = y.future := by
  cases x; cases y; simp
end Go.Proofs.YtlcoejncdbkhcaaGreat

namespace Go.Proofs.YtlcoejncdbkhcaaGreat
open Go.RowKit
set_option maxRecDepth 10000

/-- the histories: at most 40 valid words of g generators -/
def wordsB (g : Int) (ws : List (List Int)) : Bool := decide (ws.length ≤ 40) && ws.all (validW g)
noncomputable def validSe (s : Session) : Bool := reachB s.puzzle s.state && (wordsB s.puzzle.moves.length s.history && wordsB s.puzzle.moves.length s.future)
theorem wordsB_len {g : Int} {ws : List (List Int)} (h : wordsB g ws = true) : ws.length ≤ 40 ∧ ∀ x ∈ ws, validW g x = true := by
  unfold wordsB at h
  rw [Bool.and_eq_true, decide_eq_true_iff, List.all_eq_true] at h; exact h
theorem wordsB_no {g : Int} {ws : List (List Int)} {j : Nat} (hj : j < ws.length) (h : validW g ws[j] = false) : wordsB g ws = false := by
  unfold wordsB
  have : ws.all (validW g) = false := by
    rw [List.all_eq_false]; exact ⟨ws[j], List.getElem_mem _, by simp [h]⟩
  rw [this]; simp
theorem wordsB_yes {g : Int} {ws : List (List Int)} (h : ws.length ≤ 40) (h2 : ∀ x ∈ ws, validW g x = true) : wordsB g ws = true := by
  unfold wordsB
  simp only [h, decide_true, Bool.true_and, List.all_eq_true]
  exact h2
theorem wordsB_long {g : Int} {ws : List (List Int)} (h : 40 < ws.length) : wordsB g ws = false := by
  unfold wordsB
  have : decide (ws.length ≤ 40) = false := by simp; omega
  rw [this]; rfl
theorem allR_step {pr : List Int → Bool} {l : List (List Int)} {j : Nat} (hj : j < l.length) (h : ∀ x ∈ l.take j, pr x = true) (hp : pr l[j] = true) : ∀ x ∈ l.take (j + 1), pr x = true := by
  rw [take_succ_get l j hj]; intro x hx
  rcases List.mem_append.1 hx with hx | hx
  · exact h x hx
  · simp at hx; subst hx; exact hp
set_option maxHeartbeats 1000000 in
theorem implPIsWord_any (cs : List Value) (x : Puzzle) (fp : List Nat) (v : Value) (s : List Int) (fs : List Nat) (w : World) (h : Rp.rep w cs x fp) (hs : Rd w v s fs) (hm : x.moves.length ≤ 4611686018427387904) :
    Calls Tryz.prog 140 #[.agg cs.toArray, v] w fun e w' => e = .returned (.bool (validW x.moves.length s)) ∧ Only [] w w' := by
  obtain ⟨v2, rfl, p0, p1, h2⟩ := h
  obtain ⟨A2, C2, ob, fps, rfl, -, -⟩ := h2.open_
  go_enter Tryz.func140, Tryz.ntmps140
  go_wp2_with (first
    | (go_at_call 135; (with_reducible refine (lengthRows_rd _ x.moves _ _ (Rp.keep h2 (by with_reducible repeat (first | exact Only.refl _ _ | assumption | refine Only.drewN ?_ _ | refine Only.drew ?_ | refine Only.alloc ?_ _ | refine Only.setCell ?_ (by intro hh; exfalso; simp at hh; try omega) _ | refine Only.trans ?_ (by assumption))))).mono ?_); rintro e w1 ⟨rfl, rfl⟩)
    | (go_at_call 185; (with_reducible refine (IsValidWord_rd x.moves.length _ s _ _ (Rp.keep hs (by with_reducible repeat (first | exact Only.refl _ _ | assumption | refine Only.drewN ?_ _ | refine Only.drew ?_ | refine Only.alloc ?_ _ | refine Only.setCell ?_ (by intro hh; exfalso; simp at hh; try omega) _ | refine Only.trans ?_ (by assumption)))) (by omega) (by omega)).mono ?_); rintro e w2 ⟨rfl, t2⟩)
    | fail "no arm")
  go_ret
  exact ⟨rfl, (by with_reducible repeat (first | exact Only.refl _ _ | assumption | refine Only.drewN ?_ _ | refine Only.drew ?_ | refine Only.alloc ?_ _ | refine Only.setCell ?_ (by intro hh; exfalso; simp at hh; try omega) _ | refine Only.trans ?_ (by assumption)))⟩
end Go.Proofs.YtlcoejncdbkhcaaGreat

namespace Go.Proofs.YtlcoejncdbkhcaaGreat
open Go.RowKit
set_option maxRecDepth 10000

theorem Only.own1 {w W0 w' : World} {g : Nat} (h0 : Only [] w W0) (h : Only [g] W0 w') (hg : w.heap.size ≤ g) : Only [] w w' :=
  h0.then_ h (fun b hb hl => by simp at hb; omega)
def noSess : Session := ⟨⟨0, ⟨#[]⟩, []⟩, [], [], []⟩
def newSess (x : Puzzle) : Session := if validPz x then ⟨x, PM.pts x.points.toNat, [], []⟩ else noSess
theorem noSess_rep (w : World) : Rp.rep w [.int .i64 0, .string ⟨#[]⟩, .slice none 0 0, .slice none 0 0, .slice none 0 0, .slice none 0 0] noSess [] :=
  ⟨[.int .i64 0, .string ⟨#[]⟩, .slice none 0 0], _, _, _, [], [], [], [], rfl, rfl, ⟨_, rfl, ⟨by simp [noSess], by simp [noSess]⟩, by simp [noSess, maxLen, ByteArray.size], nil_rd w⟩, nil_rd w, nil_rd w, nil_rd w⟩
theorem validPz_gens {x : Puzzle} (h : validPz x = true) : 1 ≤ x.points ∧ x.points ≤ 20 ∧ x.moves.length ≤ 8 ∧ ∀ y ∈ x.moves, (y.length : Int) = x.points ∧ permB y = true := by
  unfold validPz at h
  rw [Bool.and_eq_true] at h
  have h1 := h.1
  unfold gensB at h1
  rw [Bool.and_eq_true, Bool.and_eq_true, inR_iff, decide_eq_true_iff, List.all_eq_true] at h1
  refine ⟨h1.1.1.1, h1.1.1.2, h1.1.2, fun y hy => ?_⟩
  have := h1.2 y hy
  unfold genB at this
  rw [Bool.and_eq_true, decide_eq_true_iff] at this
  exact this
end Go.Proofs.YtlcoejncdbkhcaaGreat

namespace Go.Proofs.YtlcoejncdbkhcaaGreat
open Go.RowKit
set_option maxRecDepth 10000

/-- a history with a word more: the oldest one goes if there are too many -/
def pushW (l : List (List Int)) (y : List Int) : List (List Int) := if 40 < l.length + 1 then (l ++ [y]).drop 1 else l ++ [y]
/-- the letters of a word, composed -/
def evW (n : Nat) (gens : List (List Int)) (w : List Int) : List Int := w.foldl (fun p l => PM.comp p (mv gens l)) (PM.pts n)
theorem evW_nil (n : Nat) (gens : List (List Int)) : evW n gens [] = PM.pts n := rfl
theorem evW_snoc (n : Nat) (gens : List (List Int)) (w : List Int) (l : Int) : evW n gens (w ++ [l]) = PM.comp (evW n gens w) (mv gens l) := by simp [evW]
theorem evW_pn {n : Nat} {gens : List (List Int)} (h : ∀ g ∈ gens, PM.PN n g) : ∀ (w : List Int), (∀ l ∈ w, l ∈ ltrs gens.length) → PM.PN n (evW n gens w) := by
  intro w
  have : ∀ (w : List Int) (p : List Int), PM.PN n p → (∀ l ∈ w, l ∈ ltrs gens.length) → PM.PN n (w.foldl (fun p l => PM.comp p (mv gens l)) p) := by
    intro w
    induction w with
    | nil => intro p hp _; exact hp
    | cons l w ih => intro p hp hl; exact ih _ (hp.comp (mv_pn h (hl l (by simp)))) fun x hx => hl x (by simp [hx])
  exact this w _ (PM.PN.id n)
theorem validW_ltrs {m : Nat} (hm : m ≤ 8) {w : List Int} (h : validW m w = true) : w.length ≤ 200 ∧ ∀ l ∈ w, l ∈ ltrs m := by
  unfold validW at h
  rw [Bool.and_eq_true, decide_eq_true_iff, List.all_eq_true] at h
  refine ⟨h.1, fun l hl => ?_⟩
  have := okLetter_iff.1 (h.2 l hl)
  rw [mem_ltrs]; omega

section
variable {α : Type} [Rp α] {w w' : World} {a : Option Addr} {cap : Nat} {xs : List α} {ob : List Nat} {fps : List (List Nat)}
/-- the first k elements -/
theorem SeqA.take (h : SeqA w a cap xs ob fps) (k : Nat) : SeqA w a cap (xs.take k) ob (fps.take k) := by
  have hnf := h.nf
  refine ⟨by have := h.len; simp; omega, h.cap, by simp [hnf], fun j hj => ?_, h.lt, h.one⟩
  have hj' : j < xs.length := by simp at hj; omega
  obtain ⟨b, off, cs, h1, h2, h3, h4⟩ := h.at_ j hj'
  refine ⟨b, off, cs, h1, h2, h3, ?_⟩
  simpa using h4
/-- all but the first element -/
theorem SeqA.drop1 (hs : Rp.size α = 1) {b off : Nat} (h : SeqA w (some ⟨b, off, none⟩) cap xs ob fps) (hx : 0 < xs.length) : SeqA w (some ⟨b, off + 1, none⟩) (cap - 1) (xs.drop 1) ob (fps.drop 1) := by
  have hnf := h.nf
  refine ⟨by have := h.len; simp; omega, by have := h.cap; omega, by simp [hnf], fun j hj => ?_, h.lt, h.one⟩
  have hj' : j + 1 < xs.length := by simp at hj; omega
  obtain ⟨b', off', cs, h1, h2, h3, h4⟩ := h.at_ (j + 1) hj'
  injection h1 with h1; injection h1 with e1 e2; subst e1; subst e2
  refine ⟨b, off + 1, cs, rfl, h2, fun i u hu => ?_, ?_⟩
  · have := h3 i u hu
    rw [hs] at this ⊢
    rwa [show off + 1 + j * 1 + i = off + (j + 1) * 1 + i by omega]
  · simpa using h4
end
/-- a part of own memory gives way to another one -/
theorem Fresh.repl {B : Nat} {w w' : World} {pre mid mid' post fpw : List Nat} (h : Fresh B w (pre ++ (mid ++ post))) (ho : Only fpw w w') (hf : ∀ b ∈ fpw, b ∈ mid) (F' : Fresh B w' mid') (hs : ∀ b ∈ mid', b ∈ mid ∨ w.heap.size ≤ b) : Fresh B w' (pre ++ (mid' ++ post)) := by
  obtain ⟨n1, n2, n3⟩ := List.nodup_append.1 h.nd
  obtain ⟨n4, n5, n6⟩ := List.nodup_append.1 n2
  have lpre : ∀ b ∈ pre, b < w.heap.size := fun b hb => h.lt b (List.mem_append_left _ hb)
  have lpost : ∀ b ∈ post, b < w.heap.size := fun b hb => h.lt b (List.mem_append_right _ (List.mem_append_right _ hb))
  have dpre : ∀ b ∈ pre, b ∉ mid := fun b hb hm => n3 b hb b (List.mem_append_left _ hm) rfl
  have dpost : ∀ b ∈ post, b ∉ mid := fun b hb hm => n6 b hm b hb rfl
  have dpre' : ∀ b ∈ pre, b ∉ mid' := fun b hb hm => by
    rcases hs b hm with h1 | h1
    · exact dpre b hb h1
    · have := lpre b hb; omega
  have dpost' : ∀ b ∈ post, b ∉ mid' := fun b hb hm => by
    rcases hs b hm with h1 | h1
    · exact dpost b hb h1
    · have := lpost b hb; omega
  refine ⟨List.nodup_append.2 ⟨n1, List.nodup_append.2 ⟨F'.nd, n5, fun a ha b hb e => ?_⟩, fun a ha b hb e => ?_⟩, fun b hb => ?_, ?_⟩
  · subst e; exact dpost' a hb ha
  · subst e
    rcases List.mem_append.1 hb with hb | hb
    · exact dpre' a ha hb
    · exact n3 a ha a (List.mem_append_right _ hb) rfl
  · rcases List.mem_append.1 hb with hb | hb
    · exact h.ge b (List.mem_append_left _ hb)
    · rcases List.mem_append.1 hb with hb | hb
      · exact F'.ge b hb
      · exact h.ge b (List.mem_append_right _ (List.mem_append_right _ hb))
  · exact (h.left.own.only ho fun b hb hm => dpre b hb (hf b hm)).append (F'.own.append (h.right.right.own.only ho fun b hb hm => dpost b hb (hf b hm)))
end Go.Proofs.YtlcoejncdbkhcaaGreat

namespace Go.Proofs.YtlcoejncdbkhcaaGreat
open Go.RowKit
set_option maxRecDepth 10000
set_option maxHeartbeats 1000000 in
/-- a move, or its inverse: old memory, or new -/
theorem letterPerm_rd (v : Value) (gens : List (List Int)) (l : Int) (fp : List Nat) (w : World) (h : Rd w v gens fp) (hg : ∀ g ∈ gens, PM.IsP g ∧ g.length ≤ 1000) (hl : l ∈ ltrs gens.length) (hn : gens.length ≤ 1000) :
    Calls Tryz.prog 242 #[v, .int .i64 l] w fun e w' => ∃ v fp', e = .returned v ∧ Rd w' v (mv gens l) fp' ∧ (∀ b ∈ fp', b ∈ fp ∨ w.heap.size ≤ b) ∧ Only [] w w' := by
  obtain ⟨a, cap, ob, fps, rfl, rfl, hs⟩ := h.open_
  have hb := hs.bound
  rcases letter_cases hl with ⟨k, hk, rfl⟩ | ⟨k, hk, rfl⟩
  · have hm := mv_pos rfl hk
    have Hm := Lib.hid hm; clear hm
    obtain ⟨b, off, u, rfl, -, hc, hu⟩ := hs.atRow k hk
    have e1 : wrap64 ((k : Int) + 1 - 1) = (k : Int) := wrap64_lit _ (by omega) (by omega) |>.trans (by omega)
    have e2 : ¬ (k : Int) + 1 < 0 := by omega
    go_enter Tryz.func242, Tryz.ntmps242
    go_wp2
    go_ret
    refine ⟨_, rfl, _, by rw [Hm.out]; exact hu, fun b' hb' => ?_, (by with_reducible repeat (first | exact Only.refl _ _ | assumption | refine Only.drewN ?_ _ | refine Only.drew ?_ | refine Only.alloc ?_ _ | refine Only.setCell ?_ (by intro hh; exfalso; simp at hh; try omega) _ | refine Only.trans ?_ (by assumption)))⟩
    left
    right
    exact ⟨_, List.getElem_mem _, hb'⟩
  · have hm := mv_neg rfl hk
    have Hm := Lib.hid hm; clear hm
    obtain ⟨b, off, u, rfl, -, hc, hu⟩ := hs.atRow k hk
    have e1 : wrap64 (wrap64 (-(-((k : Int) + 1))) - 1) = (k : Int) := by
      rw [wrap64_lit (-(-((k : Int) + 1))) (by omega) (by omega), wrap64_lit _ (by omega) (by omega)]; omega
    have e2 : -((k : Int) + 1) < 0 := by omega
    have hg2 := hg _ (List.getElem_mem hk)
    go_enter Tryz.func242, Tryz.ntmps242
    go_wp2_with ((go_at_call 235; (with_reducible refine (specInverse0_rd u gens[k] _ _ hu hg2.1 hg2.2).mono ?_); rintro e w2 ⟨u2, f2, rfl, r2, F2, t2⟩))
    go_ret
    exact ⟨_, _, rfl, by rw [Hm.out]; exact r2, fun b' hb' => .inr (F2.ge b' hb'), (by with_reducible repeat (first | exact Only.refl _ _ | assumption | refine Only.drewN ?_ _ | refine Only.drew ?_ | refine Only.alloc ?_ _ | refine Only.setCell ?_ (by intro hh; exfalso; simp at hh; try omega) _ | refine Only.trans ?_ (by assumption)))⟩
set_option maxHeartbeats 1000000 in
theorem specEvaluate_any (n : Nat) (hn : n ≤ 20) (vg vl : Value) (gens : List (List Int)) (l : List Int) (fg fl : List Nat) (w : World) (hg : Rd w vg gens fg) (hl : Rd w vl l fl) (hpn : ∀ g ∈ gens, PM.PN n g) (hgl : gens.length ≤ 1000) (hlt : ∀ x ∈ l, x ∈ ltrs gens.length) :
    Calls Tryz.prog 231 #[.int .i64 n, vg, vl] w fun e w' => ∃ v fp', e = .returned v ∧ Rd w' v (evW n gens l) fp' ∧ Fresh w.heap.size w' fp' ∧ Only [] w w' := by
  obtain ⟨a, cap, rfl, IL⟩ := hl.ints
  have hb := IL.bound
  have hg' : ∀ g ∈ gens, PM.IsP g ∧ g.length ≤ 1000 := fun g hg => ⟨(hpn g hg).2, by have := (hpn g hg).1; omega⟩
  have Hg' := Lib.hid hg'
  have Hpn := Lib.hid hpn
  have Hlt := Lib.hid hlt
  have Hg := Lib.hid hg
  clear hg' hpn hlt hl hg
  go_enter Tryz.func231, Tryz.ntmps231
  go_wp2_with (first | (go_at_call 72; (with_reducible refine (specIdentity_any n _ (by omega)).mono ?_); rintro en w1 ⟨v1, f1, rfl, r1, F1, t1⟩) | fail "no arm")
  go_loopw [7, 8] (fun s i wr => ∃ (j : Nat) (f : List Nat), j ≤ l.length ∧ i = .int .i64 j ∧ Rd wr s (evW n gens (l.take j)) f ∧ Fresh w.heap.size wr f ∧ Only [] w wr)
    (fun _ i _ => l.length - (intOf i).toNat)
  case atStart => exact ⟨0, f1, Nat.zero_le _, rfl, r1, F1, t1⟩
  case round =>
    obtain ⟨W2, hnew⟩ : ∃ W, W = wr := ⟨_, rfl⟩
    subst hnew
    obtain ⟨j, f, hj, rfl, hr, hF, hK⟩ := hrel
    by_cases hlt : j < l.length
    · obtain ⟨b, off, rfl, -, hc0⟩ := IL.at_ j hlt
      have hc := hK.cell (by simp) hc0
      have hll := Hlt.out l[j] (List.getElem_mem _)
      have hp := evW_pn Hpn.out (l.take j) fun x hx => Hlt.out x (List.mem_of_mem_take hx)
      have hq := mv_pn Hpn.out hll
      have hst : evW n gens (l.take (j + 1)) = PM.comp (evW n gens (l.take j)) (mv gens l[j]) := by rw [take_succ_get l j hlt, evW_snoc]
      have Hst := Lib.hid hst
      have Hll := Lib.hid hll
      have Hp := Lib.hid hp
      have Hq := Lib.hid hq
      have HK := Lib.hid hK
      have Hr := Lib.hid hr
      have HF := Lib.hid hF
      clear hc0 hll hp hq hK hr hF hst
      go_wp2_with (first
        | (go_at_call 242; (with_reducible refine (letterPerm_rd _ gens l[j] _ _ (Rp.keep Hg.out HK.out) Hg'.out Hll.out hgl).mono ?_); rintro en w3 ⟨v3, f3, rfl, r3, hf3, t3⟩)
        | (go_at_call 230; (with_reducible refine (specCompose_rd n _ _ _ _ _ _ _ (Rp.keep Hr.out t3) r3 Hp.out Hq.out (by omega)).mono ?_); rintro en w4 ⟨v4, f4, rfl, r4, F4, t4⟩)
        | fail "no arm")
      go_roundw
      case rel => exact ⟨j + 1, f4, by omega, by go_num, by rw [Hst.out]; exact r4, F4.mono (Nat.le_trans HK.out.size t3.size), HK.out.trans (t3.trans t4)⟩
      case measure => simp [intOf]; omega
    · obtain rfl : j = l.length := by omega
      rw [List.take_length] at hr
      have Hr := Lib.hid hr
      clear hr
      go_wp2
      go_ret
      exact ⟨_, f, rfl, Hr.out, hF, hK⟩
set_option maxHeartbeats 1000000 in
theorem implEvaluate_any (n : Nat) (hn : n ≤ 20) (vg vl : Value) (gens : List (List Int)) (l : List Int) (fg fl : List Nat) (w : World) (hg : Rd w vg gens fg) (hl : Rd w vl l fl) (hpn : ∀ g ∈ gens, PM.PN n g) (hgl : gens.length ≤ 1000) (hlt : ∀ x ∈ l, x ∈ ltrs gens.length) :
    Calls Tryz.prog 194 #[.int .i64 n, vg, vl] w fun e w' => ∃ v fp', e = .returned v ∧ Rd w' v (evW n gens l) fp' ∧ Fresh w.heap.size w' fp' ∧ Only [] w w' := by
  obtain ⟨a, cap, rfl, IL⟩ := hl.ints
  have hb := IL.bound
  have hg' : ∀ g ∈ gens, PM.IsP g ∧ g.length ≤ 1000 := fun g hg => ⟨(hpn g hg).2, by have := (hpn g hg).1; omega⟩
  have Hg' := Lib.hid hg'
  have Hpn := Lib.hid hpn
  have Hlt := Lib.hid hlt
  have Hg := Lib.hid hg
  clear hg' hpn hlt hl hg
  go_enter Tryz.func194, Tryz.ntmps194
  go_wp2_with (first | (go_at_call 78; (with_reducible refine (implIdentity_any n _ (by omega)).mono ?_); rintro en w1 ⟨v1, f1, rfl, r1, F1, t1⟩) | fail "no arm")
  go_loopw [7, 14] (fun s i wr => ∃ (j : Nat) (f : List Nat), j ≤ l.length ∧ i = .int .i64 j ∧ Rd wr s (evW n gens (l.take j)) f ∧ Fresh w.heap.size wr f ∧ Only [] w wr)
    (fun _ i _ => l.length - (intOf i).toNat)
  case atStart => exact ⟨0, f1, Nat.zero_le _, rfl, r1, F1, t1⟩
  case round =>
    obtain ⟨W2, hnew⟩ : ∃ W, W = wr := ⟨_, rfl⟩
    subst hnew
    obtain ⟨j, f, hj, rfl, hr, hF, hK⟩ := hrel
    by_cases hlt : j < l.length
    · obtain ⟨b, off, rfl, -, hc0⟩ := IL.at_ j hlt
      have hc := hK.cell (by simp) hc0
      have hll := Hlt.out l[j] (List.getElem_mem _)
      have hp := evW_pn Hpn.out (l.take j) fun x hx => Hlt.out x (List.mem_of_mem_take hx)
      have hq := mv_pn Hpn.out hll
      have hst : evW n gens (l.take (j + 1)) = PM.comp (evW n gens (l.take j)) (mv gens l[j]) := by rw [take_succ_get l j hlt, evW_snoc]
      have Hst := Lib.hid hst
      have Hll := Lib.hid hll
      have Hp := Lib.hid hp
      have Hq := Lib.hid hq
      have HK := Lib.hid hK
      have Hr := Lib.hid hr
      have HF := Lib.hid hF
      clear hc0 hll hp hq hK hr hF hst
      go_wp2_with (first
        | (go_at_call 203; (with_reducible refine (letterOf_rd _ gens l[j] _ _ (Rp.keep Hg.out HK.out) Hg'.out Hll.out hgl).mono ?_); rintro en w3 ⟨v3, f3, rfl, r3, hf3, t3⟩)
        | (go_at_call 178; (with_reducible refine (implCompose_rd n _ _ _ _ _ _ _ (Rp.keep Hr.out t3) r3 Hp.out Hq.out (by omega)).mono ?_); rintro en w4 ⟨v4, f4, rfl, r4, F4, t4⟩)
        | fail "no arm")
      go_roundw
      case rel => exact ⟨j + 1, f4, by omega, by go_num, by rw [Hst.out]; exact r4, F4.mono (Nat.le_trans HK.out.size t3.size), HK.out.trans (t3.trans t4)⟩
      case measure => simp [intOf]; omega
    · obtain rfl : j = l.length := by omega
      rw [List.take_length] at hr
      have Hr := Lib.hid hr
      clear hr
      go_wp2
      go_ret
      exact ⟨_, f, rfl, Hr.out, hF, hK⟩
theorem specEvaluate_i (n : Int) (h0 : 1 ≤ n) (hn : n ≤ 20) (vg vl : Value) (gens : List (List Int)) (l : List Int) (fg fl : List Nat) (w : World) (hg : Rd w vg gens fg) (hl : Rd w vl l fl) (hpn : ∀ g ∈ gens, PM.PN n.toNat g) (hgl : gens.length ≤ 1000) (hlt : ∀ x ∈ l, x ∈ ltrs gens.length) :
    Calls Tryz.prog 231 #[.int .i64 n, vg, vl] w fun e w' => ∃ v fp', e = .returned v ∧ Rd w' v (evW n.toNat gens l) fp' ∧ Fresh w.heap.size w' fp' ∧ Only [] w w' := by
  obtain ⟨m, rfl⟩ := Int.eq_ofNat_of_zero_le (by omega : 0 ≤ n)
  exact specEvaluate_any m (by omega) vg vl gens l fg fl w hg hl hpn hgl hlt
theorem implEvaluate_i (n : Int) (h0 : 1 ≤ n) (hn : n ≤ 20) (vg vl : Value) (gens : List (List Int)) (l : List Int) (fg fl : List Nat) (w : World) (hg : Rd w vg gens fg) (hl : Rd w vl l fl) (hpn : ∀ g ∈ gens, PM.PN n.toNat g) (hgl : gens.length ≤ 1000) (hlt : ∀ x ∈ l, x ∈ ltrs gens.length) :
    Calls Tryz.prog 194 #[.int .i64 n, vg, vl] w fun e w' => ∃ v fp', e = .returned v ∧ Rd w' v (evW n.toNat gens l) fp' ∧ Fresh w.heap.size w' fp' ∧ Only [] w w' := by
  obtain ⟨m, rfl⟩ := Int.eq_ofNat_of_zero_le (by omega : 0 ≤ n)
  exact implEvaluate_any m (by omega) vg vl gens l fg fl w hg hl hpn hgl hlt
/-- what a word does to a state -/
def appW (x : Puzzle) (s l : List Int) : List Int := PM.comp s (evW x.points.toNat x.moves l)
set_option maxHeartbeats 1000000 in
theorem implApply_any (cs : List Value) (x : Puzzle) (fp : List Nat) (vs vl : Value) (s l : List Int) (fs fl : List Nat) (w : World) (h : Rp.rep w cs x fp) (hs : Rd w vs s fs) (hl : Rd w vl l fl) (hst : stateB x s = true) (hlt : ∀ y ∈ l, y ∈ ltrs x.moves.length) :
    Calls Tryz.prog 142 #[.agg cs.toArray, vs, vl] w fun e w' => ∃ v fp', e = .returned v ∧ Rd w' v (appW x s l) fp' ∧ Fresh w.heap.size w' fp' ∧ Only [] w w' := by
  have h0 := h
  obtain ⟨v2, rfl, p0, p1, h2⟩ := h
  obtain ⟨A2, C2, ob, fps, rfl, -, -⟩ := h2.open_
  obtain ⟨⟨n1, n20⟩, hml, hmp, hpn⟩ := stateB_pn hst
  have hev := evW_pn hmp l hlt
  have Hmp := Lib.hid hmp
  have Hpn := Lib.hid hpn
  have Hlt := Lib.hid hlt
  have Hev := Lib.hid hev
  clear hmp hpn hlt hev hst
  go_enter Tryz.func142, Tryz.ntmps142
  go_wp2_with (first
    | (go_at_call 194; (with_reducible refine (implEvaluate_i x.points n1 n20 _ _ x.moves l _ _ _ (Rp.keep h2 (by with_reducible repeat (first | exact Only.refl _ _ | assumption | refine Only.drewN ?_ _ | refine Only.drew ?_ | refine Only.alloc ?_ _ | refine Only.setCell ?_ (by intro hh; exfalso; simp at hh; try omega) _ | refine Only.trans ?_ (by assumption)))) (Rp.keep hl (by with_reducible repeat (first | exact Only.refl _ _ | assumption | refine Only.drewN ?_ _ | refine Only.drew ?_ | refine Only.alloc ?_ _ | refine Only.setCell ?_ (by intro hh; exfalso; simp at hh; try omega) _ | refine Only.trans ?_ (by assumption)))) Hmp.out (by omega) Hlt.out).mono ?_); rintro en w3 ⟨v3, f3, rfl, r3, F3, t3⟩)
    | (go_at_call 178; (with_reducible refine (implCompose_rd x.points.toNat _ _ _ _ _ _ _ (Rp.keep hs (by with_reducible repeat (first | exact Only.refl _ _ | assumption | refine Only.drewN ?_ _ | refine Only.drew ?_ | refine Only.alloc ?_ _ | refine Only.setCell ?_ (by intro hh; exfalso; simp at hh; try omega) _ | refine Only.trans ?_ (by assumption)))) r3 Hpn.out Hev.out (by omega)).mono ?_); rintro en w4 ⟨v4, f4, rfl, r4, F4, t4⟩)
    | fail "no arm")
  go_ret
  exact ⟨_, f4, rfl, r4, F4.mono (Only.size (fp := []) (by with_reducible repeat (first | exact Only.refl _ _ | assumption | refine Only.drewN ?_ _ | refine Only.drew ?_ | refine Only.alloc ?_ _ | refine Only.setCell ?_ (by intro hh; exfalso; simp at hh; try omega) _ | refine Only.trans ?_ (by assumption)))), (by with_reducible repeat (first | exact Only.refl _ _ | assumption | refine Only.drewN ?_ _ | refine Only.drew ?_ | refine Only.alloc ?_ _ | refine Only.setCell ?_ (by intro hh; exfalso; simp at hh; try omega) _ | refine Only.trans ?_ (by assumption)))⟩
end Go.Proofs.YtlcoejncdbkhcaaGreat

namespace Go.Proofs.YtlcoejncdbkhcaaGreat
open Go.RowKit
set_option maxRecDepth 10000

theorem pushW_long {l : List (List Int)} {y : List Int} (h : 40 < l.length + 1) : pushW l y = (l ++ [y]).drop 1 := if_pos h
theorem pushW_short {l : List (List Int)} {y : List Int} (h : ¬ 40 < l.length + 1) : pushW l y = l ++ [y] := if_neg h
theorem Rd.frm {α : Type} [Rp α] {w w' : World} {a : Option Addr} {cap : Nat} {xs : List α} {ob : List Nat} {fps : List (List Nat)} (ho : Only [] w w') (h : SeqA w a cap xs ob fps) : ∀ b ∈ ob ++ fps.flatten, w'.heap[b]? = w.heap[b]? :=
  fun b hb => ho.block b (h.lt_all b hb) (by simp)
theorem flatten_take : ∀ (fs : List (List Nat)) (k : Nat), (fs.take k).flatten.Sublist fs.flatten
  | [], _ => by simp
  | _ :: _, 0 => by simp
  | f :: fs, k + 1 => by simpa using List.Sublist.append (List.Sublist.refl f) (flatten_take fs k)
theorem flatten_drop1 (fs : List (List Nat)) : (fs.drop 1).flatten.Sublist fs.flatten := by
  cases fs with
  | nil => simp
  | cons f fs => simp
theorem Fresh.sublist {B : Nat} {w : World} {fp fp' : List Nat} (h : Fresh B w fp) (hs : fp'.Sublist fp) : Fresh B w fp' :=
  ⟨h.nd.sublist hs, fun b hb => h.ge b (hs.subset hb), h.own.sub fun _ hb => hs.subset hb⟩
section
variable {α : Type} [Rp α] {B : Nat} {e : TypeId} {w : World} {v : Value} {l : List α} {fs : List (List Nat)}
/-- an appended slice without its first element: its memory -/
theorem Acc.drop1 (h : Acc B e w v l fs) (hs : Rp.size α = 1) (hl : 0 < l.length) (hf : Fresh B w fs.flatten) :
    ∃ g c fp, v = .slice (some ⟨g, 0, none⟩) l.length c ∧ 1 ≤ c ∧ c ≤ maxLen ∧ l.length ≤ c ∧ Rd w (.slice (some ⟨g, 1, none⟩) (l.length - 1) (c - 1)) (l.drop 1) fp ∧ Fresh B w fp ∧ ∀ b ∈ fp, b ∈ v.ownBlock.toList ++ fs.flatten := by
  obtain ⟨css, ho, hcl, hr⟩ := h.own
  obtain ⟨a, cap, hv, hE, hI⟩ := own_seq (xs := l) (fps := fs) ho (by omega) hcl h.fl hr
  obtain ⟨b, off, cs, e1, e2, -, -⟩ := hI.at_ 0 hl
  have hF := h.fresh hf
  have e3 : off = 0 := by
    rcases ho.2 with ⟨h1, h2⟩ | ⟨g, cp, cur, h1, -⟩
    · omega
    · rw [hv] at h1
      injection h1 with h1 _ _
      rw [e1] at h1
      injection h1 with h1
      injection h1
  subst e1
  subst e3
  have hd := hI.drop1 hs hl
  have h1 := hI.len
  have h2 := hI.cap
  have hlen : (l.drop 1).length = l.length - 1 := by simp
  have hsub : (v.ownBlock.toList ++ (fs.drop 1).flatten).Sublist (v.ownBlock.toList ++ fs.flatten) := List.Sublist.append (List.Sublist.refl _) (flatten_drop1 fs)
  refine ⟨b, cap, _, hv, by omega, h2, h1, ?_, hF.sublist hsub, fun x hx => hsub.subset hx⟩
  have := hd.rd
  rwa [hlen] at this
end
end Go.Proofs.YtlcoejncdbkhcaaGreat

namespace Go.Proofs.YtlcoejncdbkhcaaGreat
open Go.RowKit
set_option maxRecDepth 10000

/-- a session of the call's own, in parts -/
structure SeP (eI : TypeId) (B : Nat) (w : World) (x : Session) (vm vs vh vf : Value) (fm fs : List Nat) (hs us : List (List Nat)) : Prop where
  nm : I64 x.puzzle.points ∧ x.puzzle.names.size ≤ maxLen
  mv : Rd w vm x.puzzle.moves fm
  st : Rd w vs x.state fs
  hi : Acc B eI w vh x.history hs
  fu : Acc B eI w vf x.future us
  fr : Fresh B w (fm ++ (fs ++ ((vh.ownBlock.toList ++ hs.flatten) ++ (vf.ownBlock.toList ++ us.flatten))))
section
variable {eI : TypeId} {B : Nat} {w w' : World} {x : Session} {vm vs vh vf : Value} {fm fs : List Nat} {hs us : List (List Nat)}
theorem SeP.only (h : SeP eI B w x vm vs vh vf fm fs hs us) {fp : List Nat} (ho : Only fp w w') (hd : ∀ b ∈ fp, b < B ∨ w.heap.size ≤ b) : SeP eI B w' x vm vs vh vf fm fs hs us := by
  have key : ∀ b ∈ fm ++ (fs ++ ((vh.ownBlock.toList ++ hs.flatten) ++ (vf.ownBlock.toList ++ us.flatten))), b ∉ fp := fun b hb hm => by
    have h1 := h.fr.ge b hb
    have h2 := h.fr.lt b hb
    rcases hd b hm with h3 | h3 <;> omega
  have k1 : ∀ b ∈ fm, b ∉ fp := fun b hb => key b (List.mem_append_left _ hb)
  have k2 : ∀ b ∈ fs, b ∉ fp := fun b hb => key b (List.mem_append_right _ (List.mem_append_left _ hb))
  have k3 : ∀ b ∈ vh.ownBlock.toList ++ hs.flatten, b ∉ fp := fun b hb => key b (List.mem_append_right _ (List.mem_append_right _ (List.mem_append_left _ hb)))
  have k4 : ∀ b ∈ vf.ownBlock.toList ++ us.flatten, b ∉ fp := fun b hb => key b (List.mem_append_right _ (List.mem_append_right _ (List.mem_append_right _ hb)))
  exact ⟨h.nm, Rp.only h.mv ho k1, Rp.only h.st ho k2, h.hi.only ho (fun b hb => k3 b (List.mem_append_right _ hb)) (fun g hg => k3 g (List.mem_append_left _ (by simp [hg]))), h.fu.only ho (fun b hb => k4 b (List.mem_append_right _ hb)) (fun g hg => k4 g (List.mem_append_left _ (by simp [hg]))), h.fr.only ho key⟩
theorem Acc.mono {α : Type} [Rp α] {B B' : Nat} {e : TypeId} {w : World} {v : Value} {l : List α} {fs : List (List Nat)} (h : Acc B e w v l fs) (hB : B' ≤ B) : Acc B' e w v l fs := by
  obtain ⟨css, ho, hr⟩ := h.own
  refine ⟨⟨css, ⟨ho.1, ?_⟩, hr⟩, h.fl, h.apart⟩
  rcases ho.2 with h1 | ⟨g, cp, cur, h1, h2, h3⟩
  · exact .inl h1
  · exact .inr ⟨g, cp, cur, h1, Nat.le_trans hB h2, h3⟩
theorem SeP.mono (h : SeP eI B w x vm vs vh vf fm fs hs us) {B' : Nat} (hB : B' ≤ B) : SeP eI B' w x vm vs vh vf fm fs hs us :=
  ⟨h.nm, h.mv, h.st, h.hi.mono hB, h.fu.mono hB, h.fr.mono hB⟩
/-- parts made one behind the other -/
theorem SeP.made {w1 w2 w3 w4 : World} (nm : I64 x.puzzle.points ∧ x.puzzle.names.size ≤ maxLen) {B1 : Nat} (r1 : Rd w1 vm x.puzzle.moves fm) (F1 : Fresh B1 w1 fm) (r2 : Rd w2 vs x.state fs) (F2 : Fresh w1.heap.size w2 fs) (r3 : Acc w2.heap.size eI w3 vh x.history hs) (F3 : Fresh w2.heap.size w3 hs.flatten)
    (r4 : Acc w3.heap.size eI w4 vf x.future us) (F4 : Fresh w3.heap.size w4 us.flatten) (t2 : Only [] w1 w2) (t3 : Only [] w2 w3) (t4 : Only [] w3 w4) (hB : B ≤ B1) (hB1 : B1 ≤ w1.heap.size) : SeP eI B w4 x vm vs vh vf fm fs hs us := by
  have s2 := t2.size
  have s3 := t3.size
  have s4 := t4.size
  refine ⟨nm, Rp.keep (Rp.keep (Rp.keep r1 t2) t3) t4, Rp.keep (Rp.keep r2 t3) t4, (r3.keep t4).mono (by omega), r4.mono (by omega), ?_⟩
  have f4 := r4.fresh F4
  have f3 := (r3.fresh F3)
  have f34 := Fresh.append (f3.keep t4) f4 s3 fun b hb => f3.lt b hb
  have f234 := Fresh.append ((F2.keep t3).keep t4) f34 s2 fun b hb => F2.lt b hb
  exact (Fresh.append (((F1.keep t2).keep t3).keep t4) f234 hB1 fun b hb => F1.lt b hb).mono hB
theorem SeP.keep (h : SeP eI B w x vm vs vh vf fm fs hs us) (ho : Only [] w w') : SeP eI B w' x vm vs vh vf fm fs hs us := h.only ho (by simp)
theorem SeP.rep (h : SeP eI B w x vm vs vh vf fm fs hs us) : Rp.rep w [.int .i64 x.puzzle.points, .string x.puzzle.names, vm, vs, vh, vf] x (fm ++ (fs ++ ((vh.ownBlock.toList ++ hs.flatten) ++ (vf.ownBlock.toList ++ us.flatten)))) :=
  ⟨[.int .i64 x.puzzle.points, .string x.puzzle.names, vm], vs, vh, vf, fm, fs, _, _, rfl, rfl, ⟨vm, rfl, h.nm.1, h.nm.2, h.mv⟩, h.st, h.hi.rd (by decide), h.fu.rd (by decide)⟩
end
/-- what a copy leaves -/
def CopyP (eI : TypeId) (w : World) (x : Session) (e : Ending) (w' : World) : Prop :=
  ∃ Am Cm As Cs Ah Ch Af Cf fm fs hs us, e = .returned (.agg #[.int .i64 x.puzzle.points, .string x.puzzle.names, .slice Am x.puzzle.moves.length Cm, .slice As x.state.length Cs, .slice Ah x.history.length Ch, .slice Af x.future.length Cf]) ∧
    SeP eI w.heap.size w' x (.slice Am x.puzzle.moves.length Cm) (.slice As x.state.length Cs) (.slice Ah x.history.length Ch) (.slice Af x.future.length Cf) fm fs hs us ∧ Only [] w w'
theorem validSe_facts {x : Session} (h : validSe x = true) : stateB x.puzzle x.state = true ∧ x.puzzle.moves.length ≤ 8 ∧ (∀ y ∈ x.puzzle.moves, y.length ≤ 2097152) ∧ x.state.length ≤ 20 ∧ x.history.length ≤ 40 ∧ (∀ y ∈ x.history, y.length ≤ 2097152) ∧ x.future.length ≤ 40 ∧ (∀ y ∈ x.future, y.length ≤ 2097152) := by
  unfold validSe at h
  rw [Bool.and_eq_true, Bool.and_eq_true] at h
  obtain ⟨h1, h2, h3⟩ := h
  have hs := reachB_state h1
  obtain ⟨a, b, c, d⟩ := stateB_pn hs
  obtain ⟨l1, l2⟩ := wordsB_len h2
  obtain ⟨l3, l4⟩ := wordsB_len h3
  refine ⟨hs, b, fun y hy => ?_, ?_, l1, fun y hy => ?_, l3, fun y hy => ?_⟩
  · have := (c y hy).1; omega
  · have := d.1; omega
  · have := validW_len (l2 y hy); omega
  · have := validW_len (l4 y hy); omega
end Go.Proofs.YtlcoejncdbkhcaaGreat

namespace Go.Proofs.YtlcoejncdbkhcaaGreat
open Go.RowKit
set_option maxRecDepth 10000

/-- a session and a Bool: own memory -/
def SeRes (x : Session) (b : Bool) (w : World) (e : Ending) (w' : World) : Prop := ∃ cs' fp', e = .returned (.tuple #[.agg cs'.toArray, .bool b]) ∧ Rp.rep w' cs' x fp' ∧ Fresh w.heap.size w' fp' ∧ Only [] w w'
def playW (x : Session) (l : List Int) : Session := ⟨x.puzzle, appW x.puzzle x.state l, pushW x.history l, []⟩
noncomputable def playRes (x : Session) (l : List Int) : Session := if validSe x = true then (if validW x.puzzle.moves.length l = true then playW x l else x) else noSess
noncomputable def playOk (x : Session) (l : List Int) : Bool := validSe x && validW x.puzzle.moves.length l
theorem playRes_no {x : Session} {l : List Int} (h : validSe x = false) : playRes x l = noSess ∧ playOk x l = false := ⟨by unfold playRes; rw [if_neg (by simp [h])], by unfold playOk; rw [h]; rfl⟩
theorem playRes_bad {x : Session} {l : List Int} (h : validSe x = true) (h2 : validW x.puzzle.moves.length l = false) : playRes x l = x ∧ playOk x l = false := ⟨by unfold playRes; rw [if_pos h, if_neg (by simp [h2])], by unfold playOk; rw [h, h2]; rfl⟩
theorem playRes_yes {x : Session} {l : List Int} (h : validSe x = true) (h2 : validW x.puzzle.moves.length l = true) : playRes x l = playW x l ∧ playOk x l = true := ⟨by unfold playRes; rw [if_pos h, if_pos h2], by unfold playOk; rw [h, h2]; rfl⟩
end Go.Proofs.YtlcoejncdbkhcaaGreat

namespace Go.Proofs.YtlcoejncdbkhcaaGreat
open Go.RowKit
set_option maxRecDepth 10000

/-- the last word; what is ahead of it -/
def lastW (ws : List (List Int)) : List Int := ws.getD (ws.length - 1) []
def restW (ws : List (List Int)) : List (List Int) := ws.take (ws.length - 1)
theorem lastW_get {ws : List (List Int)} (h : 0 < ws.length) : lastW ws = ws[ws.length - 1] := by
  unfold lastW; rw [List.getD_eq_getElem?_getD, List.getElem?_eq_getElem (by omega)]; rfl
theorem lastW_mem {ws : List (List Int)} (h : 0 < ws.length) : lastW ws ∈ ws := by rw [lastW_get h]; exact List.getElem_mem _
theorem validSe_letters {x : Session} (h : validSe x = true) (l : List Int) (hl : l ∈ x.history ∨ l ∈ x.future) : validW x.puzzle.moves.length l = true := by
  unfold validSe at h
  rw [Bool.and_eq_true, Bool.and_eq_true] at h
  rcases hl with hl | hl
  · exact (wordsB_len h.2.1).2 l hl
  · exact (wordsB_len h.2.2).2 l hl
theorem restW_len (ws : List (List Int)) : (restW ws).length = ws.length - 1 := by simp [restW]
theorem restW_mem {ws : List (List Int)} {y : List Int} (h : y ∈ restW ws) : y ∈ ws := List.mem_of_mem_take h
section
variable {B : Nat} {e : TypeId} {w : World} {v : Value} {l : List (List Int)} {fs : List (List Nat)}
/-- the last word of a history of the call's own, and the history without it -/
theorem Acc.last (h : Acc B e w v l fs) (hF : Fresh B w fs.flatten) (hl : 0 < l.length) :
    ∃ g c u fu fr, v = .slice (some ⟨g, 0, none⟩) l.length c ∧ l.length ≤ c ∧ c ≤ maxLen ∧ w.cell? ⟨g, l.length - 1, none⟩ = some u ∧ Rd w u (lastW l) fu ∧ (∀ b ∈ fu, b ∈ fs.flatten) ∧
      SeqA w (some ⟨g, 0, none⟩) c l v.ownBlock.toList fs ∧ Rd w (.slice (some ⟨g, 0, none⟩) (l.length - 1) c) (restW l) fr ∧ Fresh B w fr ∧ fr.Sublist (v.ownBlock.toList ++ fs.flatten) := by
  obtain ⟨css, ho, hcl, hr⟩ := h.own
  obtain ⟨a, cap, hv, -, hI⟩ := own_seq (xs := l) (fps := fs) ho (by decide) hcl h.fl hr
  obtain ⟨b, off, u, e1, e2, hc, hu⟩ := hI.atRow (l.length - 1) (by omega)
  have e3 : off = 0 := by
    rcases ho.2 with ⟨h1, h2⟩ | ⟨g, cp, cur, h1, -⟩
    · omega
    · rw [hv] at h1
      injection h1 with h1 _ _
      rw [e1] at h1
      injection h1 with h1
      injection h1
  subst e1
  subst e3
  rw [Nat.zero_add] at hc
  have hsub : (v.ownBlock.toList ++ (fs.take (l.length - 1)).flatten).Sublist (v.ownBlock.toList ++ fs.flatten) := List.Sublist.append (List.Sublist.refl _) (flatten_take fs _)
  refine ⟨b, cap, u, _, _, hv, hI.len, hI.cap, hc, by rw [lastW_get hl]; exact hu, fun x hx => mem_flatten_get (j := l.length - 1) (by rw [h.fl]; omega) hx, hI, ?_, (h.fresh hF).sublist hsub, hsub⟩
  have := (hI.take (l.length - 1)).rd
  rwa [show (l.take (l.length - 1)).length = l.length - 1 by simp] at this
end
section
variable {B : Nat} {w w' : World} {a b c d m' fpw : List Nat}
theorem Fresh.at2 (h : Fresh B w (a ++ (b ++ (c ++ d)))) (ho : Only fpw w w') (hf : ∀ x ∈ fpw, x ∈ b) (F' : Fresh B w' m') (hs : ∀ x ∈ m', x ∈ b ∨ w.heap.size ≤ x) : Fresh B w' (a ++ (m' ++ (c ++ d))) := h.repl ho hf F' hs
theorem Fresh.at3 (h : Fresh B w (a ++ (b ++ (c ++ d)))) (ho : Only fpw w w') (hf : ∀ x ∈ fpw, x ∈ c) (F' : Fresh B w' m') (hs : ∀ x ∈ m', x ∈ c ∨ w.heap.size ≤ x) : Fresh B w' (a ++ (b ++ (m' ++ d))) := by
  have := Fresh.repl (pre := a ++ b) (mid := c) (post := d) (by simpa [List.append_assoc] using h) ho hf F' hs
  simpa [List.append_assoc] using this
theorem Fresh.at4 (h : Fresh B w (a ++ (b ++ (c ++ d)))) (ho : Only fpw w w') (hf : ∀ x ∈ fpw, x ∈ d) (F' : Fresh B w' m') (hs : ∀ x ∈ m', x ∈ d ∨ w.heap.size ≤ x) : Fresh B w' (a ++ (b ++ (c ++ m'))) := by
  have := Fresh.repl (pre := a ++ (b ++ c)) (mid := d) (post := []) (by simpa [List.append_assoc] using h) ho hf F' hs
  simpa [List.append_assoc] using this
theorem Fresh.parts (h : Fresh B w (a ++ (b ++ (c ++ d)))) : (∀ x ∈ a, x ∉ c ∧ x ∉ d) ∧ (∀ x ∈ b, x ∉ c ∧ x ∉ d) ∧ (∀ x ∈ c, x ∉ d) := by
  have n1 := List.nodup_append.1 h.nd
  have n2 := List.nodup_append.1 n1.2.1
  have n3 := List.nodup_append.1 n2.2.1
  refine ⟨fun x hx => ⟨fun hm => n1.2.2 x hx x (by simp [hm]) rfl, fun hm => n1.2.2 x hx x (by simp [hm]) rfl⟩, fun x hx => ⟨fun hm => n2.2.2 x hx x (by simp [hm]) rfl, fun hm => n2.2.2 x hx x (by simp [hm]) rfl⟩, fun x hx hm => n3.2.2 x hx x hm rfl⟩
/-- own memory of four parts -/
theorem Fresh.of4 (Fa : Fresh B w a) (Fb : Fresh B w b) (Fc : Fresh B w c) (Fd : Fresh B w d) (ab : ∀ x ∈ a, x ∉ b) (ac : ∀ x ∈ a, x ∉ c) (ad : ∀ x ∈ a, x ∉ d) (bc : ∀ x ∈ b, x ∉ c) (bd : ∀ x ∈ b, x ∉ d) (cd : ∀ x ∈ c, x ∉ d) : Fresh B w (a ++ (b ++ (c ++ d))) := by
  have mk : ∀ {p q : List Nat}, Fresh B w p → Fresh B w q → (∀ x ∈ p, x ∉ q) → Fresh B w (p ++ q) := fun hp hq hd =>
    ⟨List.nodup_append.2 ⟨hp.nd, hq.nd, fun x hx y hy e => hd x hx (e ▸ hy)⟩, fun x hx => (List.mem_append.1 hx).elim (hp.ge x) (hq.ge x), hp.own.append hq.own⟩
  refine mk Fa (mk Fb (mk Fc Fd cd) fun x hx hm => ?_) fun x hx hm => ?_
  · rcases List.mem_append.1 hm with h | h
    · exact bc x hx h
    · exact bd x hx h
  · rcases List.mem_append.1 hm with h | h
    · exact ab x hx h
    · rcases List.mem_append.1 h with h | h
      · exact ac x hx h
      · exact ad x hx h
end
end Go.Proofs.YtlcoejncdbkhcaaGreat
