/- States and reachable states: the reference's and the program's functions. -/
import Derived.Test.YtpfmkjcngknecaaRowBuildTablesG10
import Derived.Test.YtpfmkjcngknecaaRowBuildTablesG4
namespace Go.Proofs.Ytpfmkjcngknecaa
open Go.RowKit
set_option maxRecDepth 10000

open Classical in
/-- membership in the group that gens generate -/
noncomputable def memB (n : Nat) (gens : List (List Int)) (p : List Int) : Bool := decide (PM.Grp n gens p)
def stateB (x : Puzzle) (s : List Int) : Bool := validPz x && genB x.points s
noncomputable def reachB (x : Puzzle) (s : List Int) : Bool := stateB x s && memB x.points.toNat x.moves s
theorem gensB_iff {n : Int} {gens : List (List Int)} : gensB n gens = true ↔ (1 ≤ n ∧ n ≤ 20) ∧ gens.length ≤ 8 ∧ ∀ g ∈ gens, PM.PN n.toNat g := by
  unfold gensB
  rw [Bool.and_eq_true, Bool.and_eq_true, inR_iff, decide_eq_true_iff, List.all_eq_true]
  constructor
  · rintro ⟨⟨h1, h2⟩, h3⟩
    refine ⟨h1, h2, fun g hg => ?_⟩
    have h := h3 g hg
    unfold genB at h
    rw [Bool.and_eq_true, decide_eq_true_iff, permB_iff] at h
    exact ⟨by omega, h.2.2⟩
  · rintro ⟨h1, h2, h3⟩
    refine ⟨⟨h1, h2⟩, fun g hg => ?_⟩
    obtain ⟨h4, h5⟩ := h3 g hg
    unfold genB
    rw [Bool.and_eq_true, decide_eq_true_iff, permB_iff]
    exact ⟨by omega, ⟨by omega, by omega⟩, h5⟩
theorem genB_iff {n : Int} {g : List Int} (h0 : 1 ≤ n) (h1 : n ≤ 20) : genB n g = true ↔ PM.PN n.toNat g := by
  unfold genB
  rw [Bool.and_eq_true, decide_eq_true_iff, permB_iff]
  constructor
  · rintro ⟨h2, -, h3⟩; exact ⟨by omega, h3⟩
  · rintro ⟨h2, h3⟩; exact ⟨by omega, ⟨by omega, by omega⟩, h3⟩
theorem validPz_gensB {x : Puzzle} (h : validPz x = true) : gensB x.points x.moves = true := by
  unfold validPz at h
  rw [Bool.and_eq_true] at h
  exact h.1
theorem stateB_pn {x : Puzzle} {s : List Int} (h : stateB x s = true) : (1 ≤ x.points ∧ x.points ≤ 20) ∧ x.moves.length ≤ 8 ∧ (∀ g ∈ x.moves, PM.PN x.points.toNat g) ∧ PM.PN x.points.toNat s := by
  unfold stateB at h
  rw [Bool.and_eq_true] at h
  obtain ⟨a, b, c⟩ := gensB_iff.1 (validPz_gensB h.1)
  exact ⟨a, b, c, (genB_iff a.1 a.2).1 h.2⟩
theorem reachB_state {x : Puzzle} {s : List Int} (h : reachB x s = true) : stateB x s = true := by
  unfold reachB at h
  rw [Bool.and_eq_true] at h; exact h.1
theorem stateB_valid {x : Puzzle} {s : List Int} (h : stateB x s = true) : validPz x = true := by
  unfold stateB at h
  rw [Bool.and_eq_true] at h; exact h.1
set_option maxHeartbeats 1000000 in
theorem isPermOf_rd (n : Int) (v : Value) (s : List Int) (fp : List Nat) (w : World) (h : Rd w v s fp) :
    Calls Try.prog 107 #[.int .i64 n, v] w fun e w' => e = .returned (.bool (genB n s)) ∧ Drew w w' := by
  obtain ⟨a, cap, rfl, hI⟩ := h.ints
  have hb := hI.bound
  by_cases c1 : (s.length : Int) = n
  · have d1 : ((s.length : Int) == n) = true := by simp [c1]
    have hg : genB n s = permB s := by simp [genB, c1]
    have Hg := Lib.hid hg; clear hg c1
    go_enter Try.func107, Try.ntmps107
    go_wp2_with ((go_at_call 109; (with_reducible refine (specIsPerm_rd _ s fp _ h).mono ?_); rintro e w1 ⟨rfl, t1⟩))
    go_ret
    exact ⟨ret_bool Hg.out.symm, t1⟩
  · have d1 : ((s.length : Int) == n) = false := by simp [c1]
    have hg : genB n s = false := by simp [genB, c1]
    have Hg := Lib.hid hg; clear hg c1
    go_enter Try.func107, Try.ntmps107
    go_wp2
    go_ret
    exact ⟨ret_bool Hg.out.symm, Drew.refl _⟩
set_option maxHeartbeats 1000000 in
theorem specIsState_any (cs : List Value) (x : Puzzle) (fp : List Nat) (v : Value) (s : List Int) (fs : List Nat) (w : World) (h : Rp.rep w cs x fp) (hs : Rd w v s fs) :
    Calls Try.prog 77 #[.agg cs.toArray, v] w fun e w' => e = .returned (.bool (stateB x s)) ∧ Only [] w w' := by
  have h0 := h
  obtain ⟨v2, rfl, p0, p1, h2⟩ := h
  obtain ⟨A2, C2, ob, fps, rfl, -, -⟩ := h2.open_
  rcases hq : validPz x
  all_goals have hf : stateB x s = (validPz x && genB x.points s) := rfl
  all_goals rw [hq] at hf
  all_goals have Hf := Lib.hid hf
  all_goals clear hf
  all_goals go_enter Try.func77, Try.ntmps77
  all_goals go_wp2_with (first | (go_at_call 84; (with_reducible refine (specIsValidPuzzle_any [.int .i64 x.points, .string x.names, .slice A2 x.moves.length C2] x _ _ (Rp.keep h0 (by with_reducible repeat (first | exact Only.refl _ _ | assumption | refine Only.drewN ?_ _ | refine Only.drew ?_ | refine Only.alloc ?_ _ | refine Only.setCell ?_ (by intro hh; exfalso; simp at hh; try omega) _ | refine Only.trans ?_ (by assumption))))).mono ?_); rintro e w1 ⟨rfl, t1⟩; have y1 := t1.cells_eq w.heap.size (by simp) (by simp)) | (go_at_call 107; (with_reducible refine (isPermOf_rd x.points _ s _ _ (Rp.keep hs (by with_reducible repeat (first | exact Only.refl _ _ | assumption | refine Only.drewN ?_ _ | refine Only.drew ?_ | refine Only.alloc ?_ _ | refine Only.setCell ?_ (by intro hh; exfalso; simp at hh; try omega) _ | refine Only.trans ?_ (by assumption))))).mono ?_); rintro e w2 ⟨rfl, d2⟩; have t2 := d2.only []) | fail "no arm")
  all_goals go_ret
  all_goals exact ⟨ret_bool Hf.out.symm, (by with_reducible repeat (first | exact Only.refl _ _ | assumption | refine Only.drewN ?_ _ | refine Only.drew ?_ | refine Only.alloc ?_ _ | refine Only.setCell ?_ (by intro hh; exfalso; simp at hh; try omega) _ | refine Only.trans ?_ (by assumption)))⟩
set_option maxHeartbeats 1000000 in
theorem implIsStateOf_any (cs : List Value) (x : Puzzle) (fp : List Nat) (v : Value) (s : List Int) (fs : List Nat) (w : World) (h : Rp.rep w cs x fp) (hs : Rd w v s fs) :
    Calls Try.prog 112 #[.agg cs.toArray, v] w fun e w' => e = .returned (.bool (genB x.points s)) ∧ Only [] w w' := by
  have h0 := h
  obtain ⟨v2, rfl, p0, p1, h2⟩ := h
  obtain ⟨A2, C2, ob, fps, rfl, -, -⟩ := h2.open_
  by_cases c1 : (s.length : Int) = x.points
  · have d1 : ((s.length : Int) == x.points) = true := by simp [c1]
    have hg : genB x.points s = permB s := by simp [genB, c1]
    have Hg := Lib.hid hg; clear hg c1
    go_enter Try.func112, Try.ntmps112
    go_wp2
    go_quiet (first
      | (go_at_call 91; exact quiet_drewN0 (lengthInt_q _ s fs _ (Rp.keep hs (by with_reducible repeat (first | exact Only.refl _ _ | assumption | refine Only.drewN ?_ _ | refine Only.drew ?_ | refine Only.alloc ?_ _ | refine Only.setCell ?_ (by intro hh; exfalso; simp at hh; try omega) _ | refine Only.trans ?_ (by assumption))))))
      | (go_at_call 91; exact quiet_drewN (lengthInt_q _ s fs _ (Rp.keep hs (by with_reducible repeat (first | exact Only.refl _ _ | assumption | refine Only.drewN ?_ _ | refine Only.drew ?_ | refine Only.alloc ?_ _ | refine Only.setCell ?_ (by intro hh; exfalso; simp at hh; try omega) _ | refine Only.trans ?_ (by assumption))))))
      | (go_at_call 134; exact quiet_drewN (implIsPerm_rd _ s fs _ (Rp.keep hs (by with_reducible repeat (first | exact Only.refl _ _ | assumption | refine Only.drewN ?_ _ | refine Only.drew ?_ | refine Only.alloc ?_ _ | refine Only.setCell ?_ (by intro hh; exfalso; simp at hh; try omega) _ | refine Only.trans ?_ (by assumption))))))
      | (go_at_call 134; exact quiet_drewN0 (implIsPerm_rd _ s fs _ (Rp.keep hs (by with_reducible repeat (first | exact Only.refl _ _ | assumption | refine Only.drewN ?_ _ | refine Only.drew ?_ | refine Only.alloc ?_ _ | refine Only.setCell ?_ (by intro hh; exfalso; simp at hh; try omega) _ | refine Only.trans ?_ (by assumption)))))))
    go_wp2
    go_ret
    exact ⟨ret_bool Hg.out.symm, (by with_reducible repeat (first | exact Only.refl _ _ | assumption | refine Only.drewN ?_ _ | refine Only.drew ?_ | refine Only.alloc ?_ _ | refine Only.setCell ?_ (by intro hh; exfalso; simp at hh; try omega) _ | refine Only.trans ?_ (by assumption)))⟩
  · have d1 : ((s.length : Int) == x.points) = false := by simp [c1]
    have hg : genB x.points s = false := by simp [genB, c1]
    have Hg := Lib.hid hg; clear hg c1
    go_enter Try.func112, Try.ntmps112
    go_wp2
    go_quiet (first
      | (go_at_call 91; exact quiet_drewN0 (lengthInt_q _ s fs _ (Rp.keep hs (by with_reducible repeat (first | exact Only.refl _ _ | assumption | refine Only.drewN ?_ _ | refine Only.drew ?_ | refine Only.alloc ?_ _ | refine Only.setCell ?_ (by intro hh; exfalso; simp at hh; try omega) _ | refine Only.trans ?_ (by assumption))))))
      | (go_at_call 91; exact quiet_drewN (lengthInt_q _ s fs _ (Rp.keep hs (by with_reducible repeat (first | exact Only.refl _ _ | assumption | refine Only.drewN ?_ _ | refine Only.drew ?_ | refine Only.alloc ?_ _ | refine Only.setCell ?_ (by intro hh; exfalso; simp at hh; try omega) _ | refine Only.trans ?_ (by assumption)))))))
    go_wp2
    go_ret
    exact ⟨ret_bool Hg.out.symm, (by with_reducible repeat (first | exact Only.refl _ _ | assumption | refine Only.drewN ?_ _ | refine Only.drew ?_ | refine Only.alloc ?_ _ | refine Only.setCell ?_ (by intro hh; exfalso; simp at hh; try omega) _ | refine Only.trans ?_ (by assumption)))⟩
set_option maxHeartbeats 1000000 in
theorem implIsState_any (cs : List Value) (x : Puzzle) (fp : List Nat) (v : Value) (s : List Int) (fs : List Nat) (w : World) (h : Rp.rep w cs x fp) (hs : Rd w v s fs) :
    Calls Try.prog 79 #[.agg cs.toArray, v] w fun e w' => e = .returned (.bool (stateB x s)) ∧ Only [] w w' := by
  have h0 := h
  obtain ⟨v2, rfl, p0, p1, h2⟩ := h
  obtain ⟨A2, C2, ob, fps, rfl, -, -⟩ := h2.open_
  rcases hq : validPz x
  all_goals have hf : stateB x s = (validPz x && genB x.points s) := rfl
  all_goals rw [hq] at hf
  all_goals have Hf := Lib.hid hf
  all_goals clear hf
  all_goals go_enter Try.func79, Try.ntmps79
  all_goals go_wp2_with (first | (go_at_call 85; (with_reducible refine (implIsValidPuzzle_any [.int .i64 x.points, .string x.names, .slice A2 x.moves.length C2] x _ _ (Rp.keep h0 (by with_reducible repeat (first | exact Only.refl _ _ | assumption | refine Only.drewN ?_ _ | refine Only.drew ?_ | refine Only.alloc ?_ _ | refine Only.setCell ?_ (by intro hh; exfalso; simp at hh; try omega) _ | refine Only.trans ?_ (by assumption))))).mono ?_); rintro e w1 ⟨rfl, t1⟩; have y1 := t1.cells_eq w.heap.size (by simp) (by simp)) | (go_at_call 112; (with_reducible refine (implIsStateOf_any [.int .i64 x.points, .string x.names, .slice A2 x.moves.length C2] x _ _ s _ _ (Rp.keep h0 (by with_reducible repeat (first | exact Only.refl _ _ | assumption | refine Only.drewN ?_ _ | refine Only.drew ?_ | refine Only.alloc ?_ _ | refine Only.setCell ?_ (by intro hh; exfalso; simp at hh; try omega) _ | refine Only.trans ?_ (by assumption)))) (Rp.keep hs (by with_reducible repeat (first | exact Only.refl _ _ | assumption | refine Only.drewN ?_ _ | refine Only.drew ?_ | refine Only.alloc ?_ _ | refine Only.setCell ?_ (by intro hh; exfalso; simp at hh; try omega) _ | refine Only.trans ?_ (by assumption))))).mono ?_); rintro e w2 ⟨rfl, t2⟩) | fail "no arm")
  all_goals go_ret
  all_goals exact ⟨ret_bool Hf.out.symm, (by with_reducible repeat (first | exact Only.refl _ _ | assumption | refine Only.drewN ?_ _ | refine Only.drew ?_ | refine Only.alloc ?_ _ | refine Only.setCell ?_ (by intro hh; exfalso; simp at hh; try omega) _ | refine Only.trans ?_ (by assumption)))⟩
theorem specSift0 {e : TypeId} {B : Nat} {L : Lay} {gv : Nat → Value} {n : Nat} {G : PM.Gens} {T : PM.Rows} {M F : List Nat} {w : World} (hC : Ch e B w L gv n G T M F) (hw : PM.WF n T) (hT : L.oT = 1)
    {vp : Value} {p : List Int} {fp : List Nat} (hp : Rd w vp p fp) (pp : PM.PN n p) :
    Calls Try.prog 131 #[.pointer (some ⟨L.g, 0, none⟩), .int .i64 0, vp] w fun e w' => ∃ (v : Value) (lv : Nat), e = .returned (.tuple #[v, .int .i64 lv]) ∧ PM.has T n n p = decide (lv = n) ∧ Only [] w w' :=
  specSift_any w hC hw hT 0 vp p fp (Nat.zero_le _) hp pp
set_option maxHeartbeats 1000000 in
theorem chainHas_any {e : TypeId} {B : Nat} {L : Lay} {gv : Nat → Value} {n : Nat} {G : PM.Gens} {T : PM.Rows} {M F : List Nat} (w : World) (hC : Ch e B w L gv n G T M F) (hw : PM.WF n T) (hT : L.oT = 1)
    (vp : Value) (p : List Int) (fp : List Nat) (hp : Rd w vp p fp) (pp : PM.PN n p) :
    Calls Try.prog 110 #[.pointer (some ⟨L.g, 0, none⟩), vp] w fun e w' => e = .returned (.bool (PM.has T n n p)) ∧ Only [] w w' := by
  have cn0 := hC.cn
  obtain ⟨ap, cp, rfl, -⟩ := hp.ints
  rcases hh : PM.has T n n p
  · have Hh := Lib.hid hh
    clear hh
    go_enter Try.func110, Try.ntmps110
    go_wp2_with (first | (go_at_call 131; (with_reducible refine (specSift0 hC hw hT hp pp).mono ?_); rintro en w1 ⟨v1, lv1, rfl, he, t1⟩; rw [Hh.out] at he; have hlv : lv1 ≠ n := of_decide_eq_false he.symm; clear he; have hlv2 : ((lv1 : Int) == (n : Int)) = false := (by rw [beq_eq_false_iff_ne]; omega); have cn1 := t1.cell (by simp) cn0) | fail "no arm")
    go_ret
    exact ⟨rfl, t1⟩
  · have Hh := Lib.hid hh
    clear hh
    go_enter Try.func110, Try.ntmps110
    go_wp2_with (first | (go_at_call 131; (with_reducible refine (specSift0 hC hw hT hp pp).mono ?_); rintro en w1 ⟨v1, lv1, rfl, he, t1⟩; rw [Hh.out] at he; have hlv : n = lv1 := (of_decide_eq_true he.symm).symm; clear he; subst hlv; have cn1 := t1.cell (by simp) cn0) | fail "no arm")
    go_ret
    exact ⟨rfl, t1⟩
theorem memB_has {n : Nat} {gens : List (List Int)} {G : PM.Gens} {T : PM.Rows} (h : PM.Chain n gens G T) (hn : 0 < n) (hp : ∀ g ∈ gens, PM.PN n g) {p : List Int} (hpn : PM.PN n p) : PM.has T n n p = memB n gens p := by
  rw [Bool.eq_iff_iff, h.has_iff hn hp hpn]
  unfold memB
  simp
set_option maxHeartbeats 1000000 in
theorem specIsMember_yes (n : Nat) (vg vp : Value) (gens : List (List Int)) (p : List Int) (fg fp : List Nat) (w : World) (hg : Rd w vg gens fg) (hp : Rd w vp p fp) (hgs : gensB n gens = true) (hpn : PM.PN n p) :
    Calls Try.prog 78 #[.int .i64 n, vg, vp] w fun e w' => e = .returned (.bool (memB n gens p)) ∧ Only [] w w' := by
  obtain ⟨h1, h2, h3⟩ := gensB_iff.1 hgs
  have hn : 0 < n := by omega
  have hn20 : n ≤ 20 := by omega
  have h3' : ∀ g ∈ gens, PM.PN n g := fun g hg => by simpa using h3 g hg
  have hpm : permB p = true := permB_iff.2 ⟨by have := hpn.1; omega, hpn.2⟩
  have hlen : ((p.length : Int) == (n : Int)) = true := by rw [beq_iff_eq]; have := hpn.1; omega
  obtain ⟨ap, cp, rfl, hIp⟩ := hp.ints
  have hb := hIp.bound
  have Hgs := Lib.hid hgs
  have Hpn := Lib.hid hpn
  have H3 := Lib.hid h3'
  have Hpm := Lib.hid hpm
  clear h1 h3 h3' hgs hpn hpm
  go_enter Try.func78, Try.ntmps78
  go_wp2_with (first
    | (go_at_call 108; (with_reducible refine (specIsGens_rd n vg gens fg _ (Rp.keep hg (by with_reducible repeat (first | exact Only.refl _ _ | assumption | refine Only.drewN ?_ _ | refine Only.drew ?_ | refine Only.alloc ?_ _ | refine Only.setCell ?_ (by intro hh; exfalso; simp at hh; try omega) _ | refine Only.trans ?_ (by assumption))))).mono ?_); rintro en w1 ⟨he, d1⟩; rw [Hgs.out] at he; subst he; have t1 := d1.only [])
    | (go_at_call 109; (with_reducible refine (specIsPerm_rd _ p fp _ (Rp.keep hp (by with_reducible repeat (first | exact Only.refl _ _ | assumption | refine Only.drewN ?_ _ | refine Only.drew ?_ | refine Only.alloc ?_ _ | refine Only.setCell ?_ (by intro hh; exfalso; simp at hh; try omega) _ | refine Only.trans ?_ (by assumption))))).mono ?_); rintro en w2 ⟨he, d2⟩; rw [Hpm.out] at he; subst he; have t2 := d2.only [])
    | (go_at_call 111; (with_reducible refine (buildChain_any n hn hn20 vg gens fg _ (Rp.keep hg (by with_reducible repeat (first | exact Only.refl _ _ | assumption | refine Only.drewN ?_ _ | refine Only.drew ?_ | refine Only.alloc ?_ _ | refine Only.setCell ?_ (by intro hh; exfalso; simp at hh; try omega) _ | refine Only.trans ?_ (by assumption)))) H3.out (by omega)).mono ?_); rintro en w3 ⟨L, gv, G, T, M, F, rfl, hoG, hoT, hC, hCh, t3⟩; have HC := Lib.hid hC; have HCh := Lib.hid hCh; have HoT := Lib.hid hoT; clear hC hCh hoT hoG)
    | (go_at_call 110; (with_reducible refine (chainHas_any _ HC.out HCh.out.inv.wf HoT.out _ p fp (Rp.keep hp (by with_reducible repeat (first | exact Only.refl _ _ | assumption | refine Only.drewN ?_ _ | refine Only.drew ?_ | refine Only.alloc ?_ _ | refine Only.setCell ?_ (by intro hh; exfalso; simp at hh; try omega) _ | refine Only.trans ?_ (by assumption)))) Hpn.out).mono ?_); rintro en w4 ⟨he, t4⟩; rw [memB_has HCh.out hn H3.out Hpn.out] at he; subst he)
    | fail "no arm")
  go_ret
  exact ⟨rfl, (by with_reducible repeat (first | exact Only.refl _ _ | assumption | refine Only.drewN ?_ _ | refine Only.drew ?_ | refine Only.alloc ?_ _ | refine Only.setCell ?_ (by intro hh; exfalso; simp at hh; try omega) _ | refine Only.trans ?_ (by assumption)))⟩
theorem specIsMember_i (n : Int) (vg vp : Value) (gens : List (List Int)) (p : List Int) (fg fp : List Nat) (w : World) (hg : Rd w vg gens fg) (hp : Rd w vp p fp) (hgs : gensB n gens = true) (hpn : PM.PN n.toNat p) :
    Calls Try.prog 78 #[.int .i64 n, vg, vp] w fun e w' => e = .returned (.bool (memB n.toNat gens p)) ∧ Only [] w w' := by
  have h1 := (gensB_iff.1 hgs).1
  obtain ⟨m, rfl⟩ := Int.eq_ofNat_of_zero_le (by omega : 0 ≤ n)
  exact specIsMember_yes m vg vp gens p fg fp w hg hp hgs hpn
set_option maxHeartbeats 1000000 in
theorem specIsReachable_any (cs : List Value) (x : Puzzle) (fp : List Nat) (v : Value) (s : List Int) (fs : List Nat) (w : World) (h : Rp.rep w cs x fp) (hs : Rd w v s fs) :
    Calls Try.prog 44 #[.agg cs.toArray, v] w fun e w' => e = .returned (.bool (reachB x s)) ∧ Only [] w w' := by
  have h0 := h
  obtain ⟨v2, rfl, p0, p1, h2⟩ := h
  obtain ⟨A2, C2, ob, fps, rfl, -, -⟩ := h2.open_
  rcases hq : stateB x s
  · have hf : reachB x s = false := by unfold reachB; rw [hq]; rfl
    have Hf := Lib.hid hf
    clear hf
    go_enter Try.func44, Try.ntmps44
    go_wp2_with (first
      | (go_at_call 77; (with_reducible refine (specIsState_any [.int .i64 x.points, .string x.names, .slice A2 x.moves.length C2] x _ _ s _ _ (Rp.keep h0 (by with_reducible repeat (first | exact Only.refl _ _ | assumption | refine Only.drewN ?_ _ | refine Only.drew ?_ | refine Only.alloc ?_ _ | refine Only.setCell ?_ (by intro hh; exfalso; simp at hh; try omega) _ | refine Only.trans ?_ (by assumption)))) (Rp.keep hs (by with_reducible repeat (first | exact Only.refl _ _ | assumption | refine Only.drewN ?_ _ | refine Only.drew ?_ | refine Only.alloc ?_ _ | refine Only.setCell ?_ (by intro hh; exfalso; simp at hh; try omega) _ | refine Only.trans ?_ (by assumption))))).mono ?_); rintro e w1 ⟨rfl, t1⟩; have y1 := t1.cells_eq w.heap.size (by simp) (by simp)) | fail "no arm")
    go_ret
    exact ⟨ret_bool Hf.out.symm, (by with_reducible repeat (first | exact Only.refl _ _ | assumption | refine Only.drewN ?_ _ | refine Only.drew ?_ | refine Only.alloc ?_ _ | refine Only.setCell ?_ (by intro hh; exfalso; simp at hh; try omega) _ | refine Only.trans ?_ (by assumption)))⟩
  · have hf : reachB x s = memB x.points.toNat x.moves s := by unfold reachB; rw [hq]; rfl
    have Hf := Lib.hid hf
    have hgs := validPz_gensB (stateB_valid hq)
    have hpn := (stateB_pn hq).2.2.2
    have Hgs := Lib.hid hgs
    have Hpn := Lib.hid hpn
    clear hf hgs hpn
    go_enter Try.func44, Try.ntmps44
    go_wp2_with (first
      | (go_at_call 77; (with_reducible refine (specIsState_any [.int .i64 x.points, .string x.names, .slice A2 x.moves.length C2] x _ _ s _ _ (Rp.keep h0 (by with_reducible repeat (first | exact Only.refl _ _ | assumption | refine Only.drewN ?_ _ | refine Only.drew ?_ | refine Only.alloc ?_ _ | refine Only.setCell ?_ (by intro hh; exfalso; simp at hh; try omega) _ | refine Only.trans ?_ (by assumption)))) (Rp.keep hs (by with_reducible repeat (first | exact Only.refl _ _ | assumption | refine Only.drewN ?_ _ | refine Only.drew ?_ | refine Only.alloc ?_ _ | refine Only.setCell ?_ (by intro hh; exfalso; simp at hh; try omega) _ | refine Only.trans ?_ (by assumption))))).mono ?_); rintro e w1 ⟨rfl, t1⟩; have y1 := t1.cells_eq w.heap.size (by simp) (by simp))
      | (go_at_call 78; (with_reducible refine (specIsMember_i x.points _ _ x.moves s _ _ _ (Rp.keep h2 (by with_reducible repeat (first | exact Only.refl _ _ | assumption | refine Only.drewN ?_ _ | refine Only.drew ?_ | refine Only.alloc ?_ _ | refine Only.setCell ?_ (by intro hh; exfalso; simp at hh; try omega) _ | refine Only.trans ?_ (by assumption)))) (Rp.keep hs (by with_reducible repeat (first | exact Only.refl _ _ | assumption | refine Only.drewN ?_ _ | refine Only.drew ?_ | refine Only.alloc ?_ _ | refine Only.setCell ?_ (by intro hh; exfalso; simp at hh; try omega) _ | refine Only.trans ?_ (by assumption)))) Hgs.out Hpn.out).mono ?_); rintro e w2 ⟨rfl, t2⟩) | fail "no arm")
    go_ret
    exact ⟨ret_bool Hf.out.symm, (by with_reducible repeat (first | exact Only.refl _ _ | assumption | refine Only.drewN ?_ _ | refine Only.drew ?_ | refine Only.alloc ?_ _ | refine Only.setCell ?_ (by intro hh; exfalso; simp at hh; try omega) _ | refine Only.trans ?_ (by assumption)))⟩
theorem implHas0 {e : TypeId} {B : Nat} {L : Lay} {gv : Nat → Value} {n : Nat} {G : PM.Gens} {T : PM.Rows} {M F : List Nat} {w : World} (hC : Ch e B w L gv n G T M F) (hw : PM.WF n T) (hT : L.oT = 2)
    {vp : Value} {p : List Int} {fp : List Nat} (hp : Rd w vp p fp) (pp : PM.PN n p) :
    Calls Try.prog 81 #[.pointer (some ⟨L.g, 0, none⟩), .int .i64 0, vp] w fun e w' => e = .returned (.bool (PM.has T n n p)) ∧ Only [] w w' :=
  implHas_any w hC hw hT 0 vp p fp (Nat.zero_le _) hp pp
theorem implNewChain_i (n : Int) (hn : 1 ≤ n) (hn20 : n ≤ 20) (vg : Value) (gens : List (List Int)) (fpg : List Nat) (w : World) (hg : Rd w vg gens fpg) (hpn : ∀ g ∈ gens, PM.PN n.toNat g) (hgl : gens.length ≤ 1000) :
    Calls Try.prog 80 #[.int .i64 n, vg] w fun e w' => ∃ (L : Lay) (gv : Nat → Value) (G : PM.Gens) (T : PM.Rows) (M F : List Nat), e = .returned (.pointer (some ⟨L.g, 0, none⟩)) ∧ L.oG = 1 ∧ L.oT = 2 ∧ Ch 25 w.heap.size w' L gv n.toNat G T M F ∧ PM.Chain n.toNat gens G T ∧ Only [] w w' := by
  obtain ⟨m, rfl⟩ := Int.eq_ofNat_of_zero_le (by omega : 0 ≤ n)
  exact implNewChain_any m (by omega) (by omega) vg gens fpg w hg hpn hgl
set_option maxHeartbeats 1000000 in
theorem implIsReachable_any (cs : List Value) (x : Puzzle) (fp : List Nat) (v : Value) (s : List Int) (fs : List Nat) (w : World) (h : Rp.rep w cs x fp) (hs : Rd w v s fs) :
    Calls Try.prog 46 #[.agg cs.toArray, v] w fun e w' => e = .returned (.bool (reachB x s)) ∧ Only [] w w' := by
  have h0 := h
  obtain ⟨v2, rfl, p0, p1, h2⟩ := h
  obtain ⟨A2, C2, ob, fps, rfl, -, -⟩ := h2.open_
  rcases hq : stateB x s
  · have hf : reachB x s = false := by unfold reachB; rw [hq]; rfl
    have Hf := Lib.hid hf
    clear hf
    go_enter Try.func46, Try.ntmps46
    go_wp2_with (first
      | (go_at_call 79; (with_reducible refine (implIsState_any [.int .i64 x.points, .string x.names, .slice A2 x.moves.length C2] x _ _ s _ _ (Rp.keep h0 (by with_reducible repeat (first | exact Only.refl _ _ | assumption | refine Only.drewN ?_ _ | refine Only.drew ?_ | refine Only.alloc ?_ _ | refine Only.setCell ?_ (by intro hh; exfalso; simp at hh; try omega) _ | refine Only.trans ?_ (by assumption)))) (Rp.keep hs (by with_reducible repeat (first | exact Only.refl _ _ | assumption | refine Only.drewN ?_ _ | refine Only.drew ?_ | refine Only.alloc ?_ _ | refine Only.setCell ?_ (by intro hh; exfalso; simp at hh; try omega) _ | refine Only.trans ?_ (by assumption))))).mono ?_); rintro e w1 ⟨rfl, t1⟩; have y1 := t1.cells_eq w.heap.size (by simp) (by simp)) | fail "no arm")
    go_ret
    exact ⟨ret_bool Hf.out.symm, (by with_reducible repeat (first | exact Only.refl _ _ | assumption | refine Only.drewN ?_ _ | refine Only.drew ?_ | refine Only.alloc ?_ _ | refine Only.setCell ?_ (by intro hh; exfalso; simp at hh; try omega) _ | refine Only.trans ?_ (by assumption)))⟩
  · have hf : reachB x s = memB x.points.toNat x.moves s := by unfold reachB; rw [hq]; rfl
    have Hf := Lib.hid hf
    obtain ⟨⟨n1, n20⟩, hml, hmp, hpn⟩ := stateB_pn hq
    have Hmp := Lib.hid hmp
    have Hpn := Lib.hid hpn
    clear hf hmp hpn
    go_enter Try.func46, Try.ntmps46
    go_wp2_with (first
      | (go_at_call 79; (with_reducible refine (implIsState_any [.int .i64 x.points, .string x.names, .slice A2 x.moves.length C2] x _ _ s _ _ (Rp.keep h0 (by with_reducible repeat (first | exact Only.refl _ _ | assumption | refine Only.drewN ?_ _ | refine Only.drew ?_ | refine Only.alloc ?_ _ | refine Only.setCell ?_ (by intro hh; exfalso; simp at hh; try omega) _ | refine Only.trans ?_ (by assumption)))) (Rp.keep hs (by with_reducible repeat (first | exact Only.refl _ _ | assumption | refine Only.drewN ?_ _ | refine Only.drew ?_ | refine Only.alloc ?_ _ | refine Only.setCell ?_ (by intro hh; exfalso; simp at hh; try omega) _ | refine Only.trans ?_ (by assumption))))).mono ?_); rintro e w1 ⟨rfl, t1⟩; have y1 := t1.cells_eq w.heap.size (by simp) (by simp))
      | (go_at_call 80; (with_reducible refine (implNewChain_i x.points n1 n20 _ x.moves _ _ (Rp.keep h2 (by with_reducible repeat (first | exact Only.refl _ _ | assumption | refine Only.drewN ?_ _ | refine Only.drew ?_ | refine Only.alloc ?_ _ | refine Only.setCell ?_ (by intro hh; exfalso; simp at hh; try omega) _ | refine Only.trans ?_ (by assumption)))) Hmp.out (by omega)).mono ?_); rintro en w3 ⟨L, gv, G, T, M, F, rfl, hoG, hoT, hC, hCh, t3⟩; have HC := Lib.hid hC; have HCh := Lib.hid hCh; have HoT := Lib.hid hoT; clear hC hCh hoT hoG)
      | (go_at_call 81; (with_reducible refine (implHas0 HC.out HCh.out.inv.wf HoT.out (Rp.keep hs (by with_reducible repeat (first | exact Only.refl _ _ | assumption | refine Only.drewN ?_ _ | refine Only.drew ?_ | refine Only.alloc ?_ _ | refine Only.setCell ?_ (by intro hh; exfalso; simp at hh; try omega) _ | refine Only.trans ?_ (by assumption)))) Hpn.out).mono ?_); rintro en w4 ⟨he, t4⟩; rw [memB_has HCh.out (by omega) Hmp.out Hpn.out] at he; subst he) | fail "no arm")
    go_ret
    exact ⟨ret_bool Hf.out.symm, (by with_reducible repeat (first | exact Only.refl _ _ | assumption | refine Only.drewN ?_ _ | refine Only.drew ?_ | refine Only.alloc ?_ _ | refine Only.setCell ?_ (by intro hh; exfalso; simp at hh; try omega) _ | refine Only.trans ?_ (by assumption)))⟩
end Go.Proofs.Ytpfmkjcngknecaa
