/- Members of ranks that are not there; the program's NextMember, CountMembersBelow (law 34). The laws' drawn tracked sets (laws 10, 11). The laws' drawn puzzles (laws 10, 11). The laws' own comparison of numbers: likeInts (laws 10, 11). The law on ranks (law 34): its walk. -/
import Derived.Test.YtnagknkllkdkaaaRowRanksG12
import Derived.Test.YtnagknkllkdkaaaRowRanksG8
import Derived.Test.YtnagknkllkdkaaaRowRanksG11
namespace Go.Proofs.Ytnagknkllkdkaaa
open Go.RowKit
set_option maxRecDepth 10000

set_option maxHeartbeats 1000000 in
theorem implMemberAt_bad (n : Int) (vg : Value) (gens : List (List Int)) (fpg : List Nat) (k : Int) (w : World) (hg : Rd w vg gens fpg) (hgs : gensB n gens = false) :
    Calls Try.prog 17 #[.int .i64 n, vg, .int .i64 k] w fun e w' => e = .returned (.tuple #[.slice none 0 0, .bool false]) ∧ Only [] w w' := by
  have Hgs := Lib.hid hgs
  clear hgs
  go_enter Try.func17, Try.ntmps17
  go_wp2_with (first
    | (go_at_call 46; (with_reducible refine (implIsGens_rd n vg gens fpg w hg).mono ?_); rintro en w1 ⟨he, t1⟩; rw [Hgs.out] at he; subst he)
    | fail "no arm")
  exact bodyPost_ret (v := .tuple #[.slice none 0 0, .bool false]) (by simp [results, Try.results17, go_sem]) rfl ⟨rfl, t1⟩
set_option maxHeartbeats 1000000 in
theorem specMemberAt_bad (n : Int) (vg : Value) (gens : List (List Int)) (fpg : List Nat) (k : Int) (w : World) (hg : Rd w vg gens fpg) (hgs : gensB n gens = false) :
    Calls Try.prog 18 #[.int .i64 n, vg, .int .i64 k] w fun e w' => ∃ b, e = .returned (.tuple #[.slice (some ⟨b, 0, none⟩) 0 0, .bool false]) ∧ Only [] w w' := by
  have Hgs := Lib.hid hgs
  clear hgs
  go_enter Try.func18, Try.ntmps18
  go_wp2_with (first
    | (go_at_call 47; (with_reducible refine (specIsGens_rd n vg gens fpg w hg).mono ?_); rintro en w1 ⟨he, t1⟩; rw [Hgs.out] at he; subst he; have t1 := t1.only [])
    | fail "no arm")
  exact bodyPost_ret (v := .tuple #[.slice (some ⟨w1.heap.size, 0, none⟩) 0 0, .bool false]) (by simp [results, Try.results18, go_sem]) rfl ⟨_, rfl, t1.alloc _⟩
set_option maxHeartbeats 1000000 in
theorem implMemberAt_out (n : Nat) (vg : Value) (gens : List (List Int)) (fpg : List Nat) (k : Int) (w : World) (hg : Rd w vg gens fpg) (hgs : gensB n gens = true) (hk : ¬ (0 ≤ k ∧ k < (ordC n gens n : Int))) :
    Calls Try.prog 17 #[.int .i64 n, vg, .int .i64 k] w fun e w' => e = .returned (.tuple #[.slice none 0 0, .bool false]) ∧ Only [] w w' := by
  obtain ⟨⟨n1, n20⟩, hgl, hpn⟩ := gensB_iff.1 hgs
  have hpn' : ∀ g ∈ gens, PM.PN n g := by simpa using hpn
  have hn : 0 < n := by omega
  have hn20 : n ≤ 20 := by omega
  have Hgs := Lib.hid hgs
  have Hpn := Lib.hid hpn'
  have Hk := Lib.hid hk
  clear hpn hpn' hgs hk
  go_enter Try.func17, Try.ntmps17
  go_wp2_with (first
    | (go_at_call 46; (with_reducible refine (implIsGens_rd n vg gens fpg w hg).mono ?_); rintro en w1 ⟨he, t1⟩; rw [Hgs.out] at he; subst he)
    | (go_at_call 37; (with_reducible refine (implNewChain_any n hn hn20 vg gens fpg w1 (Rp.keep hg t1) Hpn.out (by omega)).mono ?_); rintro en w4 ⟨L, gv, G, T, M, F, rfl, -, hoT, hC, hCh, t4⟩; have HC := Lib.hid hC; have HCh := Lib.hid hCh; have HoT := Lib.hid hoT; clear hC hCh hoT)
    | (go_at_call 39; (with_reducible refine (memberAt_no n k w4 HC.out HCh.out HoT.out Hpn.out Hk.out).mono ?_); rintro en w5 ⟨rfl, t5⟩)
    | fail "no arm")
  exact bodyPost_ret (v := .tuple #[.slice none 0 0, .bool false]) (by simp [results, Try.results17, go_sem]) rfl ⟨rfl, (t1.trans t4).trans t5⟩
set_option maxHeartbeats 2000000 in
theorem specMemberAt_out (n : Nat) (vg : Value) (gens : List (List Int)) (fpg : List Nat) (k : Int) (w : World) (hg : Rd w vg gens fpg) (hgs : gensB n gens = true) (hk : ¬ (0 ≤ k ∧ k < (ordC n gens n : Int))) :
    Calls Try.prog 18 #[.int .i64 n, vg, .int .i64 k] w fun e w' => ∃ b, e = .returned (.tuple #[.slice (some ⟨b, 0, none⟩) 0 0, .bool false]) ∧ Only [] w w' := by
  obtain ⟨⟨n1, n20⟩, hgl, hpn⟩ := gensB_iff.1 hgs
  have hpn' : ∀ g ∈ gens, PM.PN n g := by simpa using hpn
  have hn : 0 < n := by omega
  have hn20 : n ≤ 20 := by omega
  obtain ⟨G0, T0, h0⟩ := rank_chain n vg gens fpg w hg hgs
  have ho1 := ordC_pos h0 hn hpn' (Nat.le_refl _)
  have ho2 := ordC_le h0 hn hpn' hn20 (Nat.le_refl _)
  obtain ⟨od, hod⟩ : ∃ od, od = ordC n gens n := ⟨_, rfl⟩
  rw [← hod] at ho1 ho2 hk
  have HRng : Hid (inR k 0 ((od : Nat) - 1 : Int) = false) := Lib.hid (by
    rcases hq : inR k 0 ((od : Nat) - 1 : Int)
    · rfl
    · have := inR_iff.1 hq; omega)
  have hwo : IntKind.i64.wrap ((od : Int) - 1) = (od : Int) - 1 := by rw [IntKind.wrap_i64]; omega
  have Hgs := Lib.hid hgs
  have Hpn := Lib.hid hpn'
  have Hod := Lib.hid hod
  clear hpn hpn' hgs hk h0 hod
  go_enter Try.func18, Try.ntmps18
  go_wp2_with (first
    | (go_at_call 47; (with_reducible refine (specIsGens_rd n vg gens fpg w hg).mono ?_); rintro en w1 ⟨he, t1⟩; rw [Hgs.out] at he; subst he; have t1 := t1.only [])
    | (go_at_call 48; (with_reducible refine (buildChain_any n hn hn20 vg gens fpg w1 (Rp.keep hg t1) Hpn.out (by omega)).mono ?_); rintro en w3 ⟨L, gv, G, T, M, F, rfl, hoG, hoT, hC, hCh, t3⟩; have HC := Lib.hid hC; have HCh := Lib.hid hCh; have HoT := Lib.hid hoT; clear hC hCh hoT hoG)
    | (go_at_call 50; (with_reducible refine (chainOrder_any w3 HC.out HCh.out.inv.wf HoT.out).mono ?_); rintro en w4 ⟨he, t4⟩; rw [ordC_eq HCh.out hn Hpn.out (Nat.le_refl _), ← Hod.out] at he; subst he)
    | (go_at_call 49; (with_reducible refine (inRange_any k 0 ((od : Int) - 1) _).mono ?_); rintro e w4' ⟨he, h1⟩; rw [HRng.out] at he; subst he; rw [h1]; clear h1)
    | fail "no arm")
  exact bodyPost_ret (v := .tuple #[.slice (some ⟨w4.heap.size, 0, none⟩) 0 0, .bool false]) (by simp [results, Try.results18, go_sem]) rfl ⟨_, rfl, ((t1.trans t3).trans t4).alloc _⟩
set_option maxHeartbeats 1000000 in
theorem implCountBelow_m (n : Nat) (vg vp : Value) (gens : List (List Int)) (p : List Int) (fpg fp : List Nat) (k : Nat) (w : World) (hg : Rd w vg gens fpg) (hp : Rd w vp p fp) (hgs : gensB n gens = true) (hk : k < ordC n gens n) (hpe : p = memAt n gens k) (hpp : PM.PN n p) :
    Calls Try.prog 22 #[.int .i64 n, vg, vp] w fun e w' => e = .returned (.int .i64 k) ∧ Only [] w w' := by
  obtain ⟨⟨n1, n20⟩, hgl, hpn⟩ := gensB_iff.1 hgs
  have hpn' : ∀ g ∈ gens, PM.PN n g := by simpa using hpn
  have hn : 0 < n := by omega
  have hn20 : n ≤ 20 := by omega
  have Hpb := Lib.hid (permB_iff.2 ⟨by rw [hpp.1]; omega, hpp.2⟩)
  have Hpl := Lib.hid hpp.1
  have Hgs := Lib.hid hgs
  have Hpn := Lib.hid hpn'
  have Hk := Lib.hid hk
  have Hpe := Lib.hid hpe
  clear hpn hpn' hgs hk hpe hpp
  go_enter Try.func22, Try.ntmps22
  go_wp2_with (first
    | (go_at_call 46; (with_reducible refine (implIsGens_rd n vg gens fpg w hg).mono ?_); rintro en w1 ⟨he, t1⟩; rw [Hgs.out] at he; subst he)
    | (go_at_call 55; (with_reducible refine (lengthInt_q vp p fp _ (Rp.keep hp (by with_reducible repeat (first | exact Only.refl _ _ | assumption | refine Only.drewN ?_ _ | refine Only.drew ?_ | refine Only.alloc ?_ _ | refine Only.setCell ?_ (by intro hh; exfalso; simp at hh; try omega) _ | refine Only.trans ?_ (by assumption))))).mono ?_); rintro en w2 ⟨he, n2, rfl⟩; rw [Hpl.out] at he; subst he)
    | (go_at_call 56; (with_reducible refine (implIsPerm_rd vp p fp _ (Rp.keep hp (by with_reducible repeat (first | exact Only.refl _ _ | assumption | refine Only.drewN ?_ _ | refine Only.drew ?_ | refine Only.alloc ?_ _ | refine Only.setCell ?_ (by intro hh; exfalso; simp at hh; try omega) _ | refine Only.trans ?_ (by assumption))))).mono ?_); rintro en w3 ⟨he, n3, rfl⟩; rw [Hpb.out] at he; subst he)
    | (go_at_call 37; (with_reducible refine (implNewChain_any n hn hn20 vg gens fpg _ (Rp.keep hg (by with_reducible repeat (first | exact Only.refl _ _ | assumption | refine Only.drewN ?_ _ | refine Only.drew ?_ | refine Only.alloc ?_ _ | refine Only.setCell ?_ (by intro hh; exfalso; simp at hh; try omega) _ | refine Only.trans ?_ (by assumption)))) Hpn.out (by omega)).mono ?_); rintro en w4 ⟨L, gv, G, T, M, F, rfl, -, hoT, hC, hCh, t4⟩; have HC := Lib.hid hC; have HCh := Lib.hid hCh; have HoT := Lib.hid hoT; clear hC hCh hoT)
    | (go_at_call 57; (with_reducible refine (implCountBelow_at n k vp p fp w4 HC.out HCh.out HoT.out Hpn.out (Rp.keep hp (by with_reducible repeat (first | exact Only.refl _ _ | assumption | refine Only.drewN ?_ _ | refine Only.drew ?_ | refine Only.alloc ?_ _ | refine Only.setCell ?_ (by intro hh; exfalso; simp at hh; try omega) _ | refine Only.trans ?_ (by assumption)))) Hk.out Hpe.out).mono ?_); rintro en w5 ⟨rfl, t5⟩)
    | fail "no arm")
  go_ret
  exact ⟨rfl, (by with_reducible repeat (first | exact Only.refl _ _ | assumption | refine Only.drewN ?_ _ | refine Only.drew ?_ | refine Only.alloc ?_ _ | refine Only.setCell ?_ (by intro hh; exfalso; simp at hh; try omega) _ | refine Only.trans ?_ (by assumption)))⟩
set_option maxHeartbeats 1000000 in
theorem implNext_yes (n : Nat) (vg vp : Value) (gens : List (List Int)) (p : List Int) (fpg fp : List Nat) (k : Nat) (w : World) (hg : Rd w vg gens fpg) (hp : Rd w vp p fp) (hgs : gensB n gens = true) (hk : k < ordC n gens n) (hpe : p = memAt n gens k) (hpp : PM.PN n p) (hk1 : k + 1 < ordC n gens n) :
    Calls Try.prog 20 #[.int .i64 n, vg, vp] w fun e w' => ∃ v f, e = .returned (.tuple #[v, .bool true]) ∧ Rd w' v (memAt n gens (k + 1)) f ∧ Only [] w w' := by
  obtain ⟨⟨n1, n20⟩, hgl, hpn⟩ := gensB_iff.1 hgs
  have hpn' : ∀ g ∈ gens, PM.PN n g := by simpa using hpn
  have hn : 0 < n := by omega
  have hn20 : n ≤ 20 := by omega
  obtain ⟨G0, T0, h0⟩ := rank_chain n vg gens fpg w hg hgs
  have Hpb := Lib.hid (permB_iff.2 ⟨by rw [hpp.1]; omega, hpp.2⟩)
  have Hpl := Lib.hid hpp.1
  have Hgs := Lib.hid hgs
  have Hpn := Lib.hid hpn'
  have hkI : (k : Int) < 9223372036854775807 := by have := ordC_le h0 hn hpn' hn20 (j := n) (Nat.le_refl _); omega
  have Hk := Lib.hid hk
  have Hk1 := Lib.hid hk1
  obtain ⟨k2, hk2⟩ : ∃ k2, k2 = k + 1 := ⟨_, rfl⟩
  rw [← hk2] at Hk1 ⊢
  have hwk : IntKind.i64.wrap ((k : Int) + 1) = (k2 : Int) := by rw [hk2, IntKind.wrap_i64]; omega
  have Hpe := Lib.hid hpe
  clear hpn hpn' hgs hk hpe hpp hk1 h0 hk2
  go_enter Try.func20, Try.ntmps20
  go_wp2_with (first
    | (go_at_call 46; (with_reducible refine (implIsGens_rd n vg gens fpg w hg).mono ?_); rintro en w1 ⟨he, t1⟩; rw [Hgs.out] at he; subst he)
    | (go_at_call 55; (with_reducible refine (lengthInt_q vp p fp _ (Rp.keep hp (by with_reducible repeat (first | exact Only.refl _ _ | assumption | refine Only.drewN ?_ _ | refine Only.drew ?_ | refine Only.alloc ?_ _ | refine Only.setCell ?_ (by intro hh; exfalso; simp at hh; try omega) _ | refine Only.trans ?_ (by assumption))))).mono ?_); rintro en w2 ⟨he, n2, rfl⟩; rw [Hpl.out] at he; subst he)
    | (go_at_call 56; (with_reducible refine (implIsPerm_rd vp p fp _ (Rp.keep hp (by with_reducible repeat (first | exact Only.refl _ _ | assumption | refine Only.drewN ?_ _ | refine Only.drew ?_ | refine Only.alloc ?_ _ | refine Only.setCell ?_ (by intro hh; exfalso; simp at hh; try omega) _ | refine Only.trans ?_ (by assumption))))).mono ?_); rintro en w3 ⟨he, n3, rfl⟩; rw [Hpb.out] at he; subst he)
    | (go_at_call 37; (with_reducible refine (implNewChain_any n hn hn20 vg gens fpg _ (Rp.keep hg (by with_reducible repeat (first | exact Only.refl _ _ | assumption | refine Only.drewN ?_ _ | refine Only.drew ?_ | refine Only.alloc ?_ _ | refine Only.setCell ?_ (by intro hh; exfalso; simp at hh; try omega) _ | refine Only.trans ?_ (by assumption)))) Hpn.out (by omega)).mono ?_); rintro en w4 ⟨L, gv, G, T, M, F, rfl, -, hoT, hC, hCh, t4⟩; have HC := Lib.hid hC; have HCh := Lib.hid hCh; have HoT := Lib.hid hoT; clear hC hCh hoT)
    | (go_at_call 57; (with_reducible refine (implCountBelow_at n k vp p fp w4 HC.out HCh.out HoT.out Hpn.out (Rp.keep hp (by with_reducible repeat (first | exact Only.refl _ _ | assumption | refine Only.drewN ?_ _ | refine Only.drew ?_ | refine Only.alloc ?_ _ | refine Only.setCell ?_ (by intro hh; exfalso; simp at hh; try omega) _ | refine Only.trans ?_ (by assumption)))) Hk.out Hpe.out).mono ?_); rintro en w5 ⟨rfl, t5⟩)
    | (go_at_call 39; (with_reducible refine (memberAt_yes n k2 w5 (HC.out.keep t5) HCh.out HoT.out Hpn.out Hk1.out).mono ?_); rintro en w6 ⟨v6, f6, rfl, r6, F6, t6⟩)
    | fail "no arm")
  exact bodyPost_ret (v := .tuple #[v6, .bool true]) (by simp [results, Try.results20, go_sem]) rfl ⟨v6, f6, rfl, r6, (by with_reducible repeat (first | exact Only.refl _ _ | assumption | refine Only.drewN ?_ _ | refine Only.drew ?_ | refine Only.alloc ?_ _ | refine Only.setCell ?_ (by intro hh; exfalso; simp at hh; try omega) _ | refine Only.trans ?_ (by assumption)))⟩
set_option maxHeartbeats 1000000 in
theorem implNext_no (n : Nat) (vg vp : Value) (gens : List (List Int)) (p : List Int) (fpg fp : List Nat) (k : Nat) (w : World) (hg : Rd w vg gens fpg) (hp : Rd w vp p fp) (hgs : gensB n gens = true) (hk : k < ordC n gens n) (hpe : p = memAt n gens k) (hpp : PM.PN n p) (hk1 : ¬ k + 1 < ordC n gens n) :
    Calls Try.prog 20 #[.int .i64 n, vg, vp] w fun e w' => e = .returned (.tuple #[.slice none 0 0, .bool false]) ∧ Only [] w w' := by
  obtain ⟨⟨n1, n20⟩, hgl, hpn⟩ := gensB_iff.1 hgs
  have hpn' : ∀ g ∈ gens, PM.PN n g := by simpa using hpn
  have hn : 0 < n := by omega
  have hn20 : n ≤ 20 := by omega
  obtain ⟨G0, T0, h0⟩ := rank_chain n vg gens fpg w hg hgs
  have Hpb := Lib.hid (permB_iff.2 ⟨by rw [hpp.1]; omega, hpp.2⟩)
  have Hpl := Lib.hid hpp.1
  have Hgs := Lib.hid hgs
  have Hpn := Lib.hid hpn'
  have hkI : (k : Int) < 9223372036854775807 := by have := ordC_le h0 hn hpn' hn20 (j := n) (Nat.le_refl _); omega
  have Hk := Lib.hid hk
  have Hk1 : Hid (¬ (0 ≤ ((k + 1 : Nat) : Int) ∧ ((k + 1 : Nat) : Int) < (ordC n gens n : Int))) := Lib.hid (by omega)
  obtain ⟨k2, hk2⟩ : ∃ k2, k2 = k + 1 := ⟨_, rfl⟩
  rw [← hk2] at Hk1
  have hwk : IntKind.i64.wrap ((k : Int) + 1) = (k2 : Int) := by rw [hk2, IntKind.wrap_i64]; omega
  have Hpe := Lib.hid hpe
  clear hpn hpn' hgs hk hpe hpp hk1 h0 hk2
  go_enter Try.func20, Try.ntmps20
  go_wp2_with (first
    | (go_at_call 46; (with_reducible refine (implIsGens_rd n vg gens fpg w hg).mono ?_); rintro en w1 ⟨he, t1⟩; rw [Hgs.out] at he; subst he)
    | (go_at_call 55; (with_reducible refine (lengthInt_q vp p fp _ (Rp.keep hp (by with_reducible repeat (first | exact Only.refl _ _ | assumption | refine Only.drewN ?_ _ | refine Only.drew ?_ | refine Only.alloc ?_ _ | refine Only.setCell ?_ (by intro hh; exfalso; simp at hh; try omega) _ | refine Only.trans ?_ (by assumption))))).mono ?_); rintro en w2 ⟨he, n2, rfl⟩; rw [Hpl.out] at he; subst he)
    | (go_at_call 56; (with_reducible refine (implIsPerm_rd vp p fp _ (Rp.keep hp (by with_reducible repeat (first | exact Only.refl _ _ | assumption | refine Only.drewN ?_ _ | refine Only.drew ?_ | refine Only.alloc ?_ _ | refine Only.setCell ?_ (by intro hh; exfalso; simp at hh; try omega) _ | refine Only.trans ?_ (by assumption))))).mono ?_); rintro en w3 ⟨he, n3, rfl⟩; rw [Hpb.out] at he; subst he)
    | (go_at_call 37; (with_reducible refine (implNewChain_any n hn hn20 vg gens fpg _ (Rp.keep hg (by with_reducible repeat (first | exact Only.refl _ _ | assumption | refine Only.drewN ?_ _ | refine Only.drew ?_ | refine Only.alloc ?_ _ | refine Only.setCell ?_ (by intro hh; exfalso; simp at hh; try omega) _ | refine Only.trans ?_ (by assumption)))) Hpn.out (by omega)).mono ?_); rintro en w4 ⟨L, gv, G, T, M, F, rfl, -, hoT, hC, hCh, t4⟩; have HC := Lib.hid hC; have HCh := Lib.hid hCh; have HoT := Lib.hid hoT; clear hC hCh hoT)
    | (go_at_call 57; (with_reducible refine (implCountBelow_at n k vp p fp w4 HC.out HCh.out HoT.out Hpn.out (Rp.keep hp (by with_reducible repeat (first | exact Only.refl _ _ | assumption | refine Only.drewN ?_ _ | refine Only.drew ?_ | refine Only.alloc ?_ _ | refine Only.setCell ?_ (by intro hh; exfalso; simp at hh; try omega) _ | refine Only.trans ?_ (by assumption)))) Hk.out Hpe.out).mono ?_); rintro en w5 ⟨rfl, t5⟩)
    | (go_at_call 39; (with_reducible refine (memberAt_no n (k2 : Int) w5 (HC.out.keep t5) HCh.out HoT.out Hpn.out Hk1.out).mono ?_); rintro en w6 ⟨rfl, t6⟩)
    | fail "no arm")
  exact bodyPost_ret (v := .tuple #[.slice none 0 0, .bool false]) (by simp [results, Try.results20, go_sem]) rfl ⟨rfl, (by with_reducible repeat (first | exact Only.refl _ _ | assumption | refine Only.drewN ?_ _ | refine Only.drew ?_ | refine Only.alloc ?_ _ | refine Only.setCell ?_ (by intro hh; exfalso; simp at hh; try omega) _ | refine Only.trans ?_ (by assumption)))⟩
end Go.Proofs.Ytnagknkllkdkaaa

namespace Go.Proofs.Ytnagknkllkdkaaa
open Go.RowKit
set_option maxRecDepth 10000
end Go.Proofs.Ytnagknkllkdkaaa

namespace Go.Proofs.Ytnagknkllkdkaaa
open Go.RowKit
set_option maxRecDepth 10000
end Go.Proofs.Ytnagknkllkdkaaa

namespace Go.Proofs.Ytnagknkllkdkaaa
open Go.RowKit
set_option maxRecDepth 10000

set_option maxHeartbeats 400000 in
theorem likeInts_any (a a' : Option Addr) (cap cap' : Nat) (l l' : List Int) (fp fp' : List Nat) (w : World) (h : IntsA w a cap l fp) (h' : IntsA w a' cap' l' fp') :
    Calls Try.prog 19 #[.slice a l.length cap, .slice a' l'.length cap'] w fun e w' => e = .returned (.bool (eqV l l')) ∧ Drew w w' := by
  have hb := h.bound
  have hb' := h'.bound
  by_cases hl : l.length = l'.length
  · have hne : ((l.length : Int) != (l'.length : Int)) = false := by simp [hl]
    have Hl := Lib.hid hl; clear hl
    go_enter Try.func19, Try.ntmps19
    go_wp2
    go_loopw [5] (fun i wr => ∃ j : Nat, j ≤ l.length ∧ i = .int .i64 j ∧ l.take j = l'.take j ∧ Drew w wr)
      (fun i _ => l.length - (intOf i).toNat)
    case atStart => exact ⟨0, Nat.zero_le _, rfl, rfl, Drew.refl _⟩
    case round =>
      obtain ⟨j, hj, rfl, hr, n, rfl⟩ := hrel
      have Hr := Lib.hid hr; clear hr
      by_cases hlt : j < l.length
      · have hlt' : j < l'.length := by have := Hl.out; omega
        obtain ⟨b, off, ha, -, hc⟩ := h.at_ j hlt
        obtain ⟨b', off', ha', -, hc'⟩ := h'.at_ j hlt'
        go_wp2
        go_quiet (fail)
        go_wp2
        · have hne : (l[j] != l'[j]) = true := by assumption
          go_ret
          exact ⟨ret_bool (eqInts_no hlt hlt' hne).symm, ((Drew.refl _).drewN _).drewN _⟩
        · have heq : (l[j] != l'[j]) = false := by assumption
          go_roundw
          case rel => exact ⟨j + 1, by omega, by go_num, eqInts_step hlt hlt' heq Hr.out, ⟨_, rfl⟩⟩
          case measure => simp [intOf]; omega
      · go_wp2
        go_ret
        exact ⟨ret_bool (eqL_yes Hl.out hlt Hr.out).symm, (Drew.refl _).drewN n⟩
  · have hne : ((l.length : Int) != (l'.length : Int)) = true := by simp; omega
    go_enter Try.func19, Try.ntmps19
    go_wp2
    go_ret
    exact ⟨ret_bool (eqL_len hne).symm, Drew.refl _⟩

end Go.Proofs.Ytnagknkllkdkaaa

namespace Go.Proofs.Ytnagknkllkdkaaa
open Go.RowKit
set_option maxRecDepth 10000

theorem like_nil (b : Nat) (w : World) : Calls Try.prog 19 #[.slice none 0 0, .slice (some ⟨b, 0, none⟩) 0 0] w fun e w' => e = .returned (.bool true) ∧ Drew w w' := by
  obtain ⟨a', c', e', I⟩ := (nil_rd (α := Int) w).ints
  injection e' with e1 _ e2
  subst e1
  subst e2
  have h := likeInts_any none (some ⟨b, 0, none⟩) 0 0 [] [] _ _ w I (IntsA.nil w (some ⟨b, 0, none⟩) (by simp [maxLen]))
  refine h.mono ?_
  rintro e w' ⟨h1, h2⟩
  exact ⟨by rw [h1]; simp [eqV], h2⟩
set_option maxHeartbeats 4000000 in
theorem FnRanks_any (w : World) (v : Value) (l : List UInt8) (fc : List Nat) (h : Rd w v l fc) :
    Calls Try.prog 4 #[v] w fun e w' => e = .returned (.bool true) ∧ Only [] w w' := by
  by_cases hb : 4096 < l.length
  · have hd : decide (4096 < l.length) = true := by simp [hb]
    go_enter Try.func4, Try.ntmps4
    go_wp2_with ((go_at_call 15; (with_reducible refine (big_any v l fc _ h).mono ?_); rintro e w1 ⟨he, t1⟩; rw [hd] at he; subst he))
    go_ret
    exact ⟨rfl, (by with_reducible repeat (first | exact Only.refl _ _ | assumption | refine Only.drewN ?_ _ | refine Only.drew ?_ | refine Only.alloc ?_ _ | refine Only.setCell ?_ (by intro hh; exfalso; simp at hh; try omega) _ | refine Only.trans ?_ (by assumption)))⟩
  have hd : decide (4096 < l.length) = false := by simp [hb]
  have hl : l.length ≤ 4096 := by omega
  go_enter Try.func4, Try.ntmps4
  go_upto_region 4 with (first
    | (go_at_call 15; (with_reducible refine (big_any v l fc _ h).mono ?_); rintro e w1 ⟨he, t1⟩; rw [hd] at he; subst he; have k1 : Only [] w w1 := (by with_reducible repeat (first | exact Only.refl _ _ | assumption | refine Only.drewN ?_ _ | refine Only.drew ?_ | refine Only.alloc ?_ _ | refine Only.setCell ?_ (by intro hh; exfalso; simp at hh; try omega) _ | refine Only.trans ?_ (by assumption))))
    | (go_at_call 16; (with_reducible refine (drawMemberAt_any v l fc w1 (Rp.keep h k1) hl).mono ?_); rintro e w2 ⟨s0, s1, s2, rfl, n, gs, fp, sd, rfl, rfl, hn, hsd, rM, FM, l9, l30, t2⟩; obtain ⟨a2, c2, ob2, fps2, rfl, -, -⟩ := id rM.open_)
    | fail "no arm")
  have kW : Only [] w w2 := k1.trans t2
  clear k1 t1 t2 hb hd FM l9 l30
  rcases hgs : gensB n gs
  · have Hgs := Lib.hid hgs
    clear hgs
    go_wp2_with (first
      | (go_at_call 17; (with_reducible refine (implMemberAt_bad n _ gs fp sd w2 rM Hgs.out).mono ?_); rintro e w3 ⟨rfl, t3⟩)
      | (go_at_call 18; (with_reducible refine (specMemberAt_bad n _ gs fp sd w3 (Rp.keep rM t3) Hgs.out).mono ?_); rintro e w4 ⟨b4, rfl, t4⟩)
      | (go_at_call 19; (with_reducible refine (like_nil b4 w4).mono ?_); rintro e w5 ⟨rfl, n5, rfl⟩)
      | fail "no arm")
    go_ret
    exact ⟨rfl, ((kW.trans t3).trans t4).drewN _⟩
  · obtain ⟨⟨n1, n20⟩, hgl, hpn⟩ := gensB_iff.1 hgs
    obtain ⟨m, rfl⟩ := Int.eq_ofNat_of_zero_le (show 0 ≤ n by omega)
    have hpn' : ∀ g ∈ gs, PM.PN m g := by simpa using hpn
    have hm0 : 0 < m := by omega
    have hm20 : m ≤ 20 := by omega
    by_cases hk : 0 ≤ sd ∧ sd < (ordC m gs m : Int)
    · obtain ⟨k, rfl⟩ := Int.eq_ofNat_of_zero_le hk.1
      have hkl : k < ordC m gs m := by omega
      obtain ⟨G, T, hCh⟩ := rank_chain m _ gs fp w2 rM hgs
      have ho2 := ordC_le hCh hm0 hpn' hm20 (Nat.le_refl _)
      obtain ⟨st, hst⟩ : ∃ st, st = memAt m gs k := ⟨_, rfl⟩
      have hgr : PM.Grp m gs st := by rw [hst]; exact hCh.descG_grp hm0 hpn' (msel m gs k) (msel_good hCh hm0 hpn' k)
      obtain ⟨k2, hk2⟩ : ∃ k2, k2 = k + 1 := ⟨_, rfl⟩
      have hwk : IntKind.i64.wrap ((k : Int) + 1) = (k2 : Int) := by rw [hk2, IntKind.wrap_i64]; omega
      have Hpp := Lib.hid (hgr.pn hpn')
      have Hgr := Lib.hid hgr
      have Hgs := Lib.hid hgs
      have Hst := Lib.hid hst
      have Hkl := Lib.hid hkl
      have Hdk := Lib.hid (decide_eq_true hkl)
      have Hmk : Hid (memO m gs k = st) := Lib.hid (by unfold memO; rw [if_pos hkl, hst])
      have HeV := Lib.hid (show eqV st st = true from by unfold eqV; simp)
      by_cases hk1 : k + 1 < ordC m gs m
      · obtain ⟨s2, hs2⟩ : ∃ s2, s2 = memAt m gs k2 := ⟨_, rfl⟩
        have Hs2 := Lib.hid hs2
        have HeV2 := Lib.hid (show eqV s2 s2 = true from by unfold eqV; simp)
        have Hk1 := Lib.hid hk1
        have Hk2 : Hid (k2 < ordC m gs m) := Lib.hid (by rw [hk2]; exact hk1)
        have Hke := Lib.hid hk2
        clear hgs hgl hpn hpn' hCh hst hgr hkl hk hk1 hk2 hs2 ho2 hsd
        go_wp2_with (first
          | (go_at_call 17; (with_reducible refine (implMemberAt_any m _ gs fp k w2 rM Hgs.out).mono ?_); rintro e w3 ⟨v3, f3, he, r3, t3⟩; rw [Hdk.out] at he; subst he; rw [Hmk.out] at r3; obtain ⟨a3, c3, rfl, I3⟩ := id r3.ints)
          | (go_at_call 18; (with_reducible refine (specMemberAt_yes m _ gs fp k w3 (Rp.keep rM t3) Hgs.out Hkl.out).mono ?_); rintro e w4 ⟨v4, f4, rfl, r4, F4, t4⟩; rw [← Hst.out] at r4; obtain ⟨a4, c4, rfl, I4⟩ := id r4.ints; have I34 := I3.keep t4)
          | (go_at_call 19; (with_reducible refine (likeInts_any a3 a4 c3 c4 st st _ _ w4 I34 I4).mono ?_); rintro e w5 ⟨he, n5, rfl⟩; rw [HeV.out] at he; subst he; have k5 : Only [] w2 (w4.drewN n5) := (t3.trans t4).drewN _; have I35 := I34.keep ((Only.refl [] w4).drewN n5))
          | (go_at_call 20; (with_reducible refine (implNext_yes m _ _ gs st fp _ k _ (Rp.keep rM k5) I35.rd Hgs.out Hkl.out Hst.out Hpp.out Hk1.out).mono ?_); rintro e w6 ⟨v6, f6, rfl, r6, t6⟩; rw [← Hke.out, ← Hs2.out] at r6; obtain ⟨a6, c6, rfl, I6⟩ := id r6.ints; have k6 := k5.trans t6; have I36 := I35.keep t6)
          | (go_at_call 18; (with_reducible refine (specMemberAt_yes m _ gs fp k2 w6 (Rp.keep rM k6) Hgs.out Hk2.out).mono ?_); rintro e w7 ⟨v7, f7, rfl, r7, F7, t7⟩; rw [← Hs2.out] at r7; obtain ⟨a7, c7, rfl, I7⟩ := id r7.ints; have k7 := k6.trans t7; have I37 := I36.keep t7; have I67 := I6.keep t7)
          | (go_at_call 21; (with_reducible refine (implRank_at m _ _ gs st fp _ k w7 (Rp.keep rM k7) I37.rd Hgs.out Hkl.out Hst.out Hpp.out).mono ?_); rintro e w8 ⟨rfl, t8⟩; have k8 := k7.trans t8; have I38 := I37.keep t8)
          | (go_at_call 22; (with_reducible refine (implCountBelow_m m _ _ gs st fp _ k w8 (Rp.keep rM k8) I38.rd Hgs.out Hkl.out Hst.out Hpp.out).mono ?_); rintro e w9 ⟨rfl, t9⟩; have k9 := k8.trans t9; have I39 := I38.keep t9; have I69 := (I67.keep t8).keep t9; have I79 := (I7.keep t8).keep t9)
          | (go_at_call 19; (with_reducible refine (likeInts_any a6 a7 c6 c7 s2 s2 _ _ w9 I69 I79).mono ?_); rintro e wA ⟨he, nA, rfl⟩; rw [HeV2.out] at he; subst he; have kA : Only [] w2 (w9.drewN nA) := k9.drewN _)
          | (go_at_call 23; (with_reducible refine (implIsMember_yes m _ _ gs st fp _ _ (Rp.keep rM kA) (Rp.keep I39.rd ((Only.refl [] w9).drewN nA)) Hgs.out Hgr.out).mono ?_); rintro e wB ⟨rfl, tB⟩)
          | fail "no arm")
        go_ret
        exact ⟨rfl, kW.trans (kA.trans tB)⟩
      · have Hk1 := Lib.hid hk1
        have Hk2 : Hid (¬ (0 ≤ (k2 : Int) ∧ (k2 : Int) < (ordC m gs m : Int))) := Lib.hid (by omega)
        clear hgs hgl hpn hpn' hCh hst hgr hkl hk hk1 hk2 ho2 hsd
        go_wp2_with (first
          | (go_at_call 17; (with_reducible refine (implMemberAt_any m _ gs fp k w2 rM Hgs.out).mono ?_); rintro e w3 ⟨v3, f3, he, r3, t3⟩; rw [Hdk.out] at he; subst he; rw [Hmk.out] at r3; obtain ⟨a3, c3, rfl, I3⟩ := id r3.ints)
          | (go_at_call 18; (with_reducible refine (specMemberAt_yes m _ gs fp k w3 (Rp.keep rM t3) Hgs.out Hkl.out).mono ?_); rintro e w4 ⟨v4, f4, rfl, r4, F4, t4⟩; rw [← Hst.out] at r4; obtain ⟨a4, c4, rfl, I4⟩ := id r4.ints; have I34 := I3.keep t4)
          | (go_at_call 19; (with_reducible refine (likeInts_any a3 a4 c3 c4 st st _ _ w4 I34 I4).mono ?_); rintro e w5 ⟨he, n5, rfl⟩; rw [HeV.out] at he; subst he; have k5 : Only [] w2 (w4.drewN n5) := (t3.trans t4).drewN _; have I35 := I34.keep ((Only.refl [] w4).drewN n5))
          | (go_at_call 20; (with_reducible refine (implNext_no m _ _ gs st fp _ k _ (Rp.keep rM k5) I35.rd Hgs.out Hkl.out Hst.out Hpp.out Hk1.out).mono ?_); rintro e w6 ⟨rfl, t6⟩; have k6 := k5.trans t6; have I36 := I35.keep t6)
          | (go_at_call 18; (with_reducible refine (specMemberAt_out m _ gs fp (k2 : Int) w6 (Rp.keep rM k6) Hgs.out Hk2.out).mono ?_); rintro e w7 ⟨b7, rfl, t7⟩; have k7 := k6.trans t7; have I37 := I36.keep t7)
          | (go_at_call 21; (with_reducible refine (implRank_at m _ _ gs st fp _ k w7 (Rp.keep rM k7) I37.rd Hgs.out Hkl.out Hst.out Hpp.out).mono ?_); rintro e w8 ⟨rfl, t8⟩; have k8 := k7.trans t8; have I38 := I37.keep t8)
          | (go_at_call 22; (with_reducible refine (implCountBelow_m m _ _ gs st fp _ k w8 (Rp.keep rM k8) I38.rd Hgs.out Hkl.out Hst.out Hpp.out).mono ?_); rintro e w9 ⟨rfl, t9⟩; have k9 := k8.trans t9; have I39 := I38.keep t9)
          | (go_at_call 19; (with_reducible refine (like_nil b7 w9).mono ?_); rintro e wA ⟨rfl, nA, rfl⟩; have kA : Only [] w2 (w9.drewN nA) := k9.drewN _)
          | (go_at_call 23; (with_reducible refine (implIsMember_yes m _ _ gs st fp _ _ (Rp.keep rM kA) (Rp.keep I39.rd ((Only.refl [] w9).drewN nA)) Hgs.out Hgr.out).mono ?_); rintro e wB ⟨rfl, tB⟩)
          | fail "no arm")
        go_ret
        exact ⟨rfl, kW.trans (kA.trans tB)⟩
    · have Hgs := Lib.hid hgs
      have Hk := Lib.hid hk
      clear hgs hk hgl hpn hpn'
      go_wp2_with (first
        | (go_at_call 17; (with_reducible refine (implMemberAt_out m _ gs fp sd w2 rM Hgs.out Hk.out).mono ?_); rintro e w3 ⟨rfl, t3⟩)
        | (go_at_call 18; (with_reducible refine (specMemberAt_out m _ gs fp sd w3 (Rp.keep rM t3) Hgs.out Hk.out).mono ?_); rintro e w4 ⟨b4, rfl, t4⟩)
        | (go_at_call 19; (with_reducible refine (like_nil b4 w4).mono ?_); rintro e w5 ⟨rfl, n5, rfl⟩)
        | fail "no arm")
      go_ret
      exact ⟨rfl, ((kW.trans t3).trans t4).drewN _⟩
end Go.Proofs.Ytnagknkllkdkaaa
