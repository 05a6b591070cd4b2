/- The program's Rank, IsMember, MemberAt, FirstNonIdentity; random members of no group (laws 34, 35). The laws' drawn tracked sets (laws 10, 11). The laws' drawn puzzles (laws 10, 11). The laws' own comparison of numbers: likeInts (laws 10, 11). The law on random members (law 35): its walk. -/
import Derived.Test.YtnagknkllkdkaaaRowRandomMembersG12
import Derived.Test.YtnagknkllkdkaaaRowRandomMembersG8
import Derived.Test.YtnagknkllkdkaaaRowRandomMembersG11
namespace Go.Proofs.Ytnagknkllkdkaaa
open Go.RowKit
set_option maxRecDepth 10000

theorem gst_congr {s s' : Int} (h : s % 999999937 = s' % 999999937) : ∀ i, gst s i = gst s' i
  | 0 => h
  | i + 1 => by show (48271 * gst s i + 11) % 999999937 = (48271 * gst s' i + 11) % 999999937; rw [gst_congr h i]
theorem randM_tmod (n : Nat) (gens : List (List Int)) (s : Int) : randM n gens (s.tmod 999999937) = randM n gens s := by
  have h : s.tmod 999999937 % 999999937 = s % 999999937 := by
    have h1 := Int.mul_tdiv_add_tmod s 999999937
    omega
  have hr : rsel (s.tmod 999999937) = rsel s := by
    funext i l
    unfold rsel
    rw [gst_congr h]
  unfold randM
  rw [hr]
set_option maxHeartbeats 1000000 in
theorem implRank_at (n : Nat) (vg vp : Value) (gens : List (List Int)) (p : List Int) (fpg fp : List Nat) (k : Nat) (w : World) (hg : Rd w vg gens fpg) (hp : Rd w vp p fp) (hgs : gensB n gens = true) (hk : k < ordC n gens n) (hpe : p = memAt n gens k) (hpp : PM.PN n p) :
    Calls Try.prog 21 #[.int .i64 n, vg, vp] w fun e w' => e = .returned (.int .i64 k) ∧ Only [] w w' := by
  obtain ⟨⟨n1, n20⟩, hgl, hpn⟩ := gensB_iff.1 hgs
  have hpn' : ∀ g ∈ gens, PM.PN n g := by simpa using hpn
  have hn : 0 < n := by omega
  have hn20 : n ≤ 20 := by omega
  have Hpb := Lib.hid (permB_iff.2 ⟨by rw [hpp.1]; omega, hpp.2⟩)
  have Hpl := Lib.hid hpp.1
  have Hgs := Lib.hid hgs
  have Hpn := Lib.hid hpn'
  have Hk := Lib.hid hk
  have Hpe := Lib.hid hpe
  clear hpn hpn' hgs hk hpe hpp
  go_enter Try.func21, Try.ntmps21
  go_wp2_with (first
    | (go_at_call 46; (with_reducible refine (implIsGens_rd n vg gens fpg w hg).mono ?_); rintro en w1 ⟨he, t1⟩; rw [Hgs.out] at he; subst he)
    | (go_at_call 55; (with_reducible refine (lengthInt_q vp p fp _ (Rp.keep hp (by with_reducible repeat (first | exact Only.refl _ _ | assumption | refine Only.drewN ?_ _ | refine Only.drew ?_ | refine Only.alloc ?_ _ | refine Only.setCell ?_ (by intro hh; exfalso; simp at hh; try omega) _ | refine Only.trans ?_ (by assumption))))).mono ?_); rintro en w2 ⟨he, n2, rfl⟩; rw [Hpl.out] at he; subst he)
    | (go_at_call 56; (with_reducible refine (implIsPerm_rd vp p fp _ (Rp.keep hp (by with_reducible repeat (first | exact Only.refl _ _ | assumption | refine Only.drewN ?_ _ | refine Only.drew ?_ | refine Only.alloc ?_ _ | refine Only.setCell ?_ (by intro hh; exfalso; simp at hh; try omega) _ | refine Only.trans ?_ (by assumption))))).mono ?_); rintro en w3 ⟨he, n3, rfl⟩; rw [Hpb.out] at he; subst he)
    | (go_at_call 37; (with_reducible refine (implNewChain_any n hn hn20 vg gens fpg _ (Rp.keep hg (by with_reducible repeat (first | exact Only.refl _ _ | assumption | refine Only.drewN ?_ _ | refine Only.drew ?_ | refine Only.alloc ?_ _ | refine Only.setCell ?_ (by intro hh; exfalso; simp at hh; try omega) _ | refine Only.trans ?_ (by assumption)))) Hpn.out (by omega)).mono ?_); rintro en w4 ⟨L, gv, G, T, M, F, rfl, -, hoT, hC, hCh, t4⟩; have HC := Lib.hid hC; have HCh := Lib.hid hCh; have HoT := Lib.hid hoT; clear hC hCh hoT)
    | (go_at_call 57; (with_reducible refine (implCountBelow_at n k vp p fp w4 HC.out HCh.out HoT.out Hpn.out (Rp.keep hp (by with_reducible repeat (first | exact Only.refl _ _ | assumption | refine Only.drewN ?_ _ | refine Only.drew ?_ | refine Only.alloc ?_ _ | refine Only.setCell ?_ (by intro hh; exfalso; simp at hh; try omega) _ | refine Only.trans ?_ (by assumption)))) Hk.out Hpe.out).mono ?_); rintro en w5 ⟨rfl, t5⟩)
    | fail "no arm")
  go_ret
  exact ⟨rfl, (by with_reducible repeat (first | exact Only.refl _ _ | assumption | refine Only.drewN ?_ _ | refine Only.drew ?_ | refine Only.alloc ?_ _ | refine Only.setCell ?_ (by intro hh; exfalso; simp at hh; try omega) _ | refine Only.trans ?_ (by assumption)))⟩
set_option maxHeartbeats 1000000 in
theorem implIsMember_yes (n : Nat) (vg vp : Value) (gens : List (List Int)) (p : List Int) (fpg fp : List Nat) (w : World) (hg : Rd w vg gens fpg) (hp : Rd w vp p fp) (hgs : gensB n gens = true) (hgr : PM.Grp n gens p) :
    Calls Try.prog 23 #[.int .i64 n, vg, vp] w fun e w' => e = .returned (.bool true) ∧ Only [] w w' := by
  obtain ⟨⟨n1, n20⟩, hgl, hpn⟩ := gensB_iff.1 hgs
  have hpn' : ∀ g ∈ gens, PM.PN n g := by simpa using hpn
  have hn : 0 < n := by omega
  have hn20 : n ≤ 20 := by omega
  have hpp := hgr.pn hpn'
  have Hmb : Hid (memB n gens p = true) := Lib.hid (by unfold memB; exact @decide_eq_true _ (Classical.propDecidable _) hgr)
  have Hpb := Lib.hid (permB_iff.2 ⟨by rw [hpp.1]; omega, hpp.2⟩)
  have Hpl := Lib.hid hpp.1
  have Hpp := Lib.hid hpp
  have Hgs := Lib.hid hgs
  have Hpn := Lib.hid hpn'
  clear hpn hpn' hgs hpp hgr
  go_enter Try.func23, Try.ntmps23
  go_wp2_with (first
    | (go_at_call 46; (with_reducible refine (implIsGens_rd n vg gens fpg w hg).mono ?_); rintro en w1 ⟨he, t1⟩; rw [Hgs.out] at he; subst he)
    | (go_at_call 55; (with_reducible refine (lengthInt_q vp p fp _ (Rp.keep hp (by with_reducible repeat (first | exact Only.refl _ _ | assumption | refine Only.drewN ?_ _ | refine Only.drew ?_ | refine Only.alloc ?_ _ | refine Only.setCell ?_ (by intro hh; exfalso; simp at hh; try omega) _ | refine Only.trans ?_ (by assumption))))).mono ?_); rintro en w2 ⟨he, n2, rfl⟩; rw [Hpl.out] at he; subst he)
    | (go_at_call 56; (with_reducible refine (implIsPerm_rd vp p fp _ (Rp.keep hp (by with_reducible repeat (first | exact Only.refl _ _ | assumption | refine Only.drewN ?_ _ | refine Only.drew ?_ | refine Only.alloc ?_ _ | refine Only.setCell ?_ (by intro hh; exfalso; simp at hh; try omega) _ | refine Only.trans ?_ (by assumption))))).mono ?_); rintro en w3 ⟨he, n3, rfl⟩; rw [Hpb.out] at he; subst he)
    | (go_at_call 37; (with_reducible refine (implNewChain_any n hn hn20 vg gens fpg _ (Rp.keep hg (by with_reducible repeat (first | exact Only.refl _ _ | assumption | refine Only.drewN ?_ _ | refine Only.drew ?_ | refine Only.alloc ?_ _ | refine Only.setCell ?_ (by intro hh; exfalso; simp at hh; try omega) _ | refine Only.trans ?_ (by assumption)))) Hpn.out (by omega)).mono ?_); rintro en w4 ⟨L, gv, G, T, M, F, rfl, -, hoT, hC, hCh, t4⟩; have HC := Lib.hid hC; have HCh := Lib.hid hCh; have HoT := Lib.hid hoT; clear hC hCh hoT)
    | (go_at_call 58; (with_reducible refine (implHas0 HC.out HCh.out.inv.wf HoT.out (Rp.keep hp (by with_reducible repeat (first | exact Only.refl _ _ | assumption | refine Only.drewN ?_ _ | refine Only.drew ?_ | refine Only.alloc ?_ _ | refine Only.setCell ?_ (by intro hh; exfalso; simp at hh; try omega) _ | refine Only.trans ?_ (by assumption)))) Hpp.out).mono ?_); rintro en w5 ⟨he, t5⟩; rw [memB_has HCh.out hn Hpn.out Hpp.out, Hmb.out] at he; subst he)
    | fail "no arm")
  go_ret
  exact ⟨rfl, (by with_reducible repeat (first | exact Only.refl _ _ | assumption | refine Only.drewN ?_ _ | refine Only.drew ?_ | refine Only.alloc ?_ _ | refine Only.setCell ?_ (by intro hh; exfalso; simp at hh; try omega) _ | refine Only.trans ?_ (by assumption)))⟩
set_option maxHeartbeats 1000000 in
theorem memberAt_no (n : Nat) {B : Nat} {L : Lay} {gv : Nat → Value} {gens : List (List Int)} {G : PM.Gens} {T : PM.Rows} {M F : List Nat} (k : Int) (w : World) (hC : Ch 26 B w L gv n G T M F) (hCh : PM.Chain n gens G T) (hT : L.oT = 2) (hpn : ∀ g ∈ gens, PM.PN n g) (hk : ¬ (0 ≤ k ∧ k < (ordC n gens n : Int))) :
    Calls Try.prog 39 #[.pointer (some ⟨L.g, 0, none⟩), .int .i64 k] w fun e w' => e = .returned (.tuple #[.slice none 0 0, .bool false]) ∧ Only [] w w' := by
  have hn : 0 < n := hC.pos
  have hole := ordC_le hCh hn hpn hC.le (j := n) (Nat.le_refl _)
  have h1 := ordC_pos hCh hn hpn (j := n) (Nat.le_refl _)
  obtain ⟨od, hod⟩ : ∃ od, od = ordC n gens n := ⟨_, rfl⟩
  rw [← hod] at hole hk h1
  have hRng : inR k 0 ((od : Nat) - 1 : Int) = false := by
    rcases hq : inR k 0 ((od : Nat) - 1 : Int)
    · rfl
    · have := inR_iff.1 hq; omega
  have HRng := Lib.hid hRng
  have HcO : Hid (Calls Try.prog 40 #[.pointer (some ⟨L.g, 0, none⟩), .int .i64 0] w fun e w' => e = .returned (.int .i64 (od : Nat)) ∧ Only [] w w') := Lib.hid (by
    rw [hod, ← ordC_eq hCh hn hpn (Nat.le_refl _)]
    exact implOrder0 hC hCh.inv.wf hT)
  have hwo : IntKind.i64.wrap ((od : Int) - 1) = (od : Int) - 1 := by rw [IntKind.wrap_i64]; omega
  clear hC hCh hT hpn hod hRng hk h1
  go_enter Try.func39, Try.ntmps39
  go_wp2_with (first
    | (go_at_call 40; (with_reducible refine (HcO.out).mono ?_); rintro en w1 ⟨rfl, t1⟩)
    | (go_at_call 74; (with_reducible refine (within_any k 0 ((od : Int) - 1) _).mono ?_); rintro e w1' ⟨he, h1⟩; rw [HRng.out] at he; subst he; rw [h1]; clear h1)
    | fail "no arm")
  exact bodyPost_ret (v := .tuple #[.slice none 0 0, .bool false]) (by simp [results, Try.results39, go_sem]) rfl ⟨rfl, t1⟩
/-- the member of a rank, or nothing -/
noncomputable def memO (n : Nat) (gens : List (List Int)) (k : Nat) : List Int := if k < ordC n gens n then memAt n gens k else []
set_option maxHeartbeats 1000000 in
theorem implMemberAt_any (n : Nat) (vg : Value) (gens : List (List Int)) (fpg : List Nat) (k : Nat) (w : World) (hg : Rd w vg gens fpg) (hgs : gensB n gens = true) :
    Calls Try.prog 17 #[.int .i64 n, vg, .int .i64 k] w fun e w' => ∃ v f, e = .returned (.tuple #[v, .bool (decide (k < ordC n gens n))]) ∧ Rd w' v (memO n gens k) f ∧ Only [] w w' := by
  obtain ⟨⟨n1, n20⟩, hgl, hpn⟩ := gensB_iff.1 hgs
  have hpn' : ∀ g ∈ gens, PM.PN n g := by simpa using hpn
  have hn : 0 < n := by omega
  have hn20 : n ≤ 20 := by omega
  have Hgs := Lib.hid hgs
  have Hpn := Lib.hid hpn'
  clear hpn hpn' hgs
  by_cases hk : k < ordC n gens n
  · have Hd := Lib.hid (decide_eq_true hk)
    have Hm : Hid (memO n gens k = memAt n gens k) := Lib.hid (by unfold memO; rw [if_pos hk])
    have Hk := Lib.hid hk
    clear hk
    go_enter Try.func17, Try.ntmps17
    go_wp2_with (first
      | (go_at_call 46; (with_reducible refine (implIsGens_rd n vg gens fpg w hg).mono ?_); rintro en w1 ⟨he, t1⟩; rw [Hgs.out] at he; subst he)
      | (go_at_call 37; (with_reducible refine (implNewChain_any n hn hn20 vg gens fpg w1 (Rp.keep hg t1) Hpn.out (by omega)).mono ?_); rintro en w4 ⟨L, gv, G, T, M, F, rfl, -, hoT, hC, hCh, t4⟩; have HC := Lib.hid hC; have HCh := Lib.hid hCh; have HoT := Lib.hid hoT; clear hC hCh hoT)
      | (go_at_call 39; (with_reducible refine (memberAt_yes n k w4 HC.out HCh.out HoT.out Hpn.out Hk.out).mono ?_); rintro en w5 ⟨v5, f5, rfl, r5, F5, t5⟩)
      | fail "no arm")
    exact bodyPost_ret (v := .tuple #[v5, .bool true]) (by simp [results, Try.results17, go_sem]) rfl ⟨v5, f5, by rw [Hd.out], by rw [Hm.out]; exact r5, (t1.trans t4).trans t5⟩
  · have Hd := Lib.hid (decide_eq_false hk)
    have Hm : Hid (memO n gens k = []) := Lib.hid (by unfold memO; rw [if_neg hk])
    have Hk : Hid (¬ (0 ≤ (k : Int) ∧ (k : Int) < (ordC n gens n : Int))) := Lib.hid (by omega)
    clear hk
    go_enter Try.func17, Try.ntmps17
    go_wp2_with (first
      | (go_at_call 46; (with_reducible refine (implIsGens_rd n vg gens fpg w hg).mono ?_); rintro en w1 ⟨he, t1⟩; rw [Hgs.out] at he; subst he)
      | (go_at_call 37; (with_reducible refine (implNewChain_any n hn hn20 vg gens fpg w1 (Rp.keep hg t1) Hpn.out (by omega)).mono ?_); rintro en w4 ⟨L, gv, G, T, M, F, rfl, -, hoT, hC, hCh, t4⟩; have HC := Lib.hid hC; have HCh := Lib.hid hCh; have HoT := Lib.hid hoT; clear hC hCh hoT)
      | (go_at_call 39; (with_reducible refine (memberAt_no n (k : Int) w4 HC.out HCh.out HoT.out Hpn.out Hk.out).mono ?_); rintro en w5 ⟨rfl, t5⟩)
      | fail "no arm")
    exact bodyPost_ret (v := .tuple #[.slice none 0 0, .bool false]) (by simp [results, Try.results17, go_sem]) rfl ⟨.slice none 0 0, [], by rw [Hd.out], by rw [Hm.out]; exact nil_rd _, (t1.trans t4).trans t5⟩
set_option maxHeartbeats 1000000 in
theorem implFirst_any (n : Nat) (vg : Value) (gens : List (List Int)) (fpg : List Nat) (w : World) (hg : Rd w vg gens fpg) (hgs : gensB n gens = true) :
    Calls Try.prog 27 #[.int .i64 n, vg] w fun e w' => ∃ v f, e = .returned (.tuple #[v, .bool (decide (1 < ordC n gens n))]) ∧ Rd w' v (memO n gens 1) f ∧ Only [] w w' := by
  have HcM : Hid (Calls Try.prog 17 #[.int .i64 n, vg, .int .i64 1] w fun e w' => ∃ v f, e = .returned (.tuple #[v, .bool (decide (1 < ordC n gens n))]) ∧ Rd w' v (memO n gens 1) f ∧ Only [] w w') := Lib.hid (implMemberAt_any n vg gens fpg 1 w hg hgs)
  go_enter Try.func27, Try.ntmps27
  go_wp2_with (first
    | (go_at_call 17; (with_reducible refine (HcM.out).mono ?_); rintro en w1 ⟨v1, f1, rfl, r1, t1⟩)
    | fail "no arm")
  exact bodyPost_ret (v := .tuple #[v1, .bool (decide (1 < ordC n gens n))]) (by simp [results, Try.results27, go_sem]) rfl ⟨v1, f1, rfl, r1, t1⟩
set_option maxHeartbeats 1000000 in
theorem implRandomMember_no (n : Int) (vg : Value) (gens : List (List Int)) (fpg : List Nat) (seed : Int) (w : World) (hg : Rd w vg gens fpg) (hgs : gensB n gens = false) :
    Calls Try.prog 25 #[.int .i64 n, vg, .int .i64 seed] w fun e w' => e = .returned (.tuple #[.slice none 0 0, .bool false]) ∧ Only [] w w' := by
  have Hgs := Lib.hid hgs
  clear hgs
  go_enter Try.func25, Try.ntmps25
  go_wp2_with (first
    | (go_at_call 46; (with_reducible refine (implIsGens_rd n vg gens fpg w hg).mono ?_); rintro en w1 ⟨he, t1⟩; rw [Hgs.out] at he; subst he)
    | fail "no arm")
  exact bodyPost_ret (v := .tuple #[.slice none 0 0, .bool false]) (by simp [results, Try.results25, go_sem]) rfl ⟨rfl, t1⟩
set_option maxHeartbeats 1000000 in
theorem specRandomMember_no (n : Int) (vg : Value) (gens : List (List Int)) (fpg : List Nat) (seed : Int) (w : World) (hg : Rd w vg gens fpg) (hgs : gensB n gens = false) :
    Calls Try.prog 26 #[.int .i64 n, vg, .int .i64 seed] w fun e w' => ∃ b, e = .returned (.tuple #[.slice (some ⟨b, 0, none⟩) 0 0, .bool false]) ∧ Only [] w w' := by
  have Hgs := Lib.hid hgs
  clear hgs
  go_enter Try.func26, Try.ntmps26
  go_wp2_with (first
    | (go_at_call 47; (with_reducible refine (specIsGens_rd n vg gens fpg w hg).mono ?_); rintro en w1 ⟨he, t1⟩; rw [Hgs.out] at he; subst he; have t1 := t1.only [])
    | fail "no arm")
  exact bodyPost_ret (v := .tuple #[.slice (some ⟨w1.heap.size, 0, none⟩) 0 0, .bool false]) (by simp [results, Try.results26, go_sem]) rfl ⟨_, rfl, t1.alloc _⟩
end Go.Proofs.Ytnagknkllkdkaaa

namespace Go.Proofs.Ytnagknkllkdkaaa
open Go.RowKit
set_option maxRecDepth 10000
end Go.Proofs.Ytnagknkllkdkaaa

namespace Go.Proofs.Ytnagknkllkdkaaa
open Go.RowKit
set_option maxRecDepth 10000
end Go.Proofs.Ytnagknkllkdkaaa

namespace Go.Proofs.Ytnagknkllkdkaaa
open Go.RowKit
set_option maxRecDepth 10000

set_option maxHeartbeats 400000 in
theorem likeInts_any (a a' : Option Addr) (cap cap' : Nat) (l l' : List Int) (fp fp' : List Nat) (w : World) (h : IntsA w a cap l fp) (h' : IntsA w a' cap' l' fp') :
    Calls Try.prog 19 #[.slice a l.length cap, .slice a' l'.length cap'] w fun e w' => e = .returned (.bool (eqV l l')) ∧ Drew w w' := by
  have hb := h.bound
  have hb' := h'.bound
  by_cases hl : l.length = l'.length
  · have hne : ((l.length : Int) != (l'.length : Int)) = false := by simp [hl]
    have Hl := Lib.hid hl; clear hl
    go_enter Try.func19, Try.ntmps19
    go_wp2
    go_loopw [5] (fun i wr => ∃ j : Nat, j ≤ l.length ∧ i = .int .i64 j ∧ l.take j = l'.take j ∧ Drew w wr)
      (fun i _ => l.length - (intOf i).toNat)
    case atStart => exact ⟨0, Nat.zero_le _, rfl, rfl, Drew.refl _⟩
    case round =>
      obtain ⟨j, hj, rfl, hr, n, rfl⟩ := hrel
      have Hr := Lib.hid hr; clear hr
      by_cases hlt : j < l.length
      · have hlt' : j < l'.length := by have := Hl.out; omega
        obtain ⟨b, off, ha, -, hc⟩ := h.at_ j hlt
        obtain ⟨b', off', ha', -, hc'⟩ := h'.at_ j hlt'
        go_wp2
        go_quiet (fail)
        go_wp2
        · have hne : (l[j] != l'[j]) = true := by assumption
          go_ret
          exact ⟨ret_bool (eqInts_no hlt hlt' hne).symm, ((Drew.refl _).drewN _).drewN _⟩
        · have heq : (l[j] != l'[j]) = false := by assumption
          go_roundw
          case rel => exact ⟨j + 1, by omega, by go_num, eqInts_step hlt hlt' heq Hr.out, ⟨_, rfl⟩⟩
          case measure => simp [intOf]; omega
      · go_wp2
        go_ret
        exact ⟨ret_bool (eqL_yes Hl.out hlt Hr.out).symm, (Drew.refl _).drewN n⟩
  · have hne : ((l.length : Int) != (l'.length : Int)) = true := by simp; omega
    go_enter Try.func19, Try.ntmps19
    go_wp2
    go_ret
    exact ⟨ret_bool (eqL_len hne).symm, Drew.refl _⟩

end Go.Proofs.Ytnagknkllkdkaaa

namespace Go.Proofs.Ytnagknkllkdkaaa
open Go.RowKit
set_option maxRecDepth 10000

theorem like_nil (b : Nat) (w : World) : Calls Try.prog 19 #[.slice none 0 0, .slice (some ⟨b, 0, none⟩) 0 0] w fun e w' => e = .returned (.bool true) ∧ Drew w w' := by
  obtain ⟨a', c', e', I⟩ := (nil_rd (α := Int) w).ints
  injection e' with e1 _ e2
  subst e1
  subst e2
  have h := likeInts_any none (some ⟨b, 0, none⟩) 0 0 [] [] _ _ w I (IntsA.nil w (some ⟨b, 0, none⟩) (by simp [maxLen]))
  refine h.mono ?_
  rintro e w' ⟨h1, h2⟩
  exact ⟨by rw [h1]; simp [eqV], h2⟩
set_option maxHeartbeats 4000000 in
theorem FnRandomMembers_any (w : World) (v : Value) (l : List UInt8) (fc : List Nat) (h : Rd w v l fc) :
    Calls Try.prog 5 #[v] w fun e w' => e = .returned (.bool true) ∧ Only [] w w' := by
  by_cases hb : 4096 < l.length
  · have hd : decide (4096 < l.length) = true := by simp [hb]
    go_enter Try.func5, Try.ntmps5
    go_wp2_with ((go_at_call 15; (with_reducible refine (big_any v l fc _ h).mono ?_); rintro e w1 ⟨he, t1⟩; rw [hd] at he; subst he))
    go_ret
    exact ⟨rfl, (by with_reducible repeat (first | exact Only.refl _ _ | assumption | refine Only.drewN ?_ _ | refine Only.drew ?_ | refine Only.alloc ?_ _ | refine Only.setCell ?_ (by intro hh; exfalso; simp at hh; try omega) _ | refine Only.trans ?_ (by assumption)))⟩
  have hd : decide (4096 < l.length) = false := by simp [hb]
  have hl : l.length ≤ 4096 := by omega
  go_enter Try.func5, Try.ntmps5
  go_upto_region 4 with (first
    | (go_at_call 15; (with_reducible refine (big_any v l fc _ h).mono ?_); rintro e w1 ⟨he, t1⟩; rw [hd] at he; subst he; have k1 : Only [] w w1 := (by with_reducible repeat (first | exact Only.refl _ _ | assumption | refine Only.drewN ?_ _ | refine Only.drew ?_ | refine Only.alloc ?_ _ | refine Only.setCell ?_ (by intro hh; exfalso; simp at hh; try omega) _ | refine Only.trans ?_ (by assumption))))
    | (go_at_call 24; (with_reducible refine (drawRandomMember_any v l fc w1 (Rp.keep h k1) hl).mono ?_); rintro e w2 ⟨s0, s1, s2, rfl, n, gs, fp, sd, rfl, rfl, hn, hsd, rM, FM, l9, l30, t2⟩; obtain ⟨a2, c2, ob2, fps2, rfl, -, -⟩ := id rM.open_)
    | fail "no arm")
  have kW : Only [] w w2 := k1.trans t2
  clear k1 t1 t2 hb hd FM l9 l30
  rcases hgs : gensB n gs
  · have Hgs := Lib.hid hgs
    clear hgs
    go_wp2_with (first
      | (go_at_call 25; (with_reducible refine (implRandomMember_no n _ gs fp sd w2 rM Hgs.out).mono ?_); rintro e w3 ⟨rfl, t3⟩)
      | (go_at_call 26; (with_reducible refine (specRandomMember_no n _ gs fp sd w3 (Rp.keep rM t3) Hgs.out).mono ?_); rintro e w4 ⟨b4, rfl, t4⟩)
      | (go_at_call 19; (with_reducible refine (like_nil b4 w4).mono ?_); rintro e w5 ⟨rfl, n5, rfl⟩)
      | fail "no arm")
    go_ret
    exact ⟨rfl, ((kW.trans t3).trans t4).drewN _⟩
  · obtain ⟨⟨n1, n20⟩, hgl, hpn⟩ := gensB_iff.1 hgs
    obtain ⟨m, rfl⟩ := Int.eq_ofNat_of_zero_le (show 0 ≤ n by omega)
    have hpn' : ∀ g ∈ gs, PM.PN m g := by simpa using hpn
    have hm0 : 0 < m := by omega
    have hm20 : m ≤ 20 := by omega
    obtain ⟨G, T, hCh⟩ := rank_chain m _ gs fp w2 rM hgs
    obtain ⟨st, hst⟩ : ∃ st, st = randM m gs sd := ⟨_, rfl⟩
    have hgr : PM.Grp m gs st := by rw [hst]; exact hCh.descG_grp hm0 hpn' (rsel sd) (rsel_good hCh.inv.wf sd)
    obtain ⟨sd', hsd'⟩ : ∃ s, s = sd.tmod 999999937 := ⟨_, rfl⟩
    have hst2 : randM m gs sd' = st := by rw [hsd', randM_tmod, hst]
    have hsI' : I64 sd' := by rw [hsd']; have := tmod_rng sd; unfold I64; omega
    have htm : sd.tmod 999999937 = sd' := hsd'.symm
    obtain ⟨od, hod⟩ : ∃ od, od = ordC m gs m := ⟨_, rfl⟩
    have hm1 : 1 < od → memO m gs 1 = memAt m gs 1 := fun ho => by unfold memO; rw [if_pos (by rw [← hod]; exact ho)]
    have hp1 : PM.PN m (memAt m gs 1) := (hCh.descG_grp hm0 hpn' (msel m gs 1) (msel_good hCh hm0 hpn' 1)).pn hpn'
    have Hgs := Lib.hid hgs
    have Hst := Lib.hid hst
    have Hst2 := Lib.hid hst2
    have Hgr := Lib.hid hgr
    have HsI := Lib.hid hsd
    have HsI' := Lib.hid hsI'
    have Hod := Lib.hid hod
    have Hm1 := Lib.hid hm1
    have Hp1 := Lib.hid hp1
    have HeV := Lib.hid (show eqV st st = true from by unfold eqV; simp)
    clear hgs hgl hpn hpn' hCh hst hgr hsd' hst2 hsd hsI' hod hm1 hp1
    by_cases ho : 1 < od
    · have hoI : (1 : Int) < (od : Int) := by omega
      have Hdo : Hid (decide (1 < ordC m gs m) = true) := Lib.hid (by rw [← Hod.out]; exact decide_eq_true ho)
      have Hk1 : Hid (1 < ordC m gs m) := Lib.hid (by rw [← Hod.out]; exact ho)
      have HcR : Hid (∀ (V : World) (u : Value) (f : List Nat), Only [] w2 V → Rd V u (memAt m gs 1) f → Calls Try.prog 21 #[.int .i64 m, .slice a2 gs.length c2, u] V fun e w' => e = .returned (.int .i64 1) ∧ Only [] V w') := Lib.hid (fun V u f hV hu => implRank_at m _ u gs (memAt m gs 1) fp f 1 V (Rp.keep rM hV) hu Hgs.out Hk1.out rfl Hp1.out)
      go_wp2_with (first
        | (go_at_call 25; (with_reducible refine (implRandomMember_yes m _ gs fp sd w2 rM Hgs.out HsI.out).mono ?_); rintro e w3 ⟨v3, f3, rfl, r3, F3, t3⟩; rw [← Hst.out] at r3; obtain ⟨a3, c3, rfl, I3⟩ := id r3.ints)
        | (go_at_call 26; (with_reducible refine (specRandomMember_yes m _ gs fp sd w3 (Rp.keep rM t3) Hgs.out HsI.out).mono ?_); rintro e w4 ⟨v4, f4, rfl, r4, F4, t4⟩; rw [← Hst.out] at r4; obtain ⟨a4, c4, rfl, I4⟩ := id r4.ints; have I34 := I3.keep t4)
        | (go_at_call 19; (with_reducible refine (likeInts_any a3 a4 c3 c4 st st _ _ w4 I34 I4).mono ?_); rintro e w5 ⟨he, n5, rfl⟩; rw [HeV.out] at he; subst he; have k5 : Only [] w2 (w4.drewN n5) := (t3.trans t4).drewN _)
        | (go_at_call 25; (with_reducible refine (implRandomMember_yes m _ gs fp sd' _ (Rp.keep rM k5) Hgs.out HsI'.out).mono ?_); rintro e w6 ⟨v6, f6, rfl, r6, F6, t6⟩; rw [Hst2.out] at r6; obtain ⟨a6, c6, rfl, I6⟩ := id r6.ints; have k6 := k5.trans t6)
        | (go_at_call 27; (with_reducible refine (implFirst_any m _ gs fp w6 (Rp.keep rM k6) Hgs.out).mono ?_); rintro e w7 ⟨v7, f7, he, r7, t7⟩; rw [Hdo.out] at he; subst he; rw [Hm1.out ho] at r7; have k7 := k6.trans t7; have I37 := ((I34.keep ((Only.refl [] w4).drewN n5)).keep t6).keep t7; have I67 := I6.keep t7)
        | (go_at_call 19; (with_reducible refine (likeInts_any a3 a6 c3 c6 st st _ _ w7 I37 I67).mono ?_); rintro e w8 ⟨he, n8, rfl⟩; rw [HeV.out] at he; subst he; have k8 : Only [] w2 (w7.drewN n8) := k7.drewN _)
        | (go_at_call 23; (with_reducible refine (implIsMember_yes m _ _ gs st fp _ _ (Rp.keep rM k8) (Rp.keep I37.rd ((Only.refl [] w7).drewN n8)) Hgs.out Hgr.out).mono ?_); rintro e w9 ⟨rfl, t9⟩; have k9 := k8.trans t9)
        | (go_at_call 28; (with_reducible refine (specGroupOrder_yes m _ gs fp w9 (Rp.keep rM k9) Hgs.out).mono ?_); rintro e wA ⟨he, o1, o2, tA⟩; rw [← Hod.out] at he; subst he; have kA := k9.trans tA)
        | (go_at_call 21; (with_reducible refine (HcR.out wA v7 f7 kA (Rp.keep r7 (((Only.refl [] w7).drewN n8).trans (t9.trans tA)))).mono ?_); rintro e wB ⟨rfl, tB⟩)
        | fail "no arm")
      go_ret
      exact ⟨rfl, kW.trans (kA.trans tB)⟩
    · have hoI : ¬ (1 : Int) < (od : Int) := by omega
      have Hdo : Hid (decide (1 < ordC m gs m) = false) := Lib.hid (by rw [← Hod.out]; exact decide_eq_false ho)
      go_wp2_with (first
        | (go_at_call 25; (with_reducible refine (implRandomMember_yes m _ gs fp sd w2 rM Hgs.out HsI.out).mono ?_); rintro e w3 ⟨v3, f3, rfl, r3, F3, t3⟩; rw [← Hst.out] at r3; obtain ⟨a3, c3, rfl, I3⟩ := id r3.ints)
        | (go_at_call 26; (with_reducible refine (specRandomMember_yes m _ gs fp sd w3 (Rp.keep rM t3) Hgs.out HsI.out).mono ?_); rintro e w4 ⟨v4, f4, rfl, r4, F4, t4⟩; rw [← Hst.out] at r4; obtain ⟨a4, c4, rfl, I4⟩ := id r4.ints; have I34 := I3.keep t4)
        | (go_at_call 19; (with_reducible refine (likeInts_any a3 a4 c3 c4 st st _ _ w4 I34 I4).mono ?_); rintro e w5 ⟨he, n5, rfl⟩; rw [HeV.out] at he; subst he; have k5 : Only [] w2 (w4.drewN n5) := (t3.trans t4).drewN _)
        | (go_at_call 25; (with_reducible refine (implRandomMember_yes m _ gs fp sd' _ (Rp.keep rM k5) Hgs.out HsI'.out).mono ?_); rintro e w6 ⟨v6, f6, rfl, r6, F6, t6⟩; rw [Hst2.out] at r6; obtain ⟨a6, c6, rfl, I6⟩ := id r6.ints; have k6 := k5.trans t6)
        | (go_at_call 27; (with_reducible refine (implFirst_any m _ gs fp w6 (Rp.keep rM k6) Hgs.out).mono ?_); rintro e w7 ⟨v7, f7, he, r7, t7⟩; rw [Hdo.out] at he; subst he; have k7 := k6.trans t7; have I37 := ((I34.keep ((Only.refl [] w4).drewN n5)).keep t6).keep t7; have I67 := I6.keep t7)
        | (go_at_call 19; (with_reducible refine (likeInts_any a3 a6 c3 c6 st st _ _ w7 I37 I67).mono ?_); rintro e w8 ⟨he, n8, rfl⟩; rw [HeV.out] at he; subst he; have k8 : Only [] w2 (w7.drewN n8) := k7.drewN _)
        | (go_at_call 23; (with_reducible refine (implIsMember_yes m _ _ gs st fp _ _ (Rp.keep rM k8) (Rp.keep I37.rd ((Only.refl [] w7).drewN n8)) Hgs.out Hgr.out).mono ?_); rintro e w9 ⟨rfl, t9⟩; have k9 := k8.trans t9)
        | (go_at_call 28; (with_reducible refine (specGroupOrder_yes m _ gs fp w9 (Rp.keep rM k9) Hgs.out).mono ?_); rintro e wA ⟨he, o1, o2, tA⟩; rw [← Hod.out] at he; subst he; have kA := k9.trans tA)
        | fail "no arm")
      go_ret
      exact ⟨ret_bool (by show (!decide ((1 : Int) < (od : Int))) = true; rw [decide_eq_false (show ¬ (1 : Int) < (od : Int) by omega)]; rfl), kW.trans kA⟩
end Go.Proofs.Ytnagknkllkdkaaa
