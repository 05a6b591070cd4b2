/- The program's memberAt: the member of a rank (laws 33, 34, ..). RandomState, of the reference and of the program (law 33). What the laws on ranks and random members draw (laws 34, 35). All members of a chain, level by level, are the members of the ranks in their order (laws 32, 36, 44). All members of a chain are the members of the ranks (laws 32, 36, 44). The reference's allMembers and Members; the program's members and Members (laws 32, 36, 44). The program's walk down a chain: how many values are less (laws 34, 35). The reference's Rank of the member of a rank (laws 34, 35, 53). The program's countBelow and Rank of the member of a rank (laws 34, 35). The program's Rank, IsMember, MemberAt, FirstNonIdentity; random members of no group (laws 34, 35). The program's members, Members, GroupOrder, OrbitSizes, hasAll, SameGroup; the reference's Members, OrbitSizes, PermutationLess (laws 32, 36, 44). -/
import Derived.Test.YtpcamkmoabhlhaaRowChainOrderG11
import Derived.Test.YtpcamkmoabhlhaaRowChainOrderG10
import Derived.Deep.QuietTactic
import Derived.Test.YtpcamkmoabhlhaaRowChainOrderG7
import Derived.Deep.RegionHeld3
import Derived.Test.YtpcamkmoabhlhaaRowChainOrderG8
import Derived.Test.YtpcamkmoabhlhaaRowChainOrderG1
namespace Go.Proofs.Ytpcamkmoabhlhaa
open Go.RowKit
set_option maxRecDepth 10000

set_option maxHeartbeats 4000000 in
theorem memberAt_yes (n : Nat) {B : Nat} {L : Lay} {gv : Nat → Value} {gens : List (List Int)} {G : PM.Gens} {T : PM.Rows} {M F : List Nat} (k : Nat) (w : World) (hC : Ch 23 B w L gv n G T M F) (hCh : PM.Chain n gens G T) (hT : L.oT = 2) (hpn : ∀ g ∈ gens, PM.PN n g) (hk : k < ordC n gens n) :
    Calls Try.prog 60 #[.pointer (some ⟨L.g, 0, none⟩), .int .i64 k] w fun e w' => ∃ v f, e = .returned (.tuple #[v, .bool true]) ∧ Rd w' v (memAt n gens k) f ∧ Fresh w.heap.size w' f ∧ Only [] w w' := by
  have hn : 0 < n := hC.pos
  have hn20 : n ≤ 20 := hC.le
  have Hpn := Lib.hid hpn
  obtain ⟨R, hR⟩ : ∃ R, R = memAt n gens k := ⟨_, rfl⟩
  rw [← hR]
  have HR := Lib.hid hR
  clear hR hpn
  have hOE : ∀ j, j ≤ n → PM.ordM T n j = ordC n gens j := fun j hj => ordC_eq hCh hn Hpn.out hj
  have hole := ordC_le hCh hn Hpn.out hn20 (j := n) (Nat.le_refl _)
  have hRng : inR (k : Int) 0 ((ordC n gens n : Nat) - 1 : Int) = true := inR_iff.2 (by omega)
  have HOE := Lib.hid hOE
  have hst : ∀ i, i < n → k % ordC n gens (n - i) % ordC n gens (n - (i + 1)) = k % ordC n gens (n - (i + 1)) := fun i hi => mod_step hCh hn Hpn.out k hi
  have hgood := msel_good hCh hn Hpn.out k
  have hpos : ∀ j, j ≤ n → 1 ≤ ordC n gens j := fun j hj => ordC_pos hCh hn Hpn.out hj
  have hle : ∀ j, j ≤ n → ordC n gens j ≤ 2432902008176640000 := fun j hj => ordC_le hCh hn Hpn.out hn20 hj
  have hk0 : k % ordC n gens (n - 0) = k := by rw [Nat.sub_zero]; exact Nat.mod_eq_of_lt hk
  have Hst := Lib.hid hst
  have Hgood := Lib.hid hgood
  have Hpos := Lib.hid hpos
  have Hle := Lib.hid hle
  have Hk0 := Lib.hid hk0
  have HC := Lib.hid hC
  have hwf := hCh.inv.wf
  have Hwf := Lib.hid hwf
  have HoT := Lib.hid hT
  have hR0 : R = PM.desc T n (msel n gens k) (n - 0) 0 (PM.pts n) := by rw [HR.out, Nat.sub_zero]; exact (hCh.descG hn Hpn.out (msel n gens k) hgood).symm
  have HR0 := Lib.hid hR0
  have HCh := Lib.hid hCh
  have hcn := hC.cn
  obtain ⟨od, hod⟩ : ∃ od, od = ordC n gens n := ⟨_, rfl⟩
  rw [← hod] at hole hRng
  have HRng := Lib.hid hRng
  have HcO : Hid (Calls Try.prog 38 #[.pointer (some ⟨L.g, 0, none⟩), .int .i64 0] w fun e w' => e = .returned (.int .i64 (od : Nat)) ∧ Only [] w w') := Lib.hid (by
    rw [hod, ← hOE n (Nat.le_refl _)]
    exact implOrder0 hC hwf hT)
  have hwo : IntKind.i64.wrap ((od : Int) - 1) = (od : Int) - 1 := by rw [IntKind.wrap_i64]; omega
  have hbM0 := hC.lM
  have hbF0 := hC.lF
  clear hOE hRng hst hgood hpos hle hk0 hC hwf hT hR0 hCh hod
  go_enter Try.func60, Try.ntmps60
  go_wp2_with (first
    | (go_at_call 38; (with_reducible refine (HcO.out).mono ?_); rintro en w1 ⟨rfl, t1⟩; have c1n := t1.cell (by simp) hcn)
    | (go_at_call 54; (with_reducible refine (within_any (k : Int) 0 ((od : Int) - 1) _).mono ?_); rintro e w1' ⟨he, h1⟩; rw [HRng.out] at he; subst he; rw [h1]; clear h1)
    | (go_at_call 58; (with_reducible refine (implIdentity_any n w1 (by omega)).mono ?_); rintro en w4 ⟨v4, f4, rfl, r4, F4, t4⟩)
    | (go_at_call 82; (with_reducible refine (from_any L.g v4 (PM.pts n) f4 w4 r4).mono ?_); rintro en w5 ⟨rfl, hB5, t5, hs5⟩)
    | fail "no arm")
  have z1 := t1.size
  have z4 := t4.size
  have k5 : Only [] w w5 := (t1.trans t4).trans t5
  have hC5 := HC.out.keep k5
  have r5 := Rp.keep r4 t5
  have F5 : Fresh w.heap.size w5 f4 := (F4.keep t5).mono z1
  have hbM : ∀ z ∈ [w4.heap.size], z ∉ M := fun z hz hm => by have := hbM0 z hm; simp at hz; omega
  have hbF : ∀ z ∈ [w4.heap.size], z ∉ F := fun z hz hm => by have := hbF0 z hm; simp at hz; omega
  have HbM := Lib.hid hbM
  have HbF := Lib.hid hbF
  clear hbM hbF t1 t4 t5 r4 F4 hs5 c1n hbM0 hbF0 HcO
  go_loopw [1] (fun kv wr => ∃ (i : Nat) (v : Value) (m : List Int) (f : List Nat), i ≤ n ∧ kv = .int .i64 (k % ordC n gens (n - i) : Nat) ∧ Blk wr w4.heap.size [.pointer (some ⟨L.g, 0, none⟩), .int .i64 i, v] ∧ Rd wr v m f ∧ Fresh w.heap.size wr f ∧ Ch 23 B wr L gv n G T M F ∧ PM.Grp n gens m ∧ Hid (R = PM.desc T n (msel n gens k) (n - i) i m) ∧ Only [] w wr)
    (fun _ wr => n - (intOf ((wr.cell? ⟨w4.heap.size, 1, none⟩).getD undef)).toNat)
  case atStart => exact ⟨0, v4, PM.pts n, f4, Nat.zero_le _, by rw [Hk0.out], hB5, r5, F5, hC5, .id, HR0, k5⟩
  case round =>
    obtain ⟨W2, hnew⟩ : ∃ W, W = wr := ⟨_, rfl⟩
    subst hnew
    clear hB5 r5 F5 hC5 k5
    obtain ⟨i, v, m, f, hi, rfl, hB, hr, hF, hC, hgr, hRR, hO⟩ := hrel
    have y1 := hB.cell 1 rfl
    have yn := hC.cn
    go_upto_region 4 with fail
    go_quiet (fail)
    obtain ⟨W3, hW3⟩ : ∃ W, W = W2.drewN nq := ⟨_, rfl⟩
    have kq : Only [] W2 W3 := by rw [hW3]; exact (Only.refl _ _).drewN _
    rw [← hW3]
    have hB3 := hB.keep kq
    have hC3 := hC.keep kq
    have hr3 := Rp.keep hr kq
    have hF3 := hF.keep kq
    have hO3 := hO.trans kq
    have y13 := hB3.cell 1 rfl
    have hO2 := hO3.size
    have hbW := hB3.lt
    clear hW3
    by_cases hlt : i < n
    · have hpm : PM.PN n m := hgr.pn Hpn.out
      have hwf := Hwf.out
      obtain ⟨C, hCd⟩ : ∃ C, C = PM.cho n T i m := ⟨_, rfl⟩
      have hCl : C.length = PM.cntR n T i := by rw [hCd, PM.cho_len hpm]
      have hCl2 : C.length ≤ 20 := by rw [hCl]; have := PM.cntR_le n T i; omega
      obtain ⟨r, hrr⟩ : ∃ r, r = ordC n gens (n - (i + 1)) := ⟨_, rfl⟩
      obtain ⟨kk, hkk⟩ : ∃ kk, kk = k % ordC n gens (n - i) := ⟨_, rfl⟩
      obtain ⟨q, hq⟩ : ∃ q, q = kk / r := ⟨_, rfl⟩
      have hqs : q = msel n gens k i C.length := by rw [hq, hkk, hrr]; rfl
      have hql : q < C.length := by
        have h1 := Hgood.out i hlt
        rw [hCl]
        have h2 : msel n gens k i C.length = msel n gens k i (PM.cntR n T i) := rfl
        rw [hqs, h2]; exact h1
      have hkm : C[q] ∈ PM.cho n T i m := by rw [← hCd]; exact List.getElem_mem hql
      have hgr2 := HCh.out.putV hn Hpn.out hlt hgr hkm
      have hRR2 : R = PM.desc T n (msel n gens k) (n - (i + 1)) (i + 1) (PM.putV T i m C[q]) := by
        subst hCd
        rw [hRR.out]
        exact PM.desc_step hlt m hqs hql
      have hrp : 1 ≤ r := by rw [hrr]; exact Hpos.out _ (by omega)
      have hrl : r ≤ 2432902008176640000 := by rw [hrr]; exact Hle.out _ (by omega)
      have hkkl : kk ≤ 2432902008176640000 := by
        rw [hkk]
        have h1 := Nat.mod_lt k (show 0 < ordC n gens (n - i) from Hpos.out _ (by omega))
        have h2 := Hle.out (n - i) (by omega)
        omega
      have hdiv : Int.tdiv (kk : Int) (r : Int) = (q : Int) := by rw [tdiv_nat, hq]
      have hmod : Int.tmod (kk : Int) (r : Int) = ((k % ordC n gens (n - (i + 1)) : Nat) : Int) := by rw [tmod_nat, hkk, hrr, Hst.out i hlt]
      have hr0 : ¬ ((r : Int) = 0) := by omega
      have HcO : Hid (Calls Try.prog 38 #[.pointer (some ⟨L.g, 0, none⟩), .int .i64 ((i : Int) + 1)] W3 fun e w' => e = .returned (.int .i64 (r : Nat)) ∧ Only [] W3 w') := Lib.hid (by
        rw [hrr, ← HOE.out _ (by omega)]
        exact implOrder_any W3 hC3 hwf HoT.out (i + 1) (by omega))
      have HcS := Lib.hid (fun (V : World) (hV : Only [] W3 V) => walkSorted_any V (hC3.keep hV) hwf HoT.out w4.heap.size i hlt v m f (hB3.keep hV) (Rp.keep hr3 hV) hpm)
      rw [← hCd] at HcS
      obtain ⟨k2, hk2⟩ : ∃ k2, k2 = k % ordC n gens (n - (i + 1)) := ⟨_, rfl⟩
      rw [← hk2] at hmod
      rw [← hkk]
      have Hk2 := Lib.hid hk2
      have HRR2 := Lib.hid hRR2
      have Hgr2 := Lib.hid hgr2
      have Hkm := Lib.hid hkm
      have Hpm := Lib.hid hpm
      have HC3 := Lib.hid hC3
      have HB3 := Lib.hid hB3
      have hltI : (i : Int) < (n : Int) := by omega
      have hwi : IntKind.i64.wrap ((i : Int) + 1) = (i : Int) + 1 := by rw [IntKind.wrap_i64]; omega
      clear hCd hCl hrr hkk hq hqs hRR2 hgr2 hkm hpm hwf hC hC3 hB hB3 hgr hRR hk2 yn kq
      go_wp2_with (first
        | (go_at_call 38; (with_reducible refine (HcO.out).mono ?_); rintro en w6 ⟨rfl, t6⟩; have y16 := t6.cell (by simp) y13)
        | (go_at_call 83; (with_reducible refine (HcS.out w6 t6).mono ?_); rintro en w7 ⟨v7, rfl, hA7, t7⟩; obtain ⟨a7, c7, rfl, I7⟩ := hA7.rd.ints; obtain ⟨b8, o8, rfl, -, c8⟩ := I7.at_ q hql; have k37 := t6.trans t7)
        | (go_at_call 84; (with_reducible refine (take_yes w7 (HC3.out.keep k37) Hwf.out HoT.out w4.heap.size i hlt v m f (HB3.out.keep k37) (Rp.keep hr3 k37) Hpm.out C[q] Hkm.out).mono ?_); rintro en w9 ⟨rfl, ⟨v9, f9, B9, r9, F9⟩, O9⟩)
        | fail "no arm")
      have k29 : Only [] w w9 := (hO3.trans k37).then_ O9 (fun z hz hl => by simp at hz; omega)
      have HC9 := (HC3.out.keep k37).only O9 HbM.out HbF.out
      have F9' : Fresh w.heap.size w9 f9 := F9.mono (by have := k37.size; omega)
      have y9 := B9.cell 1 rfl
      go_roundw
      case rel => exact ⟨i + 1, v9, _, f9, by omega, by rw [Hk2.out], B9, r9, F9', HC9, Hgr2.out, HRR2, k29⟩
      case measure => rw [y9, y1]; simp [intOf]; omega
    · obtain rfl : i = n := by omega
      have hfin : R = m := by rw [hRR.out]; exact PM.desc_end (Nat.le_refl _) m
      have hge : ¬ ((i : Int) < (i : Int)) := by omega
      have y2 := hB3.cell 2 rfl
      have Hfin := Lib.hid hfin
      clear hfin hRR
      go_wp2
      exact bodyPost_ret (v := .tuple #[v, .bool true]) (by simp [results, Try.results60, go_sem]) rfl ⟨v, rfl, f, by rw [Hfin.out]; exact hr3, hF3, hO3⟩
end Go.Proofs.Ytpcamkmoabhlhaa

namespace Go.Proofs.Ytpcamkmoabhlhaa
open Go.RowKit
set_option maxRecDepth 10000
set_option maxHeartbeats 1000000 in
theorem specGroupOrder_yes (n : Nat) (vg : Value) (gens : List (List Int)) (fpg : List Nat) (w : World) (hg : Rd w vg gens fpg) (hgs : gensB n gens = true) :
    Calls Try.prog 18 #[.int .i64 n, vg] w fun e w' => e = .returned (.int .i64 (ordC n gens n : Nat)) ∧ 1 ≤ ordC n gens n ∧ ordC n gens n ≤ 2432902008176640000 ∧ Only [] w w' := by
  obtain ⟨⟨n1, n20⟩, hgl, hpn⟩ := gensB_iff.1 hgs
  have hpn' : ∀ g ∈ gens, PM.PN n g := by simpa using hpn
  have hn : 0 < n := by omega
  have hn20 : n ≤ 20 := by omega
  have Hgs := Lib.hid hgs
  have Hpn := Lib.hid hpn'
  clear hpn hpn' hgs
  go_enter Try.func18, Try.ntmps18
  go_wp2_with (first
    | (go_at_call 25; (with_reducible refine (specIsGens_rd n vg gens fpg w hg).mono ?_); rintro en w1 ⟨he, t1⟩; rw [Hgs.out] at he; subst he; have t1 := t1.only [])
    | (go_at_call 42; (with_reducible refine (buildChain_any n hn hn20 vg gens fpg w1 (Rp.keep hg t1) Hpn.out (by omega)).mono ?_); rintro en w3 ⟨L, gv, G, T, M, F, rfl, hoG, hoT, hC, hCh, t3⟩; have HC := Lib.hid hC; have HCh := Lib.hid hCh; have HoT := Lib.hid hoT; clear hC hCh hoT hoG)
    | (go_at_call 41; (with_reducible refine (chainOrder_any w3 HC.out HCh.out.inv.wf HoT.out).mono ?_); rintro en w4 ⟨he, t4⟩; rw [ordC_eq HCh.out hn Hpn.out (Nat.le_refl _)] at he; subst he)
    | fail "no arm")
  go_ret
  exact ⟨rfl, ordC_pos HCh.out hn Hpn.out (Nat.le_refl _), ordC_le HCh.out hn Hpn.out hn20 (Nat.le_refl _), (t1.trans t3).trans t4⟩
theorem specGroupOrder_i (n : Int) (vg : Value) (gens : List (List Int)) (fpg : List Nat) (w : World) (hg : Rd w vg gens fpg) (hgs : gensB n gens = true) :
    Calls Try.prog 18 #[.int .i64 n, vg] w fun e w' => e = .returned (.int .i64 (ordC n.toNat gens n.toNat : Nat)) ∧ 1 ≤ ordC n.toNat gens n.toNat ∧ ordC n.toNat gens n.toNat ≤ 2432902008176640000 ∧ Only [] w w' := by
  obtain ⟨⟨n1, n20⟩, -, -⟩ := gensB_iff.1 hgs
  obtain ⟨m, rfl⟩ := Int.eq_ofNat_of_zero_le (by omega : 0 ≤ n)
  exact specGroupOrder_yes m vg gens fpg w hg hgs



end Go.Proofs.Ytpcamkmoabhlhaa

namespace Go.Proofs.Ytpcamkmoabhlhaa
open Go.RowKit
set_option maxRecDepth 10000

/-- drawn: a degree, generators, a number -/
def DM (w : World) (s0 s1 s2 : Value) (wx : World) : Prop :=
  ∃ (n : Int) (gs : List (List Int)) (fp : List Nat) (k : Int), s0 = .int .i64 n ∧ s2 = .int .i64 k ∧ I64 n ∧ I64 k ∧ Rd wx s1 gs fp ∧ Fresh w.heap.size wx fp ∧ gs.length ≤ 9 ∧ (∀ y : List Int, y ∈ gs → y.length ≤ 30) ∧ Only [] w wx
theorem DM.of {w w1 w2 w4 : World} {g : Nat} {fc : List Nat} {l : List UInt8} {n k : Int} {v : Value} {gs : List (List Int)} {fp : List Nat} (t1 : Only [] w w1) (hg : w.heap.size ≤ g) (D1 : Src w1 g fc l) (hn : I64 n) (hk : I64 k) (r2 : Rd w2 v gs fp) (F2 : Fresh w1.heap.size w2 fp) (l9 : gs.length ≤ 9) (l30 : ∀ y : List Int, y ∈ gs → y.length ≤ 30) (K2 : Only [g] w1 w2) (K4 : Only [g] w2 w4) : DM w (.int .i64 n) v (.int .i64 k) w4 := by
  have hgl := D1.lt
  have hd : ∀ q ∈ fp, q ∉ [g] := fun q hq hm => by have := F2.ge q hq; simp at hm; omega
  exact ⟨n, gs, fp, k, rfl, rfl, hn, hk, Rp.only r2 K4 hd, (F2.only K4 hd).mono t1.size, l9, l30, ((t1.weaken [g]).trans (K2.trans K4)).mono fun b hb hl => by simp at hb; omega⟩

set_option maxHeartbeats 1000000 in
theorem specGroupOrder_no (n : Int) (vg : Value) (gens : List (List Int)) (fpg : List Nat) (w : World) (hg : Rd w vg gens fpg) (hgs : gensB n gens = false) :
    Calls Try.prog 18 #[.int .i64 n, vg] w fun e w' => e = .returned (.int .i64 0) ∧ Only [] w w' := by
  have Hgs := Lib.hid hgs
  clear hgs
  go_enter Try.func18, Try.ntmps18
  go_wp2_with (first
    | (go_at_call 25; (with_reducible refine (specIsGens_rd n vg gens fpg w hg).mono ?_); rintro en w1 ⟨he, t1⟩; rw [Hgs.out] at he; subst he; have t1 := t1.only [])
    | fail "no arm")
  go_ret
  exact ⟨rfl, t1⟩
/-- the order of a group, 0 of no group -/
noncomputable def ordG (n : Int) (gens : List (List Int)) : Nat := if gensB n gens = true then ordC n.toNat gens n.toNat else 0
theorem specGroupOrder_any (n : Int) (vg : Value) (gens : List (List Int)) (fpg : List Nat) (w : World) (hg : Rd w vg gens fpg) :
    Calls Try.prog 18 #[.int .i64 n, vg] w fun e w' => e = .returned (.int .i64 (ordG n gens : Nat)) ∧ ordG n gens ≤ 2432902008176640000 ∧ (gensB n gens = true → 1 ≤ ordG n gens) ∧ Only [] w w' := by
  by_cases h : gensB n gens = true
  · have e1 : ordG n gens = ordC n.toNat gens n.toNat := by unfold ordG; rw [if_pos h]
    rw [e1]
    refine (specGroupOrder_i n vg gens fpg w hg h).mono ?_
    rintro e w' ⟨h1, h2, h3, h4⟩
    exact ⟨h1, h3, fun _ => h2, h4⟩
  · have e1 : ordG n gens = 0 := by unfold ordG; rw [if_neg h]
    rw [e1]
    refine (specGroupOrder_no n vg gens fpg w hg (by simpa using h)).mono ?_
    rintro e w' ⟨h1, h4⟩
    exact ⟨h1, by omega, fun hh => absurd hh h, h4⟩

end Go.Proofs.Ytpcamkmoabhlhaa

namespace PM

/-- the members that begin as m, by the levels that are left -/
def dn (T : Rows) (n : Nat) : Nat → Nat → List Int → List (List Int)
  | 0, _, m => [m]
  | k + 1, i, m => (cho n T i m).flatMap fun v => dn T n k (i + 1) (putV T i m v)
/-- the selection of a rank, by a chain -/
def mselT (T : Rows) (n : Nat) (r i _len : Nat) : Nat := (r % ordM T n (n - i)) / ordM T n (n - (i + 1))
theorem range_mul {α : Type} (f : Nat → α) (b : Nat) : ∀ a, (List.range (a * b)).map f = (List.range a).flatMap fun q => (List.range b).map fun s => f (q * b + s)
  | 0 => by simp
  | a + 1 => by
    rw [List.range_succ, List.flatMap_append, ← range_mul f b a, Nat.succ_mul, List.range_add, List.map_append]
    simp [List.map_map, Function.comp_def]
theorem fm_congr {α β : Type} {f g : α → List β} : ∀ {l : List α}, (∀ x ∈ l, f x = g x) → l.flatMap f = l.flatMap g
  | [], _ => rfl
  | x :: l, h => by
    rw [List.flatMap_cons, List.flatMap_cons, h x (by simp), fm_congr fun y hy => h y (List.mem_cons_of_mem _ hy)]
theorem flatMap_range {α : Type} (l : List Int) (g : Int → List α) : l.flatMap g = (List.range l.length).flatMap fun q => g (l.getD q 0) := by
  have h : l = (List.range l.length).map fun q => l.getD q 0 := by
    apply List.ext_getElem (by simp)
    intro i h1 h2
    simp [h1]
  conv => lhs; rw [h]
  rw [List.flatMap_map]
theorem ordM_dvd (T : Rows) (n : Nat) {a : Nat} : ∀ {b : Nat}, a ≤ b → ordM T n a ∣ ordM T n b
  | 0, h => by obtain rfl : a = 0 := by omega
               exact Nat.dvd_refl _
  | b + 1, h => by
    by_cases e : a = b + 1
    · subst e; exact Nat.dvd_refl _
    · exact Nat.dvd_trans (ordM_dvd T n (show a ≤ b by omega)) ⟨cntR n T (n - (b + 1)), by show cntR n T (n - (b + 1)) * ordM T n b = _; rw [Nat.mul_comm]⟩
theorem desc_sel {T : Rows} {n : Nat} {sel sel' : Nat → Nat → Nat} : ∀ (k i : Nat) (m : List Int), (∀ j, i ≤ j → ∀ l, sel j l = sel' j l) → desc T n sel k i m = desc T n sel' k i m
  | 0, _, _, _ => rfl
  | k + 1, i, m, h => by
    show desc T n sel k (i + 1) _ = desc T n sel' k (i + 1) _
    rw [h i (Nat.le_refl _)]
    exact desc_sel k (i + 1) _ fun j hj => h j (by omega)
theorem dn_eq {T : Rows} {n : Nat} (hw : WF n T) : ∀ (k i : Nat) (m : List Int), i + k = n → PN n m → dn T n k i m = (List.range (ordM T n k)).map fun r => desc T n (mselT T n r) k i m
  | 0, i, m, _, _ => by simp [dn, ordM, desc]
  | k + 1, i, m, hi, hm => by
    have hi' : n - i = k + 1 := by omega
    have hi2 : n - (i + 1) = k := by omega
    have hi3 : n - (k + 1) = i := by omega
    have hl := cho_len (T := T) (i := i) hm
    have hM := (ordM_rng hw k (by omega)).1
    have ho : ordM T n (k + 1) = (cho n T i m).length * ordM T n k := by
      show cntR n T (n - (k + 1)) * ordM T n k = _
      rw [hi3, hl]
    show ((cho n T i m).flatMap fun v => dn T n k (i + 1) (putV T i m v)) = _
    rw [ho, range_mul, flatMap_range]
    refine fm_congr fun q hq => ?_
    have hq' : q < (cho n T i m).length := List.mem_range.1 hq
    have hv : (cho n T i m).getD q 0 ∈ cho n T i m := by rw [List.getD_eq_getElem?_getD, List.getElem?_eq_getElem hq']; exact List.getElem_mem hq'
    rw [dn_eq hw k (i + 1) _ (by omega) (putV_pn hw (by omega) hm hv).1]
    refine List.map_congr_left fun s hs => ?_
    have hs' : s < ordM T n k := List.mem_range.1 hs
    have hlt : q * ordM T n k + s < (cho n T i m).length * ordM T n k := by
      have := Nat.mul_le_mul_right (ordM T n k) (show q + 1 ≤ (cho n T i m).length by omega)
      rw [Nat.succ_mul] at this
      omega
    have hsel : mselT T n (q * ordM T n k + s) i (cho n T i m).length = q := by
      unfold mselT
      rw [hi', hi2, ho, Nat.mod_eq_of_lt hlt, Nat.mul_comm, Nat.mul_add_div (by omega), Nat.div_eq_of_lt hs', Nat.add_zero]
    show desc T n (mselT T n s) k (i + 1) _ = desc T n (mselT T n (q * ordM T n k + s)) k (i + 1) (putV T i m ((cho n T i m).getD (mselT T n (q * ordM T n k + s) i (cho n T i m).length) 0))
    rw [hsel]
    refine desc_sel k (i + 1) _ fun j hj l => ?_
    unfold mselT
    have hd : ordM T n (n - j) ∣ ordM T n k := ordM_dvd T n (by omega)
    obtain ⟨c, hc⟩ := hd
    rw [hc, Nat.mul_comm q, Nat.mul_assoc, Nat.mul_add_mod]
/-- the members that begin alike down to a level, one for each beginning -/
def lvA (T : Rows) (n : Nat) : Nat → List (List Int)
  | 0 => [pts n]
  | i + 1 => (lvA T n i).flatMap fun m => (cho n T i m).map (putV T i m)
theorem lvA_dn (T : Rows) (n : Nat) : ∀ i, i ≤ n → (lvA T n i).flatMap (fun m => dn T n (n - i) i m) = dn T n n 0 (pts n)
  | 0, _ => by simp [lvA]
  | i + 1, h => by
    rw [← lvA_dn T n i (by omega)]
    show ((lvA T n i).flatMap fun m => (cho n T i m).map (putV T i m)).flatMap _ = _
    rw [List.flatMap_assoc]
    refine fm_congr fun m _ => ?_
    rw [show n - i = (n - (i + 1)) + 1 by omega, List.flatMap_map]
    rfl
theorem lvA_all {T : Rows} {n : Nat} (hw : WF n T) : lvA T n n = (List.range (ordM T n n)).map fun r => desc T n (mselT T n r) n 0 (pts n) := by
  rw [← dn_eq hw n 0 (pts n) (by omega) (PN.id n), ← lvA_dn T n n (Nat.le_refl _), Nat.sub_self]
  induction lvA T n n with
  | nil => rfl
  | cons x l ih => rw [List.flatMap_cons, ← ih]; rfl
theorem lvA_pn {T : Rows} {n : Nat} (hw : WF n T) : ∀ i, i ≤ n → ∀ m ∈ lvA T n i, PN n m
  | 0, _, m, hm => by
    have : m = pts n := by simpa [lvA] using hm
    rw [this]; exact PN.id n
  | i + 1, h, m, hm => by
    obtain ⟨x, hx, hm2⟩ := List.mem_flatMap.1 hm
    obtain ⟨v, hv, rfl⟩ := List.mem_map.1 hm2
    exact (putV_pn hw (by omega) (lvA_pn hw i (by omega) x hx) hv).1
/-- before, in the order of the entries -/
def Lex (n : Nat) (p q : List Int) : Prop := ∃ i : Nat, i < n ∧ Alike i p q ∧ at_ p (i : Int) < at_ q (i : Int)
theorem dn_lex {T : Rows} {n : Nat} (hw : WF n T) : ∀ (k i : Nat) (m : List Int), i + k = n → PN n m → (dn T n k i m).Pairwise (Lex n) ∧ ∀ p ∈ dn T n k i m, PN n p ∧ Alike i p m
  | 0, i, m, _, hm => by
    refine ⟨by simp [dn], fun p hp => ?_⟩
    have : p = m := by simpa [dn] using hp
    subst this
    exact ⟨hm, fun _ _ _ => rfl⟩
  | k + 1, i, m, hi, hm => by
    have hin : i < n := by omega
    have ih : ∀ v ∈ cho n T i m, (dn T n k (i + 1) (putV T i m v)).Pairwise (Lex n) ∧ ∀ p ∈ dn T n k (i + 1) (putV T i m v), PN n p ∧ Alike (i + 1) p (putV T i m v) := fun v hv => dn_lex hw k (i + 1) _ (by omega) (putV_pn hw hin hm hv).1
    refine ⟨?_, fun p hp => ?_⟩
    · show ((cho n T i m).flatMap fun v => dn T n k (i + 1) (putV T i m v)).Pairwise (Lex n)
      rw [List.pairwise_flatMap]
      refine ⟨fun v hv => (ih v hv).1, ?_⟩
      refine List.Pairwise.imp_of_mem (fun {v v'} hv hv' hlt p hp q hq => ?_) (choO_asc m (rowP n T i))
      obtain ⟨-, h2, h3⟩ := putV_pn hw hin hm hv
      obtain ⟨-, h2', h3'⟩ := putV_pn hw hin hm hv'
      have a1 := ((ih v hv).2 p hp).2
      have a2 := ((ih v' hv').2 q hq).2
      refine ⟨i, hin, fun x x0 x1 => ?_, ?_⟩
      · rw [a1 x x0 (by omega), a2 x x0 (by omega), h2 x x0 x1, h2' x x0 x1]
      · rw [a1 (i : Int) (by omega) (by omega), a2 (i : Int) (by omega) (by omega), h3, h3']
        exact hlt
    · obtain ⟨v, hv, hp2⟩ := List.mem_flatMap.1 hp
      obtain ⟨-, h2, -⟩ := putV_pn hw hin hm hv
      obtain ⟨b1, b2⟩ := (ih v hv).2 p hp2
      exact ⟨b1, fun x x0 x1 => (b2 x x0 (by omega)).trans (h2 x x0 x1)⟩
theorem lvA_lex {T : Rows} {n : Nat} (hw : WF n T) : (lvA T n n).Pairwise (Lex n) := by
  rw [lvA_all hw, ← dn_eq hw n 0 (pts n) (by omega) (PN.id n)]
  exact (dn_lex hw n 0 (pts n) (by omega) (PN.id n)).1
end PM

namespace Go.Proofs.Ytpcamkmoabhlhaa
open Go.RowKit
set_option maxRecDepth 10000

theorem msel_T {n : Nat} {gens : List (List Int)} {G : PM.Gens} {T : PM.Rows} (h : PM.Chain n gens G T) (hn : 0 < n) (hp : ∀ g ∈ gens, PM.PN n g) (k : Nat) : msel n gens k = PM.mselT T n k := by
  funext i l
  unfold msel PM.mselT
  rw [ordC_eq h hn hp (by omega), ordC_eq h hn hp (by omega)]
/-- all members, in the order of their ranks -/
noncomputable def allMem (n : Nat) (gens : List (List Int)) : List (List Int) := (List.range (ordC n gens n)).map (memAt n gens)
theorem allMem_len (n : Nat) (gens : List (List Int)) : (allMem n gens).length = ordC n gens n := by unfold allMem; simp
theorem lv_allMem {n : Nat} {gens : List (List Int)} {G : PM.Gens} {T : PM.Rows} (h : PM.Chain n gens G T) (hn : 0 < n) (hp : ∀ g ∈ gens, PM.PN n g) : PM.lvA T n n = allMem n gens := by
  rw [PM.lvA_all h.inv.wf, ordC_eq h hn hp (Nat.le_refl _)]
  unfold allMem
  refine List.map_congr_left fun r _ => ?_
  rw [← msel_T h hn hp r]
  exact h.descG hn hp (msel n gens r) (msel_good h hn hp r)
theorem allMem_grp {n : Nat} {gens : List (List Int)} {G : PM.Gens} {T : PM.Rows} (h : PM.Chain n gens G T) (hn : 0 < n) (hp : ∀ g ∈ gens, PM.PN n g) : ∀ m ∈ allMem n gens, PM.Grp n gens m := by
  intro m hm
  unfold allMem at hm
  obtain ⟨r, -, rfl⟩ := List.mem_map.1 hm
  exact h.descG_grp hn hp (msel n gens r) (msel_good h hn hp r)
end Go.Proofs.Ytpcamkmoabhlhaa

namespace PM
theorem lvA_len {T : Rows} {n : Nat} (hw : WF n T) {i : Nat} (h : i < n) : (lvA T n (i + 1)).length = (lvA T n i).length * cntR n T i := by
  show ((lvA T n i).flatMap fun m => (cho n T i m).map (putV T i m)).length = _
  have hp := lvA_pn hw i (by omega)
  generalize lvA T n i = L at hp
  induction L with
  | nil => simp
  | cons m L ih =>
    rw [List.flatMap_cons, List.length_append, List.length_map, cho_len (hp m (by simp)), ih fun x hx => hp x (List.mem_cons_of_mem _ hx), List.length_cons, Nat.succ_mul]
    omega
theorem lvA_mono {T : Rows} {n : Nat} (hw : WF n T) : ∀ d i, i + d = n → (lvA T n i).length ≤ (lvA T n n).length
  | 0, i, h => by rw [show i = n by omega]; exact Nat.le_refl _
  | d + 1, i, h => by
    refine Nat.le_trans ?_ (lvA_mono hw d (i + 1) (by omega))
    rw [lvA_len hw (by omega)]
    have := cntR_pos hw (show i < n by omega)
    exact Nat.le_mul_of_pos_right _ this
theorem lvA_le {T : Rows} {n : Nat} (hw : WF n T) {i : Nat} (h : i ≤ n) : (lvA T n i).length ≤ ordM T n n := by
  have h1 := lvA_mono hw (n - i) i (by omega)
  rw [lvA_all hw, List.length_map, List.length_range] at h1
  exact h1
/-- what stands behind a member at a level -/
def ups (T : Rows) (n i : Nat) (m : List Int) : List (List Int) := (cho n T i m).map (putV T i m)
theorem lvA_succ (T : Rows) (n i : Nat) : lvA T n (i + 1) = (lvA T n i).flatMap (ups T n i) := rfl
theorem fm_take_succ {α β : Type} (f : α → List β) (l : List α) (k : Nat) (h : k < l.length) : (l.take (k + 1)).flatMap f = (l.take k).flatMap f ++ f l[k] := by
  rw [List.take_succ_eq_append_getElem h, List.flatMap_append]; simp
theorem fm_part_le {α β : Type} (f : α → List β) (l : List α) (k : Nat) (h : k < l.length) (j : Nat) : ((l.take k).flatMap f ++ (f l[k]).take j).length ≤ (l.flatMap f).length := by
  have e : l.flatMap f = (l.take (k + 1)).flatMap f ++ (l.drop (k + 1)).flatMap f := by rw [← List.flatMap_append, List.take_append_drop]
  rw [e, fm_take_succ f l k h, List.length_append, List.length_append, List.length_append, List.length_take]
  omega
theorem ups_take_succ (T : Rows) (n i : Nat) (m : List Int) (j : Nat) (h : j < (cho n T i m).length) : (ups T n i m).take (j + 1) = (ups T n i m).take j ++ [putV T i m (cho n T i m)[j]] := by
  unfold ups
  rw [← List.map_take, ← List.map_take, List.take_succ_eq_append_getElem h, List.map_append]; rfl
theorem ups_len (T : Rows) (n i : Nat) (m : List Int) : (ups T n i m).length = (cho n T i m).length := by unfold ups; simp
end PM
namespace Go.Proofs.Ytpcamkmoabhlhaa
open Go.RowKit
set_option maxRecDepth 10000

theorem seq_lit1 {w : World} {v : Value} {x : List Int} {f : List Nat} (e : TypeId) (h : Rd w v x f) : SeqA (w.alloc (.cells #[v] e)) (some ⟨w.heap.size, 0, none⟩) 1 [x] [w.heap.size] [f] := by
  refine ⟨Nat.le_refl _, by unfold maxLen; omega, rfl, fun k hk => ?_, by simp, by simp⟩
  obtain rfl : k = 0 := by simp at hk; omega
  exact ⟨w.heap.size, 0, [v], rfl, rfl, fun j u hu => by simpa [Rp.size] using lit_src w [v] e rfl j u hu, Rp.keep h ((Only.refl _ _).alloc _)⟩
theorem fresh_lit {B : Nat} {w : World} {v : Value} {e : TypeId} {f : List Nat} (h : Fresh B w f) (hB : B ≤ w.heap.size) : Fresh B (w.alloc (.cells #[v] e)) ([w.heap.size] ++ [f].flatten) := by
  have h2 := h.keep ((Only.refl [] w).alloc (.cells #[v] e))
  have hb := heap_alloc_new w (.cells #[v] e)
  refine ⟨?_, ?_, ?_⟩
  · simp only [List.flatten_cons, List.flatten_nil, List.append_nil, List.singleton_append]
    refine List.nodup_cons.2 ⟨fun hm => ?_, h.nd⟩
    have := h.lt _ hm; omega
  · intro b hm
    simp only [List.flatten_cons, List.flatten_nil, List.append_nil, List.singleton_append] at hm
    rcases List.mem_cons.1 hm with rfl | hm
    · exact hB
    · exact h.ge b hm
  · simp only [List.flatten_cons, List.flatten_nil, List.append_nil, List.singleton_append]
    intro b hm
    rcases List.mem_cons.1 hm with rfl | hm
    · exact ⟨_, _, hb⟩
    · exact h2.own b hm
section
variable {α : Type} [Rp α] {w0 W wx : World} {B : Nat} {e : TypeId} {G : List Nat} {v : Value} {l : List α}
/-- nothing is held any more -/
theorem AccK.drop (h : AccK w0 B e G W wx v l) (W' : World) : AccK w0 B e [] W' wx v l := by
  obtain ⟨fs, a, b, c, d, f, g⟩ := h
  exact ⟨fs, a, b, c, by simp, by simp, by simp⟩
theorem AccK.apart (h : AccK w0 B e G W wx v l) : (∀ b ∈ G, b ∉ v.ownBlock.toList) ∧ ∀ b ∈ v.ownBlock.toList, B ≤ b := by
  obtain ⟨fs, a, b, c, d, f, g⟩ := h
  exact ⟨g, fun x hx => (a.ownlt x (by simpa using hx)).1⟩
theorem AccK.begin (W : World) (e : TypeId) : AccK W W.heap.size e [] W (W.alloc (.cells #[] e)) (.slice (some ⟨W.heap.size, 0, none⟩) 0 0) ([] : List α) :=
  ⟨[], Acc.made W W.heap.size _ rfl (Nat.le_refl _), Fresh.nil _ _, (Only.refl _ _).alloc _, by simp, by simp, by simp⟩
end
/-- the members that are listed -/
noncomputable def lsM (n : Nat) (gens : List (List Int)) : List (List Int) := if 3000 < ordC n gens n then [] else allMem n gens
set_option maxHeartbeats 8000000 in
theorem allMembers_any (n : Nat) (vg : Value) (gens : List (List Int)) (fpg : List Nat) (w : World) (hg : Rd w vg gens fpg) (hgs : gensB n gens = true) :
    Calls Try.prog 27 #[.int .i64 n, vg] w fun e w' => ∃ v f, e = .returned v ∧ Rd w' v (lsM n gens) f ∧ Fresh w.heap.size w' f ∧ Only [] w w' := by
  obtain ⟨⟨n1, n20⟩, hgl, hpn⟩ := gensB_iff.1 hgs
  have hpn' : ∀ g ∈ gens, PM.PN n g := by simpa using hpn
  have hn : 0 < n := by omega
  have hn20 : n ≤ 20 := by omega
  have Hpn := Lib.hid hpn'
  clear hpn hpn' hgs
  obtain ⟨i0, hi, hz0, hz1, hz2⟩ := info_parts Try.info22
  obtain ⟨R, hR⟩ : ∃ R, R = lsM n gens := ⟨_, rfl⟩
  rw [← hR]
  have HR := Lib.hid hR
  clear hR
  go_enter Try.func27, Try.ntmps27
  go_wp2_with (first
    | (go_at_call 42; (with_reducible refine (buildChain_any n hn hn20 vg gens fpg w hg Hpn.out (by omega)).mono ?_); rintro en w3 ⟨L, gv, G, T, M, F, rfl, hoG, hoT, hC, hCh, t3⟩; have hoe := ordC_eq hCh hn Hpn.out (Nat.le_refl n); obtain ⟨od, hod⟩ : ∃ od, od = ordC n gens n := ⟨_, rfl⟩; rw [← hod] at hoe; have Hod := Lib.hid hod; have Hoe := Lib.hid hoe; clear hod hoe; have HC := Lib.hid hC; have HCh := Lib.hid hCh; have HoT := Lib.hid hoT; clear hC hCh hoT)
    | (go_at_call 41; (with_reducible refine (chainOrder_any w3 HC.out HCh.out.inv.wf HoT.out).mono ?_); rintro en w4 ⟨he, t4⟩; rw [Hoe.out] at he; subst he)
    | (go_at_call 50; (with_reducible refine (specIdentity_any n w4 (by omega)).mono ?_); rintro en w5 ⟨v5, f5, rfl, r5, F5, t5⟩; obtain ⟨a5, c5, rfl, -⟩ := id r5.ints)
    | fail "no arm")
  · have hlt : 3000 < ordC n gens n := by have := Hod.out; omega
    go_ret
    refine ⟨.slice (some ⟨w4.heap.size, 0, none⟩) 0 0, [], rfl, ?_, Fresh.nil _ _, ((t3.trans t4).alloc _)⟩
    rw [HR.out]
    unfold lsM
    rw [if_pos hlt]
    exact (SeqA.nil (α := List Int) _ _ (by simp [maxLen])).rd
  have hod3 : od ≤ 3000 := by omega
  have hRl : R = PM.lvA T n n := by rw [HR.out, lv_allMem HCh.out hn Hpn.out]; unfold lsM; rw [if_neg (by have := Hod.out; omega)]
  have hlv : ∀ i, i ≤ n → (PM.lvA T n i).length ≤ 3000 := fun i hi => by have := PM.lvA_le HCh.out.inv.wf hi; rw [Hoe.out] at this; omega
  have HRl := Lib.hid hRl
  have Hlv := Lib.hid hlv
  have kk := (t3.trans t4).trans t5
  have hk5 := kk.size
  have hC5 := Lib.hid ((HC.out.keep t4).keep t5)
  have kw5 : Only [] w w5 := kk
  have hF5 : Fresh w.heap.size w5 f5 := F5.mono (by have := (t3.trans t4).size; omega)
  have S5 := seq_lit1 23 r5
  clear hRl hlv t3 t4 t5 kk F5
  go_loopw [6, 7] (fun o i wr => ∃ (j : Nat) (l : List (List Int)) (f : List Nat), j ≤ n ∧ i = .int .i64 j ∧ Hid (l = PM.lvA T n j) ∧ Rd wr o l f ∧ Fresh w.heap.size wr f ∧ Only [] w5 wr)
    (fun _ i _ => n - (intOf i).toNat)
  case atStart => exact ⟨0, [PM.pts n], _, Nat.zero_le _, rfl, Lib.hid rfl, S5.rd, fresh_lit hF5 hk5, (Only.refl _ _).alloc _⟩
  case round =>
    obtain ⟨W2, hnew⟩ : ∃ W, W = wr := ⟨_, rfl⟩
    subst hnew
    obtain ⟨j, l, f, hj, rfl, hl, hr, hF, hO⟩ := hrel
    obtain ⟨A, C, ob, fps, rfl, -, hS⟩ := id hr.open_
    have hb := hS.bound
    have hll : l.length ≤ 3000 := by rw [hl.out]; exact Hlv.out j hj
    by_cases hlt : j < n
    · have hltI : (j : Int) < (n : Int) := by omega
      have hpl : ∀ m ∈ l, PM.PN n m := by rw [hl.out]; exact PM.lvA_pn HCh.out.inv.wf j hj
      have hnx : (l.flatMap (PM.ups T n j)).length ≤ 3000 := by
        have := Hlv.out (j + 1) (by omega)
        rw [PM.lvA_succ, ← hl.out] at this
        exact this
      have hnl : PM.lvA T n (j + 1) = l.flatMap (PM.ups T n j) := by rw [PM.lvA_succ, ← hl.out]
      have HC2 := Lib.hid (hC5.out.keep hO)
      have Hpl := Lib.hid hpl
      have Hnx := Lib.hid hnx
      have Hnl := Lib.hid hnl
      have hw2 : w.heap.size ≤ W2.heap.size := by have := kw5.size; have := hO.size; omega
      have X0 := AccK.begin (α := List Int) W2 23
      clear hpl hnx hnl hr
      go_wp2
      go_loopw [8, 9] (fun o y wr => ∃ (k : Nat), k ≤ l.length ∧ y = .int .i64 k ∧ AccK W2 W2.heap.size 23 [] W2 wr o ((l.take k).flatMap (PM.ups T n j)))
        (fun _ y _ => l.length - (intOf y).toNat)
      case atStart => exact ⟨0, Nat.zero_le _, rfl, X0⟩
      case round =>
        obtain ⟨W4, hnew⟩ : ∃ W, W = wr := ⟨_, rfl⟩
        subst hnew
        obtain ⟨k, hk, rfl, hA⟩ := hrel
        have hO4 := hA.only
        by_cases hlk : k < l.length
        · have hlkI : (k : Int) < (l.length : Int) := by omega
          obtain ⟨b, off, u, rfl, -, hc0, hu0⟩ := hS.atRow k hlk
          have hc := hO4.cell (by simp) hc0
          have hpm := Hpl.out l[k] (List.getElem_mem hlk)
          obtain ⟨mm, hmm⟩ : ∃ mm, mm = l[k] := ⟨_, rfl⟩
          rw [← hmm] at hpm hu0
          obtain ⟨Cc, hCc⟩ : ∃ Cc, Cc = PM.cho n T j mm := ⟨_, rfl⟩
          have hCcl : Cc.length ≤ 20 := by rw [hCc, PM.cho_len hpm]; have := PM.cntR_le n T j; omega
          have HcS := Lib.hid (fun (W : World) (hW : Only [] W2 W) => choicesAt_any W (HC2.out.keep hW) HoT.out j hlt u mm _ (Rp.keep hu0 hW) hpm)
          rw [← hCc] at HcS
          have HCc := Lib.hid hCc
          have Hpm := Lib.hid hpm
          have Hmm := Lib.hid hmm
          have Hu0 := Lib.hid hu0
          have HX := Lib.hid hA
          clear hCc hpm hmm hu0 hA
          go_wp2_with (first
            | (go_at_call 51; (with_reducible refine (HcS.out _ hO4).mono ?_); rintro en w6 ⟨b6, o6, c6, f6, rfl, I6, F6, t6⟩)
            | fail "no arm")
          have X6 := HX.out.hold t6 F6.lt F6.ge
          clear hc
          go_loopw [8, 11] (fun o y wr => ∃ (q : Nat), q ≤ Cc.length ∧ y = .int .i64 q ∧ AccK W2 W2.heap.size 23 ([] ++ f6) w6 wr o ((l.take k).flatMap (PM.ups T n j) ++ (PM.ups T n j mm).take q))
            (fun _ y _ => Cc.length - (intOf y).toNat)
          case atStart => exact ⟨0, Nat.zero_le _, rfl, by rw [List.take_zero, List.append_nil]; exact X6⟩
          case round =>
            obtain ⟨W6, hnew⟩ : ∃ W, W = wr := ⟨_, rfl⟩
            subst hnew
            obtain ⟨q, hq, rfl, hA⟩ := hrel
            have hO6 := hA.only
            by_cases hlq : q < Cc.length
            · have hlqI : (q : Int) < (Cc.length : Int) := by omega
              obtain ⟨b8, o8, e8, hf8, c8⟩ := I6.at_ q hlq
              injection e8 with e8; injection e8 with e81 e82; subst e81; subst e82
              have cc := hA.cell c8 (by rw [hf8]; simp)
              have cl := hO6.cell (by simp) hc0
              have hmem : Cc[q] ∈ PM.cho n T j mm := by have := List.getElem_mem hlq; rw [← HCc.out]; exact this
              have hlen : ((l.take k).flatMap (PM.ups T n j) ++ (PM.ups T n j mm).take q).length + 1 ≤ 1073741824 := by
                have := PM.fm_part_le (PM.ups T n j) l k hlk q
                have h2 := Hnx.out
                rw [← Hmm.out] at this
                omega
              have hst : (PM.ups T n j mm).take (q + 1) = (PM.ups T n j mm).take q ++ [PM.putV T j mm Cc[q]] := by
                have h := PM.ups_take_succ T n j mm q (by rw [← HCc.out]; exact hlq)
                have e : Cc[q] = (PM.cho n T j mm)[q]'(by rw [← HCc.out]; exact hlq) := by simp only [HCc.out]
                rw [h, e]
              have HcW := Lib.hid (fun (W : World) (hW : Only [] W2 W) => withEntry_any W (HC2.out.keep hW) HCh.out.inv.wf HoT.out j hlt u mm _ (Rp.keep Hu0.out hW) Hpm.out Cc[q] hmem)
              have hap := hA.apart
              have nb : b6 ∉ u8.ownBlock.toList := hap.1 b6 (by rw [hf8]; simp)
              have hbl := World.block_lt_of_cell? _ _ hc0
              have ng : b ∉ u8.ownBlock.toList := fun hm => by have := hap.2 b hm; simp at hbl; omega
              have Hth := Lib.hid (fun (W : World) (hW : Only u8.ownBlock.toList W6 W) => hO6.then_ hW (fun x hx hl => by have := hap.2 x hx; omega))
              have Hst := Lib.hid hst
              have HA := Lib.hid hA
              clear hap hbl
              have hz6 := hO6.size
              have hi0 : (0 : Int) ≤ (k : Int) := by omega
              have hi1 : (0 : Int) ≤ (q : Int) := by omega
              obtain ⟨y, hy⟩ : ∃ y, y = Cc[q] := ⟨_, rfl⟩
              rw [← hy] at cc HcW
              have Hy := Lib.hid hy
              clear hmem hst hA c8 hy
              go_upto_region 16 with fail
              go_region_held3 (fun w' => Only u8.ownBlock.toList W6 w' ∧ w'.cell? ⟨b, off + k, none⟩ = some u ∧ w'.cell? ⟨b6, o6 + q, none⟩ = some (.int .i64 y)) ((refine and_of ?_ (fun h__ => ⟨h__.cell ng cl, h__.cell nb cc⟩); first | with_reducible exact (Only.refl _ _).drew | with_reducible exact Only.keepThen (And.left (by assumption)) (by assumption) | with_reducible exact Only.trans (And.left (by assumption)) (by assumption) | with_reducible exact Only.alloc (And.left (by assumption)) _ | assumption)) (first
                | (go_at_call 52; (with_reducible refine (HcW.out _ (Hth.out _ (And.left (by assumption)))).mono ?_); rintro x1 w7 ⟨v7, f7, rfl, r7, F7, y1⟩; obtain ⟨a7, c7, rfl, I7⟩ := id r7.ints)
                | (refine step_pushK (v := u8) rfl _ _ 22 rfl 23 i0 _ 24 Try.underlying22 hi hz0 hz1 hz2 rfl (by decide) (by decide) rfl HA.out (((Only.refl [] W6).drew.trans y1).alloc _) (Nat.le_refl _) hz6 w7.heap.size 1 [_] _ f7 rfl (lit_src w7 [_] _ rfl) (by intro u hu; simp at hu; subst hu; rfl) (Rp.keep r7 ((Only.refl [] w7).alloc _)) (F7.keep ((Only.refl [] w7).alloc _)) hlen ?_; intro v9 w9 hA9 hW9)
                | fail "no arm")
              go_wp2
              go_roundw
              case rel => exact ⟨q + 1, by omega, by go_num, by rw [Hst.out, ← List.append_assoc, ← Hy.out]; exact hA9⟩
              case measure => simp [intOf]; omega
            · obtain rfl : q = Cc.length := by omega
              have hge : ¬ ((Cc.length : Int) < (Cc.length : Int)) := by omega
              have hfin : (l.take (k + 1)).flatMap (PM.ups T n j) = (l.take k).flatMap (PM.ups T n j) ++ (PM.ups T n j mm).take Cc.length := by
                rw [PM.fm_take_succ _ l k hlk, ← Hmm.out, List.take_of_length_le (l := PM.ups T n j mm) (by rw [PM.ups_len, ← HCc.out]; exact Nat.le_refl _)]
              have HA := Lib.hid (hA.drop W2)
              rw [← hfin] at HA
              clear hA hfin
              go_wp2
              go_roundw
              case rel => exact ⟨k + 1, by omega, by go_num, HA.out⟩
              case measure => simp [intOf]; omega
        · obtain rfl : k = l.length := by omega
          have hge : ¬ ((l.length : Int) < (l.length : Int)) := by omega
          obtain ⟨f9, r9, F9⟩ := hA.rd (by decide)
          rw [List.take_length] at r9
          have Hr9 := Lib.hid r9
          clear r9 hA
          go_wp2
          go_roundw
          case rel => exact ⟨j + 1, _, f9, by omega, by go_num, Lib.hid Hnl.out.symm, Hr9.out, F9.mono hw2, hO.trans hO4⟩
          case measure => simp [intOf]; omega
    · obtain rfl : j = n := by omega
      have hge : ¬ ((j : Int) < (j : Int)) := by omega
      have hRR : R = l := by rw [HRl.out, hl.out]
      have HRR := Lib.hid hRR
      clear hRR hl
      go_wp2
      go_ret
      exact ⟨_, rfl, f, by rw [HRR.out]; exact hr, hF, kw5.trans hO⟩
end Go.Proofs.Ytpcamkmoabhlhaa

namespace Go.Proofs.Ytpcamkmoabhlhaa
open Go.RowKit
set_option maxRecDepth 10000
end Go.Proofs.Ytpcamkmoabhlhaa

namespace PM
end PM
namespace Go.Proofs.Ytpcamkmoabhlhaa
open Go.RowKit
set_option maxRecDepth 10000
theorem rank_chain (n : Nat) (vg : Value) (gens : List (List Int)) (fpg : List Nat) (w : World) (hg : Rd w vg gens fpg) (hgs : gensB n gens = true) : ∃ G T, PM.Chain n gens G T := by
  obtain ⟨⟨n1, n20⟩, hgl, hpn⟩ := gensB_iff.1 hgs
  obtain ⟨e, w', fr, ⟨L, gv, G, T, M, F, -, -, -, -, h, -⟩, -⟩ := buildChain_any n (by omega) (by omega) vg gens fpg w hg (by simpa using hpn) (by omega) []
  exact ⟨G, T, h⟩


end Go.Proofs.Ytpcamkmoabhlhaa

namespace Go.Proofs.Ytpcamkmoabhlhaa
open Go.RowKit
set_option maxRecDepth 10000


end Go.Proofs.Ytpcamkmoabhlhaa

namespace Go.Proofs.Ytpcamkmoabhlhaa
open Go.RowKit
set_option maxRecDepth 10000
end Go.Proofs.Ytpcamkmoabhlhaa

namespace Go.Proofs.Ytpcamkmoabhlhaa
open Go.RowKit
set_option maxRecDepth 10000

theorem allMem_get {n : Nat} {gens : List (List Int)} {k : Nat} (h : k < (allMem n gens).length) : (allMem n gens)[k] = memAt n gens k := by simp [allMem]
theorem allMem_take_succ {n : Nat} {gens : List (List Int)} {k : Nat} (h : k < ordC n gens n) : (allMem n gens).take (k + 1) = (allMem n gens).take k ++ [memAt n gens k] := by
  rw [List.take_succ_eq_append_getElem (by rw [allMem_len]; exact h), allMem_get]
set_option maxHeartbeats 4000000 in
theorem implMembers_ch (n : Nat) {B : Nat} {L : Lay} {gv : Nat → Value} {gens : List (List Int)} {G : PM.Gens} {T : PM.Rows} {M F : List Nat} (w : World) (hC : Ch 23 B w L gv n G T M F) (hCh : PM.Chain n gens G T) (hT : L.oT = 2) (hpn : ∀ g ∈ gens, PM.PN n g) :
    Calls Try.prog 33 #[.pointer (some ⟨L.g, 0, none⟩)] w fun e w' => ∃ v f, e = .returned (.tuple #[v, .bool (decide (ordC n gens n ≤ 3000))]) ∧ Rd w' v (lsM n gens) f ∧ Fresh w.heap.size w' f ∧ Only [] w w' := by
  have hn : 0 < n := hC.pos
  obtain ⟨i0, hi, hz0, hz1, hz2⟩ := info_parts Try.info22
  obtain ⟨R, hR⟩ : ∃ R, R = lsM n gens := ⟨_, rfl⟩
  rw [← hR]
  obtain ⟨od, hod⟩ : ∃ od, od = ordC n gens n := ⟨_, rfl⟩
  rw [← hod]
  have HcO : Hid (∀ W, Only [] w W → Calls Try.prog 38 #[.pointer (some ⟨L.g, 0, none⟩), .int .i64 0] W fun e w' => e = .returned (.int .i64 (od : Nat)) ∧ Only [] W w') := Lib.hid (by
    rw [hod, ← ordC_eq hCh hn hpn (Nat.le_refl _)]
    exact fun W hW => implOrder0 (hC.keep hW) hCh.inv.wf hT)
  have hole := ordC_le hCh hn hpn hC.le (j := n) (Nat.le_refl _)
  rw [← hod] at hole
  have HC := Lib.hid hC
  have HCh := Lib.hid hCh
  have HT := Lib.hid hT
  have Hpn := Lib.hid hpn
  have HR := Lib.hid hR
  have Hod := Lib.hid hod
  clear hC hCh hT hpn hR hod
  by_cases hgt : 3000 < od
  · have hgI : (3000 : Int) < (od : Int) := by omega
    have Hd := Lib.hid (decide_eq_false (show ¬ od ≤ 3000 by omega))
    have HRe : Hid (R = []) := Lib.hid (by rw [HR.out]; unfold lsM; rw [if_pos (by rw [← Hod.out]; exact hgt)])
    go_enter Try.func33, Try.ntmps33
    go_wp2_with (first
      | (go_at_call 38; (with_reducible refine (HcO.out w (Only.refl _ _)).mono ?_); rintro en w1 ⟨rfl, t1⟩)
      | fail "no arm")
    exact bodyPost_ret (v := .tuple #[.slice none 0 0, .bool false]) (by simp [results, Try.results33, go_sem]) rfl ⟨.slice none 0 0, [], by rw [Hd.out], by rw [HRe.out]; exact nil_rd _, Fresh.nil _ _, t1⟩
  · have hgI : ¬ (3000 : Int) < (od : Int) := by omega
    have Hd := Lib.hid (decide_eq_true (show od ≤ 3000 by omega))
    have HRe : Hid (R = allMem n gens) := Lib.hid (by rw [HR.out]; unfold lsM; rw [if_neg (by rw [← Hod.out]; exact hgt)])
    clear HR
    go_enter Try.func33, Try.ntmps33
    go_wp2_with (first
      | (go_at_call 38; (with_reducible refine (HcO.out w (Only.refl _ _)).mono ?_); rintro e w1 ⟨rfl, t1⟩)
      | (go_at_call 38; (with_reducible refine (HcO.out w1 t1).mono ?_); rintro e w2 ⟨rfl, t2⟩)
      | fail "no arm")
    have k2 := t1.trans t2
    clear t1 t2
    go_loopw [4, 13] (fun o y wr => ∃ (k : Nat) (fs : List (List Nat)), k ≤ od ∧ y = .int .i64 k ∧ Acc w.heap.size 23 wr o ((allMem n gens).take k) fs ∧ Fresh w.heap.size wr fs.flatten ∧ Only [] w wr)
      (fun _ y _ => od - (intOf y).toNat)
    case atStart => exact ⟨0, [], Nat.zero_le _, rfl, Acc.nil _ _ _, Fresh.nil _ _, k2⟩
    case round =>
      obtain ⟨W2, hnew⟩ : ∃ W, W = wr := ⟨_, rfl⟩
      subst hnew
      obtain ⟨k, fs, hk, rfl, hA, hF, hO⟩ := hrel
      have hsz := hO.size
      by_cases hlt : k < od
      · have hltI : (k : Int) < (od : Int) := by omega
        have hklt : k < ordC n gens n := by rw [← Hod.out]; exact hlt
        have Hst := Lib.hid (allMem_take_succ hklt)
        have Hkl := Lib.hid hklt
        have hlen : ((allMem n gens).take k).length + 1 ≤ 1073741824 := by rw [List.length_take]; omega
        have HA := Lib.hid hA
        clear hklt hA
        go_wp2_with (first
          | (go_at_call 60; (with_reducible refine (memberAt_yes n k W2 (HC.out.keep hO) HCh.out HT.out Hpn.out Hkl.out).mono ?_); rintro en w5 ⟨v5, f5, rfl, r5, F5, t5⟩; obtain ⟨a5, c5, rfl, I5⟩ := id r5.ints)
          | (at_builtin; refine wpList_pushF rfl _ _ 22 rfl w.heap.size 23 i0 _ 24 Try.underlying22 hi hz0 hz1 hz2 rfl (by decide) (by decide) W2 u4 ((allMem n gens).take k) fs rfl HA.out hF (t5.alloc _) hsz w5.heap.size 1 [_] (memAt n gens k) f5 rfl (lit_src w5 [_] _ rfl) (by intro u hu; simp at hu; subst hu; rfl) (Rp.keep r5 ((Only.refl [] w5).alloc _)) (F5.keep ((Only.refl [] w5).alloc _)) hlen w ((hO.trans t5).alloc _) (Nat.le_refl _) ?_; intro v6 w6 hA6 hF6 hK6 _)
          | fail "no arm")
        go_roundw
        case rel => exact ⟨k + 1, _, by omega, by go_num, by rw [Hst.out]; exact hA6, hF6, hK6⟩
        case measure => simp [intOf]; omega
      · obtain rfl : k = od := by omega
        have hge : ¬ ((k : Int) < (k : Int)) := by omega
        have htk : (allMem n gens).take k = R := by rw [HRe.out]; exact List.take_of_length_le (by rw [allMem_len, ← Hod.out]; exact Nat.le_refl _)
        rw [htk] at hA
        have HA := Lib.hid hA
        clear htk hA
        go_wp2
        exact bodyPost_ret (v := .tuple #[u4, .bool true]) (by simp [results, Try.results33, go_sem]) rfl ⟨u4, by rw [Hd.out], _, HA.out.rd (by decide), HA.out.fresh hF, hO⟩
set_option maxHeartbeats 2000000 in
theorem implMembers_yes (n : Nat) (vg : Value) (gens : List (List Int)) (fpg : List Nat) (w : World) (hg : Rd w vg gens fpg) (hgs : gensB n gens = true) :
    Calls Try.prog 17 #[.int .i64 n, vg] w fun e w' => ∃ v f, e = .returned v ∧ Rd w' v (lsM n gens) f ∧ Fresh w.heap.size w' f ∧ Only [] w w' := by
  obtain ⟨⟨n1, n20⟩, hgl, hpn⟩ := gensB_iff.1 hgs
  have hpn' : ∀ g ∈ gens, PM.PN n g := by simpa using hpn
  have hn : 0 < n := by omega
  have hn20 : n ≤ 20 := by omega
  have Hgs := Lib.hid hgs
  have Hpn := Lib.hid hpn'
  clear hpn hpn' hgs
  go_enter Try.func17, Try.ntmps17
  go_wp2_with (first
    | (go_at_call 31; (with_reducible refine (implIsGens_rd n vg gens fpg w hg).mono ?_); rintro en w1 ⟨he, t1⟩; rw [Hgs.out] at he; subst he)
    | (go_at_call 32; (with_reducible refine (implNewChain_any n hn hn20 vg gens fpg w1 (Rp.keep hg t1) Hpn.out (by omega)).mono ?_); rintro en w4 ⟨L, gv, G, T, M, F, rfl, -, hoT, hC, hCh, t4⟩; have HC := Lib.hid hC; have HCh := Lib.hid hCh; have HoT := Lib.hid hoT; clear hC hCh hoT)
    | (go_at_call 33; (with_reducible refine (implMembers_ch n w4 HC.out HCh.out HoT.out Hpn.out).mono ?_); rintro en w5 ⟨v5, f5, rfl, r5, F5, t5⟩)
    | fail "no arm")
  go_ret
  exact ⟨v5, f5, rfl, r5, F5.mono (by have := (t1.trans t4).size; omega), (t1.trans t4).trans t5⟩
theorem implMembers_no (n : Int) (vg : Value) (gens : List (List Int)) (fpg : List Nat) (w : World) (hg : Rd w vg gens fpg) (hgs : gensB n gens = false) :
    Calls Try.prog 17 #[.int .i64 n, vg] w fun e w' => e = .returned (.slice none 0 0) ∧ Only [] w w' := by
  have Hgs := Lib.hid hgs
  clear hgs
  go_enter Try.func17, Try.ntmps17
  go_wp2_with (first
    | (go_at_call 31; (with_reducible refine (implIsGens_rd n vg gens fpg w hg).mono ?_); rintro en w1 ⟨he, t1⟩; rw [Hgs.out] at he; subst he)
    | fail "no arm")
  go_ret
  exact ⟨rfl, t1⟩
set_option maxHeartbeats 2000000 in
theorem specMembers_yes (n : Nat) (vg : Value) (gens : List (List Int)) (fpg : List Nat) (w : World) (hg : Rd w vg gens fpg) (hgs : gensB n gens = true) :
    Calls Try.prog 21 #[.int .i64 n, vg] w fun e w' => ∃ v f, e = .returned v ∧ Rd w' v (lsM n gens) f ∧ Fresh w.heap.size w' f ∧ Only [] w w' := by
  have Hgs := Lib.hid hgs
  clear hgs
  go_enter Try.func21, Try.ntmps21
  go_wp2_with (first
    | (go_at_call 25; (with_reducible refine (specIsGens_rd n vg gens fpg w hg).mono ?_); rintro en w1 ⟨he, t1⟩; rw [Hgs.out] at he; subst he; have t1 := t1.only [])
    | (go_at_call 27; (with_reducible refine (allMembers_any n vg gens fpg w1 (Rp.keep hg t1) Hgs.out).mono ?_); rintro en w5 ⟨v5, f5, rfl, r5, F5, t5⟩)
    | fail "no arm")
  go_ret
  exact ⟨v5, f5, rfl, r5, F5.mono t1.size, t1.trans t5⟩
theorem specMembers_no (n : Int) (vg : Value) (gens : List (List Int)) (fpg : List Nat) (w : World) (hg : Rd w vg gens fpg) (hgs : gensB n gens = false) :
    Calls Try.prog 21 #[.int .i64 n, vg] w fun e w' => ∃ b, e = .returned (.slice (some ⟨b, 0, none⟩) 0 0) ∧ Only [] w w' := by
  have Hgs := Lib.hid hgs
  clear hgs
  go_enter Try.func21, Try.ntmps21
  go_wp2_with (first
    | (go_at_call 25; (with_reducible refine (specIsGens_rd n vg gens fpg w hg).mono ?_); rintro en w1 ⟨he, t1⟩; rw [Hgs.out] at he; subst he; have t1 := t1.only [])
    | fail "no arm")
  go_ret
  exact ⟨_, rfl, t1.alloc _⟩
set_option maxHeartbeats 2000000 in
theorem implGroupOrder_yes (n : Nat) (vg : Value) (gens : List (List Int)) (fpg : List Nat) (w : World) (hg : Rd w vg gens fpg) (hgs : gensB n gens = true) :
    Calls Try.prog 15 #[.int .i64 n, vg] w fun e w' => e = .returned (.int .i64 (ordC n gens n : Nat)) ∧ Only [] w w' := by
  obtain ⟨⟨n1, n20⟩, hgl, hpn⟩ := gensB_iff.1 hgs
  have hpn' : ∀ g ∈ gens, PM.PN n g := by simpa using hpn
  have hn : 0 < n := by omega
  have hn20 : n ≤ 20 := by omega
  have Hgs := Lib.hid hgs
  have Hpn := Lib.hid hpn'
  clear hpn hpn' hgs
  go_enter Try.func15, Try.ntmps15
  go_wp2_with (first
    | (go_at_call 31; (with_reducible refine (implIsGens_rd n vg gens fpg w hg).mono ?_); rintro en w1 ⟨he, t1⟩; rw [Hgs.out] at he; subst he)
    | (go_at_call 32; (with_reducible refine (implNewChain_any n hn hn20 vg gens fpg w1 (Rp.keep hg t1) Hpn.out (by omega)).mono ?_); rintro en w4 ⟨L, gv, G, T, M, F, rfl, -, hoT, hC, hCh, t4⟩; have HC := Lib.hid hC; have HCh := Lib.hid hCh; have HoT := Lib.hid hoT; clear hC hCh hoT)
    | (go_at_call 38; (with_reducible refine (implOrder0 HC.out HCh.out.inv.wf HoT.out).mono ?_); rintro en w5 ⟨rfl, t5⟩)
    | fail "no arm")
  go_ret
  exact ⟨ret_int (by rw [ordC_eq HCh.out hn Hpn.out (Nat.le_refl _)]), (t1.trans t4).trans t5⟩
theorem implGroupOrder_no (n : Int) (vg : Value) (gens : List (List Int)) (fpg : List Nat) (w : World) (hg : Rd w vg gens fpg) (hgs : gensB n gens = false) :
    Calls Try.prog 15 #[.int .i64 n, vg] w fun e w' => e = .returned (.int .i64 0) ∧ Only [] w w' := by
  have Hgs := Lib.hid hgs
  clear hgs
  go_enter Try.func15, Try.ntmps15
  go_wp2_with (first
    | (go_at_call 31; (with_reducible refine (implIsGens_rd n vg gens fpg w hg).mono ?_); rintro en w1 ⟨he, t1⟩; rw [Hgs.out] at he; subst he)
    | fail "no arm")
  go_ret
  exact ⟨rfl, t1⟩
end Go.Proofs.Ytpcamkmoabhlhaa
