/- The program's memberAt: the member of a rank (laws 33, 34, ..). The reference's allMembers and Members; the program's members and Members (laws 32, 36, 44). The reference's MemberAt: the member of a rank (laws 33, 34, ..). The reference's Rank of the member of a rank (laws 34, 35, 53). The program's countBelow and Rank of the member of a rank (laws 34, 35). RandomState, of the reference and of the program (law 33). The program's Rank, IsMember, MemberAt, FirstNonIdentity; random members of no group (laws 34, 35). The program's members, Members, GroupOrder, OrbitSizes, hasAll, SameGroup; the reference's Members, OrbitSizes, PermutationLess (laws 32, 36, 44). Orbit sizes of both, hasAll, SameGroup of a group with itself, the order of permutations (law 36; laws 37, 39, 48). What the laws on ranks and random members draw (laws 34, 35). Subgroups and their indexes, of both (laws 37, 39, 48). The reference's insertPermutation and CosetRepresentatives (laws 39, 48). The reference's CosetRepresentatives (laws 39, 48). The library's slices.SortFunc at [][]int64 with slices.Compare: the rows of the call's own, in order (laws 39, 48). (The laying printed by mklay.py.) The program's CosetRepresentatives ahead of its sort (laws 39, 48). The laws' drawn tracked sets (laws 10, 11). The laws' drawn puzzles (laws 10, 11). The laws' own comparison of numbers: likeInts (laws 10, 11). The program's SameCoset, CosetMinimum; laws.likeLists (law 48). Normal subgroups, abelian groups: the program's and the reference's (law 37). -/
import Derived.Test.YtbediokigibdlaaRowNormalityG12
import Derived.Test.YtbediokigibdlaaRowNormalityG10
import Derived.Deep.QuietTactic
import Derived.Test.YtbediokigibdlaaRowNormalityG1
import Derived.Deep.RegionHeld3
import Derived.Test.YtbediokigibdlaaRowNormalityG9
import Derived.Test.YtbediokigibdlaaRowNormalityG7
import Derived.Test.YtbediokigibdlaaRowNormalityG8
import Derived.Test.YtbediokigibdlaaRowNormalityG11
import Derived.Shelf.SlSortCmp.NoneTotal
namespace Go.Proofs.Ytbediokigibdlaa
open Go.RowKit
set_option maxRecDepth 10000

set_option maxHeartbeats 4000000 in
theorem memberAt_yes (n : Nat) {B : Nat} {L : Lay} {gv : Nat → Value} {gens : List (List Int)} {G : PM.Gens} {T : PM.Rows} {M F : List Nat} (k : Nat) (w : World) (hC : Ch 36 B w L gv n G T M F) (hCh : PM.Chain n gens G T) (hT : L.oT = 2) (hpn : ∀ g ∈ gens, PM.PN n g) (hk : k < ordC n gens n) :
    Calls Try.prog 88 #[.pointer (some ⟨L.g, 0, none⟩), .int .i64 k] w fun e w' => ∃ v f, e = .returned (.tuple #[v, .bool true]) ∧ Rd w' v (memAt n gens k) f ∧ Fresh w.heap.size w' f ∧ Only [] w w' := by
  have hn : 0 < n := hC.pos
  have hn20 : n ≤ 20 := hC.le
  have Hpn := Lib.hid hpn
  obtain ⟨R, hR⟩ : ∃ R, R = memAt n gens k := ⟨_, rfl⟩
  rw [← hR]
  have HR := Lib.hid hR
  clear hR hpn
  have hOE : ∀ j, j ≤ n → PM.ordM T n j = ordC n gens j := fun j hj => ordC_eq hCh hn Hpn.out hj
  have hole := ordC_le hCh hn Hpn.out hn20 (j := n) (Nat.le_refl _)
  have hRng : inR (k : Int) 0 ((ordC n gens n : Nat) - 1 : Int) = true := inR_iff.2 (by omega)
  have HOE := Lib.hid hOE
  have hst : ∀ i, i < n → k % ordC n gens (n - i) % ordC n gens (n - (i + 1)) = k % ordC n gens (n - (i + 1)) := fun i hi => mod_step hCh hn Hpn.out k hi
  have hgood := msel_good hCh hn Hpn.out k
  have hpos : ∀ j, j ≤ n → 1 ≤ ordC n gens j := fun j hj => ordC_pos hCh hn Hpn.out hj
  have hle : ∀ j, j ≤ n → ordC n gens j ≤ 2432902008176640000 := fun j hj => ordC_le hCh hn Hpn.out hn20 hj
  have hk0 : k % ordC n gens (n - 0) = k := by rw [Nat.sub_zero]; exact Nat.mod_eq_of_lt hk
  have Hst := Lib.hid hst
  have Hgood := Lib.hid hgood
  have Hpos := Lib.hid hpos
  have Hle := Lib.hid hle
  have Hk0 := Lib.hid hk0
  have HC := Lib.hid hC
  have hwf := hCh.inv.wf
  have Hwf := Lib.hid hwf
  have HoT := Lib.hid hT
  have hR0 : R = PM.desc T n (msel n gens k) (n - 0) 0 (PM.pts n) := by rw [HR.out, Nat.sub_zero]; exact (hCh.descG hn Hpn.out (msel n gens k) hgood).symm
  have HR0 := Lib.hid hR0
  have HCh := Lib.hid hCh
  have hcn := hC.cn
  obtain ⟨od, hod⟩ : ∃ od, od = ordC n gens n := ⟨_, rfl⟩
  rw [← hod] at hole hRng
  have HRng := Lib.hid hRng
  have HcO : Hid (Calls Try.prog 52 #[.pointer (some ⟨L.g, 0, none⟩), .int .i64 0] w fun e w' => e = .returned (.int .i64 (od : Nat)) ∧ Only [] w w') := Lib.hid (by
    rw [hod, ← hOE n (Nat.le_refl _)]
    exact implOrder0 hC hwf hT)
  have hwo : IntKind.i64.wrap ((od : Int) - 1) = (od : Int) - 1 := by rw [IntKind.wrap_i64]; omega
  have hbM0 := hC.lM
  have hbF0 := hC.lF
  clear hOE hRng hst hgood hpos hle hk0 hC hwf hT hR0 hCh hod
  go_enter Try.func88, Try.ntmps88
  go_wp2_with (first
    | (go_at_call 52; (with_reducible refine (HcO.out).mono ?_); rintro en w1 ⟨rfl, t1⟩; have c1n := t1.cell (by simp) hcn)
    | (go_at_call 60; (with_reducible refine (within_any (k : Int) 0 ((od : Int) - 1) _).mono ?_); rintro e w1' ⟨he, h1⟩; rw [HRng.out] at he; subst he; rw [h1]; clear h1)
    | (go_at_call 62; (with_reducible refine (implIdentity_any n w1 (by omega)).mono ?_); rintro en w4 ⟨v4, f4, rfl, r4, F4, t4⟩)
    | (go_at_call 61; (with_reducible refine (from_any L.g v4 (PM.pts n) f4 w4 r4).mono ?_); rintro en w5 ⟨rfl, hB5, t5, hs5⟩)
    | fail "no arm")
  have z1 := t1.size
  have z4 := t4.size
  have k5 : Only [] w w5 := (t1.trans t4).trans t5
  have hC5 := HC.out.keep k5
  have r5 := Rp.keep r4 t5
  have F5 : Fresh w.heap.size w5 f4 := (F4.keep t5).mono z1
  have hbM : ∀ z ∈ [w4.heap.size], z ∉ M := fun z hz hm => by have := hbM0 z hm; simp at hz; omega
  have hbF : ∀ z ∈ [w4.heap.size], z ∉ F := fun z hz hm => by have := hbF0 z hm; simp at hz; omega
  have HbM := Lib.hid hbM
  have HbF := Lib.hid hbF
  clear hbM hbF t1 t4 t5 r4 F4 hs5 c1n hbM0 hbF0 HcO
  go_loopw [1] (fun kv wr => ∃ (i : Nat) (v : Value) (m : List Int) (f : List Nat), i ≤ n ∧ kv = .int .i64 (k % ordC n gens (n - i) : Nat) ∧ Blk wr w4.heap.size [.pointer (some ⟨L.g, 0, none⟩), .int .i64 i, v] ∧ Rd wr v m f ∧ Fresh w.heap.size wr f ∧ Ch 36 B wr L gv n G T M F ∧ PM.Grp n gens m ∧ Hid (R = PM.desc T n (msel n gens k) (n - i) i m) ∧ Only [] w wr)
    (fun _ wr => n - (intOf ((wr.cell? ⟨w4.heap.size, 1, none⟩).getD undef)).toNat)
  case atStart => exact ⟨0, v4, PM.pts n, f4, Nat.zero_le _, by rw [Hk0.out], hB5, r5, F5, hC5, .id, HR0, k5⟩
  case round =>
    obtain ⟨W2, hnew⟩ : ∃ W, W = wr := ⟨_, rfl⟩
    subst hnew
    clear hB5 r5 F5 hC5 k5
    obtain ⟨i, v, m, f, hi, rfl, hB, hr, hF, hC, hgr, hRR, hO⟩ := hrel
    have y1 := hB.cell 1 rfl
    have yn := hC.cn
    go_upto_region 4 with fail
    go_quiet (fail)
    obtain ⟨W3, hW3⟩ : ∃ W, W = W2.drewN nq := ⟨_, rfl⟩
    have kq : Only [] W2 W3 := by rw [hW3]; exact (Only.refl _ _).drewN _
    rw [← hW3]
    have hB3 := hB.keep kq
    have hC3 := hC.keep kq
    have hr3 := Rp.keep hr kq
    have hF3 := hF.keep kq
    have hO3 := hO.trans kq
    have y13 := hB3.cell 1 rfl
    have hO2 := hO3.size
    have hbW := hB3.lt
    clear hW3
    by_cases hlt : i < n
    · have hpm : PM.PN n m := hgr.pn Hpn.out
      have hwf := Hwf.out
      obtain ⟨C, hCd⟩ : ∃ C, C = PM.cho n T i m := ⟨_, rfl⟩
      have hCl : C.length = PM.cntR n T i := by rw [hCd, PM.cho_len hpm]
      have hCl2 : C.length ≤ 20 := by rw [hCl]; have := PM.cntR_le n T i; omega
      obtain ⟨r, hrr⟩ : ∃ r, r = ordC n gens (n - (i + 1)) := ⟨_, rfl⟩
      obtain ⟨kk, hkk⟩ : ∃ kk, kk = k % ordC n gens (n - i) := ⟨_, rfl⟩
      obtain ⟨q, hq⟩ : ∃ q, q = kk / r := ⟨_, rfl⟩
      have hqs : q = msel n gens k i C.length := by rw [hq, hkk, hrr]; rfl
      have hql : q < C.length := by
        have h1 := Hgood.out i hlt
        rw [hCl]
        have h2 : msel n gens k i C.length = msel n gens k i (PM.cntR n T i) := rfl
        rw [hqs, h2]; exact h1
      have hkm : C[q] ∈ PM.cho n T i m := by rw [← hCd]; exact List.getElem_mem hql
      have hgr2 := HCh.out.putV hn Hpn.out hlt hgr hkm
      have hRR2 : R = PM.desc T n (msel n gens k) (n - (i + 1)) (i + 1) (PM.putV T i m C[q]) := by
        subst hCd
        rw [hRR.out]
        exact PM.desc_step hlt m hqs hql
      have hrp : 1 ≤ r := by rw [hrr]; exact Hpos.out _ (by omega)
      have hrl : r ≤ 2432902008176640000 := by rw [hrr]; exact Hle.out _ (by omega)
      have hkkl : kk ≤ 2432902008176640000 := by
        rw [hkk]
        have h1 := Nat.mod_lt k (show 0 < ordC n gens (n - i) from Hpos.out _ (by omega))
        have h2 := Hle.out (n - i) (by omega)
        omega
      have hdiv : Int.tdiv (kk : Int) (r : Int) = (q : Int) := by rw [tdiv_nat, hq]
      have hmod : Int.tmod (kk : Int) (r : Int) = ((k % ordC n gens (n - (i + 1)) : Nat) : Int) := by rw [tmod_nat, hkk, hrr, Hst.out i hlt]
      have hr0 : ¬ ((r : Int) = 0) := by omega
      have HcO : Hid (Calls Try.prog 52 #[.pointer (some ⟨L.g, 0, none⟩), .int .i64 ((i : Int) + 1)] W3 fun e w' => e = .returned (.int .i64 (r : Nat)) ∧ Only [] W3 w') := Lib.hid (by
        rw [hrr, ← HOE.out _ (by omega)]
        exact implOrder_any W3 hC3 hwf HoT.out (i + 1) (by omega))
      have HcS := Lib.hid (fun (V : World) (hV : Only [] W3 V) => walkSorted_any V (hC3.keep hV) hwf HoT.out w4.heap.size i hlt v m f (hB3.keep hV) (Rp.keep hr3 hV) hpm)
      rw [← hCd] at HcS
      obtain ⟨k2, hk2⟩ : ∃ k2, k2 = k % ordC n gens (n - (i + 1)) := ⟨_, rfl⟩
      rw [← hk2] at hmod
      rw [← hkk]
      have Hk2 := Lib.hid hk2
      have HRR2 := Lib.hid hRR2
      have Hgr2 := Lib.hid hgr2
      have Hkm := Lib.hid hkm
      have Hpm := Lib.hid hpm
      have HC3 := Lib.hid hC3
      have HB3 := Lib.hid hB3
      have hltI : (i : Int) < (n : Int) := by omega
      have hwi : IntKind.i64.wrap ((i : Int) + 1) = (i : Int) + 1 := by rw [IntKind.wrap_i64]; omega
      clear hCd hCl hrr hkk hq hqs hRR2 hgr2 hkm hpm hwf hC hC3 hB hB3 hgr hRR hk2 yn kq
      go_wp2_with (first
        | (go_at_call 52; (with_reducible refine (HcO.out).mono ?_); rintro en w6 ⟨rfl, t6⟩; have y16 := t6.cell (by simp) y13)
        | (go_at_call 107; (with_reducible refine (HcS.out w6 t6).mono ?_); rintro en w7 ⟨v7, rfl, hA7, t7⟩; obtain ⟨a7, c7, rfl, I7⟩ := hA7.rd.ints; obtain ⟨b8, o8, rfl, -, c8⟩ := I7.at_ q hql; have k37 := t6.trans t7)
        | (go_at_call 97; (with_reducible refine (take_yes w7 (HC3.out.keep k37) Hwf.out HoT.out w4.heap.size i hlt v m f (HB3.out.keep k37) (Rp.keep hr3 k37) Hpm.out C[q] Hkm.out).mono ?_); rintro en w9 ⟨rfl, ⟨v9, f9, B9, r9, F9⟩, O9⟩)
        | fail "no arm")
      have k29 : Only [] w w9 := (hO3.trans k37).then_ O9 (fun z hz hl => by simp at hz; omega)
      have HC9 := (HC3.out.keep k37).only O9 HbM.out HbF.out
      have F9' : Fresh w.heap.size w9 f9 := F9.mono (by have := k37.size; omega)
      have y9 := B9.cell 1 rfl
      go_roundw
      case rel => exact ⟨i + 1, v9, _, f9, by omega, by rw [Hk2.out], B9, r9, F9', HC9, Hgr2.out, HRR2, k29⟩
      case measure => rw [y9, y1]; simp [intOf]; omega
    · obtain rfl : i = n := by omega
      have hfin : R = m := by rw [hRR.out]; exact PM.desc_end (Nat.le_refl _) m
      have hge : ¬ ((i : Int) < (i : Int)) := by omega
      have y2 := hB3.cell 2 rfl
      have Hfin := Lib.hid hfin
      clear hfin hRR
      go_wp2
      exact bodyPost_ret (v := .tuple #[v, .bool true]) (by simp [results, Try.results88, go_sem]) rfl ⟨v, rfl, f, by rw [Hfin.out]; exact hr3, hF3, hO3⟩
end Go.Proofs.Ytbediokigibdlaa

namespace PM
end PM
namespace Go.Proofs.Ytbediokigibdlaa
open Go.RowKit
set_option maxRecDepth 10000
section
variable {α : Type} [Rp α] {w0 W wx : World} {B : Nat} {e : TypeId} {G : List Nat} {v : Value} {l : List α}
/-- nothing is held any more -/
theorem AccK.drop (h : AccK w0 B e G W wx v l) (W' : World) : AccK w0 B e [] W' wx v l := by
  obtain ⟨fs, a, b, c, d, f, g⟩ := h
  exact ⟨fs, a, b, c, by simp, by simp, by simp⟩
theorem AccK.apart (h : AccK w0 B e G W wx v l) : (∀ b ∈ G, b ∉ v.ownBlock.toList) ∧ ∀ b ∈ v.ownBlock.toList, B ≤ b := by
  obtain ⟨fs, a, b, c, d, f, g⟩ := h
  exact ⟨g, fun x hx => (a.ownlt x (by simpa using hx)).1⟩
theorem AccK.begin (W : World) (e : TypeId) : AccK W W.heap.size e [] W (W.alloc (.cells #[] e)) (.slice (some ⟨W.heap.size, 0, none⟩) 0 0) ([] : List α) :=
  ⟨[], Acc.made W W.heap.size _ rfl (Nat.le_refl _), Fresh.nil _ _, (Only.refl _ _).alloc _, by simp, by simp, by simp⟩
end
/-- the members that are listed -/
noncomputable def lsM (n : Nat) (gens : List (List Int)) : List (List Int) := if 3000 < ordC n gens n then [] else allMem n gens

end Go.Proofs.Ytbediokigibdlaa

namespace Go.Proofs.Ytbediokigibdlaa
open Go.RowKit
set_option maxRecDepth 10000


end Go.Proofs.Ytbediokigibdlaa

namespace PM
end PM
namespace Go.Proofs.Ytbediokigibdlaa
open Go.RowKit
set_option maxRecDepth 10000
theorem rank_chain (n : Nat) (vg : Value) (gens : List (List Int)) (fpg : List Nat) (w : World) (hg : Rd w vg gens fpg) (hgs : gensB n gens = true) : ∃ G T, PM.Chain n gens G T := by
  obtain ⟨⟨n1, n20⟩, hgl, hpn⟩ := gensB_iff.1 hgs
  obtain ⟨e, w', fr, ⟨L, gv, G, T, M, F, -, -, -, -, h, -⟩, -⟩ := buildChain_any n (by omega) (by omega) vg gens fpg w hg (by simpa using hpn) (by omega) []
  exact ⟨G, T, h⟩


end Go.Proofs.Ytbediokigibdlaa

namespace Go.Proofs.Ytbediokigibdlaa
open Go.RowKit
set_option maxRecDepth 10000


end Go.Proofs.Ytbediokigibdlaa

namespace Go.Proofs.Ytbediokigibdlaa
open Go.RowKit
set_option maxRecDepth 10000
set_option maxHeartbeats 1000000 in
theorem specGroupOrder_yes (n : Nat) (vg : Value) (gens : List (List Int)) (fpg : List Nat) (w : World) (hg : Rd w vg gens fpg) (hgs : gensB n gens = true) :
    Calls Try.prog 13 #[.int .i64 n, vg] w fun e w' => e = .returned (.int .i64 (ordC n gens n : Nat)) ∧ 1 ≤ ordC n gens n ∧ ordC n gens n ≤ 2432902008176640000 ∧ Only [] w w' := by
  obtain ⟨⟨n1, n20⟩, hgl, hpn⟩ := gensB_iff.1 hgs
  have hpn' : ∀ g ∈ gens, PM.PN n g := by simpa using hpn
  have hn : 0 < n := by omega
  have hn20 : n ≤ 20 := by omega
  have Hgs := Lib.hid hgs
  have Hpn := Lib.hid hpn'
  clear hpn hpn' hgs
  go_enter Try.func13, Try.ntmps13
  go_wp2_with (first
    | (go_at_call 10; (with_reducible refine (specIsGens_rd n vg gens fpg w hg).mono ?_); rintro en w1 ⟨he, t1⟩; rw [Hgs.out] at he; subst he; have t1 := t1.only [])
    | (go_at_call 37; (with_reducible refine (buildChain_any n hn hn20 vg gens fpg w1 (Rp.keep hg t1) Hpn.out (by omega)).mono ?_); rintro en w3 ⟨L, gv, G, T, M, F, rfl, hoG, hoT, hC, hCh, t3⟩; have HC := Lib.hid hC; have HCh := Lib.hid hCh; have HoT := Lib.hid hoT; clear hC hCh hoT hoG)
    | (go_at_call 53; (with_reducible refine (chainOrder_any w3 HC.out HCh.out.inv.wf HoT.out).mono ?_); rintro en w4 ⟨he, t4⟩; rw [ordC_eq HCh.out hn Hpn.out (Nat.le_refl _)] at he; subst he)
    | fail "no arm")
  go_ret
  exact ⟨rfl, ordC_pos HCh.out hn Hpn.out (Nat.le_refl _), ordC_le HCh.out hn Hpn.out hn20 (Nat.le_refl _), (t1.trans t3).trans t4⟩
theorem specGroupOrder_i (n : Int) (vg : Value) (gens : List (List Int)) (fpg : List Nat) (w : World) (hg : Rd w vg gens fpg) (hgs : gensB n gens = true) :
    Calls Try.prog 13 #[.int .i64 n, vg] w fun e w' => e = .returned (.int .i64 (ordC n.toNat gens n.toNat : Nat)) ∧ 1 ≤ ordC n.toNat gens n.toNat ∧ ordC n.toNat gens n.toNat ≤ 2432902008176640000 ∧ Only [] w w' := by
  obtain ⟨⟨n1, n20⟩, -, -⟩ := gensB_iff.1 hgs
  obtain ⟨m, rfl⟩ := Int.eq_ofNat_of_zero_le (by omega : 0 ≤ n)
  exact specGroupOrder_yes m vg gens fpg w hg hgs



end Go.Proofs.Ytbediokigibdlaa

namespace Go.Proofs.Ytbediokigibdlaa
open Go.RowKit
set_option maxRecDepth 10000
end Go.Proofs.Ytbediokigibdlaa

namespace Go.Proofs.Ytbediokigibdlaa
open Go.RowKit
set_option maxRecDepth 10000

theorem allMem_get {n : Nat} {gens : List (List Int)} {k : Nat} (h : k < (allMem n gens).length) : (allMem n gens)[k] = memAt n gens k := by simp [allMem]
theorem allMem_take_succ {n : Nat} {gens : List (List Int)} {k : Nat} (h : k < ordC n gens n) : (allMem n gens).take (k + 1) = (allMem n gens).take k ++ [memAt n gens k] := by
  rw [List.take_succ_eq_append_getElem (by rw [allMem_len]; exact h), allMem_get]
set_option maxHeartbeats 4000000 in
theorem implMembers_ch (n : Nat) {B : Nat} {L : Lay} {gv : Nat → Value} {gens : List (List Int)} {G : PM.Gens} {T : PM.Rows} {M F : List Nat} (w : World) (hC : Ch 36 B w L gv n G T M F) (hCh : PM.Chain n gens G T) (hT : L.oT = 2) (hpn : ∀ g ∈ gens, PM.PN n g) :
    Calls Try.prog 44 #[.pointer (some ⟨L.g, 0, none⟩)] w fun e w' => ∃ v f, e = .returned (.tuple #[v, .bool (decide (ordC n gens n ≤ 3000))]) ∧ Rd w' v (lsM n gens) f ∧ Fresh w.heap.size w' f ∧ Only [] w w' := by
  have hn : 0 < n := hC.pos
  obtain ⟨i0, hi, hz0, hz1, hz2⟩ := info_parts Try.info22
  obtain ⟨R, hR⟩ : ∃ R, R = lsM n gens := ⟨_, rfl⟩
  rw [← hR]
  obtain ⟨od, hod⟩ : ∃ od, od = ordC n gens n := ⟨_, rfl⟩
  rw [← hod]
  have HcO : Hid (∀ W, Only [] w W → Calls Try.prog 52 #[.pointer (some ⟨L.g, 0, none⟩), .int .i64 0] W fun e w' => e = .returned (.int .i64 (od : Nat)) ∧ Only [] W w') := Lib.hid (by
    rw [hod, ← ordC_eq hCh hn hpn (Nat.le_refl _)]
    exact fun W hW => implOrder0 (hC.keep hW) hCh.inv.wf hT)
  have hole := ordC_le hCh hn hpn hC.le (j := n) (Nat.le_refl _)
  rw [← hod] at hole
  have HC := Lib.hid hC
  have HCh := Lib.hid hCh
  have HT := Lib.hid hT
  have Hpn := Lib.hid hpn
  have HR := Lib.hid hR
  have Hod := Lib.hid hod
  clear hC hCh hT hpn hR hod
  by_cases hgt : 3000 < od
  · have hgI : (3000 : Int) < (od : Int) := by omega
    have Hd := Lib.hid (decide_eq_false (show ¬ od ≤ 3000 by omega))
    have HRe : Hid (R = []) := Lib.hid (by rw [HR.out]; unfold lsM; rw [if_pos (by rw [← Hod.out]; exact hgt)])
    go_enter Try.func44, Try.ntmps44
    go_wp2_with (first
      | (go_at_call 52; (with_reducible refine (HcO.out w (Only.refl _ _)).mono ?_); rintro en w1 ⟨rfl, t1⟩)
      | fail "no arm")
    exact bodyPost_ret (v := .tuple #[.slice none 0 0, .bool false]) (by simp [results, Try.results44, go_sem]) rfl ⟨.slice none 0 0, [], by rw [Hd.out], by rw [HRe.out]; exact nil_rd _, Fresh.nil _ _, t1⟩
  · have hgI : ¬ (3000 : Int) < (od : Int) := by omega
    have Hd := Lib.hid (decide_eq_true (show od ≤ 3000 by omega))
    have HRe : Hid (R = allMem n gens) := Lib.hid (by rw [HR.out]; unfold lsM; rw [if_neg (by rw [← Hod.out]; exact hgt)])
    clear HR
    go_enter Try.func44, Try.ntmps44
    go_wp2_with (first
      | (go_at_call 52; (with_reducible refine (HcO.out w (Only.refl _ _)).mono ?_); rintro e w1 ⟨rfl, t1⟩)
      | (go_at_call 52; (with_reducible refine (HcO.out w1 t1).mono ?_); rintro e w2 ⟨rfl, t2⟩)
      | fail "no arm")
    have k2 := t1.trans t2
    clear t1 t2
    go_loopw [4, 13] (fun o y wr => ∃ (k : Nat) (fs : List (List Nat)), k ≤ od ∧ y = .int .i64 k ∧ Acc w.heap.size 36 wr o ((allMem n gens).take k) fs ∧ Fresh w.heap.size wr fs.flatten ∧ Only [] w wr)
      (fun _ y _ => od - (intOf y).toNat)
    case atStart => exact ⟨0, [], Nat.zero_le _, rfl, Acc.nil _ _ _, Fresh.nil _ _, k2⟩
    case round =>
      obtain ⟨W2, hnew⟩ : ∃ W, W = wr := ⟨_, rfl⟩
      subst hnew
      obtain ⟨k, fs, hk, rfl, hA, hF, hO⟩ := hrel
      have hsz := hO.size
      by_cases hlt : k < od
      · have hltI : (k : Int) < (od : Int) := by omega
        have hklt : k < ordC n gens n := by rw [← Hod.out]; exact hlt
        have Hst := Lib.hid (allMem_take_succ hklt)
        have Hkl := Lib.hid hklt
        have hlen : ((allMem n gens).take k).length + 1 ≤ 1073741824 := by rw [List.length_take]; omega
        have HA := Lib.hid hA
        clear hklt hA
        go_wp2_with (first
          | (go_at_call 88; (with_reducible refine (memberAt_yes n k W2 (HC.out.keep hO) HCh.out HT.out Hpn.out Hkl.out).mono ?_); rintro en w5 ⟨v5, f5, rfl, r5, F5, t5⟩; obtain ⟨a5, c5, rfl, I5⟩ := id r5.ints)
          | (at_builtin; refine wpList_pushF rfl _ _ 24 rfl w.heap.size 36 i0 _ 24 Try.underlying24 hi hz0 hz1 hz2 rfl (by decide) (by decide) W2 u4 ((allMem n gens).take k) fs rfl HA.out hF (t5.alloc _) hsz w5.heap.size 1 [_] (memAt n gens k) f5 rfl (lit_src w5 [_] _ rfl) (by intro u hu; simp at hu; subst hu; rfl) (Rp.keep r5 ((Only.refl [] w5).alloc _)) (F5.keep ((Only.refl [] w5).alloc _)) hlen w ((hO.trans t5).alloc _) (Nat.le_refl _) ?_; intro v6 w6 hA6 hF6 hK6 _)
          | fail "no arm")
        go_roundw
        case rel => exact ⟨k + 1, _, by omega, by go_num, by rw [Hst.out]; exact hA6, hF6, hK6⟩
        case measure => simp [intOf]; omega
      · obtain rfl : k = od := by omega
        have hge : ¬ ((k : Int) < (k : Int)) := by omega
        have htk : (allMem n gens).take k = R := by rw [HRe.out]; exact List.take_of_length_le (by rw [allMem_len, ← Hod.out]; exact Nat.le_refl _)
        rw [htk] at hA
        have HA := Lib.hid hA
        clear htk hA
        go_wp2
        exact bodyPost_ret (v := .tuple #[u4, .bool true]) (by simp [results, Try.results44, go_sem]) rfl ⟨u4, by rw [Hd.out], _, HA.out.rd (by decide), HA.out.fresh hF, hO⟩




end Go.Proofs.Ytbediokigibdlaa

namespace Go.Proofs.Ytbediokigibdlaa
open Go.RowKit
set_option maxRecDepth 10000
set_option maxHeartbeats 4000000 in
theorem implHasAll_any (n : Nat) {B : Nat} {L : Lay} {gv : Nat → Value} {gens : List (List Int)} {G : PM.Gens} {T : PM.Rows} {M F : List Nat} (w : World) (hC : Ch 36 B w L gv n G T M F) (hCh : PM.Chain n gens G T) (hT : L.oT = 2) (hpn : ∀ g ∈ gens, PM.PN n g)
    (v : Value) (ls : List (List Int)) (fl : List Nat) (hv : Rd w v ls fl) (hls : ∀ p ∈ ls, PM.PN n p) :
    Calls Try.prog 72 #[.pointer (some ⟨L.g, 0, none⟩), v] w fun e w' => e = .returned (.bool (ls.all (memB n gens))) ∧ Only [] w w' := by
  have hn : 0 < n := hC.pos
  obtain ⟨A, C, ob, fps, rfl, -, hS⟩ := hv.open_
  have hb := hS.bound
  obtain ⟨R, hR⟩ : ∃ R, R = ls.all (memB n gens) := ⟨_, rfl⟩
  rw [← hR]
  have HR := Lib.hid hR
  have HC := Lib.hid hC
  have HCh := Lib.hid hCh
  have HT := Lib.hid hT
  have Hpn := Lib.hid hpn
  have Hls := Lib.hid hls
  clear hC hCh hT hpn hR hls
  go_enter Try.func72, Try.ntmps72
  go_wp2
  go_loopw [9] (fun y wr => ∃ i : Nat, i ≤ ls.length ∧ y = .int .i64 i ∧ Hid ((ls.take i).all (memB n gens) = true) ∧ Only [] w wr)
    (fun y _ => ls.length - (intOf y).toNat)
  case atStart => exact ⟨0, Nat.zero_le _, rfl, Lib.hid rfl, Only.refl _ _⟩
  case round =>
    obtain ⟨W2, hnew⟩ : ∃ W, W = wr := ⟨_, rfl⟩
    subst hnew
    obtain ⟨i, hi, rfl, hq, hO⟩ := hrel
    by_cases hlt : i < ls.length
    · have hltI : (i : Int) < (ls.length : Int) := by omega
      have hi0 : (0 : Int) ≤ (i : Int) := by omega
      obtain ⟨b, off, u, rfl, -, hc0, hu0⟩ := hS.atRow i hlt
      have hc := hO.cell (by simp) hc0
      have hpm := Hls.out ls[i] (List.getElem_mem hlt)
      obtain ⟨p, hp⟩ : ∃ p, p = ls[i] := ⟨_, rfl⟩
      have hmem : p ∈ ls := by rw [hp]; exact List.getElem_mem hlt
      have hsn := take_succ_get ls i hlt
      rw [← hp] at hpm hu0 hsn
      have Hmem := Lib.hid hmem
      have Hsn := Lib.hid hsn
      have Hpm := Lib.hid hpm
      have Hh := Lib.hid (implHas0 (HC.out.keep hO) HCh.out.inv.wf HT.out (Rp.keep hu0 hO) hpm)
      rw [memB_has HCh.out hn Hpn.out hpm] at Hh
      clear hp hpm hu0 hsn hc0 hmem
      rcases hm : memB n gens p
      · have Hm := Lib.hid hm
        clear hm
        go_wp2_with (first
          | (go_at_call 35; (with_reducible refine (Hh.out).mono ?_); rintro e w5 ⟨he, t5⟩; rw [Hm.out] at he; subst he)
          | fail "no arm")
        go_ret
        refine ⟨ret_bool ?_, hO.trans t5⟩
        rw [HR.out]
        rw [eq_comm, Bool.eq_false_iff]
        intro h
        have := List.all_eq_true.1 h p Hmem.out
        rw [Hm.out] at this
        cases this
      · have Hm := Lib.hid hm
        clear hm
        go_wp2_with (first
          | (go_at_call 35; (with_reducible refine (Hh.out).mono ?_); rintro e w5 ⟨he, t5⟩; rw [Hm.out] at he; subst he)
          | fail "no arm")
        go_roundw
        case rel => exact ⟨i + 1, by omega, by go_num, Lib.hid (by rw [Hsn.out, List.all_append, hq.out]; simp [Hm.out]), hO.trans t5⟩
        case measure => simp [intOf]; omega
    · obtain rfl : i = ls.length := by omega
      have hge : ¬ ((ls.length : Int) < (ls.length : Int)) := by omega
      have hfin := hq.out
      rw [List.take_length, ← HR.out] at hfin
      have Hfin := Lib.hid hfin
      clear hfin hq
      go_wp2
      go_ret
      exact ⟨ret_bool Hfin.out.symm, hO⟩
end Go.Proofs.Ytbediokigibdlaa

namespace Go.Proofs.Ytbediokigibdlaa
open Go.RowKit
set_option maxRecDepth 10000

/-- drawn: a degree, generators, a number -/
def DM (w : World) (s0 s1 s2 : Value) (wx : World) : Prop :=
  ∃ (n : Int) (gs : List (List Int)) (fp : List Nat) (k : Int), s0 = .int .i64 n ∧ s2 = .int .i64 k ∧ I64 n ∧ I64 k ∧ Rd wx s1 gs fp ∧ Fresh w.heap.size wx fp ∧ gs.length ≤ 9 ∧ (∀ y : List Int, y ∈ gs → y.length ≤ 30) ∧ Only [] w wx
theorem DM.of {w w1 w2 w4 : World} {g : Nat} {fc : List Nat} {l : List UInt8} {n k : Int} {v : Value} {gs : List (List Int)} {fp : List Nat} (t1 : Only [] w w1) (hg : w.heap.size ≤ g) (D1 : Src w1 g fc l) (hn : I64 n) (hk : I64 k) (r2 : Rd w2 v gs fp) (F2 : Fresh w1.heap.size w2 fp) (l9 : gs.length ≤ 9) (l30 : ∀ y : List Int, y ∈ gs → y.length ≤ 30) (K2 : Only [g] w1 w2) (K4 : Only [g] w2 w4) : DM w (.int .i64 n) v (.int .i64 k) w4 := by
  have hgl := D1.lt
  have hd : ∀ q ∈ fp, q ∉ [g] := fun q hq hm => by have := F2.ge q hq; simp at hm; omega
  exact ⟨n, gs, fp, k, rfl, rfl, hn, hk, Rp.only r2 K4 hd, (F2.only K4 hd).mono t1.size, l9, l30, ((t1.weaken [g]).trans (K2.trans K4)).mono fun b hb hl => by simp at hb; omega⟩

set_option maxHeartbeats 1000000 in
theorem specGroupOrder_no (n : Int) (vg : Value) (gens : List (List Int)) (fpg : List Nat) (w : World) (hg : Rd w vg gens fpg) (hgs : gensB n gens = false) :
    Calls Try.prog 13 #[.int .i64 n, vg] w fun e w' => e = .returned (.int .i64 0) ∧ Only [] w w' := by
  have Hgs := Lib.hid hgs
  clear hgs
  go_enter Try.func13, Try.ntmps13
  go_wp2_with (first
    | (go_at_call 10; (with_reducible refine (specIsGens_rd n vg gens fpg w hg).mono ?_); rintro en w1 ⟨he, t1⟩; rw [Hgs.out] at he; subst he; have t1 := t1.only [])
    | fail "no arm")
  go_ret
  exact ⟨rfl, t1⟩
/-- the order of a group, 0 of no group -/
noncomputable def ordG (n : Int) (gens : List (List Int)) : Nat := if gensB n gens = true then ordC n.toNat gens n.toNat else 0
theorem specGroupOrder_any (n : Int) (vg : Value) (gens : List (List Int)) (fpg : List Nat) (w : World) (hg : Rd w vg gens fpg) :
    Calls Try.prog 13 #[.int .i64 n, vg] w fun e w' => e = .returned (.int .i64 (ordG n gens : Nat)) ∧ ordG n gens ≤ 2432902008176640000 ∧ (gensB n gens = true → 1 ≤ ordG n gens) ∧ Only [] w w' := by
  by_cases h : gensB n gens = true
  · have e1 : ordG n gens = ordC n.toNat gens n.toNat := by unfold ordG; rw [if_pos h]
    rw [e1]
    refine (specGroupOrder_i n vg gens fpg w hg h).mono ?_
    rintro e w' ⟨h1, h2, h3, h4⟩
    exact ⟨h1, h3, fun _ => h2, h4⟩
  · have e1 : ordG n gens = 0 := by unfold ordG; rw [if_neg h]
    rw [e1]
    refine (specGroupOrder_no n vg gens fpg w hg (by simpa using h)).mono ?_
    rintro e w' ⟨h1, h4⟩
    exact ⟨h1, by omega, fun hh => absurd hh h, h4⟩

end Go.Proofs.Ytbediokigibdlaa

namespace Go.Proofs.Ytbediokigibdlaa
open Go.RowKit
set_option maxRecDepth 10000

set_option maxHeartbeats 4000000 in
theorem specHasAll_any (n : Nat) {B : Nat} {L : Lay} {gv : Nat → Value} {gens : List (List Int)} {G : PM.Gens} {T : PM.Rows} {M F : List Nat} (w : World) (hC : Ch 36 B w L gv n G T M F) (hCh : PM.Chain n gens G T) (hT : L.oT = 1) (hpn : ∀ g ∈ gens, PM.PN n g)
    (v : Value) (ls : List (List Int)) (fl : List Nat) (hv : Rd w v ls fl) (hls : ∀ p ∈ ls, PM.PN n p) :
    Calls Try.prog 73 #[.pointer (some ⟨L.g, 0, none⟩), v] w fun e w' => e = .returned (.bool (ls.all (memB n gens))) ∧ Only [] w w' := by
  have hn : 0 < n := hC.pos
  obtain ⟨A, C, ob, fps, rfl, -, hS⟩ := hv.open_
  have hb := hS.bound
  obtain ⟨R, hR⟩ : ∃ R, R = ls.all (memB n gens) := ⟨_, rfl⟩
  rw [← hR]
  have HR := Lib.hid hR
  have HC := Lib.hid hC
  have HCh := Lib.hid hCh
  have HT := Lib.hid hT
  have Hpn := Lib.hid hpn
  have Hls := Lib.hid hls
  clear hC hCh hT hpn hR hls
  go_enter Try.func73, Try.ntmps73
  go_wp2
  go_loopw [5] (fun y wr => ∃ i : Nat, i ≤ ls.length ∧ y = .int .i64 i ∧ Hid ((ls.take i).all (memB n gens) = true) ∧ Only [] w wr)
    (fun y _ => ls.length - (intOf y).toNat)
  case atStart => exact ⟨0, Nat.zero_le _, rfl, Lib.hid rfl, Only.refl _ _⟩
  case round =>
    obtain ⟨W2, hnew⟩ : ∃ W, W = wr := ⟨_, rfl⟩
    subst hnew
    obtain ⟨i, hi, rfl, hq, hO⟩ := hrel
    by_cases hlt : i < ls.length
    · have hltI : (i : Int) < (ls.length : Int) := by omega
      have hi0 : (0 : Int) ≤ (i : Int) := by omega
      obtain ⟨b, off, u, rfl, -, hc0, hu0⟩ := hS.atRow i hlt
      have hc := hO.cell (by simp) hc0
      have hpm := Hls.out ls[i] (List.getElem_mem hlt)
      obtain ⟨p, hp⟩ : ∃ p, p = ls[i] := ⟨_, rfl⟩
      have hmem : p ∈ ls := by rw [hp]; exact List.getElem_mem hlt
      have hsn := take_succ_get ls i hlt
      rw [← hp] at hpm hu0 hsn
      have Hmem := Lib.hid hmem
      have Hsn := Lib.hid hsn
      have Hh := Lib.hid (chainHas_any W2 (HC.out.keep hO) HCh.out.inv.wf HT.out u p _ (Rp.keep hu0 hO) hpm)
      rw [memB_has HCh.out hn Hpn.out hpm] at Hh
      clear hp hpm hu0 hsn hc0 hmem
      rcases hm : memB n gens p
      · have Hm := Lib.hid hm
        clear hm
        go_wp2_with (first
          | (go_at_call 38; (with_reducible refine (Hh.out).mono ?_); rintro e w5 ⟨he, t5⟩; rw [Hm.out] at he; subst he)
          | fail "no arm")
        go_ret
        refine ⟨ret_bool ?_, hO.trans t5⟩
        rw [HR.out]
        rw [eq_comm, Bool.eq_false_iff]
        intro h
        have := List.all_eq_true.1 h p Hmem.out
        rw [Hm.out] at this
        cases this
      · have Hm := Lib.hid hm
        clear hm
        go_wp2_with (first
          | (go_at_call 38; (with_reducible refine (Hh.out).mono ?_); rintro e w5 ⟨he, t5⟩; rw [Hm.out] at he; subst he)
          | fail "no arm")
        go_roundw
        case rel => exact ⟨i + 1, by omega, by go_num, Lib.hid (by rw [Hsn.out, List.all_append, hq.out]; simp [Hm.out]), hO.trans t5⟩
        case measure => simp [intOf]; omega
    · obtain rfl : i = ls.length := by omega
      have hge : ¬ ((ls.length : Int) < (ls.length : Int)) := by omega
      have hfin := hq.out
      rw [List.take_length, ← HR.out] at hfin
      have Hfin := Lib.hid hfin
      clear hfin hq
      go_wp2
      go_ret
      exact ⟨ret_bool Hfin.out.symm, hO⟩
/-- a generates a subgroup of what b generates -/
noncomputable def subB (n : Int) (a b : List (List Int)) : Bool := gensB n a && gensB n b && a.all (memB n.toNat b)
theorem subB_iff {n : Int} {a b : List (List Int)} : subB n a b = true ↔ gensB n a = true ∧ gensB n b = true ∧ ∀ g ∈ a, PM.Grp n.toNat b g := by
  unfold subB
  rw [Bool.and_eq_true, Bool.and_eq_true, List.all_eq_true]
  have h : ∀ g, memB n.toNat b g = true ↔ PM.Grp n.toNat b g := fun g => by
    unfold memB
    exact @decide_eq_true_iff _ (Classical.propDecidable _)
  constructor
  · rintro ⟨⟨h1, h2⟩, h3⟩; exact ⟨h1, h2, fun g hg => (h g).1 (h3 g hg)⟩
  · rintro ⟨h1, h2, h3⟩; exact ⟨⟨h1, h2⟩, fun g hg => (h g).2 (h3 g hg)⟩
/-- the index, 0 of no subgroup -/
noncomputable def idxS (n : Int) (a b : List (List Int)) : Nat := if subB n a b = true then ordG n b / ordG n a else 0
set_option maxHeartbeats 2000000 in
theorem areGroups_any (n : Int) (va vb : Value) (a b : List (List Int)) (fa fb : List Nat) (w : World) (ha : Rd w va a fa) (hb : Rd w vb b fb) :
    Calls Try.prog 71 #[.int .i64 n, va, vb] w fun e w' => e = .returned (.bool (gensB n a && gensB n b)) ∧ Only [] w w' := by
  rcases h1 : gensB n a
  · have H1 := Lib.hid h1
    clear h1
    go_enter Try.func71, Try.ntmps71
    go_wp2_with (first
      | (go_at_call 43; (with_reducible refine (implIsGens_rd n va a fa w ha).mono ?_); rintro e w1 ⟨he, t1⟩; rw [H1.out] at he; subst he)
      | fail "no arm")
    go_ret
    exact ⟨rfl, t1⟩
  · have H1 := Lib.hid h1
    rcases h2 : gensB n b
    all_goals have H2 := Lib.hid h2
    all_goals clear h1 h2
    all_goals go_enter Try.func71, Try.ntmps71
    all_goals go_wp2_with (first
      | (go_at_call 43; (with_reducible refine (implIsGens_rd n va a fa w ha).mono ?_); rintro e w1 ⟨he, t1⟩; rw [H1.out] at he; subst he)
      | (go_at_call 43; (with_reducible refine (implIsGens_rd n vb b fb w1 (Rp.keep hb t1)).mono ?_); rintro e w2 ⟨he, t2⟩; rw [H2.out] at he; subst he)
      | fail "no arm")
    all_goals go_ret
    all_goals exact ⟨rfl, t1.trans t2⟩
set_option maxHeartbeats 4000000 in
theorem implIsSub_any (n : Int) (va vb : Value) (a b : List (List Int)) (fa fb : List Nat) (w : World) (ha : Rd w va a fa) (hb : Rd w vb b fb) :
    Calls Try.prog 25 #[.int .i64 n, va, vb] w fun e w' => e = .returned (.bool (subB n a b)) ∧ Only [] w w' := by
  have HcG := Lib.hid (areGroups_any n va vb a b fa fb w ha hb)
  rcases h1 : (gensB n a && gensB n b)
  · have H1 := Lib.hid h1
    have HR : Hid (subB n a b = false) := Lib.hid (by unfold subB; rw [h1]; rfl)
    rw [h1] at HcG
    clear h1
    go_enter Try.func25, Try.ntmps25
    go_wp2_with (first
      | (go_at_call 71; (with_reducible refine (HcG.out).mono ?_); rintro e w1 ⟨rfl, t1⟩)
      | fail "no arm")
    go_ret
    exact ⟨ret_bool HR.out.symm, t1⟩
  · have h2 := h1
    rw [Bool.and_eq_true] at h2
    obtain ⟨hga, hgb⟩ := h2
    obtain ⟨⟨n1, n20⟩, hgl, hpn⟩ := gensB_iff.1 hgb
    obtain ⟨m, rfl⟩ := Int.eq_ofNat_of_zero_le (show 0 ≤ n by omega)
    have hpn' : ∀ g ∈ b, PM.PN m g := by simpa using hpn
    have hpa : ∀ g ∈ a, PM.PN m g := by simpa using (gensB_iff.1 hga).2.2
    have hm0 : 0 < m := by omega
    have hm20 : m ≤ 20 := by omega
    have HR : Hid (subB (m : Int) a b = a.all (memB m b)) := Lib.hid (by unfold subB; rw [h1]; rfl)
    have Hpn := Lib.hid hpn'
    have Hpa := Lib.hid hpa
    rw [h1] at HcG
    clear h1 hga hgb hpn hpn' hpa
    go_enter Try.func25, Try.ntmps25
    go_wp2_with (first
      | (go_at_call 71; (with_reducible refine (HcG.out).mono ?_); rintro e w1 ⟨rfl, t1⟩)
      | (go_at_call 34; (with_reducible refine (implNewChain_any m hm0 hm20 vb b fb w1 (Rp.keep hb t1) Hpn.out (by omega)).mono ?_); rintro en w4 ⟨L, gv, G, T, M, F, rfl, -, hoT, hC, hCh, t4⟩; have HC := Lib.hid hC; have HCh := Lib.hid hCh; have HoT := Lib.hid hoT; clear hC hCh hoT)
      | (go_at_call 72; (with_reducible refine (implHasAll_any m w4 HC.out HCh.out HoT.out Hpn.out va a fa (Rp.keep ha (t1.trans t4)) Hpa.out).mono ?_); rintro en w5 ⟨rfl, t5⟩)
      | fail "no arm")
    go_ret
    exact ⟨ret_bool HR.out.symm, (t1.trans t4).trans t5⟩
set_option maxHeartbeats 4000000 in
theorem specIsSub_any (n : Int) (va vb : Value) (a b : List (List Int)) (fa fb : List Nat) (w : World) (ha : Rd w va a fa) (hb : Rd w vb b fb) :
    Calls Try.prog 26 #[.int .i64 n, va, vb] w fun e w' => e = .returned (.bool (subB n a b)) ∧ Only [] w w' := by
  rcases h1 : gensB n a
  · have H1 := Lib.hid h1
    have HR : Hid (subB n a b = false) := Lib.hid (by unfold subB; rw [h1]; rfl)
    clear h1
    go_enter Try.func26, Try.ntmps26
    go_wp2_with (first
      | (go_at_call 10; (with_reducible refine (specIsGens_rd n va a fa w ha).mono ?_); rintro e w1 ⟨he, t1⟩; rw [H1.out] at he; subst he; have t1 := t1.only [])
      | fail "no arm")
    go_ret
    exact ⟨ret_bool HR.out.symm, t1⟩
  · have H1 := Lib.hid h1
    rcases h2 : gensB n b
    · have H2 := Lib.hid h2
      have HR : Hid (subB n a b = false) := Lib.hid (by unfold subB; rw [h1, h2]; rfl)
      clear h1 h2
      go_enter Try.func26, Try.ntmps26
      go_wp2_with (first
        | (go_at_call 10; (with_reducible refine (specIsGens_rd n va a fa w ha).mono ?_); rintro e w1 ⟨he, t1⟩; rw [H1.out] at he; subst he; have t1 := t1.only [])
        | (go_at_call 10; (with_reducible refine (specIsGens_rd n vb b fb w1 (Rp.keep hb t1)).mono ?_); rintro e w2 ⟨he, t2⟩; rw [H2.out] at he; subst he; have t2 := t2.only [])
        | fail "no arm")
      go_ret
      exact ⟨ret_bool HR.out.symm, t1.trans t2⟩
    · have H2 := Lib.hid h2
      obtain ⟨⟨n1, n20⟩, hgl, hpn⟩ := gensB_iff.1 h2
      obtain ⟨m, rfl⟩ := Int.eq_ofNat_of_zero_le (show 0 ≤ n by omega)
      have hpn' : ∀ g ∈ b, PM.PN m g := by simpa using hpn
      have hpa : ∀ g ∈ a, PM.PN m g := by simpa using (gensB_iff.1 h1).2.2
      have hm0 : 0 < m := by omega
      have hm20 : m ≤ 20 := by omega
      have HR : Hid (subB (m : Int) a b = a.all (memB m b)) := Lib.hid (by unfold subB; rw [h1, h2]; rfl)
      have Hpn := Lib.hid hpn'
      have Hpa := Lib.hid hpa
      clear h1 h2 hpn hpn' hpa
      go_enter Try.func26, Try.ntmps26
      go_wp2_with (first
        | (go_at_call 10; (with_reducible refine (specIsGens_rd (m : Int) va a fa w ha).mono ?_); rintro e w1 ⟨he, t1⟩; rw [H1.out] at he; subst he; have t1 := t1.only [])
        | (go_at_call 10; (with_reducible refine (specIsGens_rd (m : Int) vb b fb w1 (Rp.keep hb t1)).mono ?_); rintro e w2 ⟨he, t2⟩; rw [H2.out] at he; subst he; have t2 := t2.only []; have k2 := t1.trans t2)
        | (go_at_call 37; (with_reducible refine (buildChain_any m hm0 hm20 vb b fb w2 (Rp.keep hb k2) Hpn.out (by omega)).mono ?_); rintro en w3 ⟨L, gv, G, T, M, F, rfl, hoG, hoT, hC, hCh, t3⟩; have HC := Lib.hid hC; have HCh := Lib.hid hCh; have HoT := Lib.hid hoT; clear hC hCh hoT hoG)
        | (go_at_call 73; (with_reducible refine (specHasAll_any m w3 HC.out HCh.out HoT.out Hpn.out va a fa (Rp.keep ha (k2.trans t3)) Hpa.out).mono ?_); rintro en w5 ⟨rfl, t5⟩)
        | fail "no arm")
      go_ret
      exact ⟨ret_bool HR.out.symm, (k2.trans t3).trans t5⟩
theorem ordG_rng {n : Int} {vg : Value} {gens : List (List Int)} {fpg : List Nat} {w : World} (hg : Rd w vg gens fpg) (hgs : gensB n gens = true) : 1 ≤ ordG n gens ∧ ordG n gens ≤ 2432902008176640000 := by
  obtain ⟨⟨n1, n20⟩, hgl, hpn⟩ := gensB_iff.1 hgs
  obtain ⟨m, rfl⟩ := Int.eq_ofNat_of_zero_le (show 0 ≤ n by omega)
  have e1 : ordG (m : Int) gens = ordC m gens m := by unfold ordG; rw [if_pos hgs]; rfl
  obtain ⟨G, T, hCh⟩ := rank_chain m vg gens fpg w hg hgs
  have hpn' : ∀ g ∈ gens, PM.PN m g := by simpa using hpn
  rw [e1]
  exact ⟨ordC_pos hCh (by omega) hpn' (Nat.le_refl _), ordC_le hCh (by omega) hpn' (by omega) (Nat.le_refl _)⟩
theorem div_wrap (a b : Nat) (h : a ≤ 9223372036854775807) : wrap64 ((a : Int) / (b : Int)) = ((a / b : Nat) : Int) := by
  have h1 : (a : Int) / (b : Int) = ((a / b : Nat) : Int) := rfl
  have h2 : a / b ≤ a := Nat.div_le_self a b
  rw [h1]
  generalize a / b = q at h2
  unfold wrap64
  omega
set_option maxHeartbeats 4000000 in
theorem specIdx_any (n : Int) (va vb : Value) (a b : List (List Int)) (fa fb : List Nat) (w : World) (ha : Rd w va a fa) (hb : Rd w vb b fb) :
    Calls Try.prog 15 #[.int .i64 n, va, vb] w fun e w' => e = .returned (.int .i64 (idxS n a b : Nat)) ∧ Only [] w w' := by
  have HcS := Lib.hid (specIsSub_any n va vb a b fa fb w ha hb)
  rcases h1 : subB n a b
  · have HR : Hid (idxS n a b = 0) := Lib.hid (by unfold idxS; rw [if_neg (by rw [h1]; simp)])
    rw [h1] at HcS
    clear h1
    go_enter Try.func15, Try.ntmps15
    go_wp2_with (first
      | (go_at_call 26; (with_reducible refine (HcS.out).mono ?_); rintro e w1 ⟨rfl, t1⟩)
      | fail "no arm")
    go_ret
    exact ⟨ret_int (by rw [HR.out]; rfl), t1⟩
  · obtain ⟨ga, gb, -⟩ := subB_iff.1 h1
    obtain ⟨a1, a2⟩ := ordG_rng ha ga
    obtain ⟨b1, b2⟩ := ordG_rng hb gb
    have hR : idxS n a b = ordG n b / ordG n a := by unfold idxS; rw [if_pos h1]
    have HcA := Lib.hid (fun (W : World) (hW : Only [] w W) => specGroupOrder_any n va a fa W (Rp.keep ha hW))
    have HcB := Lib.hid (fun (W : World) (hW : Only [] w W) => specGroupOrder_any n vb b fb W (Rp.keep hb hW))
    rw [h1] at HcS
    obtain ⟨oa, hoa⟩ : ∃ oa, oa = ordG n a := ⟨_, rfl⟩
    obtain ⟨ob, hob⟩ : ∃ ob, ob = ordG n b := ⟨_, rfl⟩
    rw [← hoa] at HcA a1 a2 hR
    rw [← hob] at HcB b1 b2 hR
    have HR := Lib.hid hR
    have hdiv : Int.tdiv (ob : Int) (oa : Int) = ((ob / oa : Nat) : Int) := tdiv_nat ob oa
    have hne : ¬ ((oa : Int) = 0) := by omega
    have hdv : wrap64 ((ob : Int) / (oa : Int)) = ((ob / oa : Nat) : Int) := div_wrap ob oa (by omega)
    clear h1 ga gb hR hoa hob
    go_enter Try.func15, Try.ntmps15
    go_wp2_with (first
      | (go_at_call 26; (with_reducible refine (HcS.out).mono ?_); rintro e w1 ⟨rfl, t1⟩)
      | (go_at_call 13; (with_reducible refine (HcB.out w1 t1).mono ?_); rintro e w2 ⟨rfl, -, -, t2⟩; have k2 := t1.trans t2)
      | (go_at_call 13; (with_reducible refine (HcA.out w2 k2).mono ?_); rintro e w3 ⟨rfl, -, -, t3⟩)
      | fail "no arm")
    go_ret
    exact ⟨ret_int (by rw [HR.out]; first | exact hdv | exact hdiv | rfl | omega), k2.trans t3⟩
end Go.Proofs.Ytbediokigibdlaa

namespace Go.Proofs.Ytbediokigibdlaa
open Go.RowKit
set_option maxRecDepth 10000
end Go.Proofs.Ytbediokigibdlaa

namespace Go.Proofs.Ytbediokigibdlaa
open Go.RowKit
set_option maxRecDepth 10000
/-- the least permutation of each coset, as they are found -/
noncomputable def repC (m : Nat) (a b : List (List Int)) : List (List Int) := PM.bC m a b (ordC m b m + 1) 0 [PM.pts m]
/-- what is known of a subgroup -/
structure SubF (m : Nat) (a b : List (List Int)) : Prop where
  pos : 0 < m
  le : m ≤ 20
  la : a.length ≤ 8
  lb : b.length ≤ 8
  pa : ∀ g ∈ a, PM.PN m g
  pb : ∀ g ∈ b, PM.PN m g
  ca : ∃ G T, PM.Chain m a G T
  cb : ∃ G T, PM.Chain m b G T
  sub : ∀ g ∈ a, PM.Grp m b g
theorem SubF.of {n : Int} {va vb : Value} {a b : List (List Int)} {fa fb : List Nat} {w : World} (ha : Rd w va a fa) (hb : Rd w vb b fb) (h : subB n a b = true) : ∃ m : Nat, n = (m : Int) ∧ SubF m a b := by
  obtain ⟨h1, h2, h3⟩ := subB_iff.1 h
  obtain ⟨⟨n1, n20⟩, hgl, hpn⟩ := gensB_iff.1 h1
  obtain ⟨-, hgl2, hpn2⟩ := gensB_iff.1 h2
  obtain ⟨m, rfl⟩ := Int.eq_ofNat_of_zero_le (show 0 ≤ n by omega)
  exact ⟨m, rfl, by omega, by omega, hgl, hgl2, by simpa using hpn, by simpa using hpn2, rank_chain m va a fa w ha h1, rank_chain m vb b fb w hb h2, by simpa using h3⟩
theorem subF_idx {m : Nat} {a b : List (List Int)} {n : Int} (hn : n = (m : Int)) (hs : subB n a b = true) : idxS n a b = ordC m b m / ordC m a m := by
  subst hn
  obtain ⟨h1, h2, -⟩ := subB_iff.1 hs
  unfold idxS
  rw [if_pos hs]
  unfold ordG
  rw [if_pos h1, if_pos h2]
  rfl
section
variable {m : Nat} {a b : List (List Int)} (h : SubF m a b)
include h
theorem SubF.ord_a {G : PM.Gens} {T : PM.Rows} (c : PM.Chain m a G T) : PM.ordM T m m = ordC m a m := ordC_eq c h.pos h.pa (Nat.le_refl _)
theorem SubF.ord_b {G : PM.Gens} {T : PM.Rows} (c : PM.Chain m b G T) : PM.ordM T m m = ordC m b m := ordC_eq c h.pos h.pb (Nat.le_refl _)
theorem SubF.len {L : List (List Int)} (i : PM.InC m a b L) : L.length * ordC m a m ≤ ordC m b m ∧ 1 ≤ ordC m a m ∧ L.length ≤ ordC m b m := by
  obtain ⟨G, T, ca⟩ := h.ca
  obtain ⟨G', T', cb⟩ := h.cb
  have h1 := i.len ca cb h.pos h.pa h.pb h.sub
  have h2 := i.le ca cb h.pos h.pa h.pb h.sub
  rw [h.ord_a ca, h.ord_b cb] at h1
  rw [h.ord_b cb] at h2
  exact ⟨h1, ordC_pos ca h.pos h.pa (Nat.le_refl _), h2⟩
theorem SubF.start : PM.InC m a b [PM.pts m] := by
  obtain ⟨G, T, ca⟩ := h.ca
  exact PM.InC.start ca h.pos h.pa
theorem SubF.step {L : List (List Int)} (i : PM.InC m a b L) {x g : List Int} (hx : x ∈ L) (hg : g ∈ b) : PM.InC m a b (PM.addC (PM.cosM m a (PM.comp x g)) L) := by
  obtain ⟨G, T, ca⟩ := h.ca
  exact i.add ca h.pos h.pa h.pb h.sub (PM.Grp.comp h.pb (i.grp x hx) (.gen h.pb hg))
theorem SubF.pn {L : List (List Int)} (i : PM.InC m a b L) {x : List Int} (hx : x ∈ L) : PM.PN m x := (i.grp x hx).pn h.pb
theorem SubF.reps : PM.InC m a b (repC m a b) ∧ (repC m a b).length * ordC m a m = ordC m b m := by
  obtain ⟨G, T, ca⟩ := h.ca
  obtain ⟨G', T', cb⟩ := h.cb
  have := PM.bC_reps ca cb h.pos h.pa h.pb h.sub
  rw [h.ord_a ca, h.ord_b cb] at this
  exact this
theorem SubF.idx_len {n : Int} (hn : n = (m : Int)) (hs : subB n a b = true) : idxS n a b = (repC m a b).length := by
  rw [subF_idx hn hs]
  obtain ⟨i, e⟩ := h.reps
  have := (h.len i).2.1
  rw [← e, Nat.mul_div_cancel _ (by omega)]
end
theorem idxS_no {n : Int} {a b : List (List Int)} (h : subB n a b = false) : idxS n a b = 0 := by unfold idxS; rw [if_neg (by rw [h]; simp)]
theorem nil_rows (g : Option Addr) (c : Nat) (w : World) (h : c ≤ maxLen) : Rd w (.slice g 0 c) ([] : List (List Int)) [] := (SeqA.nil (α := List Int) w g h).rd
theorem idx_sub {n : Int} {a b : List (List Int)} (h : 1 ≤ idxS n a b) : subB n a b = true := by
  rcases hs : subB n a b
  · rw [idxS_no hs] at h; omega
  · rfl
end Go.Proofs.Ytbediokigibdlaa

namespace Go.Proofs.Ytbediokigibdlaa
open Go.RowKit Go.Shelf Go.Sort Go.Proofs
set_option maxRecDepth 10000
theorem Acc.rows {B : Nat} {e : TypeId} {w : World} {v : Value} {L : List (List Int)} {fs : List (List Nat)} (h : Acc B e w v L fs) :
    ∃ vals : List Value, vals.length = L.length ∧ w.ownsRow B e 1 v L.length vals ∧ fs.length = L.length ∧ ∀ k (h1 : k < vals.length) (h2 : k < L.length) (h3 : k < fs.length), Rd w vals[k] L[k] fs[k] := by
  obtain ⟨css, ho, hcl, hr⟩ := h.own
  have hfl := h.fl
  have h1 : ∀ c ∈ css, c = [c.headD undef] := fun c hc => by
    obtain ⟨k, hk, rfl⟩ := List.getElem_of_mem hc
    have := Rp.len (hr k hk (by omega) (by omega))
    match css[k], this with
    | [u], _ => rfl
  have h2 : (css.map fun c => c.headD undef).map (fun v => [v]) = css := by
    rw [List.map_map]
    conv => rhs; rw [← List.map_id css]
    exact List.map_congr_left fun c hc => (h1 c hc).symm
  have h3 : css.flatten = css.map fun c => c.headD undef := by
    conv => lhs; rw [← h2]
    exact singles_flatten _
  rw [h3] at ho
  refine ⟨css.map fun c => c.headD undef, by simpa using hcl, ho, hfl, fun k a b c => ?_⟩
  have h4 := hr k (by simpa using a) b c
  rw [h1 css[k] (List.getElem_mem _)] at h4
  rw [List.getElem_map]
  exact h4
end Go.Proofs.Ytbediokigibdlaa

namespace Go.Proofs.Ytbediokigibdlaa
open Go.RowKit
set_option maxRecDepth 10000
end Go.Proofs.Ytbediokigibdlaa

namespace Go.Proofs.Ytbediokigibdlaa
open Go.RowKit
set_option maxRecDepth 10000
end Go.Proofs.Ytbediokigibdlaa

namespace Go.Proofs.Ytbediokigibdlaa
open Go.RowKit
set_option maxRecDepth 10000
end Go.Proofs.Ytbediokigibdlaa

namespace Go.Proofs.Ytbediokigibdlaa
open Go.RowKit
set_option maxRecDepth 10000
end Go.Proofs.Ytbediokigibdlaa

namespace Go.Proofs.Ytbediokigibdlaa
open Go.RowKit
set_option maxRecDepth 10000
end Go.Proofs.Ytbediokigibdlaa

namespace Go.Proofs.Ytbediokigibdlaa
open Go.RowKit
set_option maxRecDepth 10000

noncomputable def nrmR (m : Nat) (a b : List (List Int)) (p : List Int) : Bool := b.all fun q => memB m a (PM.conj p q)
noncomputable def nrmB (n : Int) (a b : List (List Int)) : Bool := subB n a b && a.all (nrmR n.toNat a b)
theorem eqV_com (p q : List Int) : eqV (PM.comp p q) (PM.comp q p) = decide (PM.comp p q = PM.comp q p) := by
  rw [Bool.eq_iff_iff, eqV_iff, decide_eq_true_iff]
set_option maxHeartbeats 1000000 in
theorem implConj_any (m : Nat) (vp vq : Value) (p q : List Int) (fp fq : List Nat) (w : World) (hp : Rd w vp p fp) (hq : Rd w vq q fq) (pp : PM.PN m p) (pq : PM.PN m q) (hm : m ≤ 1000) :
    Calls Try.prog 36 #[vp, vq] w fun e w' => ∃ v f, e = .returned v ∧ Rd w' v (PM.conj p q) f ∧ Fresh w.heap.size w' f ∧ Only [] w w' := by
  have Hp := Lib.hid pp
  have Hq := Lib.hid pq
  clear pp pq
  go_enter Try.func36, Try.ntmps36
  go_wp2_with (first
    | (go_at_call 51; (with_reducible refine (implInv_rd m vq q fq w hq Hq.out hm).mono ?_); rintro e w1 ⟨v1, f1, rfl, r1, F1, t1⟩)
    | (go_at_call 50; (with_reducible refine (implCompose_rd m v1 vp (PM.inv q) p f1 fp w1 r1 (Rp.keep hp t1) Hq.out.inv Hp.out hm).mono ?_); rintro e w2 ⟨v2, f2, rfl, r2, F2, t2⟩; have k2 := t1.trans t2)
    | (go_at_call 50; (with_reducible refine (implCompose_rd m v2 vq (PM.comp (PM.inv q) p) q f2 fq w2 r2 (Rp.keep hq k2) (Hq.out.inv.comp Hp.out) Hq.out hm).mono ?_); rintro e w3 ⟨v3, f3, rfl, r3, F3, t3⟩)
    | fail "no arm")
  go_ret
  exact ⟨_, f3, rfl, r3, F3.mono k2.size, k2.trans t3⟩
set_option maxHeartbeats 1000000 in
theorem implCommute_any (m : Nat) (vp vq : Value) (p q : List Int) (fp fq : List Nat) (w : World) (hp : Rd w vp p fp) (hq : Rd w vq q fq) (pp : PM.PN m p) (pq : PM.PN m q) (hm : m ≤ 1000) :
    Calls Try.prog 47 #[vp, vq] w fun e w' => e = .returned (.bool (decide (PM.comp p q = PM.comp q p))) ∧ Only [] w w' := by
  have Hp := Lib.hid pp
  have Hq := Lib.hid pq
  have He := Lib.hid (eqV_com p q)
  clear pp pq
  go_enter Try.func47, Try.ntmps47
  go_wp2_with (first
    | (go_at_call 50; (with_reducible refine (implCompose_rd m vp vq p q fp fq w hp hq Hp.out Hq.out hm).mono ?_); rintro e w1 ⟨v1, f1, rfl, r1, F1, t1⟩)
    | (go_at_call 50; (with_reducible refine (implCompose_rd m vq vp q p fq fp w1 (Rp.keep hq t1) (Rp.keep hp t1) Hq.out Hp.out hm).mono ?_); rintro e w2 ⟨v2, f2, rfl, r2, F2, t2⟩)
    | (go_at_call 65; (with_reducible refine (Equal_rd v1 v2 (PM.comp p q) (PM.comp q p) f1 f2 w2 (Rp.keep r1 t2) r2).mono ?_); rintro e w3 ⟨he, t3⟩; subst he; have t3 := t3.only [])
    | fail "no arm")
  go_ret
  exact ⟨ret_bool He.out, (t1.trans t2).trans t3⟩
set_option maxHeartbeats 4000000 in
theorem implAbelian_yes (m : Nat) (vg : Value) (a : List (List Int)) (fpg : List Nat) (w : World) (hg : Rd w vg a fpg) (hgs : gensB m a = true) :
    Calls Try.prog 14 #[.int .i64 m, vg] w fun e w' => e = .returned (.bool (ablB a)) ∧ Only [] w w' := by
  obtain ⟨⟨n1, n20⟩, hgl, hpn⟩ := gensB_iff.1 hgs
  have hpn' : ∀ g ∈ a, PM.PN m g := by simpa using hpn
  have hm1000 : m ≤ 1000 := by omega
  have HcG := Lib.hid (implIsGens_rd (m : Int) vg a fpg w hg)
  rw [hgs] at HcG
  obtain ⟨A, C, ob, fps, rfl, -, hS⟩ := hg.open_
  have hb := hS.bound
  have Hpn := Lib.hid hpn'
  obtain ⟨R, hR⟩ : ∃ R, R = ablB a := ⟨_, rfl⟩
  rw [← hR]
  have HR := Lib.hid hR
  clear hgs hpn hpn' hR
  go_enter Try.func14, Try.ntmps14
  go_wp2_with (first
    | (go_at_call 43; (with_reducible refine (HcG.out).mono ?_); rintro en w1 ⟨he, t1⟩; subst he)
    | fail "no arm")
  have k1 : Only [] w w1 := t1
  clear t1
  go_loopw [15] (fun y wr => ∃ i : Nat, i ≤ a.length ∧ y = .int .i64 i ∧ Hid ((a.take i).all (comA a) = true) ∧ Only [] w wr)
    (fun y _ => a.length - (intOf y).toNat)
  case atStart => exact ⟨0, Nat.zero_le _, rfl, Lib.hid rfl, k1⟩
  case round =>
    obtain ⟨W2, hnew⟩ : ∃ W, W = wr := ⟨_, rfl⟩
    subst hnew
    clear k1
    obtain ⟨i, hi, rfl, hq, hO⟩ := hrel
    by_cases hlt : i < a.length
    · have hltI : (i : Int) < (a.length : Int) := by omega
      have hi0 : (0 : Int) ≤ (i : Int) := by omega
      obtain ⟨b, off, u, rfl, -, hc0, hu0⟩ := hS.atRow i hlt
      have hc := hO.cell (by simp) hc0
      have hpm := Hpn.out a[i] (List.getElem_mem hlt)
      obtain ⟨p, hp⟩ : ∃ p, p = a[i] := ⟨_, rfl⟩
      have hmem : p ∈ a := by rw [hp]; exact List.getElem_mem hlt
      have hsn := take_succ_get a i hlt
      rw [← hp] at hpm hu0 hsn
      have Hmem := Lib.hid hmem
      have Hsn := Lib.hid hsn
      have Hpm := Lib.hid hpm
      have Hu := Lib.hid hu0
      clear hp hpm hu0 hsn hc0 hmem
      go_wp2
      go_loopw [21] (fun y wr => ∃ k : Nat, k ≤ a.length ∧ y = .int .i64 k ∧ Hid ((a.take k).all (fun q => decide (PM.comp p q = PM.comp q p)) = true) ∧ Only [] w wr)
        (fun y _ => a.length - (intOf y).toNat)
      case atStart => exact ⟨0, Nat.zero_le _, rfl, Lib.hid rfl, hO⟩
      case round =>
        obtain ⟨W4, hnew⟩ : ∃ W, W = wr := ⟨_, rfl⟩
        subst hnew
        obtain ⟨k, hk, rfl, hqk, hO4⟩ := hrel
        by_cases hltk : k < a.length
        · have hltkI : (k : Int) < (a.length : Int) := by omega
          have hk0 : (0 : Int) ≤ (k : Int) := by omega
          obtain ⟨b', off', u', e2, -, hc1, hu1⟩ := hS.atRow k hltk
          injection e2 with e2; injection e2 with e21 e22; subst e21; subst e22
          have hc1 := hO4.cell (by simp) hc1
          have hqm := Hpn.out a[k] (List.getElem_mem hltk)
          obtain ⟨q, hqq⟩ : ∃ q, q = a[k] := ⟨_, rfl⟩
          have hmemq : q ∈ a := by rw [hqq]; exact List.getElem_mem hltk
          have hsnq := take_succ_get a k hltk
          rw [← hqq] at hqm hu1 hsnq
          have Hcm := Lib.hid (implCommute_any m u u' p q _ _ W4 (Rp.keep Hu.out hO4) (Rp.keep hu1 hO4) Hpm.out hqm hm1000)
          have Hmemq := Lib.hid hmemq
          have Hsnq := Lib.hid hsnq
          clear hqq hqm hu1 hsnq hmemq
          by_cases hcq : PM.comp p q = PM.comp q p
          · rw [decide_eq_true hcq] at Hcm
            have Hcq := Lib.hid hcq
            clear hcq
            go_wp2_with (first
              | (go_at_call 47; (with_reducible refine (Hcm.out).mono ?_); rintro e w5 ⟨rfl, t5⟩)
              | fail "no arm")
            go_roundw
            case rel => exact ⟨k + 1, by omega, by go_num, Lib.hid (by rw [Hsnq.out, List.all_append, hqk.out]; simp [Hcq.out]), hO4.trans t5⟩
            case measure => simp [intOf]; omega
          · rw [decide_eq_false hcq] at Hcm
            have Hcq := Lib.hid hcq
            clear hcq
            go_wp2_with (first
              | (go_at_call 47; (with_reducible refine (Hcm.out).mono ?_); rintro e w5 ⟨rfl, t5⟩)
              | fail "no arm")
            go_ret
            refine ⟨ret_bool ?_, hO4.trans t5⟩
            rw [HR.out, eq_comm, Bool.eq_false_iff]
            intro h
            exact Hcq.out (ablB_iff.1 h p Hmem.out q Hmemq.out)
        · obtain rfl : k = a.length := by omega
          have hge : ¬ ((a.length : Int) < (a.length : Int)) := by omega
          have hfin := hqk.out
          rw [List.take_length] at hfin
          have Hfin : Hid (comA a p = true) := Lib.hid hfin
          clear hfin hqk
          go_wp2
          go_roundw
          case rel => exact ⟨i + 1, by omega, by go_num, Lib.hid (by rw [Hsn.out, List.all_append, hq.out]; simp [Hfin.out]), hO4⟩
          case measure => simp [intOf]; omega
    · obtain rfl : i = a.length := by omega
      have hge : ¬ ((a.length : Int) < (a.length : Int)) := by omega
      have hfin := hq.out
      rw [List.take_length] at hfin
      have hfin2 : R = true := by rw [HR.out]; exact hfin
      have Hfin := Lib.hid hfin2
      clear hfin hq hfin2
      go_wp2
      go_ret
      exact ⟨ret_bool Hfin.out.symm, hO⟩
end Go.Proofs.Ytbediokigibdlaa
