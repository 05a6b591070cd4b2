/- The program's RandomMember (laws 35, 47). The program's memberAt: the member of a rank (laws 33, 34, ..). RandomState, of the reference and of the program (law 33). The smallest optimal word of a state, in plain words (laws 20, 38). Maps from strings to int64 that a call makes. (Printed by mkmapi.py out of XMap.) A family of memory parts of a call's own: all apart from each other; what a write to one of them leaves of the others. A region whose order is drawn, by an invariant: what holds whatever has come up so far. The program's search of all states (laws 20, 38). -/
import Derived.Test.YtndcifpbbnebmaaGreatRowRandomStatesG14
import Derived.Test.YtndcifpbbnebmaaGreatRowRandomStatesG12
import Derived.Test.YtndcifpbbnebmaaGreatRowRandomStatesG10
import Derived.Deep.QuietTactic
import Derived.Test.YtndcifpbbnebmaaGreatRowRandomStatesG8
import Derived.Deep.RegionHeld3
import Derived.Test.YtndcifpbbnebmaaGreatRowRandomStatesG1
import Derived.Orders
import Derived.RegionTactic
import Derived.Deep.RegionHeld
import Derived.Deep.DeepCutAuto
import Derived.Deep.RegionLaw
namespace Go.Proofs.YtndcifpbbnebmaaGreat
open Go.RowKit
set_option maxRecDepth 10000

theorem from_any (g : Nat) (v : Value) (m : List Int) (f : List Nat) (w : World) (hv : Rd w v m f) :
    Calls Tryz.prog 43 #[.pointer (some ⟨g, 0, none⟩), v] w fun e w' => e = .returned (.pointer (some ⟨w.heap.size, 0, none⟩)) ∧ Blk w' w.heap.size [.pointer (some ⟨g, 0, none⟩), .int .i64 (0 : Nat), v] ∧ Only [] w w' ∧ w'.heap.size = w.heap.size + 1 := by
  obtain ⟨A, C, rfl, -⟩ := hv.ints
  go_enter Tryz.func43, Tryz.ntmps43
  go_wp2
  go_ret
  exact ⟨rfl, Blk.new _ _ _, (Only.refl _ _).alloc _, by simp⟩


end Go.Proofs.YtndcifpbbnebmaaGreat

namespace Go.Proofs.YtndcifpbbnebmaaGreat
open Go.RowKit
set_option maxRecDepth 10000

set_option maxHeartbeats 4000000 in
theorem memberAt_yes (n : Nat) {B : Nat} {L : Lay} {gv : Nat → Value} {gens : List (List Int)} {G : PM.Gens} {T : PM.Rows} {M F : List Nat} (k : Nat) (w : World) (hC : Ch 32 B w L gv n G T M F) (hCh : PM.Chain n gens G T) (hT : L.oT = 2) (hpn : ∀ g ∈ gens, PM.PN n g) (hk : k < ordC n gens n) :
    Calls Tryz.prog 23 #[.pointer (some ⟨L.g, 0, none⟩), .int .i64 k] w fun e w' => ∃ v f, e = .returned (.tuple #[v, .bool true]) ∧ Rd w' v (memAt n gens k) f ∧ Fresh w.heap.size w' f ∧ Only [] w w' := by
  have hn : 0 < n := hC.pos
  have hn20 : n ≤ 20 := hC.le
  have Hpn := Lib.hid hpn
  obtain ⟨R, hR⟩ : ∃ R, R = memAt n gens k := ⟨_, rfl⟩
  rw [← hR]
  have HR := Lib.hid hR
  clear hR hpn
  have hOE : ∀ j, j ≤ n → PM.ordM T n j = ordC n gens j := fun j hj => ordC_eq hCh hn Hpn.out hj
  have hole := ordC_le hCh hn Hpn.out hn20 (j := n) (Nat.le_refl _)
  have hRng : inR (k : Int) 0 ((ordC n gens n : Nat) - 1 : Int) = true := inR_iff.2 (by omega)
  have HOE := Lib.hid hOE
  have hst : ∀ i, i < n → k % ordC n gens (n - i) % ordC n gens (n - (i + 1)) = k % ordC n gens (n - (i + 1)) := fun i hi => mod_step hCh hn Hpn.out k hi
  have hgood := msel_good hCh hn Hpn.out k
  have hpos : ∀ j, j ≤ n → 1 ≤ ordC n gens j := fun j hj => ordC_pos hCh hn Hpn.out hj
  have hle : ∀ j, j ≤ n → ordC n gens j ≤ 2432902008176640000 := fun j hj => ordC_le hCh hn Hpn.out hn20 hj
  have hk0 : k % ordC n gens (n - 0) = k := by rw [Nat.sub_zero]; exact Nat.mod_eq_of_lt hk
  have Hst := Lib.hid hst
  have Hgood := Lib.hid hgood
  have Hpos := Lib.hid hpos
  have Hle := Lib.hid hle
  have Hk0 := Lib.hid hk0
  have HC := Lib.hid hC
  have hwf := hCh.inv.wf
  have Hwf := Lib.hid hwf
  have HoT := Lib.hid hT
  have hR0 : R = PM.desc T n (msel n gens k) (n - 0) 0 (PM.pts n) := by rw [HR.out, Nat.sub_zero]; exact (hCh.descG hn Hpn.out (msel n gens k) hgood).symm
  have HR0 := Lib.hid hR0
  have HCh := Lib.hid hCh
  have hcn := hC.cn
  obtain ⟨od, hod⟩ : ∃ od, od = ordC n gens n := ⟨_, rfl⟩
  rw [← hod] at hole hRng
  have HRng := Lib.hid hRng
  have HcO : Hid (Calls Tryz.prog 24 #[.pointer (some ⟨L.g, 0, none⟩), .int .i64 0] w fun e w' => e = .returned (.int .i64 (od : Nat)) ∧ Only [] w w') := Lib.hid (by
    rw [hod, ← hOE n (Nat.le_refl _)]
    exact implOrder0 hC hwf hT)
  have hwo : IntKind.i64.wrap ((od : Int) - 1) = (od : Int) - 1 := by rw [IntKind.wrap_i64]; omega
  have hbM0 := hC.lM
  have hbF0 := hC.lF
  clear hOE hRng hst hgood hpos hle hk0 hC hwf hT hR0 hCh hod
  go_enter Tryz.func23, Tryz.ntmps23
  go_wp2_with (first
    | (go_at_call 24; (with_reducible refine (HcO.out).mono ?_); rintro en w1 ⟨rfl, t1⟩; have c1n := t1.cell (by simp) hcn)
    | (go_at_call 41; (with_reducible refine (within_any (k : Int) 0 ((od : Int) - 1) _).mono ?_); rintro e w1' ⟨he, h1⟩; rw [HRng.out] at he; subst he; rw [h1]; clear h1)
    | (go_at_call 34; (with_reducible refine (implIdentity_any n w1 (by omega)).mono ?_); rintro en w4 ⟨v4, f4, rfl, r4, F4, t4⟩)
    | (go_at_call 43; (with_reducible refine (from_any L.g v4 (PM.pts n) f4 w4 r4).mono ?_); rintro en w5 ⟨rfl, hB5, t5, hs5⟩)
    | fail "no arm")
  have z1 := t1.size
  have z4 := t4.size
  have k5 : Only [] w w5 := (t1.trans t4).trans t5
  have hC5 := HC.out.keep k5
  have r5 := Rp.keep r4 t5
  have F5 : Fresh w.heap.size w5 f4 := (F4.keep t5).mono z1
  have hbM : ∀ z ∈ [w4.heap.size], z ∉ M := fun z hz hm => by have := hbM0 z hm; simp at hz; omega
  have hbF : ∀ z ∈ [w4.heap.size], z ∉ F := fun z hz hm => by have := hbF0 z hm; simp at hz; omega
  have HbM := Lib.hid hbM
  have HbF := Lib.hid hbF
  clear hbM hbF t1 t4 t5 r4 F4 hs5 c1n hbM0 hbF0 HcO
  go_loopw [1] (fun kv wr => ∃ (i : Nat) (v : Value) (m : List Int) (f : List Nat), i ≤ n ∧ kv = .int .i64 (k % ordC n gens (n - i) : Nat) ∧ Blk wr w4.heap.size [.pointer (some ⟨L.g, 0, none⟩), .int .i64 i, v] ∧ Rd wr v m f ∧ Fresh w.heap.size wr f ∧ Ch 32 B wr L gv n G T M F ∧ PM.Grp n gens m ∧ Hid (R = PM.desc T n (msel n gens k) (n - i) i m) ∧ Only [] w wr)
    (fun _ wr => n - (intOf ((wr.cell? ⟨w4.heap.size, 1, none⟩).getD undef)).toNat)
  case atStart => exact ⟨0, v4, PM.pts n, f4, Nat.zero_le _, by rw [Hk0.out], hB5, r5, F5, hC5, .id, HR0, k5⟩
  case round =>
    obtain ⟨W2, hnew⟩ : ∃ W, W = wr := ⟨_, rfl⟩
    subst hnew
    clear hB5 r5 F5 hC5 k5
    obtain ⟨i, v, m, f, hi, rfl, hB, hr, hF, hC, hgr, hRR, hO⟩ := hrel
    have y1 := hB.cell 1 rfl
    have yn := hC.cn
    go_upto_region 4 with fail
    go_quiet (fail)
    obtain ⟨W3, hW3⟩ : ∃ W, W = W2.drewN nq := ⟨_, rfl⟩
    have kq : Only [] W2 W3 := by rw [hW3]; exact (Only.refl _ _).drewN _
    rw [← hW3]
    have hB3 := hB.keep kq
    have hC3 := hC.keep kq
    have hr3 := Rp.keep hr kq
    have hF3 := hF.keep kq
    have hO3 := hO.trans kq
    have y13 := hB3.cell 1 rfl
    have hO2 := hO3.size
    have hbW := hB3.lt
    clear hW3
    by_cases hlt : i < n
    · have hpm : PM.PN n m := hgr.pn Hpn.out
      have hwf := Hwf.out
      obtain ⟨C, hCd⟩ : ∃ C, C = PM.cho n T i m := ⟨_, rfl⟩
      have hCl : C.length = PM.cntR n T i := by rw [hCd, PM.cho_len hpm]
      have hCl2 : C.length ≤ 20 := by rw [hCl]; have := PM.cntR_le n T i; omega
      obtain ⟨r, hrr⟩ : ∃ r, r = ordC n gens (n - (i + 1)) := ⟨_, rfl⟩
      obtain ⟨kk, hkk⟩ : ∃ kk, kk = k % ordC n gens (n - i) := ⟨_, rfl⟩
      obtain ⟨q, hq⟩ : ∃ q, q = kk / r := ⟨_, rfl⟩
      have hqs : q = msel n gens k i C.length := by rw [hq, hkk, hrr]; rfl
      have hql : q < C.length := by
        have h1 := Hgood.out i hlt
        rw [hCl]
        have h2 : msel n gens k i C.length = msel n gens k i (PM.cntR n T i) := rfl
        rw [hqs, h2]; exact h1
      have hkm : C[q] ∈ PM.cho n T i m := by rw [← hCd]; exact List.getElem_mem hql
      have hgr2 := HCh.out.putV hn Hpn.out hlt hgr hkm
      have hRR2 : R = PM.desc T n (msel n gens k) (n - (i + 1)) (i + 1) (PM.putV T i m C[q]) := by
        subst hCd
        rw [hRR.out]
        exact PM.desc_step hlt m hqs hql
      have hrp : 1 ≤ r := by rw [hrr]; exact Hpos.out _ (by omega)
      have hrl : r ≤ 2432902008176640000 := by rw [hrr]; exact Hle.out _ (by omega)
      have hkkl : kk ≤ 2432902008176640000 := by
        rw [hkk]
        have h1 := Nat.mod_lt k (show 0 < ordC n gens (n - i) from Hpos.out _ (by omega))
        have h2 := Hle.out (n - i) (by omega)
        omega
      have hdiv : Int.tdiv (kk : Int) (r : Int) = (q : Int) := by rw [tdiv_nat, hq]
      have hmod : Int.tmod (kk : Int) (r : Int) = ((k % ordC n gens (n - (i + 1)) : Nat) : Int) := by rw [tmod_nat, hkk, hrr, Hst.out i hlt]
      have hr0 : ¬ ((r : Int) = 0) := by omega
      have HcO : Hid (Calls Tryz.prog 24 #[.pointer (some ⟨L.g, 0, none⟩), .int .i64 ((i : Int) + 1)] W3 fun e w' => e = .returned (.int .i64 (r : Nat)) ∧ Only [] W3 w') := Lib.hid (by
        rw [hrr, ← HOE.out _ (by omega)]
        exact implOrder_any W3 hC3 hwf HoT.out (i + 1) (by omega))
      have HcS := Lib.hid (fun (V : World) (hV : Only [] W3 V) => walkSorted_any V (hC3.keep hV) hwf HoT.out w4.heap.size i hlt v m f (hB3.keep hV) (Rp.keep hr3 hV) hpm)
      rw [← hCd] at HcS
      obtain ⟨k2, hk2⟩ : ∃ k2, k2 = k % ordC n gens (n - (i + 1)) := ⟨_, rfl⟩
      rw [← hk2] at hmod
      rw [← hkk]
      have Hk2 := Lib.hid hk2
      have HRR2 := Lib.hid hRR2
      have Hgr2 := Lib.hid hgr2
      have Hkm := Lib.hid hkm
      have Hpm := Lib.hid hpm
      have HC3 := Lib.hid hC3
      have HB3 := Lib.hid hB3
      have hltI : (i : Int) < (n : Int) := by omega
      have hwi : IntKind.i64.wrap ((i : Int) + 1) = (i : Int) + 1 := by rw [IntKind.wrap_i64]; omega
      clear hCd hCl hrr hkk hq hqs hRR2 hgr2 hkm hpm hwf hC hC3 hB hB3 hgr hRR hk2 yn kq
      go_wp2_with (first
        | (go_at_call 24; (with_reducible refine (HcO.out).mono ?_); rintro en w6 ⟨rfl, t6⟩; have y16 := t6.cell (by simp) y13)
        | (go_at_call 44; (with_reducible refine (HcS.out w6 t6).mono ?_); rintro en w7 ⟨v7, rfl, hA7, t7⟩; obtain ⟨a7, c7, rfl, I7⟩ := hA7.rd.ints; obtain ⟨b8, o8, rfl, -, c8⟩ := I7.at_ q hql; have k37 := t6.trans t7)
        | (go_at_call 45; (with_reducible refine (take_yes w7 (HC3.out.keep k37) Hwf.out HoT.out w4.heap.size i hlt v m f (HB3.out.keep k37) (Rp.keep hr3 k37) Hpm.out C[q] Hkm.out).mono ?_); rintro en w9 ⟨rfl, ⟨v9, f9, B9, r9, F9⟩, O9⟩)
        | fail "no arm")
      have k29 : Only [] w w9 := (hO3.trans k37).then_ O9 (fun z hz hl => by simp at hz; omega)
      have HC9 := (HC3.out.keep k37).only O9 HbM.out HbF.out
      have F9' : Fresh w.heap.size w9 f9 := F9.mono (by have := k37.size; omega)
      have y9 := B9.cell 1 rfl
      go_roundw
      case rel => exact ⟨i + 1, v9, _, f9, by omega, by rw [Hk2.out], B9, r9, F9', HC9, Hgr2.out, HRR2, k29⟩
      case measure => rw [y9, y1]; simp [intOf]; omega
    · obtain rfl : i = n := by omega
      have hfin : R = m := by rw [hRR.out]; exact PM.desc_end (Nat.le_refl _) m
      have hge : ¬ ((i : Int) < (i : Int)) := by omega
      have y2 := hB3.cell 2 rfl
      have Hfin := Lib.hid hfin
      clear hfin hRR
      go_wp2
      exact bodyPost_ret (v := .tuple #[v, .bool true]) (by simp [results, Tryz.results23, go_sem]) rfl ⟨v, rfl, f, by rw [Hfin.out]; exact hr3, hF3, hO3⟩
end Go.Proofs.YtndcifpbbnebmaaGreat

namespace Go.Proofs.YtndcifpbbnebmaaGreat
open Go.RowKit
set_option maxRecDepth 10000

/-- the rank of a seed's random state -/
noncomputable def rstK (n : Nat) (gens : List (List Int)) (seed : Int) : Nat := ((nxR seed * 2147483647 + nxR (nxR seed)) % (ordC n gens n : Int)).toNat
noncomputable def rndS (x : Puzzle) (seed : Int) : List Int × Bool :=
  if validPz x = true ∧ inR seed 0 2147483646 = true then (memAt x.points.toNat x.moves (rstK x.points.toNat x.moves seed), true) else ([], false)
theorem rstK_lt {n : Nat} {gens : List (List Int)} {seed : Int} (h : 1 ≤ ordC n gens n) : rstK n gens seed < ordC n gens n := by
  unfold rstK
  have h1 := Int.emod_lt_of_pos (nxR seed * 2147483647 + nxR (nxR seed)) (show (0 : Int) < (ordC n gens n : Int) by omega)
  have h2 := Int.emod_nonneg (nxR seed * 2147483647 + nxR (nxR seed)) (show (ordC n gens n : Int) ≠ 0 by omega)
  omega
theorem rstK_mod {n : Nat} {gens : List (List Int)} {seed : Int} (h : 1 ≤ ordC n gens n) : Int.tmod (nxR seed * 2147483647 + nxR (nxR seed)) (ordC n gens n : Int) = (rstK n gens seed : Int) := by
  have h1 := nxR_rng seed
  have h2 := nxR_rng (nxR seed)
  rw [Int.tmod_eq_emod_of_nonneg (by omega)]
  unfold rstK
  have h3 := Int.emod_nonneg (nxR seed * 2147483647 + nxR (nxR seed)) (show (ordC n gens n : Int) ≠ 0 by omega)
  omega
set_option maxHeartbeats 1000000 in
theorem specGroupOrder_yes (n : Nat) (vg : Value) (gens : List (List Int)) (fpg : List Nat) (w : World) (hg : Rd w vg gens fpg) (hgs : gensB n gens = true) :
    Calls Tryz.prog 32 #[.int .i64 n, vg] w fun e w' => e = .returned (.int .i64 (ordC n gens n : Nat)) ∧ 1 ≤ ordC n gens n ∧ ordC n gens n ≤ 2432902008176640000 ∧ Only [] w w' := by
  obtain ⟨⟨n1, n20⟩, hgl, hpn⟩ := gensB_iff.1 hgs
  have hpn' : ∀ g ∈ gens, PM.PN n g := by simpa using hpn
  have hn : 0 < n := by omega
  have hn20 : n ≤ 20 := by omega
  have Hgs := Lib.hid hgs
  have Hpn := Lib.hid hpn'
  clear hpn hpn' hgs
  go_enter Tryz.func32, Tryz.ntmps32
  go_wp2_with (first
    | (go_at_call 27; (with_reducible refine (specIsGens_rd n vg gens fpg w hg).mono ?_); rintro en w1 ⟨he, t1⟩; rw [Hgs.out] at he; subst he; have t1 := t1.only [])
    | (go_at_call 30; (with_reducible refine (buildChain_any n hn hn20 vg gens fpg w1 (Rp.keep hg t1) Hpn.out (by omega)).mono ?_); rintro en w3 ⟨L, gv, G, T, M, F, rfl, hoG, hoT, hC, hCh, t3⟩; have HC := Lib.hid hC; have HCh := Lib.hid hCh; have HoT := Lib.hid hoT; clear hC hCh hoT hoG)
    | (go_at_call 60; (with_reducible refine (chainOrder_any w3 HC.out HCh.out.inv.wf HoT.out).mono ?_); rintro en w4 ⟨he, t4⟩; rw [ordC_eq HCh.out hn Hpn.out (Nat.le_refl _)] at he; subst he)
    | fail "no arm")
  go_ret
  exact ⟨rfl, ordC_pos HCh.out hn Hpn.out (Nat.le_refl _), ordC_le HCh.out hn Hpn.out hn20 (Nat.le_refl _), (t1.trans t3).trans t4⟩
theorem specGroupOrder_i (n : Int) (vg : Value) (gens : List (List Int)) (fpg : List Nat) (w : World) (hg : Rd w vg gens fpg) (hgs : gensB n gens = true) :
    Calls Tryz.prog 32 #[.int .i64 n, vg] w fun e w' => e = .returned (.int .i64 (ordC n.toNat gens n.toNat : Nat)) ∧ 1 ≤ ordC n.toNat gens n.toNat ∧ ordC n.toNat gens n.toNat ≤ 2432902008176640000 ∧ Only [] w w' := by
  obtain ⟨⟨n1, n20⟩, -, -⟩ := gensB_iff.1 hgs
  obtain ⟨m, rfl⟩ := Int.eq_ofNat_of_zero_le (by omega : 0 ≤ n)
  exact specGroupOrder_yes m vg gens fpg w hg hgs

theorem specStateCount_yes (cs : List Value) (x : Puzzle) (fp : List Nat) (w : World) (h : Rp.rep w cs x fp) (hv : validPz x = true) :
    Calls Tryz.prog 13 #[.agg cs.toArray] w fun e w' => e = .returned (.int .i64 (ordC x.points.toNat x.moves x.points.toNat : Nat)) ∧ 1 ≤ ordC x.points.toNat x.moves x.points.toNat ∧ ordC x.points.toNat x.moves x.points.toNat ≤ 2432902008176640000 ∧ Only [] w w' := by
  have h0 := h
  obtain ⟨v2, rfl, p0, p1, h2⟩ := h
  obtain ⟨A2, C2, ob, fps, rfl, -, -⟩ := h2.open_
  have Hgs := Lib.hid (validPz_gensB hv)
  go_enter Tryz.func13, Tryz.ntmps13
  go_wp2_with (first
    | (go_at_call 31; (with_reducible refine (specIsValidPuzzle_any [.int .i64 x.points, .string x.names, .slice A2 x.moves.length C2] x _ _ (Rp.keep h0 (by with_reducible repeat (first | exact Only.refl _ _ | assumption | refine Only.drewN ?_ _ | refine Only.drew ?_ | refine Only.alloc ?_ _ | refine Only.setCell ?_ (by intro hh; exfalso; simp at hh; try omega) _ | refine Only.trans ?_ (by assumption))))).mono ?_); rintro e w1 ⟨he, t1⟩; rw [hv] at he; subst he; have y1 := t1.cells_eq w.heap.size (by simp) (by simp); have k1 : Only [] w w1 := (by with_reducible repeat (first | exact Only.refl _ _ | assumption | refine Only.drewN ?_ _ | refine Only.drew ?_ | refine Only.alloc ?_ _ | refine Only.setCell ?_ (by intro hh; exfalso; simp at hh; try omega) _ | refine Only.trans ?_ (by assumption))))
    | (go_at_call 32; (with_reducible refine (specGroupOrder_i x.points _ x.moves _ w1 (Rp.keep h2 k1) Hgs.out).mono ?_); rintro en w3 ⟨rfl, o1, o2, t3⟩)
    | fail "no arm")
  go_ret
  exact ⟨rfl, o1, o2, k1.trans t3⟩

theorem rsChain_i (n : Int) (vg : Value) (gens : List (List Int)) (fpg : List Nat) (w : World) (hg : Rd w vg gens fpg) (hgs : gensB n gens = true) :
    Calls Tryz.prog 22 #[.int .i64 n, vg] w fun e w' => ∃ (L : Lay) (gv : Nat → Value) (G : PM.Gens) (T : PM.Rows) (M F : List Nat), e = .returned (.pointer (some ⟨L.g, 0, none⟩)) ∧ L.oG = 1 ∧ L.oT = 2 ∧ Ch 32 w.heap.size w' L gv n.toNat G T M F ∧ PM.Chain n.toNat gens G T ∧ Only [] w w' := by
  obtain ⟨⟨n1, n20⟩, hgl, hpn⟩ := gensB_iff.1 hgs
  obtain ⟨m, rfl⟩ := Int.eq_ofNat_of_zero_le (by omega : 0 ≤ n)
  exact implNewChain_any m (by omega) (by omega) vg gens fpg w hg hpn (by omega)
theorem implOrder_ord (n : Nat) {B : Nat} {L : Lay} {gv : Nat → Value} {gens : List (List Int)} {G : PM.Gens} {T : PM.Rows} {M F : List Nat} (w : World) (hC : Ch 32 B w L gv n G T M F) (hCh : PM.Chain n gens G T) (hT : L.oT = 2) (hpn : ∀ g ∈ gens, PM.PN n g) :
    Calls Tryz.prog 24 #[.pointer (some ⟨L.g, 0, none⟩), .int .i64 0] w fun e w' => e = .returned (.int .i64 (ordC n gens n : Nat)) ∧ 1 ≤ ordC n gens n ∧ ordC n gens n ≤ 2432902008176640000 ∧ Only [] w w' := by
  refine (implOrder0 hC hCh.inv.wf hT).mono ?_
  rintro e w' ⟨he, t⟩
  rw [ordC_eq hCh hC.pos hpn (Nat.le_refl _)] at he
  exact ⟨he, ordC_pos hCh hC.pos hpn (Nat.le_refl _), ordC_le hCh hC.pos hpn hC.le (Nat.le_refl _), t⟩
set_option maxHeartbeats 4000000 in
theorem implRandomState_any (cs : List Value) (x : Puzzle) (fp : List Nat) (seed : Int) (w : World) (h : Rp.rep w cs x fp) :
    Calls Tryz.prog 8 #[.agg cs.toArray, .int .i64 seed] w fun e w' => ∃ v f, e = .returned (.tuple #[v, .bool (rndS x seed).2]) ∧ Rd w' v (rndS x seed).1 f ∧ Fresh w.heap.size w' f ∧ Only [] w w' := by
  have h0 := h
  obtain ⟨v2, rfl, p0, p1, h2⟩ := h
  obtain ⟨A2, C2, ob, fps, rfl, -, -⟩ := h2.open_
  obtain ⟨st, hst⟩ : ∃ st, st = rndS x seed := ⟨_, rfl⟩
  rw [← hst]
  have HS := Lib.hid hst
  clear hst p0 p1
  rcases hq : validPz x
  · have hp : st = ([], false) := by rw [HS.out]; unfold rndS; rw [if_neg (by rw [hq]; simp)]
    have Hp := Lib.hid hp; clear hp
    go_enter Tryz.func8, Tryz.ntmps8
    go_wp2_with (first
      | (go_at_call 20; (with_reducible refine (implIsValidPuzzle_any [.int .i64 x.points, .string x.names, .slice A2 x.moves.length C2] x _ _ (Rp.keep h0 (by with_reducible repeat (first | exact Only.refl _ _ | assumption | refine Only.drewN ?_ _ | refine Only.drew ?_ | refine Only.alloc ?_ _ | refine Only.setCell ?_ (by intro hh; exfalso; simp at hh; try omega) _ | refine Only.trans ?_ (by assumption))))).mono ?_); rintro e w1 ⟨he, t1⟩; rw [hq] at he; subst he; have k1 : Only [] w w1 := (by with_reducible repeat (first | exact Only.refl _ _ | assumption | refine Only.drewN ?_ _ | refine Only.drew ?_ | refine Only.alloc ?_ _ | refine Only.setCell ?_ (by intro hh; exfalso; simp at hh; try omega) _ | refine Only.trans ?_ (by assumption))))
      | fail "no arm")
    exact bodyPost_ret (v := .tuple #[.slice none 0 0, .bool false]) (by simp [results, Tryz.results8, go_sem]) rfl ⟨.slice none 0 0, [], by rw [Hp.out], by rw [Hp.out]; exact nil_rd _, Fresh.nil _ _, k1⟩
  have Hgs := Lib.hid (validPz_gensB hq)
  rcases hr : inR seed 0 2147483646
  · have hp : st = ([], false) := by rw [HS.out]; unfold rndS; rw [if_neg (by rw [hr]; simp)]
    have Hp := Lib.hid hp; clear hp
    go_enter Tryz.func8, Tryz.ntmps8
    go_wp2_with (first
      | (go_at_call 20; (with_reducible refine (implIsValidPuzzle_any [.int .i64 x.points, .string x.names, .slice A2 x.moves.length C2] x _ _ (Rp.keep h0 (by with_reducible repeat (first | exact Only.refl _ _ | assumption | refine Only.drewN ?_ _ | refine Only.drew ?_ | refine Only.alloc ?_ _ | refine Only.setCell ?_ (by intro hh; exfalso; simp at hh; try omega) _ | refine Only.trans ?_ (by assumption))))).mono ?_); rintro e w1 ⟨he, t1⟩; rw [hq] at he; subst he; have k1 : Only [] w w1 := (by with_reducible repeat (first | exact Only.refl _ _ | assumption | refine Only.drewN ?_ _ | refine Only.drew ?_ | refine Only.alloc ?_ _ | refine Only.setCell ?_ (by intro hh; exfalso; simp at hh; try omega) _ | refine Only.trans ?_ (by assumption))))
      | (go_at_call 21; (with_reducible refine (implIsSeed_any seed _).mono ?_); rintro e w2 ⟨he, h1⟩; rw [hr] at he; subst he; rw [h1]; clear h1)
      | fail "no arm")
    exact bodyPost_ret (v := .tuple #[.slice none 0 0, .bool false]) (by simp [results, Tryz.results8, go_sem]) rfl ⟨.slice none 0 0, [], by rw [Hp.out], by rw [Hp.out]; exact nil_rd _, Fresh.nil _ _, k1⟩
  have hpn := (gensB_iff.1 Hgs.out).2.2
  have Hpn := Lib.hid hpn
  obtain ⟨k, hk⟩ : ∃ k, k = rstK x.points.toNat x.moves seed := ⟨_, rfl⟩
  obtain ⟨od, hod⟩ : ∃ od, od = ordC x.points.toNat x.moves x.points.toNat := ⟨_, rfl⟩
  have hp : st = (memAt x.points.toNat x.moves k, true) := by rw [HS.out]; unfold rndS; rw [if_pos ⟨hq, hr⟩, ← hk]
  have hx1 := nxR_rng seed
  have hy1 := nxR_rng (nxR seed)
  have hmd : 1 ≤ od → Int.tmod (nxR seed * 2147483647 + nxR (nxR seed)) (od : Int) = (k : Int) := fun h => by rw [hk, hod]; exact rstK_mod (by rw [← hod]; exact h)
  have hkl : 1 ≤ od → k < ordC x.points.toNat x.moves x.points.toNat := fun h => by rw [hk]; exact rstK_lt (by rw [← hod]; exact h)
  obtain ⟨a, ha⟩ : ∃ a, a = nxR seed := ⟨_, rfl⟩
  obtain ⟨b, hb⟩ : ∃ b, b = nxR a := ⟨_, rfl⟩
  rw [← ha] at hx1 hy1 hmd
  rw [← hb] at hy1 hmd
  have hwm : IntKind.i64.wrap (a * 2147483647) = a * 2147483647 := by rw [IntKind.wrap_i64]; omega
  have hwa : IntKind.i64.wrap (a * 2147483647 + b) = a * 2147483647 + b := by rw [IntKind.wrap_i64]; omega
  have Hp := Lib.hid hp
  have Hod := Lib.hid hod
  have Hmd := Lib.hid hmd
  have Hkl := Lib.hid hkl
  have Ha := Lib.hid ha
  have Hb := Lib.hid hb
  clear hp hod hk hmd hkl ha hb hpn
  go_enter Tryz.func8, Tryz.ntmps8
  go_wp2_with (first
    | (go_at_call 20; (with_reducible refine (implIsValidPuzzle_any [.int .i64 x.points, .string x.names, .slice A2 x.moves.length C2] x _ _ (Rp.keep h0 (by with_reducible repeat (first | exact Only.refl _ _ | assumption | refine Only.drewN ?_ _ | refine Only.drew ?_ | refine Only.alloc ?_ _ | refine Only.setCell ?_ (by intro hh; exfalso; simp at hh; try omega) _ | refine Only.trans ?_ (by assumption))))).mono ?_); rintro e w1 ⟨he, t1⟩; rw [hq] at he; subst he; have k1 : Only [] w w1 := (by with_reducible repeat (first | exact Only.refl _ _ | assumption | refine Only.drewN ?_ _ | refine Only.drew ?_ | refine Only.alloc ?_ _ | refine Only.setCell ?_ (by intro hh; exfalso; simp at hh; try omega) _ | refine Only.trans ?_ (by assumption))); have hB := Blk.keep (Blk.new_at (t := 29) (cs := [.int .i64 x.points, .string x.names, .slice A2 x.moves.length C2]) rfl) t1; have x0 := hB.cell 0 rfl; have x2 := hB.cell 2 rfl)
    | (go_at_call 21; (with_reducible refine (implIsSeed_any seed _).mono ?_); rintro e w2 ⟨he, h1⟩; rw [hr] at he; subst he; rw [h1]; clear h1)
    | (go_at_call 22; (with_reducible refine (rsChain_i x.points _ x.moves _ w1 (Rp.keep h2 k1) Hgs.out).mono ?_); rintro e w3 ⟨L, gv, G, T, M, F, rfl, -, hoT, hC, hCh, t3⟩; have HC := Lib.hid hC; have HCh := Lib.hid hCh; have HoT := Lib.hid hoT; clear hC hCh hoT)
    | (go_at_call 9; (with_reducible refine (implNextRandom_any seed _).mono ?_); rintro e w2 ⟨he, h1⟩; rw [← Ha.out] at he; subst he; rw [h1]; clear h1)
    | (go_at_call 9; (with_reducible refine (implNextRandom_any a _).mono ?_); rintro e w2 ⟨he, h1⟩; rw [← Hb.out] at he; subst he; rw [h1]; clear h1)
    | (go_at_call 24; (with_reducible refine (implOrder_ord x.points.toNat w3 HC.out HCh.out HoT.out Hpn.out).mono ?_); rintro e w4 ⟨he, o1, o2, t4⟩; rw [← Hod.out] at he o1 o2; subst he; have hr0 : ¬ ((od : Int) = 0) := (by omega); have hmd := Hmd.out o1)
    | (go_at_call 23; (with_reducible refine (memberAt_yes x.points.toNat k w4 (HC.out.keep t4) HCh.out HoT.out Hpn.out (Hkl.out o1)).mono ?_); rintro e w5 ⟨v, f, rfl, r5, F5, t5⟩)
    | fail "no arm")
  have k5 : Only [] w w5 := ((k1.trans t3).trans t4).trans t5
  have hsz := ((k1.trans t3).trans t4).size
  exact bodyPost_ret (v := .tuple #[v, .bool true]) (by simp [results, Tryz.results8, go_sem]) rfl ⟨v, f, by rw [Hp.out], by rw [Hp.out]; exact r5, F5.mono hsz, k5⟩
end Go.Proofs.YtndcifpbbnebmaaGreat

namespace Go.Proofs.YtndcifpbbnebmaaGreat
open Go.RowKit
set_option maxRecDepth 10000

/-- n letters, each the first that leads closer -/
def oW (x : Puzzle) (t : Table) : Nat → List Int → List Int
  | 0, _ => []
  | n + 1, p => descL x t p n :: oW x t n (nxt x p (descL x t p n))
theorem oW_len (x : Puzzle) (t : Table) : ∀ (n : Nat) (p : List Int), (oW x t n p).length = n
  | 0, _ => rfl
  | n + 1, p => by unfold oW; rw [List.length_cons, oW_len x t n]
/-- one letter of the way down -/
structure Down (x : Puzzle) (t : Table) (i : Nat) (n : Nat) (k : Nat) (j : Nat) : Prop where
  hk : k < (ltrs x.moves.length).length
  l : descL x t (t.patterns.getD i []) n = (ltrs x.moves.length)[k]
  hj : j < t.patterns.length
  nx : t.patterns.getD j [] = nxt x (t.patterns.getD i []) (ltrs x.moves.length)[k]
  ds : t.distances.getD j 0 = n
  no : ∀ m (hm : m < k), ∀ i', i' < t.patterns.length → t.patterns.getD i' [] = nxt x (t.patterns.getD i []) ((ltrs x.moves.length)[m]'(Nat.lt_trans hm hk)) → t.distances.getD i' 0 ≠ n ∧ ¬ t.distances.getD i' 0 < (n : Int) + 1
section
variable {x : Puzzle} {t : Table}
theorem Built.mem_of (_ : Built x t) {i : Nat} (hi : i < t.patterns.length) : t.patterns.getD i [] ∈ t.patterns := by rw [getD_get hi]; exact List.getElem_mem hi
theorem Built.down (h : Built x t) {i : Nat} (hi : i < t.patterns.length) {n : Nat} (hd : t.distances.getD i 0 = (n : Int) + 1) : ∃ k j, Down x t i n k j := by
  have hg := ent_nil.1 (h.good i hi)
  have hda : atD t i - 1 = (n : Int) := by rw [atD_nat, hd]; omega
  have hne : descL x t (t.patterns.getD i []) (atD t i - 1) ≠ 0 := hg.2.2.2.2 (by rw [atD_nat, hd]; omega)
  rw [hda] at hne
  rcases @descL_of_dK x t (t.patterns.getD i []) n with ⟨-, h1⟩ | ⟨k, hk, h1, h2⟩
  · exact absurd h1 hne
  · obtain ⟨-, hlead⟩ := descL_leads hne
    obtain ⟨a1, a2⟩ := leads_iffD.1 hlead
    rw [h2] at a1 a2
    have hlt := (idxL_lt (l := t.patterns) (p := nxt x (t.patterns.getD i []) (ltrs x.moves.length)[k])).2
    obtain ⟨j, hj⟩ : ∃ j : Nat, nextI x t (t.patterns.getD i []) (ltrs x.moves.length)[k] = j := ⟨_, (Int.toNat_of_nonneg a1).symm⟩
    have hjl : j < t.patterns.length := by unfold nextI at hj; omega
    have hn := idxL_getD a1
    unfold nextI at hj
    rw [hj, Int.toNat_natCast] at hn
    refine ⟨k, j, hk, h2, hjl, hn, ?_, ?_⟩
    · unfold nextI at a2; rw [hj, atD_nat] at a2; exact a2
    · intro m hm i' hi' e
      have hml : (ltrs x.moves.length)[m]'(Nat.lt_trans hm hk) ∈ ltrs x.moves.length := List.getElem_mem _
      have hne2 : t.distances.getD i' 0 ≠ n := by
        intro e2
        have hl : leads x t (t.patterns.getD i []) n ((ltrs x.moves.length)[m]'(Nat.lt_trans hm hk)) = true := by
          rw [leads_iffD]
          unfold nextI
          rw [← e, h.idx hi', atD_nat]
          exact ⟨by omega, e2⟩
        have hno : ∀ q ∈ (ltrs x.moves.length).take k, leads x t (t.patterns.getD i []) n q = false := by
          have hf : dK x t (t.patterns.getD i []) n = k := h1
          unfold dK idxF at hf
          cases hq : (ltrs x.moves.length).findIdx? (leads x t (t.patterns.getD i []) n) with
          | none => rw [hq] at hf; simp at hf
          | some k' =>
            rw [hq] at hf
            have hf2 : (k' : Int) = k := hf
            have : k' = k := by omega
            subst this
            obtain ⟨_, _, hall⟩ := List.findIdx?_eq_some_iff_getElem.1 hq
            intro q hqm
            rw [List.mem_take_iff_getElem] at hqm
            obtain ⟨m', hm', rfl⟩ := hqm
            simpa using hall m' (by omega)
        have := hno _ (List.mem_take_iff_getElem.2 ⟨m, by omega, rfl⟩)
        rw [hl] at this; cases this
      refine ⟨hne2, fun hlt2 => hne2 ?_⟩
      obtain ⟨i2, b1, b2, b3, b4⟩ := h.step hi hml
      have : i2 = i' := by
        have e3 := b2.trans e.symm
        rw [getD_get b1, getD_get hi'] at e3
        have hnd : t.patterns.Nodup := h.bi.nd
        exact nodup_at hnd b1 hi' e3
      subst this
      omega
theorem Down.oW_ {i n k j : Nat} (h : Down x t i n k j) : oW x t (n + 1) (t.patterns.getD i []) = (ltrs x.moves.length)[k]'h.hk :: oW x t n (t.patterns.getD j []) := by
  show descL x t (t.patterns.getD i []) n :: oW x t n (nxt x (t.patterns.getD i []) (descL x t (t.patterns.getD i []) n)) = _
  rw [h.l, h.nx]
end
theorem expl_pat {x : Puzzle} {t : Table} (he : expl x = some t) {i : Nat} (hi : i < t.patterns.length) : patB x.points x.points.toNat (t.patterns.getD i []) = true := by
  obtain ⟨hb, ht⟩ := expl_built he
  have := hb.bi.pat (t.patterns.getD i []) (hb.mem_of hi)
  rwa [ht, PM.pts_len] at this
theorem expl_len1 {x : Puzzle} {t : Table} (he : expl x = some t) {i : Nat} (hi : i < t.patterns.length) : (t.patterns.getD i []).length = x.points.toNat := (patB_iff.1 (expl_pat he hi)).1
/-- the smallest optimal word, if it is not too long -/
noncomputable def optX (x : Puzzle) (s : List Int) : Option (List Int) := if 0 ≤ distX x s ∧ distX x s ≤ 200 then some (oW x ((expl x).getD noTab) (distX x s).toNat s) else none
theorem optX_no {x : Puzzle} {s : List Int} (h : ¬ (0 ≤ distX x s ∧ distX x s ≤ 200)) : optX x s = none := by unfold optX; rw [if_neg h]
theorem optX_yes {x : Puzzle} {s : List Int} {t : Table} (ht : expl x = some t) (h : 0 ≤ distX x s ∧ distX x s ≤ 200) : optX x s = some (oW x t (distX x s).toNat s) := by unfold optX; rw [if_pos h, ht]; rfl
theorem optX_len {x : Puzzle} {s w : List Int} (h : optX x s = some w) : (w.length : Int) = distX x s ∧ w.length ≤ 200 := by
  unfold optX at h
  split at h
  · rename_i hc
    injection h with h
    subst h
    rw [oW_len]
    omega
  · cases h
theorem oW_letters {x : Puzzle} {t : Table} (h : Built x t) : ∀ (n i : Nat), i < t.patterns.length → t.distances.getD i 0 = n → ∀ l ∈ oW x t n (t.patterns.getD i []), l ∈ ltrs x.moves.length
  | 0, _, _, _ => by intro l hl; cases hl
  | n + 1, i, hi, hd => by
    obtain ⟨k, j, hD⟩ := h.down hi (n := n) (by rw [hd]; rfl)
    rw [hD.oW_]
    intro l hl
    rcases List.mem_cons.1 hl with rfl | hl
    · exact List.getElem_mem _
    · exact oW_letters h n j hD.hj hD.ds l hl
end Go.Proofs.YtndcifpbbnebmaaGreat

namespace Go.Proofs.YtndcifpbbnebmaaGreat
open Go.RowKit
set_option maxRecDepth 10000
open Go.Maps (Keyed)

theorem Tryz.zeroInt64 (w : World) : (zeroValue 2).run Tryz.prog w = .ok (.int .i64 0) w := by kernel_rfl
/-- block M is a map of at most k entries; g: what lies at a key -/
def Mq (w : World) (M k : Nat) (g : ByteArray → Option Int) : Prop :=
  ∃ D : DataW Unit, w.ownsMap Tryz.prog 9 (plainElem Tryz.prog 2) M k D ∧ ∀ s : ByteArray, s.size ≤ maxLen →
    Go.Maps.has D (.string s.data.toList) = (g s).isSome ∧ ∀ n, g s = some n → D.atKey (.string s.data.toList) (.lit (.int .i64 0)) = .lit (.int .i64 n)
theorem Mq.lt {w : World} {M k : Nat} {g : ByteArray → Option Int} (h : Mq w M k g) : M < w.heap.size := by
  obtain ⟨D, h1, -⟩ := h; exact h1.lt
theorem Mq.frame {w w' : World} {M k : Nat} {g : ByteArray → Option Int} (h : Mq w M k g) (hf : w'.heap[M]? = w.heap[M]?) : Mq w' M k g := by
  obtain ⟨D, ⟨es, c, h1, h2⟩, h3⟩ := h
  exact ⟨D, ⟨es, c, by rw [hf]; exact h1, h2⟩, h3⟩
theorem Mq.only {w w' : World} {fp : List Nat} {M k : Nat} {g : ByteArray → Option Int} (h : Mq w M k g) (ho : Only fp w w') (hn : M ∉ fp) : Mq w' M k g := h.frame (ho.block M h.lt hn)
theorem Mq.keep {w w' : World} {M k : Nat} {g : ByteArray → Option Int} (h : Mq w M k g) (ho : Only [] w w') : Mq w' M k g := h.only ho (by simp)
theorem Mq.made (w : World) {M : Nat} (hM : M = w.heap.size) : Mq (w.alloc (.map #[] 0)) M 0 (fun _ => none) := by
  subst hM
  exact ⟨.map [], World.ownsMap_made _ _ _ _, fun s _ => ⟨rfl, by simp⟩⟩
theorem Mq.congr {w : World} {M k : Nat} {g g' : ByteArray → Option Int} (h : Mq w M k g) (hg : ∀ s, g s = g' s) : Mq w M k g' := by
  have : g = g' := funext hg
  rw [← this]; exact h
section
variable {w : World} {M k : Nat} {g : ByteArray → Option Int}
/-- v, ok := m[k], as an equation -/
theorem Mq.run_ok (h : Mq w M k g) {s : ByteArray} (hs : s.size ≤ maxLen) : (Instr.lookup 108 (.map (some M)) (.string s) true).run Tryz.prog w = .ok (.tuple #[.int .i64 ((g s).getD 0), .bool (g s).isSome]) w := by
  obtain ⟨D, hown, hg⟩ := h
  obtain ⟨h1, h2⟩ := hg s hs
  obtain ⟨v, ps, hrun, hv⟩ := hown.look_ok Tryz.lawStr Tryz.underlying108 (Tryz.zeroInt64 w) (plainElem_int Tryz.underlying2 (by decide)) (Go.WideMaps.keyOf_string_mk Tryz.underlying9 hs)
  obtain ⟨c, rfl, hc, -⟩ := plainElem_int_inv Tryz.underlying2 hv
  have hc1 : D.atKey (.string s.data.toList) (.lit (.int .i64 0)) = .lit (.int .i64 c) := congrArg Prod.fst hc
  have hcv : c = (g s).getD 0 := by
    cases hgs : g s with
    | none =>
      rw [hgs] at h1
      rw [Go.Maps.atKey_of_not_has h1] at hc1
      injection hc1 with hc1; injection hc1 with _ hc1; simp [hc1]
    | some n =>
      rw [h2 n hgs] at hc1
      injection hc1 with hc1; injection hc1 with _ hc1; simp [hc1]
  rw [hrun, hcv, h1]
theorem Mq.run_no (h : Mq w M k g) {s : ByteArray} (hs : s.size ≤ maxLen) (hg : g s = none) : (Instr.lookup 108 (.map (some M)) (.string s) true).run Tryz.prog w = .ok (.tuple #[.int .i64 0, .bool false]) w := by
  rw [h.run_ok hs, hg]; rfl
theorem Mq.run_yes (h : Mq w M k g) {s : ByteArray} (hs : s.size ≤ maxLen) {n : Int} (hg : g s = some n) : (Instr.lookup 108 (.map (some M)) (.string s) true).run Tryz.prog w = .ok (.tuple #[.int .i64 n, .bool true]) w := by
  rw [h.run_ok hs, hg]; rfl
/-- m[k] -/
theorem Mq.run_at (h : Mq w M k g) {s : ByteArray} (hs : s.size ≤ maxLen) : (Instr.lookup 108 (.map (some M)) (.string s) false).run Tryz.prog w = .ok (.int .i64 ((g s).getD 0)) w := by
  obtain ⟨D, hown, hg⟩ := h
  obtain ⟨h1, h2⟩ := hg s hs
  obtain ⟨c, hrun, hc1, -⟩ := hown.lookup_int Tryz.lawStr Tryz.underlying108 Tryz.underlying2 (Tryz.zeroInt64 w) (Go.WideMaps.keyOf_string_mk Tryz.underlying9 hs)
  have hcv : c = (g s).getD 0 := by
    cases hgs : g s with
    | none =>
      rw [hgs] at h1
      rw [Go.Maps.atKey_of_not_has h1] at hc1
      injection hc1 with hc1; injection hc1 with _ hc1; simp [hc1]
    | some n =>
      rw [h2 n hgs] at hc1
      injection hc1 with hc1; injection hc1 with _ hc1; simp [hc1]
  rw [hrun, hcv]
theorem Mq.run_at_yes (h : Mq w M k g) {s : ByteArray} (hs : s.size ≤ maxLen) {n : Int} (hg : g s = some n) : (Instr.lookup 108 (.map (some M)) (.string s) false).run Tryz.prog w = .ok (.int .i64 n) w := by
  rw [h.run_at hs, hg]; rfl
/-- m[k] = v -/
theorem Mq.run_put (h : Mq w M k g) {s : ByteArray} (hs : s.size ≤ maxLen) {n : Int} (hn : I64 n) (hk : k < maxLen) :
    ∃ w', (Instr.mapUpdate 108 (.map (some M)) (.string s) (.int .i64 n)).run Tryz.prog w = .ok () w' ∧ Mq w' M (k + 1) (fun s' => if s' = s then some n else g s') ∧ Only [M] w w' := by
  obtain ⟨D, hown, hg⟩ := h
  have hwf : (Lit.int .i64 n).wf = true := WalkArith.wf_i64 hn
  obtain ⟨w', hrun, r1, r2⟩ := hown.store Tryz.lawStr Tryz.underlying108 hk (Go.WideMaps.keyOf_string_mk Tryz.underlying9 hs) (plainElem_int Tryz.underlying2 hwf)
  have hmap := hown.isMap
  refine ⟨w', hrun, ⟨_, r1, fun s' hs' => ?_⟩, ?_⟩
  · by_cases he : s' = s
    · subst he
      have hkl : WideAt.IsKeyLit (Lit.string s'.data.toList) := trivial
      exact ⟨by rw [Go.Maps.has_put_same hmap hkl]; simp, fun m' hm' => by
        rw [Go.Maps.atKey_put_same hmap hkl]; simp at hm'; rw [hm']⟩
    · have hne : (Lit.string s'.data.toList) ≠ .string s.data.toList := by
        intro e; injection e with e
        apply he
        have : s'.data = s.data := Array.toList_inj.1 e
        cases s'; cases s; simp at this; rw [this]
      obtain ⟨h1, h2⟩ := hg s' hs'
      exact ⟨by rw [Go.Maps.has_put_other hne, h1]; simp [he], fun m' hm' => by
        rw [Go.Maps.atKey_put_other hne]; simp [he] at hm'; exact h2 m' hm'⟩
  · exact (Only.refl _ _).grown r2.grown (by intro j hj _; injection hj with hj; subst hj; simp)
end
theorem Mq.mono {w : World} {M k k' : Nat} {g : ByteArray → Option Int} (h : Mq w M k g) (hk : k ≤ k') : Mq w M k' g := by
  obtain ⟨D, h1, h2⟩ := h
  exact ⟨D, h1.mono hk, h2⟩
/-- a map as a value in memory: its entries -/
structure KM where
  g : ByteArray → Option Int
instance : Rp KM where
  size := 1
  rep w cs x fp := ∃ M k, cs = [.map (some M)] ∧ fp = [M] ∧ Mq w M k x.g
  len h := by obtain ⟨_, _, rfl, _⟩ := h; rfl
  frame h hf := by
    obtain ⟨M, k, h1, h2, h3⟩ := h
    subst h2
    exact ⟨M, k, h1, rfl, h3.frame (hf M (by simp))⟩
  lt h := by
    obtain ⟨M, k, h1, h2, h3⟩ := h
    subst h2
    intro b hb
    simp at hb; subst hb; exact h3.lt
end Go.Proofs.YtndcifpbbnebmaaGreat

namespace Go.Proofs.YtndcifpbbnebmaaGreat
open Go.RowKit
set_option maxRecDepth 10000

/-- parts of memory, all from B on, all apart -/
structure Fam (B : Nat) (w : World) (cs : List (List Nat)) : Prop where
  nd : cs.flatten.Nodup
  rng : ∀ c ∈ cs, ∀ b ∈ c, B ≤ b ∧ b < w.heap.size
theorem Fam.keep {B : Nat} {w w' : World} {cs : List (List Nat)} (h : Fam B w cs) (hs : w.heap.size ≤ w'.heap.size) : Fam B w' cs := ⟨h.nd, fun c hc b hb => by have := h.rng c hc b hb; omega⟩
theorem Fam.ge {B : Nat} {w : World} {cs : List (List Nat)} (h : Fam B w cs) (i : Nat) {c : List Nat} (hi : cs[i]? = some c) {b : Nat} (hb : b ∈ c) : B ≤ b := (h.rng c (List.mem_of_getElem? hi) b hb).1
theorem Fam.lt {B : Nat} {w : World} {cs : List (List Nat)} (h : Fam B w cs) (i : Nat) {c : List Nat} (hi : cs[i]? = some c) {b : Nat} (hb : b ∈ c) : b < w.heap.size := (h.rng c (List.mem_of_getElem? hi) b hb).2
theorem flat_disj : ∀ {cs : List (List Nat)}, cs.flatten.Nodup → ∀ {i j : Nat} {c d : List Nat}, i < j → cs[i]? = some c → cs[j]? = some d → ∀ b ∈ c, b ∉ d
  | [], _, i, j, c, d, _, hi, _ => by simp at hi
  | a :: cs, hn, 0, j, c, d, hij, hi, hj => by
    rw [List.flatten_cons, List.nodup_append] at hn
    simp at hi; subst hi
    intro b hb hm
    obtain ⟨k, rfl⟩ : ∃ k, j = k + 1 := ⟨j - 1, by omega⟩
    rw [List.getElem?_cons_succ] at hj
    exact hn.2.2 b hb b (List.mem_flatten.2 ⟨d, List.mem_of_getElem? hj, hm⟩) rfl
  | a :: cs, hn, i + 1, j, c, d, hij, hi, hj => by
    rw [List.flatten_cons, List.nodup_append] at hn
    obtain ⟨k, rfl⟩ : ∃ k, j = k + 1 := ⟨j - 1, by omega⟩
    rw [List.getElem?_cons_succ] at hi hj
    exact flat_disj hn.2.1 (by omega) hi hj
theorem Fam.disj {B : Nat} {w : World} {cs : List (List Nat)} (h : Fam B w cs) (i j : Nat) (hij : i ≠ j) {c d : List Nat} (hi : cs[i]? = some c) (hj : cs[j]? = some d) : ∀ b ∈ c, b ∉ d := by
  intro b hb hm
  rcases Nat.lt_or_gt_of_ne hij with h1 | h1
  · exact flat_disj h.nd h1 hi hj b hb hm
  · exact flat_disj h.nd h1 hj hi b hm hb
theorem flat_set : ∀ {cs : List (List Nat)} {i : Nat} {c : List Nat}, cs.flatten.Nodup → c.Nodup → (∀ b ∈ c, b ∉ (cs.set i []).flatten) → i < cs.length → (cs.set i c).flatten.Nodup
  | [], i, c, _, _, _, hi => by simp at hi
  | a :: cs, 0, c, hn, hc, hd, _ => by
    rw [List.flatten_cons, List.nodup_append] at hn
    rw [List.set_cons_zero, List.flatten_cons, List.nodup_append]
    refine ⟨hc, hn.2.1, fun x hx y hy e => ?_⟩
    subst e
    exact hd x hx (by rw [List.set_cons_zero, List.flatten_cons]; exact List.mem_append_right _ hy)
  | a :: cs, i + 1, c, hn, hc, hd, hi => by
    rw [List.flatten_cons, List.nodup_append] at hn
    rw [List.set_cons_succ, List.flatten_cons, List.nodup_append]
    have hd' : ∀ b ∈ c, b ∉ (cs.set i []).flatten := fun b hb hm => hd b hb (by rw [List.set_cons_succ, List.flatten_cons]; exact List.mem_append_right _ hm)
    refine ⟨hn.1, flat_set hn.2.1 hc hd' (by simpa using hi), fun x hx y hy e => ?_⟩
    subst e
    obtain ⟨d, hdm, hxd⟩ := List.mem_flatten.1 hy
    rcases List.mem_or_eq_of_mem_set hdm with h1 | rfl
    · exact hn.2.2 x hx x (List.mem_flatten.2 ⟨d, h1, hxd⟩) rfl
    · exact hd x hxd (by rw [List.set_cons_succ, List.flatten_cons]; exact List.mem_append_left _ hx)
/-- one part anew: what it was, or new memory -/
theorem Fam.set {B : Nat} {w w' : World} {cs : List (List Nat)} (h : Fam B w cs) (hs : w.heap.size ≤ w'.heap.size) (hB : B ≤ w.heap.size) (i : Nat) {c : List Nat} (hi : cs[i]? = some c) {c' : List Nat} (hn : c'.Nodup) (hc : ∀ b ∈ c', b ∈ c ∨ (w.heap.size ≤ b ∧ b < w'.heap.size)) : Fam B w' (cs.set i c') := by
  have hil : i < cs.length := (List.getElem?_eq_some_iff.1 hi).1
  refine ⟨flat_set h.nd hn (fun b hb hm => ?_) hil, fun d hd b hb => ?_⟩
  · obtain ⟨d, hdm, hbd⟩ := List.mem_flatten.1 hm
    obtain ⟨j, hj⟩ := List.getElem?_of_mem hdm
    have hjl : j < cs.length := by have := (List.getElem?_eq_some_iff.1 hj).1; simpa using this
    by_cases hij : i = j
    · subst hij
      rw [List.getElem?_set_self hil] at hj
      injection hj with hj; subst hj; cases hbd
    · rw [List.getElem?_set_ne hij] at hj
      rcases hc b hb with h1 | h1
      · exact h.disj i j hij hi hj b h1 hbd
      · have := h.lt j hj hbd; omega
  · rcases List.mem_or_eq_of_mem_set hd with h1 | rfl
    · have := h.rng d h1 b hb; omega
    · rcases hc b hb with h1 | h1
      · have := h.rng c (List.mem_of_getElem? hi) b h1; omega
      · omega
theorem Fam.cons {B : Nat} {w w' : World} {cs : List (List Nat)} (h : Fam B w cs) (hs : w.heap.size ≤ w'.heap.size) (hB : B ≤ w.heap.size) {c : List Nat} (hn : c.Nodup) (hc : ∀ b ∈ c, w.heap.size ≤ b ∧ b < w'.heap.size) : Fam B w' (c :: cs) := by
  refine ⟨?_, fun d hd b hb => ?_⟩
  · rw [List.flatten_cons, List.nodup_append]
    refine ⟨hn, h.nd, fun x hx y hy e => ?_⟩
    subst e
    obtain ⟨d, hd, hxd⟩ := List.mem_flatten.1 hy
    have := hc x hx
    have := h.rng d hd x hxd
    omega
  · rcases List.mem_cons.1 hd with rfl | hd
    · have := hc b hb; omega
    · have := h.rng d hd b hb; omega
theorem Fam.nil (B : Nat) (w : World) : Fam B w [] := ⟨by simp, by simp⟩
end Go.Proofs.YtndcifpbbnebmaaGreat

namespace Go.Proofs.YtndcifpbbnebmaaGreat
open Go.RowKit
set_option maxRecDepth 10000

section
variable {P : Program} {ops : Array Oper} {Q : Exit → Act → World → Prop} {md : Region.Mode} {I : Array Bool → Act → World → Prop}
theorem ready_un {listed : Array Bool} {i : Nat} (h : i ∈ Region.ready md ops listed) : i < ops.size ∧ listed.getD i true = false := by
  unfold Region.ready at h
  rw [List.mem_filter] at h
  obtain ⟨h1, h2⟩ := h
  rw [Bool.and_eq_true] at h2
  exact ⟨by simpa using h1, by simpa using h2.1⟩
theorem countP_set {l : List Bool} {i : Nat} (hi : i < l.length) (h : l[i] = false) : (l.set i true).countP (· == false) + 1 = l.countP (· == false) := by
  induction l generalizing i with
  | nil => simp at hi
  | cons b l ih =>
    cases i with
    | zero => simp at h; subst h; simp
    | succ i =>
      simp at h hi
      rw [List.set_cons_succ, List.countP_cons, List.countP_cons, ← ih hi h]
      omega
theorem wpAny_inv (hstep : ∀ listed a w i, listed.size = ops.size → I listed a w → i ∈ Region.ready md ops listed → wpOp P ops Q i (fun a' w' => I (listed.setIfInBounds i true) a' w') a w)
    (hend : ∀ listed a w, listed.size = ops.size → I listed a w → Region.ready md ops listed = [] → Q .normal a w) :
    ∀ (fuel : Nat) (listed : Array Bool) (a : Act) (w : World), listed.size = ops.size → listed.toList.countP (· == false) ≤ fuel → I listed a w → wpAny P md ops Q fuel listed a w
  | 0, listed, a, w, hs, hc, h => by
    have hr : Region.ready md ops listed = [] := by
      rw [List.eq_nil_iff_forall_not_mem]
      intro i hi
      obtain ⟨h1, h2⟩ := ready_un hi
      have h3 : listed.toList.countP (· == false) = 0 := by omega
      rw [List.countP_eq_zero] at h3
      have hil : i < listed.size := by omega
      have h4 : listed[i] = false := by simpa [Array.getD, hil] using h2
      have := h3 listed[i] (by simp)
      simp [h4] at this
    exact ⟨hr, hend _ _ _ hs h hr⟩
  | fuel + 1, listed, a, w, hs, hc, h => by
    refine ⟨fun hr => hend _ _ _ hs h hr, fun i hi => ?_⟩
    refine wpOp_mono (fun a' w' h' => ?_) (hstep listed a w i hs h hi)
    obtain ⟨h1, h2⟩ := ready_un hi
    have hil : i < listed.size := by omega
    have h4 : listed[i] = false := by simpa [Array.getD, hil] using h2
    refine wpAny_inv hstep hend fuel _ a' w' (by simpa using hs) ?_ h'
    have h5 := countP_set (l := listed.toList) (i := i) (by simpa using hil) (by simpa using h4)
    have h6 : (listed.setIfInBounds i true).toList = listed.toList.set i true := by simp
    rw [h6]; omega
theorem wp_region_inv {id : Nat} {a : Act} {w : World} (hm : P.follows .mixedOrders = true)
    (h0 : I (Array.replicate ops.size false) a { w with drawn := w.drawn + 1 })
    (hstep : ∀ listed a w i, listed.size = ops.size → I listed a w → i ∈ Region.ready .any ops listed → wpOp P ops Q i (fun a' w' => I (listed.setIfInBounds i true) a' w') a w)
    (hend : ∀ listed a w, listed.size = ops.size → I listed a w → Region.ready .any ops listed = [] → Q .normal a w) : (Code.region id ops true).wp P Q a w := by
  refine wp_region_any hm (wpAny_inv hstep hend ops.size _ a _ (by simp) ?_ h0)
  have := List.countP_le_length (p := (· == false)) (l := (Array.replicate ops.size false).toList)
  simpa using this
theorem wp_region_invA {J : Act → Array Bool → Act → World → Prop} {id : Nat} {a : Act} {w : World} (hm : P.follows .mixedOrders = true)
    (h0 : J a (Array.replicate ops.size false) a w.drew)
    (hstep : ∀ listed a' w' i, listed.size = ops.size → J a listed a' w' → i ∈ Region.ready .any ops listed → wpOp P ops Q i (fun a'' w'' => J a (listed.setIfInBounds i true) a'' w'') a' w')
    (hend : ∀ listed a' w', listed.size = ops.size → J a listed a' w' → Region.ready .any ops listed = [] → Q .normal a' w') : (Code.region id ops true).wp P Q a w := wp_region_inv (I := J a) hm h0 hstep hend
theorem wpOp_plain {i : Nat} {o : Oper} {K : Act → World → Prop} {a : Act} {w : World} (ho : ops[i]? = some o) (hg : o.guard = none) (h : ∀ K' : Act → World → Prop, (∀ a w, K a w → K' a w) → Oper.wp P o a w K' Q) : wpOp P ops Q i K a w :=
  wpOp_step ho (fun K' hK => by rw [if_pos (by simp [Region.wanted, hg])]; exact h K' hK)
theorem ready_dep {i k : Nat} {o : Oper} {listed : Array Bool} (h : i ∈ Region.ready md ops listed) (ho : ops[i]? = some o) (hk : o.after.toList.any (fun e => (e.on == k) && Region.binds md e) = true) : listed.getD k false = true := by
  unfold Region.ready at h
  rw [List.mem_filter, Bool.and_eq_true] at h
  have h2 := h.2.2
  rw [ho] at h2
  simp only [Option.map_some, Option.getD_some] at h2
  rw [List.any_eq_true] at hk
  obtain ⟨e, he, h3⟩ := hk
  obtain ⟨j, hj, rfl⟩ := List.getElem_of_mem he
  rw [Array.all_eq_true] at h2
  have h4 := h2 j (by simpa using hj)
  simp only [Array.getElem_toList] at h3
  rw [Bool.and_eq_true] at h3
  rw [h3.2] at h4
  have h5 : (o.after[j]'(by simpa using hj)).on = k := by simpa using h3.1
  rw [← h5]
  simpa using h4
theorem un_getD {listed : Array Bool} {i : Nat} (h : listed.getD i true = false) : listed.getD i false = false := by
  rw [Array.getD_eq_getD_getElem?] at h ⊢
  cases hq : listed[i]? with
  | none => rfl
  | some b => rw [hq] at h; exact h
/-- whether a set of operations that come up no more is whole: each waits only for others of the region -/
theorem all_listed {listed : Array Bool} (h : Region.ready md ops listed = []) (hs : listed.size = ops.size) (hd : ((List.range ops.size).all fun i => ((ops.toList[i]?).map fun o => o.after.toList.all fun e => decide (e.on < i)).getD true) = true) : ∀ i, i < ops.size → listed.getD i false = true := by
  intro i
  induction i using Nat.strongRecOn with
  | ind i ih =>
    intro hi
    rcases hq : listed.getD i false
    · exfalso
      have hm : i ∈ Region.ready md ops listed := by
        unfold Region.ready
        rw [List.mem_filter, Bool.and_eq_true]
        refine ⟨by simpa using hi, ?_, ?_⟩
        · rw [Array.getD_eq_getD_getElem?] at hq ⊢
          rw [Array.getElem?_eq_getElem (by omega)] at hq ⊢
          simpa using hq
        · rw [Array.getElem?_eq_getElem hi]
          simp only [Option.map_some, Option.getD_some]
          rw [Array.all_eq_true]
          intro j hj
          rcases hb : Region.binds md ((ops[i]).after[j])
          · rfl
          · have hlt : ((ops[i]).after[j]).on < i := by
              rw [List.all_eq_true] at hd
              have h1 := hd i (by simpa using hi)
              rw [Array.getElem?_toList, Array.getElem?_eq_getElem hi] at h1
              simp only [Option.map_some, Option.getD_some, List.all_eq_true] at h1
              exact of_decide_eq_true (h1 _ (by simp))
            simpa using ih _ hlt (by omega)
      rw [h] at hm; cases hm
    · rfl
theorem rep_getD (n i : Nat) : (Array.replicate n false).getD i false = false := by
  rw [Array.getD_eq_getD_getElem?]
  by_cases h : i < n
  · rw [Array.getElem?_eq_getElem (by simpa using h)]; simp
  · rw [Array.getElem?_eq_none (by simpa using h)]; rfl
theorem set_getD {listed : Array Bool} {i k : Nat} (hk : k < listed.size) : (listed.setIfInBounds k true).getD i false = true ↔ i = k ∨ listed.getD i false = true := by
  simp only [Array.getD_eq_getD_getElem?]
  by_cases h : i = k
  · subst h; simp [hk]
  · have : ¬ k = i := fun e => h e.symm
    simp [h, this]
end
/-- what lies in a slot -/
def At (a : Act) (t : Nat) (v : Value) : Prop := a.tmps[t]? = some v
theorem At.eval {a : Act} {t : Nat} {v : Value} (h : At a t v) : a.eval (.tmp t) = v := by
  unfold At at h
  show a.tmps.getD t undef = v
  rw [Array.getD_eq_getD_getElem?, h]; rfl
theorem At.getD {a : Act} {t : Nat} {v : Value} (h : At a t v) : a.tmps.getD t undef = v := h.eval
theorem At.same {a : Act} {t : Nat} {v : Value} (h : t < a.tmps.size) : At (a.put (some t) v) t v := by
  unfold At Act.put; simp [h]
theorem At.ne {a : Act} {t t' : Nat} {v u : Value} (h : At a t v) (hn : t' ≠ t) : At (a.put (some t') u) t v := by
  unfold At Act.put at *; simp [hn, h]
/-- a is a0 but for some slots -/
structure RI (a0 : Act) (S : List Nat) (a : Act) : Prop where
  sz : a.tmps.size = a0.tmps.size
  df : a.defers = a0.defers
  sm : ∀ t, t ∉ S → a.tmps[t]? = a0.tmps[t]?
theorem RI.refl (a0 : Act) (S : List Nat) : RI a0 S a0 := ⟨rfl, rfl, fun _ _ => rfl⟩
theorem RI.put {a0 a : Act} {S : List Nat} {t : Nat} {v : Value} (h : RI a0 S a) (ht : t ∈ S) : RI a0 S (a.put (some t) v) := by
  refine ⟨by unfold Act.put; simp [h.sz], by unfold Act.put; exact h.df, fun t' ht' => ?_⟩
  have hne : ¬ t = t' := fun e => ht' (by rw [← e]; exact ht)
  rw [← h.sm t' ht']
  unfold Act.put; simp [hne]
theorem RI.at {a0 a : Act} {S : List Nat} {t : Nat} {v : Value} (h : RI a0 S a) (ht : t ∉ S) (h0 : At a0 t v) : At a t v := (h.sm t ht).trans h0
def putL (a : Act) (L : List (Nat × Value)) : Act := L.foldl (fun a p => a.put (some p.1) p.2) a
theorem putL_sz : ∀ (L : List (Nat × Value)) (a : Act), (putL a L).tmps.size = a.tmps.size ∧ (putL a L).defers = a.defers
  | [], _ => ⟨rfl, rfl⟩
  | p :: L, a => by
    have := putL_sz L (a.put (some p.1) p.2)
    unfold putL at *
    rw [List.foldl_cons]
    refine ⟨this.1.trans ?_, this.2.trans ?_⟩
    · unfold Act.put; simp
    · unfold Act.put; rfl
theorem putL_no : ∀ (L : List (Nat × Value)) (a : Act) (t : Nat), t ∉ L.map (·.1) → (putL a L).tmps[t]? = a.tmps[t]?
  | [], _, _, _ => rfl
  | p :: L, a, t, h => by
    simp only [List.map_cons, List.mem_cons, not_or] at h
    have := putL_no L (a.put (some p.1) p.2) t h.2
    unfold putL at *
    rw [List.foldl_cons, this]
    have hne : ¬ p.1 = t := fun e => h.1 e.symm
    unfold Act.put; simp [hne]
theorem putL_yes : ∀ (L : List (Nat × Value)) (a : Act) (p : Nat × Value), p ∈ L → (L.map (·.1)).Nodup → p.1 < a.tmps.size → (putL a L).tmps[p.1]? = some p.2
  | q :: L, a, p, h, hn, hs => by
    simp only [List.map_cons, List.nodup_cons] at hn
    rcases List.mem_cons.1 h with rfl | h
    · have := putL_no L (a.put (some p.1) p.2) p.1 hn.1
      unfold putL at *
      rw [List.foldl_cons, this]
      unfold Act.put; simp [hs]
    · have := putL_yes L (a.put (some q.1) q.2) p h hn.2 (by unfold Act.put; simpa using hs)
      unfold putL at *
      rw [List.foldl_cons]; exact this
theorem RI.eq {a0 a : Act} (L : List (Nat × Value)) (h : RI a0 (L.map (·.1)) a) (hn : (L.map (·.1)).Nodup) (hs : ∀ p ∈ L, p.1 < a0.tmps.size) (hv : ∀ p ∈ L, At a p.1 p.2) : a = putL a0 L := by
  have h1 : a.tmps = (putL a0 L).tmps := by
    apply Array.ext (by rw [(putL_sz L a0).1, h.sz])
    intro t h1 h2
    have : a.tmps[t]? = (putL a0 L).tmps[t]? := by
      by_cases ht : t ∈ L.map (·.1)
      · obtain ⟨p, hp, rfl⟩ := List.mem_map.1 ht
        rw [putL_yes L a0 p hp hn (hs p hp)]
        exact hv p hp
      · rw [putL_no L a0 t ht]; exact h.sm t ht
    rw [Array.getElem?_eq_getElem h1, Array.getElem?_eq_getElem h2] at this
    injection this
  have h2 : a.defers = (putL a0 L).defers := by rw [(putL_sz L a0).2, h.df]
  cases a
  cases hq : putL a0 L
  rw [hq] at h1 h2
  simp only at h1 h2
  rw [h1, h2]
end Go.Proofs.YtndcifpbbnebmaaGreat

namespace Go.Proofs.YtndcifpbbnebmaaGreat
open Go.RowKit
set_option maxRecDepth 10000

theorem expl_inR (x : Puzzle) : inR (if validPz x = true then (cardG x : Int) else 0) 1 3000 = (expl x).isSome := by
  rcases hv : validPz x
  · rw [expl_none hv]; rfl
  · have h1 := cardG_pos hv
    have h2 := expl_iff hv
    rw [if_pos rfl]
    rcases he : expl x with _ | t
    · have : ¬ cardG x ≤ 3000 := fun hc => by obtain ⟨t, ht⟩ := h2.2 hc; rw [he] at ht; cases ht
      have h3 : ¬ (inR (cardG x : Int) 1 3000 = true) := fun h => by have := inR_iff.1 h; omega
      simpa using h3
    · have hc := h2.1 ⟨t, he⟩
      exact inR_iff.2 ⟨by omega, by omega⟩
/-- a block of cells of a type -/
def BlkT (w : World) (g : Nat) (cs : List Value) (t : TypeId) : Prop := w.heap[g]? = some (.cells cs.toArray t (0, 0))
theorem BlkT.only {w w' : World} {g : Nat} {cs : List Value} {t : TypeId} {fp : List Nat} (h : BlkT w g cs t) (ho : Only fp w w') (hg : g ∉ fp) : BlkT w' g cs t :=
  (ho.block g (Array.getElem?_eq_some_iff.1 h).1 hg).trans h
theorem BlkT.new (w : World) (cs : List Value) (t : TypeId) : BlkT (w.alloc (.cells cs.toArray t)) w.heap.size cs t := heap_alloc_new w _
theorem Acc.ofT {α : Type} [Rp α] {w : World} {B : Nat} {e : TypeId} {cs : List Value} {x : α} {fp : List Nat} {g : Nat} (hb : BlkT w g cs e) (h : Rp.rep w cs x fp) (hB : B ≤ g) (hn : g ∉ fp) : Acc B e w (.slice (some ⟨g, 0, none⟩) 1 1) [x] [fp] := by
  refine ⟨⟨[cs], ⟨by simp [Rp.len h], .inr ⟨g, 1, cs.toArray, rfl, hB, hb, Nat.le_refl _, by unfold maxLen; omega, by simp [Rp.len h], by simpa using List.take_of_length_le (Nat.le_of_eq (Rp.len h))⟩⟩, rfl, fun k h1 h2 h3 => ?_⟩, rfl, ?_⟩
  · have : k = 0 := by simpa using h1
    subst this
    exact h
  · intro g' hg hm
    simp only [Value.ownBlock, Option.some.injEq] at hg
    subst hg
    exact hn (by simpa using hm)
/-- the exploration as it is begun -/
def EX0 (x : Puzzle) (v2 vst : Value) (W wx : World) (s5 : Value) : Prop :=
  ∃ g M gs gd gp gy, s5 = .pointer (some ⟨g, 0, none⟩) ∧ Blk wx g [.int .i64 x.points, .string x.names, v2, .slice (some ⟨gs, 0, none⟩) 1 1, .slice (some ⟨gd, 0, none⟩) 1 1, .map (some M), .slice (some ⟨gp, 0, none⟩) 1 1, .slice (some ⟨gy, 0, none⟩) 1 1, .slice none 0 0] ∧
    BlkT wx gs [vst] 32 ∧ BlkT wx gd [.int .i64 0] 2 ∧ BlkT wx gp [.int .i64 0] 2 ∧ BlkT wx gy [.int .i64 0] 2 ∧ Mq wx M 1 (firstG [PM.pts x.points.toNat]) ∧ [g, M, gs, gd, gp, gy].Nodup ∧ (∀ b ∈ [g, M, gs, gd, gp, gy], W.heap.size ≤ b) ∧ Only [] W wx
def eAl : List Nat := [2, 3, 4, 9, 10, 12]
def eSl : Nat → Option Nat
  | 0 => some 21 | 1 => some 22 | 2 => some 23 | 3 => some 24 | 4 => some 25 | 5 => some 26 | 6 => some 27 | 7 => none | 8 => some 28 | 9 => some 29 | 10 => some 30 | 11 => some 31 | 12 => some 32 | 13 => some 5 | _ => none
def eJs : Nat → List Nat
  | 2 => [2] | 3 => [3] | 4 => [4] | 7 => [4] | 8 => [4] | 9 => [9] | 10 => [10] | 11 => [2, 3, 4, 9, 10] | 12 => [2, 3, 4, 9, 10, 12] | 13 => [12] | _ => []
def eCells (x : Puzzle) (v2 : Value) (f : Nat → Nat) : List Value := [.int .i64 x.points, .string x.names, v2, .slice (some ⟨f 2, 0, none⟩) 1 1, .slice (some ⟨f 3, 0, none⟩) 1 1, .map (some (f 4)), .slice (some ⟨f 9, 0, none⟩) 1 1, .slice (some ⟨f 10, 0, none⟩) 1 1, .slice none 0 0]
def eAgg (x : Puzzle) (v2 : Value) (f : Nat → Nat) : Value := .agg (eCells x v2 f).toArray
/-- what an operation has left -/
def eF (x : Puzzle) (v2 vst : Value) (f : Nat → Nat) (a : Act) (w : World) : Nat → Prop
  | 0 => At a 21 (.agg #[.int .i64 x.points, .string x.names, v2])
  | 1 => At a 22 vst
  | 2 => At a 23 (.slice (some ⟨f 2, 0, none⟩) 1 1) ∧ BlkT w (f 2) [vst] 32
  | 3 => At a 24 (.slice (some ⟨f 3, 0, none⟩) 1 1) ∧ BlkT w (f 3) [.int .i64 0] 2
  | 4 => At a 25 (.map (some (f 4)))
  | 5 => At a 26 vst
  | 6 => At a 27 (.string (kB (PM.pts x.points.toNat)))
  | 7 => Mq w (f 4) 1 (firstG [PM.pts x.points.toNat])
  | 8 => At a 28 (.map (some (f 4)))
  | 9 => At a 29 (.slice (some ⟨f 9, 0, none⟩) 1 1) ∧ BlkT w (f 9) [.int .i64 0] 2
  | 10 => At a 30 (.slice (some ⟨f 10, 0, none⟩) 1 1) ∧ BlkT w (f 10) [.int .i64 0] 2
  | 11 => At a 31 (eAgg x v2 f)
  | 12 => At a 32 (.pointer (some ⟨f 12, 0, none⟩)) ∧ Blk w (f 12) (eCells x v2 f)
  | 13 => At a 5 (.pointer (some ⟨f 12, 0, none⟩))
  | _ => True
structure EI (x : Puzzle) (v2 vst : Value) (W : World) (a0 : Act) (ls : Array Bool) (a : Act) (w : World) (f : Nat → Nat) : Prop where
  on : Only [] W w
  fr : RI a0 [5, 21, 22, 23, 24, 25, 26, 27, 28, 29, 30, 31, 32] a
  rng : ∀ i ∈ eAl, ls.getD i false = true → W.heap.size ≤ f i ∧ f i < w.heap.size
  inj : ∀ i ∈ eAl, ∀ j ∈ eAl, i ≠ j → ls.getD i false = true → ls.getD j false = true → f i ≠ f j
  ft : ∀ i, ls.getD i false = true → eF x v2 vst f a w i
  m0 : ls.getD 4 false = true → ls.getD 7 false = false → Mq w (f 4) 0 (fun _ => none)
  clo : ∀ i, ls.getD i false = true → ∀ j ∈ eJs i, ls.getD j false = true
theorem eF_move {x : Puzzle} {v2 vst : Value} {f f' : Nat → Nat} {a : Act} {w w' : World} {i : Nat} {t : Option Nat} {v : Value} {fp : List Nat} (h : eF x v2 vst f a w i) (hf : ∀ j ∈ eJs i, f' j = f j) (ht : ∀ u, t = some u → eSl i ≠ some u) (ho : Only fp w w') (hd : ∀ j ∈ eJs i, j ∈ eAl → f j ∉ fp ∨ (i ≠ 7 ∧ j = 4)) : eF x v2 vst f' (a.put t v) w' i := by
  have hA : ∀ u z, At a u z → eSl i = some u → At (a.put t v) u z := fun u z h1 h2 => by
    cases t with
    | none => exact h1
    | some t => exact h1.ne (fun e => ht t rfl (by rw [e]; exact h2))
  match i, h, hf, hd, hA with
  | 0, h, _, _, hA => exact hA _ _ h rfl
  | 1, h, _, _, hA => exact hA _ _ h rfl
  | 2, h, hf, hd, hA => exact ⟨by rw [hf 2 (by decide)]; exact hA _ _ h.1 rfl, by rw [hf 2 (by decide)]; exact h.2.only ho ((hd 2 (by decide) (by decide)).resolve_right (by simp))⟩
  | 3, h, hf, hd, hA => exact ⟨by rw [hf 3 (by decide)]; exact hA _ _ h.1 rfl, by rw [hf 3 (by decide)]; exact h.2.only ho ((hd 3 (by decide) (by decide)).resolve_right (by simp))⟩
  | 4, h, hf, _, hA => show At _ _ _; rw [hf 4 (by decide)]; exact hA _ _ h rfl
  | 5, h, _, _, hA => exact hA _ _ h rfl
  | 6, h, _, _, hA => exact hA _ _ h rfl
  | 7, h, hf, hd, hA => show Mq _ _ _ _; rw [hf 4 (by decide)]; exact h.only ho ((hd 4 (by decide) (by decide)).resolve_right (by simp))
  | 8, h, hf, _, hA => show At _ _ _; rw [hf 4 (by decide)]; exact hA _ _ h rfl
  | 9, h, hf, hd, hA => exact ⟨by rw [hf 9 (by decide)]; exact hA _ _ h.1 rfl, by rw [hf 9 (by decide)]; exact h.2.only ho ((hd 9 (by decide) (by decide)).resolve_right (by simp))⟩
  | 10, h, hf, hd, hA => exact ⟨by rw [hf 10 (by decide)]; exact hA _ _ h.1 rfl, by rw [hf 10 (by decide)]; exact h.2.only ho ((hd 10 (by decide) (by decide)).resolve_right (by simp))⟩
  | 11, h, hf, _, hA => show At _ _ _; unfold eAgg eCells; rw [hf 2 (by decide), hf 3 (by decide), hf 4 (by decide), hf 9 (by decide), hf 10 (by decide)]; exact hA _ _ h rfl
  | 12, h, hf, hd, hA => exact ⟨by rw [hf 12 (by decide)]; exact hA _ _ h.1 rfl, by unfold eCells; rw [hf 2 (by decide), hf 3 (by decide), hf 4 (by decide), hf 9 (by decide), hf 10 (by decide), hf 12 (by decide)]; exact h.2.only ho ((hd 12 (by decide) (by decide)).resolve_right (by simp))⟩
  | 13, h, hf, _, hA => show At _ _ _; rw [hf 12 (by decide)]; exact hA _ _ h rfl
  | _ + 14, _, _, _, _ => trivial
theorem EI.upd {x : Puzzle} {v2 vst : Value} {W : World} {a0 : Act} {ls : Array Bool} {a : Act} {w w' : World} {f f' : Nat → Nat} {k : Nat} {t : Option Nat} {v : Value} {fp : List Nat} (h : EI x v2 vst W a0 ls a w f) (hk : k < 14) (hs : ls.size = 14) (hu : ls.getD k false = false) (ht : t = eSl k)
    (ho : Only fp w w') (hfp : fp = [] ∨ (k = 7 ∧ fp = [f 4] ∧ ls.getD 4 false = true)) (hf : ∀ i, i ≠ k → f' i = f i) (hal : k ∈ eAl → f' k = w.heap.size ∧ w.heap.size < w'.heap.size)
    (hdep : ∀ j ∈ eJs k, j ≠ k → ls.getD j false = true) (hnew : eF x v2 vst f' (a.put t v) w' k) (hm : k = 4 → Mq w' (f' 4) 0 (fun _ => none)) : EI x v2 vst W a0 (ls.setIfInBounds k true) (a.put t v) w' f' := by
  have hg : ∀ i, (ls.setIfInBounds k true).getD i false = true ↔ i = k ∨ ls.getD i false = true := fun i => set_getD (by omega)
  have hne : ∀ j, ls.getD j false = true → j ≠ k := fun j hj e => by rw [e, hu] at hj; cases hj
  have hsz := ho.size
  have hno : ∀ j ∈ eAl, ls.getD j false = true → j ≠ 4 → f j ∉ fp := fun j hj hl h4 hm => by
    rcases hfp with e | ⟨-, e, e4⟩
    · rw [e] at hm; cases hm
    · rw [e] at hm; exact h.inj j hj 4 (by decide) h4 hl e4 (by simpa using hm)
  refine ⟨?_, ?_, fun i hi hl => ?_, fun i hi j hj hij hl hl' => ?_, fun i hl => ?_, fun h4 h7 => ?_, fun i hl j hj => ?_⟩
  · refine h.on.then_ ho (fun b hb hlt => ?_)
    rcases hfp with e | ⟨-, e, e4⟩
    · rw [e] at hb; cases hb
    · rw [e] at hb
      have := (h.rng 4 (by decide) e4).1
      simp at hb; omega
  · cases t with
    | none => exact h.fr
    | some t =>
      refine h.fr.put ?_
      match k, hk, ht with
      | 0, _, e | 1, _, e | 2, _, e | 3, _, e | 4, _, e | 5, _, e | 6, _, e | 8, _, e | 9, _, e | 10, _, e | 11, _, e | 12, _, e | 13, _, e => injection e with e; subst e; decide
      | 7, _, e => cases e
  · rcases (hg i).1 hl with rfl | hl
    · have := hal hi; have := h.on.size; omega
    · rw [hf i (hne i hl)]
      have := h.rng i hi hl; omega
  · rcases (hg i).1 hl with e | q
    · rcases (hg j).1 hl' with e' | q'
      · exact absurd (e.trans e'.symm) hij
      · have r := h.rng j hj q'
        rw [e, (hal (by rw [← e]; exact hi)).1, hf j (hne j q')]; omega
    · rcases (hg j).1 hl' with e' | q'
      · have r := h.rng i hi q
        rw [e', (hal (by rw [← e']; exact hj)).1, hf i (hne i q)]; omega
      · rw [hf i (hne i q), hf j (hne j q')]; exact h.inj i hi j hj hij q q'
  · rcases (hg i).1 hl with rfl | hl
    · exact hnew
    · have hik := hne i hl
      refine eF_move (h.ft i hl) (fun j hj => hf j (hne j (h.clo i hl j hj))) (fun u hu' e => ?_) ho (fun j hj hja => ?_)
      · rw [ht] at hu'
        have e2 : eSl i = eSl k := e.trans hu'.symm
        have hi14 : i < 14 := by
          rcases Nat.lt_or_ge i 14 with h1 | h1
          · exact h1
          · rw [Array.getD_eq_getD_getElem?, Array.getElem?_eq_none (by omega)] at hl; cases hl
        have : ∀ i, i < 14 → ∀ k, k < 14 → eSl k = eSl i → eSl k ≠ none → i = k := by decide
        exact hik (this i hi14 k hk e2.symm (by rw [hu']; simp))
      · by_cases h4 : j = 4
        · subst h4
          rcases hfp with e | ⟨e7, -, -⟩
          · left; rw [e]; simp
          · right; exact ⟨by omega, rfl⟩
        · exact .inl (hno j hja (h.clo i hl j hj) h4)
  · have h7n : k ≠ 7 := fun e => by
      have := (hg 7).2 (.inl e.symm)
      rw [h7] at this; cases this
    have hfe : fp = [] := by
      rcases hfp with e | ⟨e, -⟩
      · exact e
      · exact absurd e h7n
    rcases (hg 4).1 h4 with e | h4
    · exact hm e.symm
    · rw [hf 4 (hne 4 h4)]
      have h7' : ls.getD 7 false = false := by
        rcases hq : ls.getD 7 false
        · rfl
        · have := (hg 7).2 (.inr hq); rw [h7] at this; cases this
      exact (h.m0 h4 h7').only ho (by rw [hfe]; simp)
  · rcases (hg i).1 hl with rfl | hl
    · by_cases hji : j = i
      · exact (hg j).2 (.inl hji)
      · exact (hg j).2 (.inr (hdep j hj hji))
    · exact (hg j).2 (.inr (h.clo i hl j hj))
set_option maxHeartbeats 4000000 in
theorem explore_none (cs : List Value) (x : Puzzle) (fp : List Nat) (w : World) (h : Rp.rep w cs x fp) (he : expl x = none) :
    Calls Tryz.prog 89 #[.agg cs.toArray] w fun e w' => e = .returned (.tuple #[.pointer none, .bool false]) ∧ Only [] w w' := by
  have h0 := h
  obtain ⟨v2, rfl, p0, p1, h2⟩ := h
  clear p0 p1 h2
  have hin := expl_inR x
  rw [he] at hin
  have Hin := Lib.hid hin
  clear he hin
  obtain ⟨c, hc⟩ : ∃ c, c = (if validPz x = true then (cardG x : Int) else 0) := ⟨_, rfl⟩
  rw [← hc] at Hin
  have Hc := Lib.hid hc
  clear hc
  go_enter Tryz.func89, Tryz.ntmps89
  go_wp2_with (first
    | (go_at_call 109; (with_reducible refine (implStateCount_any [.int .i64 x.points, .string x.names, v2] x _ _ (Rp.keep h0 (by with_reducible repeat (first | exact Only.refl _ _ | assumption | refine Only.drewN ?_ _ | refine Only.drew ?_ | refine Only.alloc ?_ _ | refine Only.setCell ?_ (by intro hh; exfalso; simp at hh; try omega) _ | refine Only.trans ?_ (by assumption))))).mono ?_); rintro e w1 ⟨he, t1⟩; rw [← Hc.out] at he; subst he)
    | (go_at_call 41; (with_reducible refine (within_any c 1 3000 _).mono ?_); rintro e w1 ⟨he, rfl⟩; rw [Hin.out] at he; subst he)
    | fail "no arm")
  exact bodyPost_ret (v := .tuple #[.pointer none, .bool false]) (by simp [results, Tryz.results89, go_sem]) rfl ⟨rfl, (by with_reducible repeat (first | exact Only.refl _ _ | assumption | refine Only.drewN ?_ _ | refine Only.drew ?_ | refine Only.alloc ?_ _ | refine Only.setCell ?_ (by intro hh; exfalso; simp at hh; try omega) _ | refine Only.trans ?_ (by assumption)))⟩
end Go.Proofs.YtndcifpbbnebmaaGreat
