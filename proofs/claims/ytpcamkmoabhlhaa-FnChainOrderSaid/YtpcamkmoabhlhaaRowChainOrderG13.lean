/- Orbit sizes of both, hasAll, SameGroup of a group with itself, the order of permutations (law 36; laws 37, 39, 48). The laws' drawn tracked sets (laws 10, 11). The laws' drawn puzzles (laws 10, 11). The laws' own comparison of numbers: likeInts (laws 10, 11). The law on the order of a group (law 36): its walk. -/
import Derived.Test.YtpcamkmoabhlhaaRowChainOrderG12
import Derived.Test.YtpcamkmoabhlhaaRowChainOrderG8
import Derived.Test.YtpcamkmoabhlhaaRowChainOrderG10
import Derived.Deep.RegionHeld3
namespace Go.Proofs.Ytpcamkmoabhlhaa
open Go.RowKit
set_option maxRecDepth 10000

/-- the sizes of the orbits of a group's levels -/
noncomputable def orbS (n : Nat) (gens : List (List Int)) : List Int := (List.range n).map fun k => ((ordC n gens (n - k) / ordC n gens (n - (k + 1)) : Nat) : Int)
theorem orbS_eq {n : Nat} {gens : List (List Int)} {G : PM.Gens} {T : PM.Rows} (h : PM.Chain n gens G T) (hn : 0 < n) (hp : ∀ g ∈ gens, PM.PN n g) : orbL n T n = orbS n gens := by
  unfold orbL orbS
  apply List.map_congr_left
  intro k hk
  have hk' := List.mem_range.1 hk
  rw [← ordC_eq h hn hp (show n - k ≤ n by omega), ← ordC_eq h hn hp (show n - (k + 1) ≤ n by omega), ord_step (T := T) hk']
  have hpos := (PM.ordM_rng h.inv.wf (n - (k + 1)) (by omega)).1
  rw [Nat.mul_div_cancel _ (by omega)]
set_option maxHeartbeats 4000000 in
theorem implOrbitSizes_yes (n : Nat) (vg : Value) (gens : List (List Int)) (fpg : List Nat) (w : World) (hg : Rd w vg gens fpg) (hgs : gensB n gens = true) :
    Calls Try.prog 16 #[.int .i64 n, vg] w fun e w' => ∃ v, e = .returned v ∧ AccI w.heap.size 2 w' v (orbS n gens) ∧ Only [] w w' := by
  obtain ⟨⟨n1, n20⟩, hgl, hpn⟩ := gensB_iff.1 hgs
  have hpn' : ∀ g ∈ gens, PM.PN n g := by simpa using hpn
  have hn : 0 < n := by omega
  have hn20 : n ≤ 20 := by omega
  have Hgs := Lib.hid hgs
  have Hpn := Lib.hid hpn'
  clear hpn hpn' hgs
  obtain ⟨i0, hii, hz0, hz1, hz2⟩ := info_parts Try.info2
  obtain ⟨R, hR⟩ : ∃ R, R = orbS n gens := ⟨_, rfl⟩
  rw [← hR]
  have HR := Lib.hid hR
  clear hR
  go_enter Try.func16, Try.ntmps16
  go_wp2_with (first
    | (go_at_call 31; (with_reducible refine (implIsGens_rd n vg gens fpg w hg).mono ?_); rintro en w1 ⟨he, t1⟩; rw [Hgs.out] at he; subst he)
    | (go_at_call 32; (with_reducible refine (implNewChain_any n hn hn20 vg gens fpg w1 (Rp.keep hg t1) Hpn.out (by omega)).mono ?_); rintro en w4 ⟨L, gv, G, T, M, F, rfl, -, hoT, hC, hCh, t4⟩; have hct := hC.ct; rw [hoT] at hct; have HC := Lib.hid hC; have HCh := Lib.hid hCh; have HoT := Lib.hid hoT; clear hC hCh hoT)
    | fail "no arm")
  have k4 := t1.trans t4
  have z4 := k4.size
  have HRT : Hid (R = orbL n T n) := Lib.hid (by rw [HR.out]; exact (orbS_eq HCh.out hn Hpn.out).symm)
  clear HR
  go_loopw [5, 19] (fun o y wr => ∃ i : Nat, i ≤ n ∧ y = .int .i64 i ∧ AccI w4.heap.size 2 wr o (orbL n T i) ∧ Only [] w4 wr)
    (fun _ y _ => n - (intOf y).toNat)
  case atStart => exact ⟨0, Nat.zero_le _, rfl, AccI.nil _ _ _, Only.refl _ _⟩
  case round =>
    obtain ⟨W2, hnew⟩ : ∃ W, W = wr := ⟨_, rfl⟩
    subst hnew
    obtain ⟨i, hi, rfl, hA, hO⟩ := hrel
    have hsz := hO.size
    by_cases hlt : i < n
    · have hltI : (i : Int) < (n : Int) := by omega
      have hC2 := Lib.hid (HC.out.keep hO)
      have yr := hC2.out.row i hlt
      have hoc := orb_cnt n T i
      have hcl := PM.cntR_le n T i
      have hll : (orbL n T i).length + 1 ≤ 1073741824 := by rw [orbL_len]; omega
      have Hst := Lib.hid (orbL_succ n T i)
      obtain ⟨cn, hcn⟩ : ∃ cn, cn = PM.cntR n T i := ⟨_, rfl⟩
      rw [← hcn] at hoc hcl Hst
      have Hoc := Lib.hid hoc
      have HI := Lib.hid (show I64 ((cn : Nat) : Int) by unfold I64; omega)
      have HA := Lib.hid hA
      clear hoc hcn hA
      go_wp2_with (first
        | (go_at_call 40; (with_reducible refine (orbitOf_any W2 hC2.out i hlt).mono ?_); rintro e w5 ⟨v5, f5, rfl, A5, F5, t5⟩; have r5 := A5.rd (by decide))
        | (go_at_call 39; (with_reducible refine (lengthInt_rd v5 (orb n T i) _ w5 r5).mono ?_); rintro e w6 ⟨he, h6⟩; rw [Hoc.out] at he; subst he; rw [h6]; clear h6)
        | (at_builtin; refine wpList_pushI rfl _ _ 23 rfl w4.heap.size 2 i0 _ Try.underlying23 hii hz0 hz1 hz2 rfl W2 u5 (orbL n T i) rfl HA.out (t5.alloc _) hsz w5.heap.size 1 ((cn : Nat) : Int) rfl (lit1 w5 _ _ rfl) HI.out hll ?_; intro v7 w7 hA7 hO7 hP7 hN7; have k7 := hP7 w4 ((hO.trans t5).alloc _) (Nat.le_refl _))
        | fail "no arm")
      go_roundw
      case rel => exact ⟨i + 1, by omega, by go_num, by rw [Hst.out]; exact hA7, k7⟩
      case measure => simp [intOf]; omega
    · obtain rfl : i = n := by omega
      have hge : ¬ ((i : Int) < (i : Int)) := by omega
      rw [← HRT.out] at hA
      have HA := Lib.hid hA
      clear hA
      go_wp2
      go_ret
      exact ⟨u5, rfl, HA.out.low2 z4, k4.trans hO⟩
set_option maxHeartbeats 2000000 in
theorem specOrbitSizes_yes (n : Nat) (vg : Value) (gens : List (List Int)) (fpg : List Nat) (w : World) (hg : Rd w vg gens fpg) (hgs : gensB n gens = true) :
    Calls Try.prog 20 #[.int .i64 n, vg] w fun e w' => ∃ v, e = .returned v ∧ AccI w.heap.size 2 w' v (orbS n gens) ∧ Only [] w w' := by
  obtain ⟨⟨n1, n20⟩, hgl, hpn⟩ := gensB_iff.1 hgs
  have hpn' : ∀ g ∈ gens, PM.PN n g := by simpa using hpn
  have hn : 0 < n := by omega
  have hn20 : n ≤ 20 := by omega
  have Hgs := Lib.hid hgs
  have Hpn := Lib.hid hpn'
  clear hpn hpn' hgs
  go_enter Try.func20, Try.ntmps20
  go_wp2_with (first
    | (go_at_call 25; (with_reducible refine (specIsGens_rd n vg gens fpg w hg).mono ?_); rintro en w1 ⟨he, t1⟩; rw [Hgs.out] at he; subst he; have t1 := t1.only [])
    | (go_at_call 42; (with_reducible refine (buildChain_any n hn hn20 vg gens fpg w1 (Rp.keep hg t1) Hpn.out (by omega)).mono ?_); rintro en w3 ⟨L, gv, G, T, M, F, rfl, hoG, hoT, hC, hCh, t3⟩; have HC := Lib.hid hC; have HCh := Lib.hid hCh; have HoT := Lib.hid hoT; clear hC hCh hoT hoG)
    | (go_at_call 43; (with_reducible refine (orbitSizes_any w3 HC.out HoT.out).mono ?_); rintro en w4 ⟨v4, rfl, A4, t4⟩)
    | fail "no arm")
  go_ret
  exact ⟨v4, rfl, by rw [← orbS_eq HCh.out hn Hpn.out]; exact A4.low2 (t1.trans t3).size, (t1.trans t3).trans t4⟩
theorem implOrbitSizes_no (n : Int) (vg : Value) (gens : List (List Int)) (fpg : List Nat) (w : World) (hg : Rd w vg gens fpg) (hgs : gensB n gens = false) :
    Calls Try.prog 16 #[.int .i64 n, vg] w fun e w' => e = .returned (.slice none 0 0) ∧ Only [] w w' := by
  have Hgs := Lib.hid hgs
  clear hgs
  go_enter Try.func16, Try.ntmps16
  go_wp2_with (first
    | (go_at_call 31; (with_reducible refine (implIsGens_rd n vg gens fpg w hg).mono ?_); rintro en w1 ⟨he, t1⟩; rw [Hgs.out] at he; subst he)
    | fail "no arm")
  go_ret
  exact ⟨rfl, t1⟩
theorem specOrbitSizes_no (n : Int) (vg : Value) (gens : List (List Int)) (fpg : List Nat) (w : World) (hg : Rd w vg gens fpg) (hgs : gensB n gens = false) :
    Calls Try.prog 20 #[.int .i64 n, vg] w fun e w' => ∃ b, e = .returned (.slice (some ⟨b, 0, none⟩) 0 0) ∧ Only [] w w' := by
  have Hgs := Lib.hid hgs
  clear hgs
  go_enter Try.func20, Try.ntmps20
  go_wp2_with (first
    | (go_at_call 25; (with_reducible refine (specIsGens_rd n vg gens fpg w hg).mono ?_); rintro en w1 ⟨he, t1⟩; rw [Hgs.out] at he; subst he; have t1 := t1.only [])
    | fail "no arm")
  go_ret
  exact ⟨_, rfl, t1.alloc _⟩
set_option maxHeartbeats 4000000 in
theorem implHasAll_any (n : Nat) {B : Nat} {L : Lay} {gv : Nat → Value} {gens : List (List Int)} {G : PM.Gens} {T : PM.Rows} {M F : List Nat} (w : World) (hC : Ch 23 B w L gv n G T M F) (hCh : PM.Chain n gens G T) (hT : L.oT = 2) (hpn : ∀ g ∈ gens, PM.PN n g)
    (v : Value) (ls : List (List Int)) (fl : List Nat) (hv : Rd w v ls fl) (hls : ∀ p ∈ ls, PM.PN n p) :
    Calls Try.prog 46 #[.pointer (some ⟨L.g, 0, none⟩), v] w fun e w' => e = .returned (.bool (ls.all (memB n gens))) ∧ Only [] w w' := by
  have hn : 0 < n := hC.pos
  obtain ⟨A, C, ob, fps, rfl, -, hS⟩ := hv.open_
  have hb := hS.bound
  obtain ⟨R, hR⟩ : ∃ R, R = ls.all (memB n gens) := ⟨_, rfl⟩
  rw [← hR]
  have HR := Lib.hid hR
  have HC := Lib.hid hC
  have HCh := Lib.hid hCh
  have HT := Lib.hid hT
  have Hpn := Lib.hid hpn
  have Hls := Lib.hid hls
  clear hC hCh hT hpn hR hls
  go_enter Try.func46, Try.ntmps46
  go_wp2
  go_loopw [9] (fun y wr => ∃ i : Nat, i ≤ ls.length ∧ y = .int .i64 i ∧ Hid ((ls.take i).all (memB n gens) = true) ∧ Only [] w wr)
    (fun y _ => ls.length - (intOf y).toNat)
  case atStart => exact ⟨0, Nat.zero_le _, rfl, Lib.hid rfl, Only.refl _ _⟩
  case round =>
    obtain ⟨W2, hnew⟩ : ∃ W, W = wr := ⟨_, rfl⟩
    subst hnew
    obtain ⟨i, hi, rfl, hq, hO⟩ := hrel
    by_cases hlt : i < ls.length
    · have hltI : (i : Int) < (ls.length : Int) := by omega
      have hi0 : (0 : Int) ≤ (i : Int) := by omega
      obtain ⟨b, off, u, rfl, -, hc0, hu0⟩ := hS.atRow i hlt
      have hc := hO.cell (by simp) hc0
      have hpm := Hls.out ls[i] (List.getElem_mem hlt)
      obtain ⟨p, hp⟩ : ∃ p, p = ls[i] := ⟨_, rfl⟩
      have hmem : p ∈ ls := by rw [hp]; exact List.getElem_mem hlt
      have hsn := take_succ_get ls i hlt
      rw [← hp] at hpm hu0 hsn
      have Hmem := Lib.hid hmem
      have Hsn := Lib.hid hsn
      have Hpm := Lib.hid hpm
      have Hh := Lib.hid (implHas0 (HC.out.keep hO) HCh.out.inv.wf HT.out (Rp.keep hu0 hO) hpm)
      rw [memB_has HCh.out hn Hpn.out hpm] at Hh
      clear hp hpm hu0 hsn hc0 hmem
      rcases hm : memB n gens p
      · have Hm := Lib.hid hm
        clear hm
        go_wp2_with (first
          | (go_at_call 71; (with_reducible refine (Hh.out).mono ?_); rintro e w5 ⟨he, t5⟩; rw [Hm.out] at he; subst he)
          | fail "no arm")
        go_ret
        refine ⟨ret_bool ?_, hO.trans t5⟩
        rw [HR.out]
        rw [eq_comm, Bool.eq_false_iff]
        intro h
        have := List.all_eq_true.1 h p Hmem.out
        rw [Hm.out] at this
        cases this
      · have Hm := Lib.hid hm
        clear hm
        go_wp2_with (first
          | (go_at_call 71; (with_reducible refine (Hh.out).mono ?_); rintro e w5 ⟨he, t5⟩; rw [Hm.out] at he; subst he)
          | fail "no arm")
        go_roundw
        case rel => exact ⟨i + 1, by omega, by go_num, Lib.hid (by rw [Hsn.out, List.all_append, hq.out]; simp [Hm.out]), hO.trans t5⟩
        case measure => simp [intOf]; omega
    · obtain rfl : i = ls.length := by omega
      have hge : ¬ ((ls.length : Int) < (ls.length : Int)) := by omega
      have hfin := hq.out
      rw [List.take_length, ← HR.out] at hfin
      have Hfin := Lib.hid hfin
      clear hfin hq
      go_wp2
      go_ret
      exact ⟨ret_bool Hfin.out.symm, hO⟩
theorem gens_all {n : Nat} {gens : List (List Int)} (hp : ∀ g ∈ gens, PM.PN n g) : gens.all (memB n gens) = true := by
  rw [List.all_eq_true]
  intro g hg
  unfold memB
  exact @decide_eq_true _ (Classical.propDecidable _) (PM.Grp.gen hp hg)
set_option maxHeartbeats 4000000 in
theorem implSameGroup_self (n : Nat) (vg : Value) (gens : List (List Int)) (fpg : List Nat) (w : World) (hg : Rd w vg gens fpg) (hgs : gensB n gens = true) :
    Calls Try.prog 23 #[.int .i64 n, vg, vg] w fun e w' => e = .returned (.bool true) ∧ Only [] w w' := by
  obtain ⟨⟨n1, n20⟩, hgl, hpn⟩ := gensB_iff.1 hgs
  have hpn' : ∀ g ∈ gens, PM.PN n g := by simpa using hpn
  have hn : 0 < n := by omega
  have hn20 : n ≤ 20 := by omega
  have Hgs := Lib.hid hgs
  have Hpn := Lib.hid hpn'
  have Hga := Lib.hid (gens_all hpn')
  clear hpn hpn' hgs
  go_enter Try.func23, Try.ntmps23
  go_wp2_with (first
    | (go_at_call 31; (with_reducible refine (implIsGens_rd n vg gens fpg w hg).mono ?_); rintro e w1 ⟨he, t1⟩; rw [Hgs.out] at he; subst he)
    | (go_at_call 31; (with_reducible refine (implIsGens_rd n vg gens fpg w1 (Rp.keep hg t1)).mono ?_); rintro e w2 ⟨he, t2⟩; rw [Hgs.out] at he; subst he; have k2 := t1.trans t2)
    | (go_at_call 32; (with_reducible refine (implNewChain_any n hn hn20 vg gens fpg w2 (Rp.keep hg k2) Hpn.out (by omega)).mono ?_); rintro en w3 ⟨L, gv, G, T, M, F, rfl, -, hoT, hC, hCh, t3⟩; have HC := Lib.hid hC; have HCh := Lib.hid hCh; have HoT := Lib.hid hoT; clear hC hCh hoT; have k3 := k2.trans t3)
    | (go_at_call 32; (with_reducible refine (implNewChain_any n hn hn20 vg gens fpg w3 (Rp.keep hg k3) Hpn.out (by omega)).mono ?_); rintro en w4 ⟨L', gv', G', T', M', F', rfl, -, hoT, hC, hCh, t4⟩; have HC' := Lib.hid hC; have HCh' := Lib.hid hCh; have HoT' := Lib.hid hoT; clear hC hCh hoT; have k4 := k3.trans t4; have HO := Lib.hid (implOrder0 (HC.out.keep t4) HCh.out.inv.wf HoT.out); rw [ordC_eq HCh.out hn Hpn.out (Nat.le_refl _)] at HO; have HO' := Lib.hid (fun (W : World) (hW : Only [] w4 W) => implOrder0 (HC'.out.keep hW) HCh'.out.inv.wf HoT'.out); rw [ordC_eq HCh'.out hn Hpn.out (Nat.le_refl _)] at HO')
    | (go_at_call 38; (with_reducible refine (HO.out).mono ?_); rintro en w5 ⟨rfl, t5⟩)
    | (go_at_call 38; (with_reducible refine (HO'.out w5 t5).mono ?_); rintro en w6 ⟨rfl, t6⟩; have t46 := t5.trans t6)
    | (go_at_call 46; (with_reducible refine (implHasAll_any n w6 (HC.out.keep (t4.trans t46)) HCh.out HoT.out Hpn.out vg gens fpg (Rp.keep hg (k4.trans t46)) Hpn.out).mono ?_); rintro en w7 ⟨he, t7⟩; rw [Hga.out] at he; subst he)
    | fail "no arm")
  go_ret
  exact ⟨rfl, (k4.trans t46).trans t7⟩
set_option maxHeartbeats 1000000 in
theorem precedes_rd (v u : Value) (l p : List Int) (f g : List Nat) (w : World) (h : Rd w v l f) (h' : Rd w u p g) (hl : l.length = p.length) :
    Calls Try.prog 45 #[v, u] w fun e w' => e = .returned (.bool (prec l p)) ∧ Drew w w' := by
  obtain ⟨a, cap, rfl, IL⟩ := h.ints
  obtain ⟨a', cap', rfl, IP⟩ := h'.ints
  have hb := IL.bound
  have hb' := IP.bound
  have Hl := Lib.hid hl
  clear hl
  go_enter Try.func45, Try.ntmps45
  go_wp2
  go_loopw [5] (fun i wr => ∃ j : Nat, j ≤ l.length ∧ i = .int .i64 j ∧ (∀ i, i < j → l[i]? = p[i]?) ∧ Drew w wr)
    (fun i _ => l.length - (intOf i).toNat)
  case atStart => exact ⟨0, Nat.zero_le _, rfl, by simp, Drew.refl _⟩
  case round =>
    obtain ⟨j, hj, rfl, hr, n, rfl⟩ := hrel
    have Hr := Lib.hid hr
    clear hr
    by_cases hlt : j < l.length
    · have hlt' : j < p.length := by have := Hl.out; omega
      obtain ⟨b, off, rfl, -, hc⟩ := IL.at_ j hlt
      obtain ⟨b', off', rfl, -, hc'⟩ := IP.at_ j hlt'
      rcases hq : (l[j] != p[j])
      · have heq : l[j] = p[j] := by simpa using hq
        have Heq := Lib.hid heq
        clear heq
        go_wp2
        go_quiet (fail)
        go_wp2
        go_roundw
        case rel => exact ⟨j + 1, by omega, by go_num, fun i hi => by
          rcases Nat.lt_or_eq_of_le (Nat.lt_succ_iff.1 hi) with h1 | rfl
          · exact Hr.out i h1
          · rw [List.getElem?_eq_getElem hlt, List.getElem?_eq_getElem hlt', Heq.out], ⟨_, rfl⟩⟩
        case measure => simp [intOf]; omega
      · have hne : l[j] ≠ p[j] := by simpa using hq
        have Hne := Lib.hid hne
        clear hne
        go_wp2
        go_quiet (fail)
        go_wp2
        go_quiet (fail)
        go_wp2
        go_ret
        exact ⟨ret_bool (prec_at Hr.out hlt hlt' Hne.out).symm, (((Drew.refl _).drewN _).drewN _).drewN _⟩
    · obtain rfl : j = l.length := by omega
      go_wp2
      go_ret
      exact ⟨ret_bool (prec_all Hr.out Hl.out).symm, ⟨_, rfl⟩⟩
theorem lex_prec {n : Nat} {p q : List Int} (hp : p.length = n) (hq : q.length = n) (h : PM.Lex n p q) : prec p q = true := by
  obtain ⟨i, hi, ha, hlt⟩ := h
  have e1 := PM.at_nat p i (by omega)
  have e2 := PM.at_nat q i (by omega)
  rw [e1, e2] at hlt
  rw [prec_at (j := i) (fun k hk => ?_) (by omega) (by omega) (by omega)]
  · exact decide_eq_true hlt
  · have h1 := ha (k : Int) (by omega) (by omega)
    rw [PM.at_nat p k (by omega), PM.at_nat q k (by omega)] at h1
    rw [List.getElem?_eq_getElem (by omega), List.getElem?_eq_getElem (by omega), h1]
set_option maxHeartbeats 1000000 in
theorem sameDeg_yes (vp vq : Value) (p q : List Int) (fp fq : List Nat) (w : World) (hp : Rd w vp p fp) (hq : Rd w vq q fq) (pp : permB p = true) (pq : permB q = true) (hl : p.length = q.length) :
    Calls Try.prog 44 #[vp, vq] w fun e w' => e = .returned (.bool true) ∧ Only [] w w' := by
  obtain ⟨A1, C1, rfl, I1⟩ := hp.ints
  obtain ⟨A2, C2, rfl, I2⟩ := hq.ints
  have Pp := Lib.hid pp
  have Pq := Lib.hid pq
  have hcmp : ((p.length : Int) == (q.length : Int)) = true := by rw [hl]; simp
  clear pp pq hl
  go_enter Try.func44, Try.ntmps44
  go_wp2_with (first
    | (go_at_call 49; (with_reducible refine (specIsPerm_rd _ p _ _ hp).mono ?_); rintro e w1 ⟨he, n1, rfl⟩; rw [Pp.out] at he; subst he)
    | (go_at_call 49; (with_reducible refine (specIsPerm_rd _ q _ _ (Rp.keep hq (Only.ofDrewN _ _ _))).mono ?_); rintro e w2 ⟨he, n2, rfl⟩; rw [Pq.out] at he; subst he)
    | fail "no arm")
  go_ret
  exact ⟨rfl, (by with_reducible repeat (first | exact Only.refl _ _ | assumption | refine Only.drewN ?_ _ | refine Only.drew ?_ | refine Only.alloc ?_ _ | refine Only.setCell ?_ (by intro hh; exfalso; simp at hh; try omega) _ | refine Only.trans ?_ (by assumption)))⟩
set_option maxHeartbeats 1000000 in
theorem permLess_yes (n : Nat) (vp vq : Value) (p q : List Int) (fp fq : List Nat) (w : World) (hp : Rd w vp p fp) (hq : Rd w vq q fq) (pp : PM.PN n p) (pq : PM.PN n q) (hn : 1 ≤ n ∧ n ≤ 20) (hlex : PM.Lex n p q) :
    Calls Try.prog 22 #[vp, vq] w fun e w' => e = .returned (.bool true) ∧ Only [] w w' := by
  have Hl := Lib.hid (show p.length = q.length by rw [pp.1, pq.1])
  have Hp := Lib.hid (permB_iff.2 ⟨by rw [pp.1]; exact hn, pp.2⟩)
  have Hq := Lib.hid (permB_iff.2 ⟨by rw [pq.1]; exact hn, pq.2⟩)
  have Hpr := Lib.hid (lex_prec pp.1 pq.1 hlex)
  clear pp pq hlex
  go_enter Try.func22, Try.ntmps22
  go_wp2_with (first
    | (go_at_call 44; (with_reducible refine (sameDeg_yes vp vq p q _ _ _ hp hq Hp.out Hq.out Hl.out).mono ?_); rintro e w1 ⟨rfl, t1⟩)
    | (go_at_call 45; (with_reducible refine (precedes_rd vp vq p q _ _ w1 (Rp.keep hp t1) (Rp.keep hq t1) Hl.out).mono ?_); rintro e w2 ⟨he, t2⟩; rw [Hpr.out] at he; subst he; have t2 := t2.only [])
    | fail "no arm")
  go_ret
  exact ⟨rfl, t1.trans t2⟩
end Go.Proofs.Ytpcamkmoabhlhaa

namespace Go.Proofs.Ytpcamkmoabhlhaa
open Go.RowKit
set_option maxRecDepth 10000
end Go.Proofs.Ytpcamkmoabhlhaa

namespace Go.Proofs.Ytpcamkmoabhlhaa
open Go.RowKit
set_option maxRecDepth 10000
end Go.Proofs.Ytpcamkmoabhlhaa

namespace Go.Proofs.Ytpcamkmoabhlhaa
open Go.RowKit
set_option maxRecDepth 10000

set_option maxHeartbeats 400000 in
theorem likeInts_any (a a' : Option Addr) (cap cap' : Nat) (l l' : List Int) (fp fp' : List Nat) (w : World) (h : IntsA w a cap l fp) (h' : IntsA w a' cap' l' fp') :
    Calls Try.prog 19 #[.slice a l.length cap, .slice a' l'.length cap'] w fun e w' => e = .returned (.bool (eqV l l')) ∧ Drew w w' := by
  have hb := h.bound
  have hb' := h'.bound
  by_cases hl : l.length = l'.length
  · have hne : ((l.length : Int) != (l'.length : Int)) = false := by simp [hl]
    have Hl := Lib.hid hl; clear hl
    go_enter Try.func19, Try.ntmps19
    go_wp2
    go_loopw [5] (fun i wr => ∃ j : Nat, j ≤ l.length ∧ i = .int .i64 j ∧ l.take j = l'.take j ∧ Drew w wr)
      (fun i _ => l.length - (intOf i).toNat)
    case atStart => exact ⟨0, Nat.zero_le _, rfl, rfl, Drew.refl _⟩
    case round =>
      obtain ⟨j, hj, rfl, hr, n, rfl⟩ := hrel
      have Hr := Lib.hid hr; clear hr
      by_cases hlt : j < l.length
      · have hlt' : j < l'.length := by have := Hl.out; omega
        obtain ⟨b, off, ha, -, hc⟩ := h.at_ j hlt
        obtain ⟨b', off', ha', -, hc'⟩ := h'.at_ j hlt'
        go_wp2
        go_quiet (fail)
        go_wp2
        · have hne : (l[j] != l'[j]) = true := by assumption
          go_ret
          exact ⟨ret_bool (eqInts_no hlt hlt' hne).symm, ((Drew.refl _).drewN _).drewN _⟩
        · have heq : (l[j] != l'[j]) = false := by assumption
          go_roundw
          case rel => exact ⟨j + 1, by omega, by go_num, eqInts_step hlt hlt' heq Hr.out, ⟨_, rfl⟩⟩
          case measure => simp [intOf]; omega
      · go_wp2
        go_ret
        exact ⟨ret_bool (eqL_yes Hl.out hlt Hr.out).symm, (Drew.refl _).drewN n⟩
  · have hne : ((l.length : Int) != (l'.length : Int)) = true := by simp; omega
    go_enter Try.func19, Try.ntmps19
    go_wp2
    go_ret
    exact ⟨ret_bool (eqL_len hne).symm, Drew.refl _⟩

end Go.Proofs.Ytpcamkmoabhlhaa

namespace Go.Proofs.Ytpcamkmoabhlhaa
open Go.RowKit
set_option maxRecDepth 10000

/-- drawn: a degree, generators -/
def DG2 (w : World) (s0 s1 : Value) (wx : World) : Prop :=
  ∃ (n : Int) (gs : List (List Int)) (fp : List Nat), s0 = .int .i64 n ∧ I64 n ∧ Rd wx s1 gs fp ∧ Fresh w.heap.size wx fp ∧ gs.length ≤ 9 ∧ (∀ y : List Int, y ∈ gs → y.length ≤ 30) ∧ Only [] w wx
set_option maxHeartbeats 2000000 in
theorem drawMembers_any (v : Value) (l : List UInt8) (fc : List Nat) (w : World) (h : Rd w v l fc) (hl : l.length ≤ 4096) :
    Calls Try.prog 14 #[v] w fun e w' => ∃ s0 s1, e = .returned (.tuple #[s0, s1]) ∧ DG2 w s0 s1 w' := by
  go_enter Try.func14, Try.ntmps14
  go_wp2_with (first
    | (go_at_call 36; (with_reducible refine (newSource_any v l fc w h hl).mono ?_); rintro e w1 ⟨g, rfl, D1, hg, t1⟩)
    | (go_at_call 37; (with_reducible refine (drawGroup_any g fc l w1 D1 hl).mono ?_); rintro e w2 ⟨s4, s5, rfl, n, gs, fp, rfl, hn, r2, F2, l9, l30, D2, K2⟩; obtain ⟨a2, c2, ob2, fps2, rfl, -, -⟩ := id r2.open_)
    | fail "no arm")
  exact bodyPost_ret (v := .tuple #[.int .i64 n, .slice a2 gs.length c2]) (by simp [results, Try.results14, go_sem]) rfl ⟨_, _, rfl, n, gs, fp, rfl, hn, r2, F2.mono t1.size, l9, l30, ((t1.weaken [g]).trans K2).mono fun b hb hl => by simp at hb; omega⟩
theorem allMem_lex {n : Nat} {gens : List (List Int)} {G : PM.Gens} {T : PM.Rows} (h : PM.Chain n gens G T) (hn : 0 < n) (hp : ∀ g ∈ gens, PM.PN n g) : (allMem n gens).Pairwise (PM.Lex n) := by
  rw [← lv_allMem h hn hp]
  exact PM.lvA_lex h.inv.wf
theorem lsM_lex {n : Nat} {gens : List (List Int)} {G : PM.Gens} {T : PM.Rows} (h : PM.Chain n gens G T) (hn : 0 < n) (hp : ∀ g ∈ gens, PM.PN n g) : ∀ i (hi : i + 1 < (lsM n gens).length), PM.Lex n ((lsM n gens)[i]'(by omega)) (lsM n gens)[i + 1] := by
  have hl : (lsM n gens).Pairwise (PM.Lex n) := by
    unfold lsM
    by_cases hg : 3000 < ordC n gens n
    · rw [if_pos hg]; exact List.Pairwise.nil
    · rw [if_neg hg]; exact allMem_lex h hn hp
  intro i hi
  exact List.pairwise_iff_getElem.1 hl i (i + 1) (by omega) hi (by omega)
theorem lsMpn {n : Nat} {gens : List (List Int)} (hn : 0 < n) (hp : ∀ g ∈ gens, PM.PN n g) {G : PM.Gens} {T : PM.Rows} (h : PM.Chain n gens G T) : ∀ m ∈ lsM n gens, PM.PN n m := by
  intro m hm
  unfold lsM at hm
  by_cases hg : 3000 < ordC n gens n
  · rw [if_pos hg] at hm; cases hm
  · rw [if_neg hg] at hm
    exact (allMem_grp h hn hp m hm).pn hp
/-- the product of the first orbit sizes -/
theorem orbS_step {n : Nat} {gens : List (List Int)} {G : PM.Gens} {T : PM.Rows} (h : PM.Chain n gens G T) (hn : 0 < n) (hp : ∀ g ∈ gens, PM.PN n g) {j : Nat} (hj : j < n) :
    ∃ c : Nat, (orbS n gens)[j]? = some (c : Int) ∧ c * ordC n gens (n - (j + 1)) = ordC n gens (n - j) ∧ 1 ≤ c := by
  refine ⟨PM.cntR n T j, ?_, ?_, PM.cntR_pos h.inv.wf hj⟩
  · rw [← orbS_eq h hn hp, List.getElem?_eq_getElem (by rw [orbL_len]; exact hj), orbL_get]
  · rw [← ordC_eq h hn hp (show n - j ≤ n by omega), ← ordC_eq h hn hp (show n - (j + 1) ≤ n by omega), ord_step (T := T) hj]
theorem likeNil (b : Nat) (w : World) : Calls Try.prog 19 #[.slice none 0 0, .slice (some ⟨b, 0, none⟩) 0 0] w fun e w' => e = .returned (.bool true) ∧ Drew w w' := by
  obtain ⟨a', c', e', I⟩ := (nil_rd (α := Int) w).ints
  injection e' with e1 _ e2
  subst e1
  subst e2
  have h := likeInts_any none (some ⟨b, 0, none⟩) 0 0 [] [] _ _ w I (IntsA.nil w (some ⟨b, 0, none⟩) (by simp [maxLen]))
  refine h.mono ?_
  rintro e w' ⟨h1, h2⟩
  exact ⟨by rw [h1]; simp [eqV], h2⟩
theorem orbS_len (n : Nat) (gens : List (List Int)) : (orbS n gens).length = n := by unfold orbS; simp
set_option maxHeartbeats 8000000 in
theorem FnChainOrder_any (w : World) (v : Value) (l : List UInt8) (fc : List Nat) (h : Rd w v l fc) :
    Calls Try.prog 4 #[v] w fun e w' => e = .returned (.bool true) ∧ Only [] w w' := by
  by_cases hb : 4096 < l.length
  · have hd : decide (4096 < l.length) = true := by simp [hb]
    go_enter Try.func4, Try.ntmps4
    go_wp2_with ((go_at_call 13; (with_reducible refine (big_any v l fc _ h).mono ?_); rintro e w1 ⟨he, t1⟩; rw [hd] at he; subst he))
    go_ret
    exact ⟨rfl, (by with_reducible repeat (first | exact Only.refl _ _ | assumption | refine Only.drewN ?_ _ | refine Only.drew ?_ | refine Only.alloc ?_ _ | refine Only.setCell ?_ (by intro hh; exfalso; simp at hh; try omega) _ | refine Only.trans ?_ (by assumption)))⟩
  have hd : decide (4096 < l.length) = false := by simp [hb]
  have hl : l.length ≤ 4096 := by omega
  go_enter Try.func4, Try.ntmps4
  go_upto_region 4 with (first
    | (go_at_call 13; (with_reducible refine (big_any v l fc _ h).mono ?_); rintro e w1 ⟨he, t1⟩; rw [hd] at he; subst he; have k1 : Only [] w w1 := (by with_reducible repeat (first | exact Only.refl _ _ | assumption | refine Only.drewN ?_ _ | refine Only.drew ?_ | refine Only.alloc ?_ _ | refine Only.setCell ?_ (by intro hh; exfalso; simp at hh; try omega) _ | refine Only.trans ?_ (by assumption))))
    | (go_at_call 14; (with_reducible refine (drawMembers_any v l fc w1 (Rp.keep h k1) hl).mono ?_); rintro e w2 ⟨s0, s1, rfl, n, gs, fp, rfl, hn, rM, FM, l9, l30, t2⟩; obtain ⟨a2, c2, ob2, fps2, rfl, -, -⟩ := id rM.open_)
    | fail "no arm")
  have kW : Only [] w w2 := k1.trans t2
  clear k1 t1 t2 hb hd FM l9 l30
  rcases hgs : gensB n gs
  · have Hgs := Lib.hid hgs
    clear hgs
    go_wp2_with (first
      | (go_at_call 15; (with_reducible refine (implGroupOrder_no n _ gs fp w2 rM Hgs.out).mono ?_); rintro e w3 ⟨rfl, t3⟩)
      | (go_at_call 16; (with_reducible refine (implOrbitSizes_no n _ gs fp w3 (Rp.keep rM t3) Hgs.out).mono ?_); rintro e w4 ⟨rfl, t4⟩; have k4 := t3.trans t4)
      | (go_at_call 17; (with_reducible refine (implMembers_no n _ gs fp w4 (Rp.keep rM k4) Hgs.out).mono ?_); rintro e w5 ⟨rfl, t5⟩; have k5 := k4.trans t5)
      | (go_at_call 18; (with_reducible refine (specGroupOrder_no n _ gs fp w5 (Rp.keep rM k5) Hgs.out).mono ?_); rintro e w6 ⟨rfl, t6⟩; have k6 := k5.trans t6)
      | (go_at_call 20; (with_reducible refine (specOrbitSizes_no n _ gs fp w6 (Rp.keep rM k6) Hgs.out).mono ?_); rintro e w7 ⟨b7, rfl, t7⟩; have k7 := k6.trans t7)
      | (go_at_call 19; (with_reducible refine (likeNil b7 w7).mono ?_); rintro e w8 ⟨rfl, n8, rfl⟩; have k8 : Only [] w2 (w7.drewN n8) := k7.drewN _)
      | (go_at_call 21; (with_reducible refine (specMembers_no n _ gs fp _ (Rp.keep rM k8) Hgs.out).mono ?_); rintro e w9 ⟨b9, rfl, t9⟩; have k9 := k8.trans t9)
      | fail "no arm")
    go_ret
    exact ⟨rfl, kW.trans k9⟩
  · obtain ⟨⟨n1, n20⟩, hgl, hpn⟩ := gensB_iff.1 hgs
    obtain ⟨m, rfl⟩ := Int.eq_ofNat_of_zero_le (show 0 ≤ n by omega)
    have hpn' : ∀ g ∈ gs, PM.PN m g := by simpa using hpn
    have hm0 : 0 < m := by omega
    have hm20 : m ≤ 20 := by omega
    obtain ⟨G, T, hCh⟩ := rank_chain m _ gs fp w2 rM hgs
    have hle := ordC_le hCh hm0 hpn' hm20 (Nat.le_refl _)
    have hpo := ordC_pos hCh hm0 hpn' (Nat.le_refl m)
    have Hstep := Lib.hid (fun (j : Nat) (hj : j < m) => orbS_step hCh hm0 hpn' hj)
    have Hlej := Lib.hid (fun (j : Nat) (hj : j ≤ m) => ordC_le hCh hm0 hpn' hm20 hj)
    have Hpoj := Lib.hid (fun (j : Nat) (hj : j ≤ m) => ordC_pos hCh hm0 hpn' hj)
    have hpm := lsMpn hm0 hpn' hCh
    have hlex := lsM_lex hCh hm0 hpn'
    have hlsl : (lsM m gs).length = if 3000 < ordC m gs m then 0 else ordC m gs m := by
      unfold lsM
      by_cases hgt : 3000 < ordC m gs m
      · rw [if_pos hgt, if_pos hgt]; rfl
      · rw [if_neg hgt, if_neg hgt, allMem_len]
    have hoG : ordG (m : Int) gs = ordC m gs m := by unfold ordG; rw [if_pos hgs]; rfl
    have HcI := Lib.hid (fun (W : World) (hW : Rd W (.slice a2 gs.length c2) gs fp) => implMembers_yes m _ gs fp W hW hgs)
    have HcS := Lib.hid (fun (W : World) (hW : Rd W (.slice a2 gs.length c2) gs fp) => specMembers_yes m _ gs fp W hW hgs)
    have HcO := Lib.hid (fun (W : World) (hW : Rd W (.slice a2 gs.length c2) gs fp) => implGroupOrder_yes m _ gs fp W hW hgs)
    have HcP := Lib.hid (fun (W : World) (hW : Rd W (.slice a2 gs.length c2) gs fp) => specGroupOrder_any (m : Int) _ gs fp W hW)
    have HcQ := Lib.hid (fun (W : World) (hW : Rd W (.slice a2 gs.length c2) gs fp) => implOrbitSizes_yes m _ gs fp W hW hgs)
    have HcR := Lib.hid (fun (W : World) (hW : Rd W (.slice a2 gs.length c2) gs fp) => specOrbitSizes_yes m _ gs fp W hW hgs)
    rw [hoG] at HcP
    have Hgs := Lib.hid hgs
    obtain ⟨LS, hLS⟩ : ∃ LS, LS = lsM m gs := ⟨_, rfl⟩
    have hosl := orbS_len m gs
    obtain ⟨OS, hOS⟩ : ∃ OS, OS = orbS m gs := ⟨_, rfl⟩
    obtain ⟨od, hod⟩ : ∃ od, od = ordC m gs m := ⟨_, rfl⟩
    rw [← hLS] at hpm hlsl HcI HcS
    have hlex' : ∀ i (hi : i + 1 < LS.length), PM.Lex m (LS[i]'(Nat.lt_of_succ_lt hi)) LS[i + 1] := by
      subst hLS
      exact hlex
    rw [← hOS] at HcQ HcR hosl Hstep
    rw [← hod] at hle hpo hlsl HcO HcP
    have Hosl := Lib.hid hosl
    have Hpm := Lib.hid hpm
    have Hlex := Lib.hid hlex'
    have Hlsl := Lib.hid hlsl
    have Hod := Lib.hid hod
    have HeV := Lib.hid (show eqV OS OS = true from by unfold eqV; simp)
    have hod0 : ((od : Int) == 0) = false := by
      have : (od : Int) ≠ 0 := by omega
      simpa using this
    clear hgs hgl hpn hpn' hCh hLS hOS hod hpm hlex hlex' hlsl hoG hosl
    go_wp2_with (first
      | (go_at_call 15; (with_reducible refine (HcO.out w2 rM).mono ?_); rintro e w3 ⟨rfl, t3⟩)
      | (go_at_call 16; (with_reducible refine (HcQ.out w3 (Rp.keep rM t3)).mono ?_); rintro e w4 ⟨v4, rfl, A4, t4⟩; have k4 := t3.trans t4; obtain ⟨a4, c4, rfl, I4⟩ := A4.rd.ints)
      | (go_at_call 17; (with_reducible refine (HcI.out w4 (Rp.keep rM k4)).mono ?_); rintro e w5 ⟨v5, f5, rfl, r5, F5, t5⟩; have k5 := k4.trans t5; have I45 := I4.keep t5; obtain ⟨a5, c5, ob5, fps5, rfl, -, S5⟩ := r5.open_)
      | (go_at_call 18; (with_reducible refine (HcP.out w5 (Rp.keep rM k5)).mono ?_); rintro e w6 ⟨rfl, -, -, t6⟩; have k6 := k5.trans t6; have I46 := I45.keep t6; have S6 := S5.frame (fun b hb => t6.block b (S5.lt_all b hb) (by simp)))
      | (go_at_call 20; (with_reducible refine (HcR.out w6 (Rp.keep rM k6)).mono ?_); rintro e w7 ⟨v7, rfl, A7, t7⟩; have k7 := k6.trans t7; have I47 := I46.keep t7; obtain ⟨a7, c7, rfl, I7⟩ := A7.rd.ints)
      | (go_at_call 19; (with_reducible refine (likeInts_any a4 a7 c4 c7 OS OS _ _ w7 I47 I7).mono ?_); rintro e w8 ⟨he, n8, rfl⟩; rw [HeV.out] at he; subst he; have k8 : Only [] w2 (w7.drewN n8) := k7.drewN _; have k68 : Only [] w6 (w7.drewN n8) := t7.drewN _)
      | (go_at_call 21; (with_reducible refine (HcS.out _ (Rp.keep rM k8)).mono ?_); rintro e w9 ⟨v9, f9, rfl, r9, F9, t9⟩; have k9 := k8.trans t9; have k69 := k68.trans t9; obtain ⟨a9, c9, ob9, fps9, rfl, -, S9⟩ := r9.open_)
      | fail "no arm")
    have kG : Only [] w2 w6 := k6
    have hbS := S6.bound
    have hbI := I46.bound
    have k6' : Only [] w6 w9 := k69
    clear I4 I45 I47 S5 S9 k4 k5 k6 k7 k8 k9 k68 k69 t3 t4 t5 t6 t7 A4 A7 r5 r9 I7 F5 F9
    go_loopw [8, 9] (fun pr y wr => ∃ (j q : Nat), j ≤ m ∧ y = .int .i64 j ∧ pr = .int .i64 q ∧ Hid (q * ordC m gs (m - j) = od) ∧ Only [] w6 wr)
      (fun _ y _ => m - (intOf y).toNat)
    case atStart => exact ⟨0, 1, Nat.zero_le _, rfl, rfl, Lib.hid (by rw [Nat.one_mul, Nat.sub_zero]; exact Hod.out.symm), k6'⟩
    case round =>
      obtain ⟨W2, hnew⟩ : ∃ W, W = wr := ⟨_, rfl⟩
      subst hnew
      clear k6'
      obtain ⟨j, q, hj, rfl, rfl, hq, hO⟩ := hrel
      by_cases hlt : j < m
      · have hltI : (j : Int) < (OS.length : Int) := by rw [Hosl.out]; omega
        have hj0 : (0 : Int) ≤ (j : Int) := by omega
        obtain ⟨c, hc1, hc2, hc3⟩ := Hstep.out j hlt
        obtain ⟨b, off, rfl, -, hcc⟩ := I46.at_ j (by rw [Hosl.out]; exact hlt)
        rw [List.getElem?_eq_getElem (by rw [Hosl.out]; exact hlt)] at hc1
        injection hc1 with hc1
        rw [hc1] at hcc
        have cc := hO.cell (by simp) hcc
        have hp2 := Hpoj.out (m - (j + 1)) (by omega)
        have hq2 : (q * c) * ordC m gs (m - (j + 1)) = od := by rw [Nat.mul_assoc, hc2]; exact hq.out
        have hqc : q * c ≤ od := by
          have := Nat.le_mul_of_pos_right (q * c) hp2
          omega
        have Hq2 := Lib.hid hq2
        have hwr : IntKind.i64.wrap ((q : Int) * (c : Int)) = ((q * c : Nat) : Int) := by rw [IntKind.wrap_i64]; push_cast; push_cast at hqc; omega
        clear hc1 hc2 hcc hq2 hq hp2
        go_wp2
        go_roundw
        case rel => exact ⟨j + 1, q * c, by omega, by go_num, rfl, Hq2, hO⟩
        case measure => simp [intOf]; omega
      · obtain rfl : j = m := by omega
        have hge : ¬ ((j : Int) < (OS.length : Int)) := by rw [Hosl.out]; omega
        have hq1 : q = od := by
          have := hq.out
          rw [Nat.sub_self] at this
          have e1 : ordC j gs 0 = 1 := rfl
          rw [e1, Nat.mul_one] at this
          exact this
        subst hq1
        have hls := Hlsl.out
        have k6 : Only [] w6 W2 := hO
        clear hq hO
        by_cases h3 : q ≤ 3000
        · rw [if_neg (by omega)] at hls
          have q1 : (LS.length : Int) ≤ (q : Int) := by omega
          have q2 : (q : Int) ≤ (LS.length : Int) := by omega
          have q3 : (q : Int) ≤ 3000 := by omega
          have hl3 : LS.length ≤ 3000 := by omega
          clear hls
          go_wp2
          go_loopw [10] (fun y wr => ∃ i : Nat, (i = 0 ∨ i < LS.length) ∧ y = .int .i64 i ∧ Only [] w6 wr)
            (fun y _ => LS.length - (intOf y).toNat)
          case atStart => exact ⟨0, Or.inl rfl, rfl, k6⟩
          case round =>
            obtain ⟨W2, hnew⟩ : ∃ W, W = wr := ⟨_, rfl⟩
            subst hnew
            obtain ⟨i, hi, rfl, hO⟩ := hrel
            have hi3 : i ≤ 3000 := by omega
            have hw1 : IntKind.i64.wrap ((i : Int) + 1) = (i : Int) + 1 := by rw [IntKind.wrap_i64]; omega
            by_cases hlt : i + 1 < LS.length
            · have hltI : (i : Int) + 1 < (LS.length : Int) := by omega
              have hlt0 : (i : Int) < (LS.length : Int) := by omega
              have hi0 : (0 : Int) ≤ (i : Int) := by omega
              have hi1 : (0 : Int) ≤ (i : Int) + 1 := by omega
              obtain ⟨b, off, u, rfl, -, hc0, hu0⟩ := S6.atRow i (by omega)
              obtain ⟨b', off', u', e2, -, hc1, hu1⟩ := S6.atRow (i + 1) hlt
              injection e2 with e2; injection e2 with e21 e22; subst e21; subst e22
              have c0 := hO.cell (by simp) hc0
              have c1 := hO.cell (by simp) hc1
              have hnat : ((i : Int) + 1).toNat = i + 1 := by omega
              have hp0 := Hpm.out LS[i] (List.getElem_mem _)
              have hp1 := Hpm.out LS[i + 1] (List.getElem_mem _)
              have hlex := Hlex.out i hlt
              obtain ⟨x0, hx0⟩ : ∃ x0, x0 = LS[i] := ⟨_, rfl⟩
              obtain ⟨x1, hx1⟩ : ∃ x1, x1 = LS[i + 1] := ⟨_, rfl⟩
              rw [← hx0] at hu0 hp0 hlex
              rw [← hx1] at hu1 hp1 hlex
              have Hless := Lib.hid (fun (W : World) (hW : Only [] w6 W) => permLess_yes j u u' x0 x1 _ _ W (Rp.keep hu0 hW) (Rp.keep hu1 hW) hp0 hp1 ⟨by omega, by omega⟩ hlex)
              clear hx0 hx1 hu0 hu1 hp0 hp1 hlex hc0 hc1
              go_upto_region 21 with fail
              go_region_held3 (fun w' => Only [] W2 w' ∧ w'.cell? ⟨b, off + i, none⟩ = some u ∧ w'.cell? ⟨b, off + (i + 1), none⟩ = some u') ((refine and_of ?_ (fun h__ => ⟨h__.cell (by simp) c0, h__.cell (by simp) c1⟩); first | with_reducible exact (Only.refl _ _).drew | with_reducible exact Only.trans (And.left (by assumption)) (by assumption) | assumption)) (first
                | (go_at_call 22; (with_reducible refine (Hless.out _ (hO.trans (And.left (by assumption)))).mono ?_); rintro e w9 ⟨rfl, t9⟩)
                | fail "no arm")
              go_wp2
              go_roundw
              case rel => exact ⟨i + 1, Or.inr hlt, by go_num, hO.trans (Only.trans ((Only.refl _ _).drew) t9)⟩
              case measure => simp [intOf]; omega
            · have hge : ¬ ((i : Int) + 1 < (LS.length : Int)) := by omega
              go_wp2_with (first
                | (go_at_call 23; (with_reducible refine (implSameGroup_self j _ gs fp W2 (Rp.keep rM (kG.trans hO)) Hgs.out).mono ?_); rintro e wB ⟨rfl, tB⟩)
                | fail "no arm")
              go_ret
              exact ⟨rfl, (kW.trans (kG.trans hO)).trans tB⟩
        · rw [if_pos (by omega)] at hls
          have q1 : (LS.length : Int) ≤ 0 := by omega
          have q3 : ¬ (q : Int) ≤ 3000 := by omega
          have hl3 : LS.length ≤ 3000 := by omega
          clear hls
          go_wp2
          go_loopw [10] (fun y wr => ∃ i : Nat, (i = 0 ∨ i < LS.length) ∧ y = .int .i64 i ∧ Only [] w6 wr)
            (fun y _ => LS.length - (intOf y).toNat)
          case atStart => exact ⟨0, Or.inl rfl, rfl, k6⟩
          case round =>
            obtain ⟨W2, hnew⟩ : ∃ W, W = wr := ⟨_, rfl⟩
            subst hnew
            obtain ⟨i, hi, rfl, hO⟩ := hrel
            have hi3 : i ≤ 3000 := by omega
            have hw1 : IntKind.i64.wrap ((i : Int) + 1) = (i : Int) + 1 := by rw [IntKind.wrap_i64]; omega
            by_cases hlt : i + 1 < LS.length
            · have hltI : (i : Int) + 1 < (LS.length : Int) := by omega
              have hlt0 : (i : Int) < (LS.length : Int) := by omega
              have hi0 : (0 : Int) ≤ (i : Int) := by omega
              have hi1 : (0 : Int) ≤ (i : Int) + 1 := by omega
              obtain ⟨b, off, u, rfl, -, hc0, hu0⟩ := S6.atRow i (by omega)
              obtain ⟨b', off', u', e2, -, hc1, hu1⟩ := S6.atRow (i + 1) hlt
              injection e2 with e2; injection e2 with e21 e22; subst e21; subst e22
              have c0 := hO.cell (by simp) hc0
              have c1 := hO.cell (by simp) hc1
              have hnat : ((i : Int) + 1).toNat = i + 1 := by omega
              have hp0 := Hpm.out LS[i] (List.getElem_mem _)
              have hp1 := Hpm.out LS[i + 1] (List.getElem_mem _)
              have hlex := Hlex.out i hlt
              obtain ⟨x0, hx0⟩ : ∃ x0, x0 = LS[i] := ⟨_, rfl⟩
              obtain ⟨x1, hx1⟩ : ∃ x1, x1 = LS[i + 1] := ⟨_, rfl⟩
              rw [← hx0] at hu0 hp0 hlex
              rw [← hx1] at hu1 hp1 hlex
              have Hless := Lib.hid (fun (W : World) (hW : Only [] w6 W) => permLess_yes j u u' x0 x1 _ _ W (Rp.keep hu0 hW) (Rp.keep hu1 hW) hp0 hp1 ⟨by omega, by omega⟩ hlex)
              clear hx0 hx1 hu0 hu1 hp0 hp1 hlex hc0 hc1
              go_upto_region 21 with fail
              go_region_held3 (fun w' => Only [] W2 w' ∧ w'.cell? ⟨b, off + i, none⟩ = some u ∧ w'.cell? ⟨b, off + (i + 1), none⟩ = some u') ((refine and_of ?_ (fun h__ => ⟨h__.cell (by simp) c0, h__.cell (by simp) c1⟩); first | with_reducible exact (Only.refl _ _).drew | with_reducible exact Only.trans (And.left (by assumption)) (by assumption) | assumption)) (first
                | (go_at_call 22; (with_reducible refine (Hless.out _ (hO.trans (And.left (by assumption)))).mono ?_); rintro e w9 ⟨rfl, t9⟩)
                | fail "no arm")
              go_wp2
              go_roundw
              case rel => exact ⟨i + 1, Or.inr hlt, by go_num, hO.trans (Only.trans ((Only.refl _ _).drew) t9)⟩
              case measure => simp [intOf]; omega
            · have hge : ¬ ((i : Int) + 1 < (LS.length : Int)) := by omega
              go_wp2_with (first
                | (go_at_call 23; (with_reducible refine (implSameGroup_self j _ gs fp W2 (Rp.keep rM (kG.trans hO)) Hgs.out).mono ?_); rintro e wB ⟨rfl, tB⟩)
                | fail "no arm")
              go_ret
              exact ⟨rfl, (kW.trans (kG.trans hO)).trans tB⟩
end Go.Proofs.Ytpcamkmoabhlhaa
