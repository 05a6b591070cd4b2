/- The law on normal subgroups, the center, the derived subgroup (law 37): its walk. -/
import Derived.Test.YtbediokigibdlaaRowNormalityG11
import Derived.Test.YtbediokigibdlaaRowNormalityG14
namespace Go.Proofs.Ytbediokigibdlaa
open Go.RowKit
set_option maxRecDepth 10000

theorem nrmB_self {m : Nat} {b : List (List Int)} (hgs : gensB m b = true) (pb : ∀ g ∈ b, PM.PN m g) : nrmB m b b = true := by
  have hs : subB m b b = true := subB_iff.2 ⟨hgs, hgs, fun g hg => PM.Grp.gen (by simpa using pb) hg⟩
  rw [nrmB_eq hs]
  refine List.all_eq_true.2 fun p hp => List.all_eq_true.2 fun q hq => ?_
  unfold memB
  exact @decide_eq_true _ (Classical.propDecidable _) (PM.Grp.comp pb (PM.Grp.comp pb (PM.Grp.inv pb (PM.Grp.gen pb hq)) (PM.Grp.gen pb hp)) (PM.Grp.gen pb hq))
theorem nrmB_nil {m : Nat} {b : List (List Int)} (hgs : gensB m b = true) : nrmB m [] b = true := by
  obtain ⟨h1, -, -⟩ := gensB_iff.1 hgs
  have hs : subB m [] b = true := subB_iff.2 ⟨gensB_iff.2 ⟨h1, by simp, by simp⟩, hgs, by simp⟩
  rw [nrmB_eq hs]
  rfl
theorem nrmB_two {m : Nat} {a b : List (List Int)} {va vb : Value} {fa fb : List Nat} {w : World} (ha : Rd w va a fa) (hb : Rd w vb b fb) (h : idxS m a b = 2) : nrmB m a b = true := by
  have hs : subB m a b = true := idx_sub (by omega)
  obtain ⟨m', hmm, S⟩ := SubF.of ha hb hs
  obtain rfl : m = m' := by omega
  obtain ⟨GA, TA, ca⟩ := S.ca
  obtain ⟨GB, TB, cb⟩ := S.cb
  have hl := S.idx_len rfl hs
  obtain ⟨i, e⟩ := S.reps
  have h2 : PM.ordM TB m m = 2 * PM.ordM TA m m := by
    rw [S.ord_a ca, S.ord_b cb, ← e, ← hl, h]
  rw [nrmB_eq hs]
  refine List.all_eq_true.2 fun p hp => List.all_eq_true.2 fun q hq => ?_
  unfold memB
  exact @decide_eq_true _ (Classical.propDecidable _) (PM.idx2_nrm ca cb S.pos S.pa S.pb S.sub h2 (PM.Grp.gen S.pa hp) (PM.Grp.gen S.pb hq))
theorem tmod0 {a b : Nat} (h : b ∣ a) : Int.tmod (a : Int) (b : Int) = 0 := by
  obtain ⟨c, rfl⟩ := h
  push_cast
  exact Int.mul_tmod_right _ _
theorem emod0 {a b : Nat} (h : b ∣ a) : (a : Int) % (b : Int) = 0 := by
  obtain ⟨c, rfl⟩ := h
  push_cast
  exact Int.mul_emod_right _ _
set_option maxHeartbeats 8000000 in
theorem FnNormality_any (w : World) (v : Value) (l : List UInt8) (fc : List Nat) (h : Rd w v l fc) :
    Calls Try.prog 3 #[v] w fun e w' => e = .returned (.bool true) ∧ Only [] w w' := by
  by_cases hb : 4096 < l.length
  · have hd : decide (4096 < l.length) = true := by simp [hb]
    go_enter Try.func3, Try.ntmps3
    go_wp2_with ((go_at_call 6; (with_reducible refine (big_any v l fc _ h).mono ?_); rintro e w1 ⟨he, t1⟩; rw [hd] at he; subst he))
    go_ret
    exact ⟨rfl, (by with_reducible repeat (first | exact Only.refl _ _ | assumption | refine Only.drewN ?_ _ | refine Only.drew ?_ | refine Only.alloc ?_ _ | refine Only.setCell ?_ (by intro hh; exfalso; simp at hh; try omega) _ | refine Only.trans ?_ (by assumption)))⟩
  have hd : decide (4096 < l.length) = false := by simp [hb]
  have hl : l.length ≤ 4096 := by omega
  go_enter Try.func3, Try.ntmps3
  go_upto_region 4 with (first
    | (go_at_call 6; (with_reducible refine (big_any v l fc _ h).mono ?_); rintro e w1 ⟨he, t1⟩; rw [hd] at he; subst he; have k1 : Only [] w w1 := (by with_reducible repeat (first | exact Only.refl _ _ | assumption | refine Only.drewN ?_ _ | refine Only.drew ?_ | refine Only.alloc ?_ _ | refine Only.setCell ?_ (by intro hh; exfalso; simp at hh; try omega) _ | refine Only.trans ?_ (by assumption))))
    | (go_at_call 7; (with_reducible refine (drawNormal_any v l fc w1 (Rp.keep h k1) hl).mono ?_); rintro e w2 ⟨s2, s3, s4, rfl, n, a, b, fa, fb, rfl, hn, ra, rb, la, lb, t2⟩; obtain ⟨aa, ca, _, _, rfl, -, -⟩ := id ra.open_; obtain ⟨ab, cb, _, _, rfl, -, -⟩ := id rb.open_)
    | fail "no arm")
  have kW : Only [] w w2 := k1.trans t2
  clear k1 t1 t2 hb hd la lb
  have HcN := Lib.hid (fun (W : World) (hW : Only [] w2 W) => implNormal_any n _ _ a b fa fb W (Rp.keep ra hW) (Rp.keep rb hW))
  have HcO := Lib.hid (fun (W : World) (hW : Only [] w2 W) => specNormal_any n _ _ a b fa fb W (Rp.keep ra hW) (Rp.keep rb hW))
  have HcS := Lib.hid (fun (W : World) (hW : Only [] w2 W) => specIdx_any n _ _ a b fa fb W (Rp.keep ra hW) (Rp.keep rb hW))
  have HcG := Lib.hid (fun (W : World) (hW : Only [] w2 W) => specIsGens_rd n _ b fb W (Rp.keep rb hW))
  have HcC := Lib.hid (fun (W : World) (hW : Only [] w2 W) => implCenter_any n _ b fb W (Rp.keep rb hW))
  rcases hgs : gensB n b
  · have hsub : subB n a b = false := by unfold subB; rw [hgs]; simp
    have HcD := Lib.hid (fun (W : World) (hW : Only [] w2 W) => implDerived_no n _ b fb W (Rp.keep rb hW) hgs)
    have hce : cenS n b = 0 := by unfold cenS; rw [hgs]; rfl
    rw [nrmB_no hsub] at HcN HcO
    rw [hce] at HcC
    rw [hgs] at HcG
    clear hgs hsub hce
    go_wp2_with (first
      | (go_at_call 8; (with_reducible refine (HcN.out w2 (Only.refl _ _)).mono ?_); rintro e w3 ⟨rfl, t3⟩)
      | (go_at_call 9; (with_reducible refine (HcO.out w3 t3).mono ?_); rintro e w4 ⟨rfl, t4⟩; have k4 := t3.trans t4)
      | (go_at_call 10; (with_reducible refine (HcG.out w4 k4).mono ?_); rintro e w5 ⟨rfl, t5⟩; have k5 := k4.trans (t5.only []))
      | (go_at_call 11; (with_reducible refine (HcC.out w5 k5).mono ?_); rintro e w6 ⟨rfl, t6⟩; have k6 := k5.trans t6)
      | (go_at_call 12; (with_reducible refine (HcD.out w6 k6).mono ?_); rintro e w7 ⟨rfl, t7⟩; have k7 := k6.trans t7)
      | fail "no arm")
    go_ret
    exact ⟨rfl, kW.trans k7⟩
  · obtain ⟨⟨n1, n20⟩, hgl, hpn⟩ := gensB_iff.1 hgs
    obtain ⟨m, rfl⟩ := Int.eq_ofNat_of_zero_le (show 0 ≤ n by omega)
    have hpn' : ∀ g ∈ b, PM.PN m g := by simpa using hpn
    have hm0 : 0 < m := by omega
    have hm20 : m ≤ 20 := by omega
    obtain ⟨G, T, hCh⟩ := rank_chain m _ b fb w2 rb hgs
    have hle := ordC_le hCh hm0 hpn' hm20 (Nat.le_refl _)
    have hpo := ordC_pos hCh hm0 hpn' (Nat.le_refl m)
    have hcf := cen_facts hCh hm0 hpn'
    have hoG : ordG (m : Int) b = ordC m b m := by unfold ordG; rw [if_pos hgs]; rfl
    have hce : cenS m b = if 3000 < ordC m b m then 0 else ((allMem m b).filter (comA b)).length := by
      unfold cenS
      rw [if_pos hgs]
      show ((lsM m b).filter (comA b)).length = _
      unfold lsM
      by_cases h3 : 3000 < ordC m b m
      · rw [if_pos h3, if_pos h3]; rfl
      · rw [if_neg h3, if_neg h3]
    have HcD := Lib.hid (fun (W : World) (hW : Only [] w2 W) => implDerived_yes m _ b fb W (Rp.keep rb hW) hgs)
    have HcA := Lib.hid (fun (W : World) (hW : Only [] w2 W) => implAbelian_yes m _ b fb W (Rp.keep rb hW) hgs)
    have HcP := Lib.hid (fun (W : World) (hW : Only [] w2 W) => specGroupOrder_any (m : Int) _ b fb W (Rp.keep rb hW))
    have HcB := Lib.hid (fun (W : World) (hW : Only [] w2 W) => implNormal_any (m : Int) _ _ b b fb fb W (Rp.keep rb hW) (Rp.keep rb hW))
    have HcZ := Lib.hid (fun (W : World) (hW : Only [] w2 W) => implNormal_any (m : Int) (.slice none 0 0) _ [] b [] fb W (nil_rows none 0 W (by simp [maxLen])) (Rp.keep rb hW))
    have H2 : Hid (idxS m a b = 2 → nrmB m a b = true) := Lib.hid fun e => nrmB_two ra rb e
    rw [nrmB_self hgs hpn'] at HcB
    rw [nrmB_nil hgs] at HcZ
    rw [hoG] at HcP
    rw [hgs] at HcG
    obtain ⟨od, hod⟩ : ∃ od, od = ordC m b m := ⟨_, rfl⟩
    obtain ⟨ce, hcq⟩ : ∃ ce, ce = cenS m b := ⟨_, rfl⟩
    obtain ⟨zl, hzl⟩ : ∃ zl, zl = ((allMem m b).filter (comA b)).length := ⟨_, rfl⟩
    obtain ⟨ix, hix⟩ : ∃ ix, ix = idxS m a b := ⟨_, rfl⟩
    obtain ⟨is, his⟩ : ∃ is, is = nrmB m a b := ⟨_, rfl⟩
    obtain ⟨abl, habl⟩ : ∃ abl, abl = ablB b := ⟨_, rfl⟩
    rw [← hod, ← hcq, ← hzl] at hce
    rw [← hod] at hle hpo HcP HcD
    rw [← hod, ← hzl, ← habl] at hcf
    rw [← hcq] at HcC
    rw [← hix] at HcS
    rw [← his] at HcN HcO
    rw [← hix, ← his] at H2
    rw [← habl] at HcA HcD
    obtain ⟨q1, q2, q3⟩ := hcf
    have Hq3 := Lib.hid q3
    have hii : (is != is) = false := by simp
    clear hgs hpn hpn' hgl hCh hoG hod hcq hzl hix his habl q3
    have key : ∀ (r1 : Int) (c : Nat), c ∣ od → 1 ≤ c → Int.tmod (od : Int) (c : Int) = 0 ∧ (od : Int) % (c : Int) = 0 ∧ ((c : Int) == 0) = false := fun _ c hc h1 => ⟨tmod0 hc, emod0 hc, by
      have : (c : Int) ≠ 0 := by omega
      simpa using this⟩
    go_upto_region 13 with (first
      | (go_at_call 8; (with_reducible refine (HcN.out w2 (Only.refl _ _)).mono ?_); rintro e w3 ⟨rfl, t3⟩)
      | (go_at_call 9; (with_reducible refine (HcO.out w3 t3).mono ?_); rintro e w4 ⟨rfl, t4⟩; have k4 := t3.trans t4)
      | (go_at_call 10; (with_reducible refine (HcG.out w4 k4).mono ?_); rintro e w5 ⟨rfl, t5⟩; have k5 := k4.trans (t5.only []))
      | (go_at_call 13; (with_reducible refine (HcP.out w5 k5).mono ?_); rintro e w6 ⟨rfl, -, -, t6⟩; have k6 := k5.trans t6)
      | (go_at_call 14; (with_reducible refine (HcA.out w6 k6).mono ?_); rintro e w7 ⟨rfl, t7⟩; have k7 := k6.trans t7)
      | (go_at_call 11; (with_reducible refine (HcC.out w7 k7).mono ?_); rintro e w8 ⟨rfl, t8⟩; have k8 := k7.trans t8)
      | (go_at_call 12; (with_reducible refine (HcD.out w8 k8).mono ?_); rintro e w9 ⟨d, rfl, ⟨hd1, hd2, hd3⟩, t9⟩; have k9 := k8.trans t9)
      | fail "no arm")
    obtain ⟨p1, p2, p3⟩ := key 0 d hd1 hd2
    have Hd3 := Lib.hid hd3
    have hdle : d ≤ od := Nat.le_of_dvd (by omega) hd1
    clear hd1 hd3
    by_cases h3 : 3000 < od
    · rw [if_pos h3] at hce
      subst hce
      have h3I : (3000 : Int) < (od : Int) := by omega
      clear key q1 q2
      by_cases h2 : ix = 2
      · have his : is = true := H2.out h2
        subst his
        subst h2
        go_wp2_with (first
          | (go_at_call 15; (with_reducible refine (HcS.out w9 k9).mono ?_); rintro e wA ⟨rfl, tA⟩; have kA := k9.trans tA)
          | (go_at_call 8; (with_reducible refine (HcB.out wA kA).mono ?_); rintro e wB ⟨rfl, tB⟩; have kB := kA.trans tB)
          | (go_at_call 8; (with_reducible refine (HcZ.out wB kB).mono ?_); rintro e wC ⟨rfl, tC⟩; have kC := kB.trans tC)
          | fail "no arm")
        go_ret
        exact ⟨rfl, kW.trans kC⟩
      · have h2b : ((ix : Int) == 2) = false := by
          have : (ix : Int) ≠ 2 := by omega
          simpa using this
        clear h2
        go_wp2_with (first
          | (go_at_call 15; (with_reducible refine (HcS.out w9 k9).mono ?_); rintro e wA ⟨rfl, tA⟩; have kA := k9.trans tA)
          | (go_at_call 8; (with_reducible refine (HcB.out wA kA).mono ?_); rintro e wB ⟨rfl, tB⟩; have kB := kA.trans tB)
          | (go_at_call 8; (with_reducible refine (HcZ.out wB kB).mono ?_); rintro e wC ⟨rfl, tC⟩; have kC := kB.trans tC)
          | fail "no arm")
        go_ret
        exact ⟨rfl, kW.trans kC⟩
    · rw [if_neg h3] at hce
      subst hce
      have h3I : ¬ (3000 : Int) < (od : Int) := by omega
      obtain ⟨s1, s2, s3⟩ := key 0 ce q1 q2
      have s4 : (0 : Int) < (ce : Int) := by omega
      have hab : ((ce : Int) == (od : Int)) = abl ∧ ((d : Int) == 1) = abl := by
        have e1 := Hq3.out
        have e2 := Hd3.out
        rcases abl
        · have f1 : ¬ ce = od := fun e => by have := e1.1 e; cases this
          have f2 : ¬ d = 1 := fun e => by have := e2.1 e; cases this
          exact ⟨by simp; omega, by simp; omega⟩
        · have f1 := e1.2 rfl
          have f2 := e2.2 rfl
          exact ⟨by simp; omega, by simp; omega⟩
      obtain ⟨a1, a2⟩ := hab
      have a3 : (abl == abl) = true := by simp
      clear key q1 q2 h3
      by_cases h2 : ix = 2
      · have his : is = true := H2.out h2
        subst his
        subst h2
        go_wp2_with (first
          | (go_at_call 15; (with_reducible refine (HcS.out w9 k9).mono ?_); rintro e wA ⟨rfl, tA⟩; have kA := k9.trans tA)
          | (go_at_call 8; (with_reducible refine (HcB.out wA kA).mono ?_); rintro e wB ⟨rfl, tB⟩; have kB := kA.trans tB)
          | (go_at_call 8; (with_reducible refine (HcZ.out wB kB).mono ?_); rintro e wC ⟨rfl, tC⟩; have kC := kB.trans tC)
          | fail "no arm")
        go_ret
        exact ⟨rfl, kW.trans kC⟩
      · have h2b : ((ix : Int) == 2) = false := by
          have : (ix : Int) ≠ 2 := by omega
          simpa using this
        clear h2
        go_wp2_with (first
          | (go_at_call 15; (with_reducible refine (HcS.out w9 k9).mono ?_); rintro e wA ⟨rfl, tA⟩; have kA := k9.trans tA)
          | (go_at_call 8; (with_reducible refine (HcB.out wA kA).mono ?_); rintro e wB ⟨rfl, tB⟩; have kB := kA.trans tB)
          | (go_at_call 8; (with_reducible refine (HcZ.out wB kB).mono ?_); rintro e wC ⟨rfl, tC⟩; have kC := kB.trans tC)
          | fail "no arm")
        go_ret
        exact ⟨rfl, kW.trans kC⟩
end Go.Proofs.Ytbediokigibdlaa
