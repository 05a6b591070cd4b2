/- IsNormalSubgroup: the program's and the reference's (law 37). (Printed by mknrm.py.) The program's CenterOrder (law 37). newChain, with the bound on its generators (law 37). (The walk is NewChain's, its end says one thing more.) The program's DerivedSubgroupOrder (law 37): the chain under way, its closure. The program's DerivedSubgroupOrder (law 37). -/
import Derived.Test.YtbediokigibdlaaRowNormalityG13
import Derived.Test.YtbediokigibdlaaRowNormalityG7
import Derived.Deep.AppendLies
namespace Go.Proofs.Ytbediokigibdlaa
open Go.RowKit
set_option maxRecDepth 10000

theorem nrmB_no {n : Int} {a b : List (List Int)} (h : subB n a b = false) : nrmB n a b = false := by unfold nrmB; rw [h]; rfl
theorem nrmB_eq {m : Nat} {a b : List (List Int)} (h : subB m a b = true) : nrmB m a b = a.all (nrmR m a b) := by unfold nrmB; rw [h]; rfl
theorem hpm_conj {m : Nat} {p q : List Int} (hp : PM.PN m p) (hq : PM.PN m q) : PM.PN m (PM.conj p q) := hp.conj hq
set_option maxHeartbeats 1000000 in
theorem implNormal_no (n : Int) (va vb : Value) (a b : List (List Int)) (fa fb : List Nat) (w : World) (ha : Rd w va a fa) (hb : Rd w vb b fb) (hs : subB n a b = false) :
    Calls Try.prog 8 #[.int .i64 n, va, vb] w fun e w' => e = .returned (.bool (nrmB n a b)) ∧ Only [] w w' := by
  have HcI := Lib.hid (implIsSub_any n va vb a b fa fb w ha hb)
  rw [hs] at HcI
  have He := Lib.hid (nrmB_no hs)
  clear hs
  go_enter Try.func8, Try.ntmps8
  go_wp2_with (first
    | (go_at_call 25; (with_reducible refine (HcI.out).mono ?_); rintro en w1 ⟨rfl, t1⟩)
    | fail "no arm")
  go_ret
  exact ⟨ret_bool He.out.symm, t1⟩
set_option maxHeartbeats 4000000 in
theorem implNormal_yes (m : Nat) (va vb : Value) (a b : List (List Int)) (fa fb : List Nat) (w : World) (ha : Rd w va a fa) (hb : Rd w vb b fb) (hs : subB m a b = true) :
    Calls Try.prog 8 #[.int .i64 m, va, vb] w fun e w' => e = .returned (.bool (nrmB m a b)) ∧ Only [] w w' := by
  obtain ⟨m', hmm, S⟩ := SubF.of ha hb hs
  obtain rfl : m = m' := by omega
  have HcI := Lib.hid (implIsSub_any (m : Int) va vb a b fa fb w ha hb)
  rw [hs] at HcI
  have hm0 := S.pos
  have hm20 := S.le
  have hm1000 : m ≤ 1000 := by omega
  have hla := S.la
  have Hpa := Lib.hid S.pa
  have Hpb := Lib.hid S.pb
  obtain ⟨A, C, oa, fpa, rfl, -, hS⟩ := id ha.open_
  obtain ⟨A2, C2, ob, fpb, rfl, -, hS2⟩ := id hb.open_
  have hbd := hS.bound
  have hbd2 := hS2.bound
  obtain ⟨R, hR⟩ : ∃ R, R = nrmB m a b := ⟨_, rfl⟩
  rw [← hR]
  rw [nrmB_eq hs] at hR
  have HR := Lib.hid hR
  clear hs hR hmm S
  go_enter Try.func8, Try.ntmps8
  go_wp2_with (first
    | (go_at_call 25; (with_reducible refine (HcI.out).mono ?_); rintro en w1 ⟨rfl, t1⟩)
    | (go_at_call 34; (with_reducible refine (implNewChain_any m hm0 hm20 _ a fa w1 (Rp.keep ha t1) Hpa.out (by omega)).mono ?_); rintro en w3 ⟨L, gv, G, T, M, F, rfl, -, hoT, hC, hCh, t3⟩; have HC := Lib.hid hC; have HCh := Lib.hid hCh; have HoT := Lib.hid hoT; clear hC hCh hoT)
    | fail "no arm")
  have k3 : Only [] w w3 := t1.trans t3
  clear t1 t3
  go_loopw [22] (fun y wr => ∃ i : Nat, i ≤ a.length ∧ y = .int .i64 i ∧ Hid ((a.take i).all (nrmR m a b) = true) ∧ Only [] w3 wr)
    (fun y _ => a.length - (intOf y).toNat)
  case atStart => exact ⟨0, Nat.zero_le _, rfl, Lib.hid rfl, Only.refl _ _⟩
  case round =>
    obtain ⟨W2, hnew⟩ : ∃ W, W = wr := ⟨_, rfl⟩
    subst hnew
    obtain ⟨i, hi, rfl, hq, hO⟩ := hrel
    by_cases hlt : i < a.length
    · have hltI : (i : Int) < (a.length : Int) := by omega
      have hi0 : (0 : Int) ≤ (i : Int) := by omega
      obtain ⟨b1, off, u, rfl, -, hc0, hu0⟩ := hS.atRow i hlt
      have hc := (k3.trans hO).cell (by simp) hc0
      have hpm := Hpa.out a[i] (List.getElem_mem hlt)
      obtain ⟨p, hp⟩ : ∃ p, p = a[i] := ⟨_, rfl⟩
      have hmem : p ∈ a := by rw [hp]; exact List.getElem_mem hlt
      have hsn := take_succ_get a i hlt
      rw [← hp] at hpm hu0 hsn
      have Hmem := Lib.hid hmem
      have Hsn := Lib.hid hsn
      have Hpm := Lib.hid hpm
      have Hu := Lib.hid hu0
      have Hc0 := Lib.hid hc0
      clear hp hpm hu0 hsn hc0 hmem
      go_wp2
      go_loopw [28] (fun y wr => ∃ k : Nat, k ≤ b.length ∧ y = .int .i64 k ∧ Hid ((b.take k).all (fun q => memB m a (PM.conj p q)) = true) ∧ Only [] w3 wr)
        (fun y _ => b.length - (intOf y).toNat)
      case atStart => exact ⟨0, Nat.zero_le _, rfl, Lib.hid rfl, hO⟩
      case round =>
        obtain ⟨W4, hnew⟩ : ∃ W, W = wr := ⟨_, rfl⟩
        subst hnew
        obtain ⟨k, hk, rfl, hqk, hO4⟩ := hrel
        have kW := k3.trans hO4
        by_cases hltk : k < b.length
        · have hltkI : (k : Int) < (b.length : Int) := by omega
          have hk0 : (0 : Int) ≤ (k : Int) := by omega
          obtain ⟨b', off', u', rfl, -, hc1, hu1⟩ := hS2.atRow k hltk
          have hc1 := kW.cell (by simp) hc1
          have hc2 := kW.cell (by simp) Hc0.out
          have hqm := Hpb.out b[k] (List.getElem_mem hltk)
          obtain ⟨q, hqq⟩ : ∃ q, q = b[k] := ⟨_, rfl⟩
          have hmemq : q ∈ b := by rw [hqq]; exact List.getElem_mem hltk
          have hsnq := take_succ_get b k hltk
          rw [← hqq] at hqm hu1 hsnq
          have Hqm := Lib.hid hqm
          have Hu1 := Lib.hid hu1
          have Hmemq := Lib.hid hmemq
          have Hsnq := Lib.hid hsnq
          have Hcj := Lib.hid (hpm_conj Hpm.out hqm)
          clear hqq hqm hu1 hsnq hmemq
          rcases hcq : memB m a (PM.conj p q)
          · have Hcq := Lib.hid hcq
            clear hcq
            go_wp2_with (first
              | (go_at_call 36; (with_reducible refine (implConj_any m u u' p q _ _ W4 (Rp.keep Hu.out kW) (Rp.keep Hu1.out kW) Hpm.out Hqm.out hm1000).mono ?_); rintro e w5 ⟨v5, f5, rfl, r5, F5, t5⟩; have k5 := hO4.trans t5)
              | (go_at_call 35; (with_reducible refine (implHas0 (HC.out.keep k5) HCh.out.inv.wf HoT.out r5 Hcj.out).mono ?_); rintro en w6 ⟨he, t6⟩; rw [memB_has HCh.out hm0 Hpa.out Hcj.out, Hcq.out] at he; subst he; have kE := k5.trans t6)
              | fail "no arm")
            go_ret
            refine ⟨ret_bool ?_, k3.trans kE⟩
            rw [HR.out, eq_comm, Bool.eq_false_iff]
            intro h
            have h1 := List.all_eq_true.1 (List.all_eq_true.1 h p Hmem.out) q Hmemq.out
            rw [Hcq.out] at h1
            cases h1
          · have Hcq := Lib.hid hcq
            clear hcq
            go_wp2_with (first
              | (go_at_call 36; (with_reducible refine (implConj_any m u u' p q _ _ W4 (Rp.keep Hu.out kW) (Rp.keep Hu1.out kW) Hpm.out Hqm.out hm1000).mono ?_); rintro e w5 ⟨v5, f5, rfl, r5, F5, t5⟩; have k5 := hO4.trans t5)
              | (go_at_call 35; (with_reducible refine (implHas0 (HC.out.keep k5) HCh.out.inv.wf HoT.out r5 Hcj.out).mono ?_); rintro en w6 ⟨he, t6⟩; rw [memB_has HCh.out hm0 Hpa.out Hcj.out, Hcq.out] at he; subst he; have kE := k5.trans t6)
              | fail "no arm")
            go_roundw
            case rel => exact ⟨k + 1, by omega, by go_num, Lib.hid (by rw [Hsnq.out, List.all_append, hqk.out]; simp [Hcq.out]), kE⟩
            case measure => simp [intOf]; omega
        · obtain rfl : k = b.length := by omega
          have hge : ¬ ((b.length : Int) < (b.length : Int)) := by omega
          have hfin := hqk.out
          rw [List.take_length] at hfin
          have Hfin : Hid (nrmR m a b p = true) := Lib.hid hfin
          clear hfin hqk
          go_wp2
          go_roundw
          case rel => exact ⟨i + 1, by omega, by go_num, Lib.hid (by rw [Hsn.out, List.all_append, hq.out]; simp [Hfin.out]), hO4⟩
          case measure => simp [intOf]; omega
    · obtain rfl : i = a.length := by omega
      have hge : ¬ ((a.length : Int) < (a.length : Int)) := by omega
      have hfin := hq.out
      rw [List.take_length] at hfin
      have hfin2 : R = true := by rw [HR.out]; exact hfin
      have Hfin := Lib.hid hfin2
      clear hfin hq hfin2
      go_wp2
      go_ret
      exact ⟨ret_bool Hfin.out.symm, k3.trans hO⟩
set_option maxHeartbeats 1000000 in
theorem specNormal_no (n : Int) (va vb : Value) (a b : List (List Int)) (fa fb : List Nat) (w : World) (ha : Rd w va a fa) (hb : Rd w vb b fb) (hs : subB n a b = false) :
    Calls Try.prog 9 #[.int .i64 n, va, vb] w fun e w' => e = .returned (.bool (nrmB n a b)) ∧ Only [] w w' := by
  have HcI := Lib.hid (specIsSub_any n va vb a b fa fb w ha hb)
  rw [hs] at HcI
  have He := Lib.hid (nrmB_no hs)
  clear hs
  go_enter Try.func9, Try.ntmps9
  go_wp2_with (first
    | (go_at_call 26; (with_reducible refine (HcI.out).mono ?_); rintro en w1 ⟨rfl, t1⟩)
    | fail "no arm")
  go_ret
  exact ⟨ret_bool He.out.symm, t1⟩
set_option maxHeartbeats 4000000 in
theorem specNormal_yes (m : Nat) (va vb : Value) (a b : List (List Int)) (fa fb : List Nat) (w : World) (ha : Rd w va a fa) (hb : Rd w vb b fb) (hs : subB m a b = true) :
    Calls Try.prog 9 #[.int .i64 m, va, vb] w fun e w' => e = .returned (.bool (nrmB m a b)) ∧ Only [] w w' := by
  obtain ⟨m', hmm, S⟩ := SubF.of ha hb hs
  obtain rfl : m = m' := by omega
  have HcI := Lib.hid (specIsSub_any (m : Int) va vb a b fa fb w ha hb)
  rw [hs] at HcI
  have hm0 := S.pos
  have hm20 := S.le
  have hm1000 : m ≤ 1000 := by omega
  have hla := S.la
  have Hpa := Lib.hid S.pa
  have Hpb := Lib.hid S.pb
  obtain ⟨A, C, oa, fpa, rfl, -, hS⟩ := id ha.open_
  obtain ⟨A2, C2, ob, fpb, rfl, -, hS2⟩ := id hb.open_
  have hbd := hS.bound
  have hbd2 := hS2.bound
  obtain ⟨R, hR⟩ : ∃ R, R = nrmB m a b := ⟨_, rfl⟩
  rw [← hR]
  rw [nrmB_eq hs] at hR
  have HR := Lib.hid hR
  clear hs hR hmm S
  go_enter Try.func9, Try.ntmps9
  go_wp2_with (first
    | (go_at_call 26; (with_reducible refine (HcI.out).mono ?_); rintro en w1 ⟨rfl, t1⟩)
    | (go_at_call 37; (with_reducible refine (buildChain_any m hm0 hm20 _ a fa w1 (Rp.keep ha t1) Hpa.out (by omega)).mono ?_); rintro en w3 ⟨L, gv, G, T, M, F, rfl, -, hoT, hC, hCh, t3⟩; have HC := Lib.hid hC; have HCh := Lib.hid hCh; have HoT := Lib.hid hoT; clear hC hCh hoT)
    | fail "no arm")
  have k3 : Only [] w w3 := t1.trans t3
  clear t1 t3
  go_loopw [8] (fun y wr => ∃ i : Nat, i ≤ a.length ∧ y = .int .i64 i ∧ Hid ((a.take i).all (nrmR m a b) = true) ∧ Only [] w3 wr)
    (fun y _ => a.length - (intOf y).toNat)
  case atStart => exact ⟨0, Nat.zero_le _, rfl, Lib.hid rfl, Only.refl _ _⟩
  case round =>
    obtain ⟨W2, hnew⟩ : ∃ W, W = wr := ⟨_, rfl⟩
    subst hnew
    obtain ⟨i, hi, rfl, hq, hO⟩ := hrel
    by_cases hlt : i < a.length
    · have hltI : (i : Int) < (a.length : Int) := by omega
      have hi0 : (0 : Int) ≤ (i : Int) := by omega
      obtain ⟨b1, off, u, rfl, -, hc0, hu0⟩ := hS.atRow i hlt
      have hc := (k3.trans hO).cell (by simp) hc0
      have hpm := Hpa.out a[i] (List.getElem_mem hlt)
      obtain ⟨p, hp⟩ : ∃ p, p = a[i] := ⟨_, rfl⟩
      have hmem : p ∈ a := by rw [hp]; exact List.getElem_mem hlt
      have hsn := take_succ_get a i hlt
      rw [← hp] at hpm hu0 hsn
      have Hmem := Lib.hid hmem
      have Hsn := Lib.hid hsn
      have Hpm := Lib.hid hpm
      have Hu := Lib.hid hu0
      have Hc0 := Lib.hid hc0
      clear hp hpm hu0 hsn hc0 hmem
      go_wp2
      go_loopw [9] (fun y wr => ∃ k : Nat, k ≤ b.length ∧ y = .int .i64 k ∧ Hid ((b.take k).all (fun q => memB m a (PM.conj p q)) = true) ∧ Only [] w3 wr)
        (fun y _ => b.length - (intOf y).toNat)
      case atStart => exact ⟨0, Nat.zero_le _, rfl, Lib.hid rfl, hO⟩
      case round =>
        obtain ⟨W4, hnew⟩ : ∃ W, W = wr := ⟨_, rfl⟩
        subst hnew
        obtain ⟨k, hk, rfl, hqk, hO4⟩ := hrel
        have kW := k3.trans hO4
        by_cases hltk : k < b.length
        · have hltkI : (k : Int) < (b.length : Int) := by omega
          have hk0 : (0 : Int) ≤ (k : Int) := by omega
          obtain ⟨b', off', u', rfl, -, hc1, hu1⟩ := hS2.atRow k hltk
          have hc1 := kW.cell (by simp) hc1
          have hc2 := kW.cell (by simp) Hc0.out
          have hqm := Hpb.out b[k] (List.getElem_mem hltk)
          obtain ⟨q, hqq⟩ : ∃ q, q = b[k] := ⟨_, rfl⟩
          have hmemq : q ∈ b := by rw [hqq]; exact List.getElem_mem hltk
          have hsnq := take_succ_get b k hltk
          rw [← hqq] at hqm hu1 hsnq
          have Hqm := Lib.hid hqm
          have Hu1 := Lib.hid hu1
          have Hmemq := Lib.hid hmemq
          have Hsnq := Lib.hid hsnq
          have Hcj := Lib.hid (hpm_conj Hpm.out hqm)
          clear hqq hqm hu1 hsnq hmemq
          rcases hcq : memB m a (PM.conj p q)
          · have Hcq := Lib.hid hcq
            clear hcq
            have Hci : Hid (∀ W : World, Only [] W4 W → Calls Try.prog 40 #[u'] W fun e w' => ∃ v f, e = .returned v ∧ Rd w' v (PM.inv q) f ∧ Fresh W.heap.size w' f ∧ Only [] W w') := Lib.hid fun W hW => specInv_rd m u' q _ W (Rp.keep Hu1.out (kW.trans hW)) Hqm.out hm1000
            have Hc1 : Hid (∀ (v : Value) (f : List Nat) (W : World), Rd W v (PM.inv q) f → Only [] W4 W → Calls Try.prog 39 #[v, u] W fun e w' => ∃ v f, e = .returned v ∧ Rd w' v (PM.comp (PM.inv q) p) f ∧ Fresh W.heap.size w' f ∧ Only [] W w') := Lib.hid fun v f W hv hW => specCompose_rd m v u (PM.inv q) p f _ W hv (Rp.keep Hu.out (kW.trans hW)) Hqm.out.inv Hpm.out hm1000
            have Hc2 : Hid (∀ (v : Value) (f : List Nat) (W : World), Rd W v (PM.comp (PM.inv q) p) f → Only [] W4 W → Calls Try.prog 39 #[v, u'] W fun e w' => ∃ v f, e = .returned v ∧ Rd w' v (PM.conj p q) f ∧ Fresh W.heap.size w' f ∧ Only [] W w') := Lib.hid fun v f W hv hW => specCompose_rd m v u' (PM.comp (PM.inv q) p) q f _ W hv (Rp.keep Hu1.out (kW.trans hW)) (Hqm.out.inv.comp Hpm.out) Hqm.out hm1000
            have Hc3 : Hid (∀ (v : Value) (f : List Nat) (W : World), Rd W v (PM.conj p q) f → Only [] W4 W → Calls Try.prog 38 #[.pointer (some ⟨L.g, 0, none⟩), v] W fun e w' => e = .returned (.bool false) ∧ Only [] W w') := Lib.hid fun v f W hv hW => by
              have := chainHas_any W (HC.out.keep (hO4.trans hW)) HCh.out.inv.wf HoT.out v (PM.conj p q) f hv Hcj.out
              rwa [memB_has HCh.out hm0 Hpa.out Hcj.out, Hcq.out] at this
            go_upto_region 10 with fail
            go_region_held3 (fun w' => Only [] W4 w' ∧ w'.cell? ⟨b1, off + i, none⟩ = some u ∧ w'.cell? ⟨b', off' + k, none⟩ = some u') ((refine and_of ?_ (fun h__ => ⟨h__.cell (by simp) hc2, h__.cell (by simp) hc1⟩); first | with_reducible exact (Only.refl _ _).drew | with_reducible exact Only.trans (And.left (by assumption)) (by assumption) | assumption)) (first
              | (go_at_call 40; (with_reducible refine (Hci.out _ (And.left (by assumption))).mono ?_); rintro e w5 ⟨v5, f5, rfl, r5, F5, t5⟩)
              | (go_at_call 39; (with_reducible refine (Hc1.out v5 f5 _ (Rp.keep r5 (by first | exact Only.refl _ _ | assumption)) (And.left (by assumption))).mono ?_); rintro e w6 ⟨v6, f6, rfl, r6, F6, t6⟩)
              | (go_at_call 39; (with_reducible refine (Hc2.out v6 f6 _ (Rp.keep r6 (by first | exact Only.refl _ _ | assumption)) (And.left (by assumption))).mono ?_); rintro e w7 ⟨v7, f7, rfl, r7, F7, t7⟩)
              | (go_at_call 38; (with_reducible refine (Hc3.out v7 f7 _ (Rp.keep r7 (by first | exact Only.refl _ _ | assumption)) (And.left (by assumption))).mono ?_); rintro e w8 ⟨rfl, t8⟩)
              | fail "no arm")
            have kE : Only [] w3 w8 := hO4.trans ((((Only.refl _ _).drew).trans t5).trans ((t6.trans t7).trans t8))
            go_wp2
            go_ret
            refine ⟨ret_bool ?_, k3.trans kE⟩
            rw [HR.out, eq_comm, Bool.eq_false_iff]
            intro h
            have h1 := List.all_eq_true.1 (List.all_eq_true.1 h p Hmem.out) q Hmemq.out
            rw [Hcq.out] at h1
            cases h1
          · have Hcq := Lib.hid hcq
            clear hcq
            have Hci : Hid (∀ W : World, Only [] W4 W → Calls Try.prog 40 #[u'] W fun e w' => ∃ v f, e = .returned v ∧ Rd w' v (PM.inv q) f ∧ Fresh W.heap.size w' f ∧ Only [] W w') := Lib.hid fun W hW => specInv_rd m u' q _ W (Rp.keep Hu1.out (kW.trans hW)) Hqm.out hm1000
            have Hc1 : Hid (∀ (v : Value) (f : List Nat) (W : World), Rd W v (PM.inv q) f → Only [] W4 W → Calls Try.prog 39 #[v, u] W fun e w' => ∃ v f, e = .returned v ∧ Rd w' v (PM.comp (PM.inv q) p) f ∧ Fresh W.heap.size w' f ∧ Only [] W w') := Lib.hid fun v f W hv hW => specCompose_rd m v u (PM.inv q) p f _ W hv (Rp.keep Hu.out (kW.trans hW)) Hqm.out.inv Hpm.out hm1000
            have Hc2 : Hid (∀ (v : Value) (f : List Nat) (W : World), Rd W v (PM.comp (PM.inv q) p) f → Only [] W4 W → Calls Try.prog 39 #[v, u'] W fun e w' => ∃ v f, e = .returned v ∧ Rd w' v (PM.conj p q) f ∧ Fresh W.heap.size w' f ∧ Only [] W w') := Lib.hid fun v f W hv hW => specCompose_rd m v u' (PM.comp (PM.inv q) p) q f _ W hv (Rp.keep Hu1.out (kW.trans hW)) (Hqm.out.inv.comp Hpm.out) Hqm.out hm1000
            have Hc3 : Hid (∀ (v : Value) (f : List Nat) (W : World), Rd W v (PM.conj p q) f → Only [] W4 W → Calls Try.prog 38 #[.pointer (some ⟨L.g, 0, none⟩), v] W fun e w' => e = .returned (.bool true) ∧ Only [] W w') := Lib.hid fun v f W hv hW => by
              have := chainHas_any W (HC.out.keep (hO4.trans hW)) HCh.out.inv.wf HoT.out v (PM.conj p q) f hv Hcj.out
              rwa [memB_has HCh.out hm0 Hpa.out Hcj.out, Hcq.out] at this
            go_upto_region 10 with fail
            go_region_held3 (fun w' => Only [] W4 w' ∧ w'.cell? ⟨b1, off + i, none⟩ = some u ∧ w'.cell? ⟨b', off' + k, none⟩ = some u') ((refine and_of ?_ (fun h__ => ⟨h__.cell (by simp) hc2, h__.cell (by simp) hc1⟩); first | with_reducible exact (Only.refl _ _).drew | with_reducible exact Only.trans (And.left (by assumption)) (by assumption) | assumption)) (first
              | (go_at_call 40; (with_reducible refine (Hci.out _ (And.left (by assumption))).mono ?_); rintro e w5 ⟨v5, f5, rfl, r5, F5, t5⟩)
              | (go_at_call 39; (with_reducible refine (Hc1.out v5 f5 _ (Rp.keep r5 (by first | exact Only.refl _ _ | assumption)) (And.left (by assumption))).mono ?_); rintro e w6 ⟨v6, f6, rfl, r6, F6, t6⟩)
              | (go_at_call 39; (with_reducible refine (Hc2.out v6 f6 _ (Rp.keep r6 (by first | exact Only.refl _ _ | assumption)) (And.left (by assumption))).mono ?_); rintro e w7 ⟨v7, f7, rfl, r7, F7, t7⟩)
              | (go_at_call 38; (with_reducible refine (Hc3.out v7 f7 _ (Rp.keep r7 (by first | exact Only.refl _ _ | assumption)) (And.left (by assumption))).mono ?_); rintro e w8 ⟨rfl, t8⟩)
              | fail "no arm")
            have kE : Only [] w3 w8 := hO4.trans ((((Only.refl _ _).drew).trans t5).trans ((t6.trans t7).trans t8))
            go_wp2
            go_roundw
            case rel => exact ⟨k + 1, by omega, by go_num, Lib.hid (by rw [Hsnq.out, List.all_append, hqk.out]; simp [Hcq.out]), kE⟩
            case measure => simp [intOf]; omega
        · obtain rfl : k = b.length := by omega
          have hge : ¬ ((b.length : Int) < (b.length : Int)) := by omega
          have hfin := hqk.out
          rw [List.take_length] at hfin
          have Hfin : Hid (nrmR m a b p = true) := Lib.hid hfin
          clear hfin hqk
          go_wp2
          go_roundw
          case rel => exact ⟨i + 1, by omega, by go_num, Lib.hid (by rw [Hsn.out, List.all_append, hq.out]; simp [Hfin.out]), hO4⟩
          case measure => simp [intOf]; omega
    · obtain rfl : i = a.length := by omega
      have hge : ¬ ((a.length : Int) < (a.length : Int)) := by omega
      have hfin := hq.out
      rw [List.take_length] at hfin
      have hfin2 : R = true := by rw [HR.out]; exact hfin
      have Hfin := Lib.hid hfin2
      clear hfin hq hfin2
      go_wp2
      go_ret
      exact ⟨ret_bool Hfin.out.symm, k3.trans hO⟩
theorem implNormal_any (n : Int) (va vb : Value) (a b : List (List Int)) (fa fb : List Nat) (w : World) (ha : Rd w va a fa) (hb : Rd w vb b fb) :
    Calls Try.prog 8 #[.int .i64 n, va, vb] w fun e w' => e = .returned (.bool (nrmB n a b)) ∧ Only [] w w' := by
  rcases hs : subB n a b
  · exact implNormal_no n va vb a b fa fb w ha hb hs
  · obtain ⟨m, rfl, -⟩ := SubF.of ha hb hs
    exact implNormal_yes m va vb a b fa fb w ha hb hs
theorem specNormal_any (n : Int) (va vb : Value) (a b : List (List Int)) (fa fb : List Nat) (w : World) (ha : Rd w va a fa) (hb : Rd w vb b fb) :
    Calls Try.prog 9 #[.int .i64 n, va, vb] w fun e w' => e = .returned (.bool (nrmB n a b)) ∧ Only [] w w' := by
  rcases hs : subB n a b
  · exact specNormal_no n va vb a b fa fb w ha hb hs
  · obtain ⟨m, rfl, -⟩ := SubF.of ha hb hs
    exact specNormal_yes m va vb a b fa fb w ha hb hs
end Go.Proofs.Ytbediokigibdlaa

namespace Go.Proofs.Ytbediokigibdlaa
open Go.RowKit
set_option maxRecDepth 10000

/-- how many members commute with all -/
noncomputable def cenS (n : Int) (a : List (List Int)) : Nat := if gensB n a = true then ((lsM n.toNat a).filter (comA a)).length else 0
theorem comA_any {a : List (List Int)} {p : List Int} : (a.any fun q => !decide (PM.comp p q = PM.comp q p)) = !comA a p := by
  unfold comA
  rw [List.any_eq_not_all_not]
  simp
set_option maxHeartbeats 1000000 in
theorem cenClosure (m : Nat) (u : Value) (q p : List Int) (f fp : List Nat) (g : Nat) (vp : Value) (W : World) (hu : Rd W u q f) (hc : W.cell? ⟨g, 0, none⟩ = some vp) (hp : Rd W vp p fp) (pp : PM.PN m p) (pq : PM.PN m q) (hm : m ≤ 1000) :
    Calls Try.prog 46 #[u, .pointer (some ⟨g, 0, none⟩)] W fun e w' => e = .returned (.bool (!decide (PM.comp p q = PM.comp q p))) ∧ Only [] W w' := by
  have Hp := Lib.hid pp
  have Hq := Lib.hid pq
  clear pp pq
  go_enter Try.func46, Try.ntmps46
  go_wp2_with (first
    | (go_at_call 47; (with_reducible refine (implCommute_any m vp u p q fp f W hp hu Hp.out Hq.out hm).mono ?_); rintro e w1 ⟨rfl, t1⟩)
    | fail "no arm")
  go_ret
  exact ⟨rfl, t1⟩
set_option maxHeartbeats 1000000 in
theorem implCenter_no (n : Int) (vg : Value) (a : List (List Int)) (fpg : List Nat) (w : World) (hg : Rd w vg a fpg) (hgs : gensB n a = false) :
    Calls Try.prog 11 #[.int .i64 n, vg] w fun e w' => e = .returned (.int .i64 (cenS n a : Nat)) ∧ Only [] w w' := by
  have HcG := Lib.hid (implIsGens_rd n vg a fpg w hg)
  rw [hgs] at HcG
  have He : Hid (cenS n a = 0) := Lib.hid (by unfold cenS; rw [hgs]; rfl)
  rw [He.out]
  clear hgs
  go_enter Try.func11, Try.ntmps11
  go_wp2_with (first
    | (go_at_call 43; (with_reducible refine (HcG.out).mono ?_); rintro en w1 ⟨rfl, t1⟩)
    | fail "no arm")
  go_ret
  exact ⟨rfl, t1⟩
set_option maxHeartbeats 4000000 in
theorem implCenter_yes (m : Nat) (vg : Value) (a : List (List Int)) (fpg : List Nat) (w : World) (hg : Rd w vg a fpg) (hgs : gensB m a = true) :
    Calls Try.prog 11 #[.int .i64 m, vg] w fun e w' => e = .returned (.int .i64 (cenS m a : Nat)) ∧ Only [] w w' := by
  obtain ⟨⟨n1, n20⟩, hgl, hpn⟩ := gensB_iff.1 hgs
  have hpn' : ∀ g ∈ a, PM.PN m g := by simpa using hpn
  have hm0 : 0 < m := by omega
  have hm20 : m ≤ 20 := by omega
  have hm1000 : m ≤ 1000 := by omega
  have HcG := Lib.hid (implIsGens_rd (m : Int) vg a fpg w hg)
  rw [hgs] at HcG
  have hce : cenS m a = ((lsM m a).filter (comA a)).length := by unfold cenS; rw [if_pos hgs]; rfl
  have hLp : ∀ x ∈ lsM m a, PM.PN m x := by
    obtain ⟨G, T, hCh⟩ := rank_chain m _ a fpg w hg hgs
    intro x hx
    unfold lsM at hx
    by_cases h3 : 3000 < ordC m a m
    · rw [if_pos h3] at hx; cases hx
    · rw [if_neg h3] at hx
      exact (allMem_grp hCh hm0 hpn' x hx).pn hpn'
  have hLl : (lsM m a).length ≤ 3000 := by
    unfold lsM
    by_cases h3 : 3000 < ordC m a m
    · rw [if_pos h3]; simp
    · rw [if_neg h3, allMem_len]; omega
  obtain ⟨R, hR⟩ : ∃ R, R = cenS m a := ⟨_, rfl⟩
  rw [← hR]
  rw [hce] at hR
  obtain ⟨LS, hLS⟩ : ∃ LS, LS = lsM m a := ⟨_, rfl⟩
  rw [← hLS] at hR hLp hLl
  have HLS := Lib.hid hLS
  have HR := Lib.hid hR
  have Hpn := Lib.hid hpn'
  have HLp := Lib.hid hLp
  obtain ⟨A1, C1, o1, f1, rfl, -, hS1⟩ := id hg.open_
  clear hgs hpn hpn' hce hLp hR hLS
  go_enter Try.func11, Try.ntmps11
  go_wp2_with (first
    | (go_at_call 43; (with_reducible refine (HcG.out).mono ?_); rintro en w1 ⟨he, t1⟩; subst he)
    | (go_at_call 34; (with_reducible refine (implNewChain_any m hm0 hm20 _ a fpg w1 (Rp.keep hg t1) Hpn.out (by omega)).mono ?_); rintro en w3 ⟨L, gv, G, T, M, F, rfl, -, hoT, hC, hCh, t3⟩; have HC := Lib.hid hC; have HCh := Lib.hid hCh; have HoT := Lib.hid hoT; clear hC hCh hoT)
    | (go_at_call 44; (with_reducible refine (implMembers_ch m w3 HC.out HCh.out HoT.out Hpn.out).mono ?_); rintro en w4 ⟨v4, f4, rfl, r4, F4, t4⟩; rw [← HLS.out] at r4; obtain ⟨A4, C4, o4, fs4, rfl, -, S4⟩ := r4.open_)
    | fail "no arm")
  have k4 : Only [] w w4 := (t1.trans t3).trans t4
  have hb4 := S4.bound
  clear t1 t3 t4 F4
  go_loopw [7, 23] (fun c y wr => ∃ i : Nat, i ≤ LS.length ∧ y = .int .i64 i ∧ c = .int .i64 (((LS.take i).filter (comA a)).length : Nat) ∧ Only [] w4 wr)
    (fun _ y _ => LS.length - (intOf y).toNat)
  case atStart => exact ⟨0, Nat.zero_le _, rfl, rfl, Only.refl _ _⟩
  case round =>
    obtain ⟨W2, hnew⟩ : ∃ W, W = wr := ⟨_, rfl⟩
    subst hnew
    obtain ⟨i, hi, rfl, rfl, hO⟩ := hrel
    by_cases hlt : i < LS.length
    · have hltI : (i : Int) < (LS.length : Int) := by omega
      have hi0 : (0 : Int) ≤ (i : Int) := by omega
      obtain ⟨b1, off, u, rfl, -, hc0, hu0⟩ := S4.atRow i hlt
      have hc := hO.cell (by simp) hc0
      have hpm := HLp.out LS[i] (List.getElem_mem hlt)
      obtain ⟨p, hp⟩ : ∃ p, p = LS[i] := ⟨_, rfl⟩
      have hsn := take_succ_get LS i hlt
      rw [← hp] at hpm hu0 hsn
      have hcl : ((LS.take i).filter (comA a)).length ≤ i := by
        have := List.length_filter_le (comA a) (LS.take i)
        rw [List.length_take] at this
        omega
      obtain ⟨c, hcc⟩ : ∃ c, c = ((LS.take i).filter (comA a)).length := ⟨_, rfl⟩
      rw [← hcc] at hcl ⊢
      have hstep : ((LS.take (i + 1)).filter (comA a)).length = c + (if comA a p = true then 1 else 0) := by
        rw [hsn, List.filter_append, List.length_append, ← hcc]
        by_cases h : comA a p = true
        · simp [h]
        · simp [h]
      have Hstep := Lib.hid hstep
      have kW : Only [] w W2 := k4.trans hO
      have Hu := Lib.hid (Rp.keep hu0 hO)
      have Hpm := Lib.hid hpm
      obtain ⟨au, cu, rfl, -⟩ := id hu0.ints
      have hal : Only [] W2 (W2.alloc (.cells #[.slice au p.length cu] 36)) := (Only.refl _ _).alloc _
      have hB := Blk.new W2 [.slice au p.length cu] 36
      have cbox := hB.cell 0 rfl
      have Hcf := Lib.hid (ContainsFunc_rows 46 #[.pointer (some ⟨W2.heap.size, 0, none⟩)] (fun q => !decide (PM.comp p q = PM.comp q p)) Try.call46 (.slice A1 a.length C1) a _ _ (Rp.keep hg (kW.trans hal))
        (fun x' hx' u' f' w' hw hu' => cenClosure m u' x' p f' _ W2.heap.size _ w' hu' (hw.cell (by simp) cbox) (Rp.keep Hu.out (hal.trans hw)) Hpm.out (Hpn.out x' hx') hm1000))
      rw [comA_any] at Hcf
      clear hp hpm hu0 hsn hc0 hcc hstep
      rcases hcm : comA a p
      · rw [hcm] at Hcf
        have Hcm := Lib.hid hcm
        clear hcm
        go_wp2_with (first
          | (go_at_call 45; (with_reducible refine (Hcf.out).mono ?_); rintro e wA ⟨rfl, tA⟩)
          | fail "no arm")
        go_roundw
        case rel => exact ⟨i + 1, by omega, by go_num, by rw [Hstep.out, Hcm.out]; rfl, (hO.trans hal).trans tA⟩
        case measure => simp [intOf]; omega
      · rw [hcm] at Hcf
        have Hcm := Lib.hid hcm
        clear hcm
        have hwc : IntKind.i64.wrap ((c : Int) + 1) = ((c + 1 : Nat) : Int) := by rw [IntKind.wrap_i64]; push_cast; omega
        go_wp2_with (first
          | (go_at_call 45; (with_reducible refine (Hcf.out).mono ?_); rintro e wA ⟨rfl, tA⟩)
          | fail "no arm")
        go_roundw
        case rel => exact ⟨i + 1, by omega, by go_num, by rw [Hstep.out, Hcm.out]; first | rfl | (congr 1; simp), (hO.trans hal).trans tA⟩
        case measure => simp [intOf]; omega
    · obtain rfl : i = LS.length := by omega
      have hge : ¬ ((LS.length : Int) < (LS.length : Int)) := by omega
      have hfin : ((LS.take LS.length).filter (comA a)).length = R := by rw [List.take_length, HR.out]
      rw [hfin]
      clear hfin
      go_wp2
      go_ret
      exact ⟨rfl, k4.trans hO⟩
theorem implCenter_any (n : Int) (vg : Value) (a : List (List Int)) (fpg : List Nat) (w : World) (hg : Rd w vg a fpg) :
    Calls Try.prog 11 #[.int .i64 n, vg] w fun e w' => e = .returned (.int .i64 (cenS n a : Nat)) ∧ Only [] w w' := by
  rcases hs : gensB n a
  · exact implCenter_no n vg a fpg w hg hs
  · obtain ⟨⟨n1, n20⟩, -, -⟩ := gensB_iff.1 hs
    obtain ⟨m, rfl⟩ := Int.eq_ofNat_of_zero_le (show 0 ≤ n by omega)
    exact implCenter_yes m vg a fpg w hg hs
end Go.Proofs.Ytbediokigibdlaa

namespace Go.Proofs.Ytbediokigibdlaa
open Go.RowKit
set_option maxRecDepth 10000

set_option maxHeartbeats 2000000 in
theorem implNewChain_L (n : Nat) (hn : 0 < n) (hn20 : n ≤ 20) (vg : Value) (gens : List (List Int)) (fpg : List Nat) (w : World) (hg : Rd w vg gens fpg) (hpn : ∀ g ∈ gens, PM.PN n g) (hgl : gens.length ≤ 1000) :
    Calls Try.prog 34 #[.int .i64 n, vg] w fun e w' => ∃ (L : Lay) (gv : Nat → Value) (G : PM.Gens) (T : PM.Rows) (M F : List Nat), e = .returned (.pointer (some ⟨L.g, 0, none⟩)) ∧ L.oG = 1 ∧ L.oT = 2 ∧ (∀ b ∈ F, b ∈ fpg ∨ w.heap.size ≤ b) ∧ Ch 36 w.heap.size w' L gv n G T M F ∧ PM.Chain n gens G T ∧ PM.Ln n 0 G T ∧ Only [] w w' := by
  obtain ⟨i2, hi2, hz20, hz21, hz22⟩ := info_parts Try.info222
  obtain ⟨i1, hi, hz0, hz1, hz2⟩ := info_parts Try.info22
  obtain ⟨ag, cg, obg, fpsg, rfl, hfpg, hSg⟩ := hg.open_
  have hgb := hSg.bound
  have Hpn := Lib.hid hpn
  have HSg := Lib.hid hSg
  have Hfpg := Lib.hid (Rp.lt hg)
  have Hfpe := Lib.hid hfpg
  clear hpn hSg hg hfpg
  go_enter Try.func34, Try.ntmps34
  go_wp2_with (at_make; refine wpList_make_full _ rfl _ _ 79 rfl w.heap.size 24 i2 _ 1 Try.underlying79 hi2 hz20 hz21 _ _ _ _ n rfl rfl rfl rfl (by rw [hz22]; omega) (by unfold maxLen; omega) (Nat.le_refl _) ?_; intro w1 hown hg)
  rw [madeNils', Nat.mul_one] at hown
  have hw1 : w.heap.size < w1.heap.size := (hown.lt w.heap.size rfl).2
  have h1 : Only [] w w1 := (Only.refl _ _).grown hg (by simp)
  have HN0 : Hid (NR 24 n w w1.heap.size w.heap.size 0 (w1.alloc (.cells #[.int .i64 n, .slice (some ⟨w.heap.size, 0, none⟩) n n, .slice none 0 0] 81))) := Lib.hid (by
    have hal : Only [] w1 (w1.alloc (.cells #[.int .i64 n, .slice (some ⟨w.heap.size, 0, none⟩) n n, .slice none 0 0] 81)) := (Only.refl _ _).alloc _
    have hsz : (w1.alloc (.cells #[.int .i64 n, .slice (some ⟨w.heap.size, 0, none⟩) n n, .slice none 0 0] 81)).heap.size = w1.heap.size + 1 := by simp
    refine ⟨updS (updS (fun _ => []) .g [w1.heap.size]) .gt [w.heap.size], .slice none 0 0, fun _ => 0, fun _ => .slice none 0 0, Em.start _ n (Sep.start _ _ (by omega) (by simp; omega) (by simp; omega) (by simp; omega)) (by rw [updS_other _ _ (by simp), updS_other _ _ (by simp)]) _ _, by rw [updS_other _ _ (by simp), updS_same], updS_same _ _ _, fun k => by rw [updS_other _ _ (by simp), updS_other _ _ (by simp)], Blk.new w1 _ _, owns_keep hown hal, h1.trans hal⟩)
  clear hown hg
  go_wp2
  go_loopw [16] (fun i wr => ∃ j : Nat, j ≤ n ∧ i = .int .i64 j ∧ NR 24 n w w1.heap.size w.heap.size j wr)
    (fun i _ => n - (intOf i).toNat)
  case atStart => exact ⟨0, Nat.zero_le _, rfl, HN0.out⟩
  case round =>
    obtain ⟨W2, hnew⟩ : ∃ W, W = wr := ⟨_, rfl⟩
    subst hnew
    obtain ⟨j, hj, rfl, hN⟩ := hrel
    by_cases hlt : j < n
    · obtain ⟨S, tv, rb, iv, hE, eg, egt, hem, hB, hO, hK⟩ := hN
      have hgS : w1.heap.size ∈ S .g := by rw [eg]; simp
      have hglt := hE.sep.lt _ _ hgS
      have hgtv : w1.heap.size ∉ tv.ownBlock.toList := by rw [hE.tvS]; exact hE.sep.sep _ _ (by simp) _ hgS
      obtain ⟨fs, hA, hfs⟩ := hE.acc
      have hrl := rowsV_len n rb j
      have hne : w1.heap.size ≠ W2.heap.size := by omega
      have hBn : w.heap.size ≤ W2.heap.size := hK.size
      have HE := Lib.hid hE
      have HB := Lib.hid hB
      have HO := Lib.hid hO
      have HK := Lib.hid hK
      have Heg := Lib.hid eg
      have Hegt := Lib.hid egt
      have Hem := Lib.hid hem
      have HA := Lib.hid hA
      have Hfs := Lib.hid hfs
      have Hrl := Lib.hid hrl
      have Hgtv := Lib.hid hgtv
      have htvlt : ∀ g, tv.ownBlock = some g → g ∉ [W2.heap.size] := fun g hg hm => by
        have h5 := (hA.ownlt g hg).2
        have h6 : g = W2.heap.size := by simpa using hm
        omega
      have Htvlt := Lib.hid htvlt
      clear hE hB hO hK eg egt hem hA hfs hrl hgS hgtv htvlt
      go_wp2_with (first
        | (at_make; refine wpList_make_full _ rfl _ _ 24 rfl W2.heap.size 36 i1 _ 1 Try.underlying24 hi hz0 hz1 _ _ _ _ n rfl rfl rfl rfl (by rw [hz2]; omega) (by unfold maxLen; omega) (Nat.le_refl _) ?_; intro w3 hown hg; rw [madeNils', Nat.mul_one] at hown; have h3 : Only [] W2 w3 := (Only.refl _ _).grown hg (by simp); have Hown := Lib.hid hown; clear hown hg)
        | (go_at_call 62; (with_reducible refine (implIdentity_any n w3 (by omega)).mono ?_); rintro en w4 ⟨v4, f4, rfl, r4, F4, t4⟩; obtain ⟨a4, c4, rfl, -⟩ := r4.ints; have hO4 := owns_keep Hown.out t4; have c40 := (hO4.cellAt j (by omega)); rw [List.getElem?_replicate, if_pos hlt] at c40; have z40 := hO4.frozenAt j; have HO4 := Lib.hid hO4; clear hO4; have c41 := ((HB.out.keep h3).keep t4).cell 2 rfl)
        | (at_builtin; go_loud (refine wpList_push2d (α := RawV) rfl _ _ 79 rfl w.heap.size 24 i2 _ 24 Try.underlying79 hi2 hz20 hz21 hz22 rfl (by decide) (by decide) (w4.setCell ⟨W2.heap.size, j, none⟩ _) tv (rowsV n rb j) fs rfl (((HA.out.keep h3).keep t4).only (setCell_only w4 _ j _) (by rw [Hfs.out]; simp) Htvlt.out) ((Only.refl _ _).alloc _) (Nat.le_trans hBn (Nat.le_trans (Nat.le_trans h3.size t4.size) (setCell_only w4 _ j _).size)) _ 1 [.slice (some ⟨W2.heap.size, 0, none⟩) n n] ⟨rowV n W2.heap.size⟩ [] rfl (lit_src _ [.slice (some ⟨W2.heap.size, 0, none⟩) n n] _ (by simp only [World.size_setCell])) (by intro u hu; simp at hu; subst hu; rfl) ⟨rfl, rfl⟩ (by simp) (by rw [Hrl.out]; omega) ?_; intro v5 w5 hA5 hO5 hb5; obtain ⟨a5, n5, c5, rfl⟩ : ∃ a n c, v5 = Value.slice a n c := (let ⟨a, c, hh⟩ := hA5.form; ⟨a, _, c, hh⟩); have hB5 := ((((HB.out.keep h3).keep t4).only (setCell_only w4 W2.heap.size j _) (by simpa using hne)).keep ((Only.refl _ _).alloc _)).only hO5 Hgtv.out; have y5 := hB5.cell 2 rfl; have z5 := hB5.frozen 2; clear hB5))
        | fail "no arm")
      go_roundw
      case rel => exact ⟨j + 1, by omega, by go_num, NR.step hlt HE.out Heg.out Hegt.out Hem.out HB.out HO.out HK.out Hown.out h3 r4 F4 t4 ((Only.refl _ _).alloc _) hA5 (by rw [List.flatten_append, Hfs.out]; rfl) hO5 hb5⟩
      case measure => simp [intOf]; omega
    · obtain rfl : j = n := by omega
      obtain ⟨⟨g', bg', bt', cG', cT', oG', oT', rb'⟩, gv0, M0, F0, es, eoG, eoT, hFB, hC, hK⟩ := hN.finF (eG := 36) hn hn20
      injection es with es; injection es with es; injection es with es _ _
      have es' : w1.heap.size = g' := es
      subst es'
      have eoG' : oG' = 1 := eoG
      subst eoG'
      have eoT' : oT' = 2 := eoT
      subst eoT'
      have HL0 := Lib.hid (CLF.start gens fpg hFB hC hK)
      clear es eoG eoT hC hK hFB
      go_wp2
      go_loopw [39] (fun i wr => ∃ m : Nat, m ≤ gens.length ∧ i = .int .i64 m ∧ CLF 36 ⟨w1.heap.size, bg', bt', cG', cT', 1, 2, rb'⟩ j gens fpg w m wr)
        (fun i _ => gens.length - (intOf i).toNat)
      case atStart => exact ⟨0, Nat.zero_le _, rfl, HL0.out⟩
      case round =>
        obtain ⟨W3, hnew⟩ : ∃ W, W = wr := ⟨_, rfl⟩
        subst hnew
        obtain ⟨m, hm, rfl, hCL⟩ := hrel
        have HCL := Lib.hid hCL
        obtain ⟨gv3, G3, T3, M3, F3, hF3, hC3, hc3, hL3, hK3⟩ := hCL
        have HF3 := Lib.hid hF3
        clear hF3
        by_cases hltm : m < gens.length
        · obtain ⟨b, off, u, rfl, hob, hcu0, hru0⟩ := HSg.out.atRow m hltm
          have hcu := hK3.cell (by simp) hcu0
          have hru := Rp.keep hru0 hK3
          have hgm : gens[m] ∈ gens := List.getElem_mem _
          have hpm := Hpn.out _ hgm
          have hfm : ∀ b ∈ fpsg[m]'(by rw [HSg.out.nf]; exact hltm), b ∉ M3 := fun b hb hM => by
            have h5 := hC3.ge b hM
            have h6 := Hfpg.out b (by rw [Hfpe.out]; exact List.mem_append_right _ (mem_flatten_get (by rw [HSg.out.nf]; exact hltm) hb))
            omega
          have hfg : ∀ b ∈ fpsg[m]'(by rw [HSg.out.nf]; exact hltm), b ∈ fpg ∨ w.heap.size ≤ b := fun b hb => .inl (by rw [Hfpe.out]; exact List.mem_append_right _ (mem_flatten_get (by rw [HSg.out.nf]; exact hltm) hb))
          have Hfg := Lib.hid hfg
          clear hfg
          have HC3 := Lib.hid hC3
          have Hc3 := Lib.hid hc3
          have HL3 := Lib.hid hL3
          have HK3 := Lib.hid hK3
          have Hru := Lib.hid hru
          have Hpm := Lib.hid hpm
          have Hfm := Lib.hid hfm
          clear hcu0 hru0 hC3 hc3 hL3 hK3 hru hpm hfm hob hgm
          go_wp2_with (first
            | (go_at_call 49; (with_reducible refine (implAdd0 HC3.out rfl rfl Hc3.out.inv HL3.out Hpm.out Hru.out Hfm.out (HK3.out.size)).mono ?_); rintro en w5 ⟨rfl, ha5⟩)
            | fail "no arm")
          go_roundw
          case rel => exact ⟨m + 1, by omega, by go_num, CLF.step HF3.out Hfg.out HC3.out Hc3.out HK3.out (Only.refl _ _) hltm ha5⟩
          case measure => simp [intOf]; omega
        · obtain rfl : m = gens.length := by omega
          rw [List.take_length] at hc3
          have Hc3 := Lib.hid hc3
          have HC3 := Lib.hid hC3
          have HK3 := Lib.hid hK3
          have HL3 := Lib.hid hL3
          clear hC3 hc3 hL3 hK3
          go_wp2
          go_ret
          exact ⟨_, gv3, G3, T3, M3, F3, rfl, rfl, rfl, HF3.out, HC3.out, Hc3.out, HL3.out, HK3.out⟩
end Go.Proofs.Ytbediokigibdlaa

namespace Go.Proofs.Ytbediokigibdlaa
open Go.RowKit
set_option maxRecDepth 10000

/-- what is known of the commutators found so far -/
structure DrF (m : Nat) (a D : List (List Int)) : Prop where
  grp : ∀ g ∈ D, PM.Grp m a g
  len : 2 ^ D.length ≤ ordC m D m
  nil : ablB a = true → D = []
theorem pow61 {k : Nat} (h : 2 ^ k ≤ 2432902008176640000) : k ≤ 61 := by
  rcases Nat.lt_or_ge 61 k with h1 | h1
  · have h2 : 2 ^ 62 ≤ 2 ^ k := Nat.pow_le_pow_right (by omega) h1
    have h3 : (2 : Nat) ^ 62 = 4611686018427387904 := by decide
    omega
  · exact h1
theorem DrF.le {m : Nat} {a D : List (List Int)} (h : DrF m a D) (hm : 0 < m) (hm20 : m ≤ 20) (pa : ∀ g ∈ a, PM.PN m g) {G : PM.Gens} {T : PM.Rows} (c : PM.Chain m D G T) : D.length ≤ 61 := by
  have pD : ∀ g ∈ D, PM.PN m g := fun g hg => (h.grp g hg).pn pa
  exact pow61 (Nat.le_trans h.len (ordC_le c hm pD hm20 (Nat.le_refl _)))
theorem DrF.zero {m : Nat} (hm : 0 < m) (a : List (List Int)) {G : PM.Gens} {T : PM.Rows} (c : PM.Chain m [] G T) : DrF m a [] := ⟨by simp, by
  have := ordC_pos c hm (by simp) (Nat.le_refl m)
  simpa using this, fun _ => rfl⟩
theorem DrF.snoc {m : Nat} {a D : List (List Int)} (h : DrF m a D) (hm : 0 < m) (pa : ∀ g ∈ a, PM.PN m g) {G G' : PM.Gens} {T T' : PM.Rows} (c : PM.Chain m D G T) {p : List Int} (c' : PM.Chain m (D ++ [p]) G' T') (hp : PM.Grp m a p) (hn : ¬ PM.Grp m D p) (h1 : ablB a = true → p = PM.pts m) : DrF m a (D ++ [p]) := by
  have pD : ∀ g ∈ D, PM.PN m g := fun g hg => (h.grp g hg).pn pa
  have hg : ∀ g ∈ D ++ [p], PM.Grp m a g := fun g hg => by
    rcases List.mem_append.1 hg with hg | hg
    · exact h.grp g hg
    · rw [List.mem_singleton.1 hg]; exact hp
  have pD' : ∀ g ∈ D ++ [p], PM.PN m g := fun g hg' => (hg g hg').pn pa
  refine ⟨hg, ?_, fun e => absurd (by rw [h1 e]; exact .id) hn⟩
  have h2 := PM.ord_half c c' hm pD pD' (fun g hg => PM.Grp.gen pD' (List.mem_append_left _ hg)) (PM.Grp.gen pD' (show p ∈ D ++ [p] by simp)) hn
  rw [ordC_eq c hm pD (Nat.le_refl _), ordC_eq c' hm pD' (Nat.le_refl _)] at h2
  have h3 := h.len
  rw [List.length_append, List.length_singleton, Nat.pow_succ]
  omega
/-- the chain, the list and their boxes under way -/
def DrS (w0 : World) (L : Lay) (m : Nat) (a : List (List Int)) (g5 g6 : Nat) (D : List (List Int)) (W : World) : Prop :=
  ∃ (gv : Nat → Value) (G : PM.Gens) (T : PM.Rows) (M F : List Nat) (v : Value) (fs : List (List Nat)), Ch 36 w0.heap.size W L gv m G T M F ∧ PM.Chain m D G T ∧ PM.Ln m 0 G T ∧
    Blk W g5 [.pointer (some ⟨L.g, 0, none⟩)] ∧ Blk W g6 [v] ∧ Acc w0.heap.size 36 W v D fs ∧ (∀ b ∈ fs.flatten, w0.heap.size ≤ b ∧ b ∉ M ∧ b ≠ g5 ∧ b ≠ g6 ∧ b < W.heap.size) ∧ (∀ b ∈ v.ownBlock.toList, b ∉ M ∧ b ≠ g5 ∧ b ≠ g6 ∧ b ∉ F) ∧
    (g5 ∉ M ∧ g6 ∉ M ∧ g5 ∉ F ∧ g6 ∉ F) ∧ w0.heap.size ≤ g5 ∧ w0.heap.size ≤ g6 ∧ g5 ≠ g6 ∧ Only [] w0 W ∧ DrF m a D
theorem DrS.keep {w0 : World} {L : Lay} {m : Nat} {a : List (List Int)} {g5 g6 : Nat} {D : List (List Int)} {W W' : World} (h : DrS w0 L m a g5 g6 D W) (k : Only [] W W') : DrS w0 L m a g5 g6 D W' := by
  obtain ⟨gv, G, T, M, F, v, fs, hC, hc, hL, b5, b6, hA, h1, h2, h3, h4, h5, h6, h7, h8⟩ := h
  have hz := k.size
  exact ⟨gv, G, T, M, F, v, fs, hC.keep k, hc, hL, b5.keep k, b6.keep k, hA.keep k, fun b hb => (by obtain ⟨q1, q2, q3, q4, q5⟩ := h1 b hb; exact ⟨q1, q2, q3, q4, by omega⟩), h2, h3, h4, h5, h6, h7.trans k, h8⟩
theorem ownB {v : Value} {b : Nat} (h : b ∈ v.ownBlock.toList) : v.ownBlock = some b := by simpa using h
theorem ownB' {v : Value} {b : Nat} (h : v.ownBlock = some b) : b ∈ v.ownBlock.toList := by simpa using h
/-- one permutation more -/
theorem DrS.snoc {w0 : World} {L : Lay} {m : Nat} {a : List (List Int)} {g5 g6 : Nat} {D : List (List Int)} {W W1 w5 w9 : World} {gv : Nat → Value} {G : PM.Gens} {T : PM.Rows} {M F : List Nat} {v : Value} {fs : List (List Nat)}
    (pa : ∀ g ∈ a, PM.PN m g) (hC : Ch 36 w0.heap.size W L gv m G T M F) (hc : PM.Chain m D G T) (b5 : Blk W g5 [.pointer (some ⟨L.g, 0, none⟩)]) (b6 : Blk W g6 [v]) (hA : Acc w0.heap.size 36 W v D fs)
    (q1 : ∀ b ∈ fs.flatten, w0.heap.size ≤ b ∧ b ∉ M ∧ b ≠ g5 ∧ b ≠ g6 ∧ b < W.heap.size) (q2 : ∀ b ∈ v.ownBlock.toList, b ∉ M ∧ b ≠ g5 ∧ b ≠ g6 ∧ b ∉ F) (q3 : g5 ∉ M ∧ g6 ∉ M ∧ g5 ∉ F ∧ g6 ∉ F) (q4 : w0.heap.size ≤ g5) (q5 : w0.heap.size ≤ g6) (q6 : g5 ≠ g6) (q7 : Only [] w0 W) (q8 : DrF m a D)
    {p : List Int} {fp : List Nat} (k1 : Only [] W W1) (hfp : ∀ b ∈ fp, W.heap.size ≤ b) (hfl : ∀ b ∈ fp, b < W1.heap.size) (hg : PM.Grp m a p) (hn : ¬ PM.Grp m D p) (h1 : ablB a = true → p = PM.pts m)
    {gv' : Nat → Value} {G' : PM.Gens} {T' : PM.Rows} {M' F' : List Nat} (hC' : Ch 36 w0.heap.size w5 L gv' m G' T' M' F') (hA' : PM.Added m 0 p G T G' T') (hL' : PM.Ln m 0 G' T') (hM' : Mv L 0 gv gv' M M' F F' fp W1 w5)
    {c v9 : Value} (A9 : Acc w0.heap.size 36 w9 v9 (D ++ [p]) (fs ++ [fp])) (O9 : Only v.ownBlock.toList (w5.alloc (.cells #[c] 36)) w9) (hP : v9.ownBlock = v.ownBlock ∨ v9.ownBlock = some (w5.alloc (.cells #[c] 36)).heap.size) :
    DrS w0 L m a g5 g6 (D ++ [p]) (w9.setCell ⟨g6, 0, none⟩ v9) := by
  have hal : Only [] w5 (w5.alloc (.cells #[c] 36)) := (Only.refl _ _).alloc _
  have hz1 := k1.size
  have hz5 := hM'.only.size
  have hzal : (w5.alloc (.cells #[c] 36)).heap.size = w5.heap.size + 1 := by simp
  have hz9 := O9.size
  have l5 := b5.lt
  have l6 := b6.lt
  have hm0 := hC.pos
  have hown := fun b (hb : b ∈ v.ownBlock.toList) => (hA.ownlt b (ownB hb))
  have hst : Only [g6] w9 (w9.setCell ⟨g6, 0, none⟩ v9) := (Only.refl [g6] w9).setCell (by simp) _
  have hM5 : g5 ∉ M' ∧ g6 ∉ M' := ⟨fun hm => by
    rcases hM'.m _ hm with h | h
    · exact q3.1 h
    · omega, fun hm => by
    rcases hM'.m _ hm with h | h
    · exact q3.2.1 h
    · omega⟩
  have hF5 : g5 ∉ F' ∧ g6 ∉ F' := ⟨fun hm => by
    rcases hM'.f _ hm with h | h | h
    · exact q3.2.2.1 h
    · have := hfp _ h; omega
    · omega, fun hm => by
    rcases hM'.f _ hm with h | h | h
    · exact q3.2.2.2 h
    · have := hfp _ h; omega
    · omega⟩
  have hvM : ∀ b ∈ v.ownBlock.toList, b ∉ M' ∧ b ∉ F' := fun b hb => ⟨fun hm => by
    rcases hM'.m _ hm with h | h
    · exact (q2 b hb).1 h
    · have := (hown b hb).2; omega, fun hm => by
    rcases hM'.f _ hm with h | h | h
    · exact (q2 b hb).2.2.2 h
    · have h1 := hfp _ h; have h2 := (hown b hb).2; omega
    · have := (hown b hb).2; omega⟩
  have B5 : Blk w9 g5 [.pointer (some ⟨L.g, 0, none⟩)] := (((b5.keep k1).only hM'.only q3.1).keep hal).only O9 (fun hm => (q2 _ hm).2.1 rfl)
  have B6 : Blk w9 g6 [v] := (((b6.keep k1).only hM'.only q3.2.1).keep hal).only O9 (fun hm => (q2 _ hm).2.2.1 rfl)
  have v9own : ∀ b ∈ v9.ownBlock.toList, b ∈ v.ownBlock.toList ∨ b = w5.heap.size + 1 := fun b hb => by
    rcases hP with e | e
    · rw [e] at hb; exact .inl hb
    · rw [e, hzal] at hb; right; simpa using hb
  have hfs9 : ∀ b ∈ (fs ++ [fp]).flatten, w0.heap.size ≤ b ∧ b ∉ M' ∧ b ≠ g5 ∧ b ≠ g6 ∧ b < w9.heap.size := fun b hb => by
    rw [List.flatten_append] at hb
    rcases List.mem_append.1 hb with hb | hb
    · obtain ⟨r1, r2, r3, r4, r5⟩ := q1 b hb
      refine ⟨r1, fun hm => ?_, r3, r4, by omega⟩
      rcases hM'.m _ hm with h | h
      · exact r2 h
      · omega
    · have hb : b ∈ fp := by simpa using hb
      have r1 := hfp b hb
      have r2 := hfl b hb
      have r3 := q7.size
      refine ⟨by omega, fun hm => ?_, by omega, by omega, by omega⟩
      rcases hM'.m _ hm with h | h
      · have := hC.lM _ h; omega
      · omega
  have C9 : Ch 36 w0.heap.size (w9.setCell ⟨g6, 0, none⟩ v9) L gv' m G' T' M' F' :=
    ((hC'.keep hal).only O9 (fun b hb => (hvM b hb).1) (fun b hb => (hvM b hb).2)).only hst (by simpa using hM5.2) (by simpa using hF5.2)
  have c' : PM.Chain m (D ++ [p]) G' T' := hc.step hC'.shape hA'
  refine ⟨gv', G', T', M', F', v9, fs ++ [fp], C9, c', hL', B5.only hst (by simpa using q6), by simpa using B6.set 0 v9, A9.only hst (fun b hb hm => by simp at hm; exact (hfs9 b hb).2.2.2.1 hm) (fun b hb hm => ?_), fun b hb => by
    have := hfs9 b hb
    have hsz : (w9.setCell ⟨g6, 0, none⟩ v9).heap.size = w9.heap.size := by simp
    rw [hsz]; exact this, fun b hb => ?_, ⟨hM5.1, hM5.2, hF5.1, hF5.2⟩, q4, q5, q6, ?_, q8.snoc hm0 pa hc c' hg hn h1⟩
  · have hm : b = g6 := by simpa using hm
    rcases v9own b (ownB' hb) with h | h
    · exact (q2 b h).2.2.1 hm
    · omega
  · rcases v9own b hb with h | h
    · exact ⟨(hvM b h).1, (q2 b h).2.1, (q2 b h).2.2.1, (hvM b h).2⟩
    · refine ⟨fun hm => ?_, by omega, by omega, fun hm => ?_⟩
      · have := hC'.lM _ hm; omega
      · have := hC'.lF _ hm; omega
  · have t1 : Only [] w0 w5 := (q7.trans k1).then_ hM'.only (fun x hx hl => by have := hC.ge x hx; have := (q7.trans k1).size; omega)
    have t2 : Only [] w0 w9 := (t1.trans hal).then_ O9 (fun x hx hl => by have := (hown x hx).1; omega)
    exact t2.then_ hst (fun x hx hl => by simp at hx; omega)
set_option maxHeartbeats 4000000 in
theorem drvAdd (w0 : World) (L : Lay) (hoG : L.oG = 1) (hoT : L.oT = 2) (m : Nat) (a : List (List Int)) (pa : ∀ g ∈ a, PM.PN m g) (g5 g6 : Nat) (D : List (List Int)) (W0 W : World) (h : DrS w0 L m a g5 g6 D W0) (kW : Only [] W0 W) (vp : Value) (p : List Int) (fp : List Nat)
    (hp : Rd W vp p fp) (hfp : ∀ b ∈ fp, W0.heap.size ≤ b) (hg : PM.Grp m a p) (h1 : ablB a = true → p = PM.pts m) :
    Calls Try.prog 48 #[vp, .pointer (some ⟨g5, 0, none⟩), .pointer (some ⟨g6, 0, none⟩)] W fun e w' => e = .returned (.tuple #[]) ∧ ∃ D', (D' = D ∨ D' = D ++ [p]) ∧ PM.Grp m D' p ∧ DrS w0 L m a g5 g6 D' w' := by
  obtain ⟨i0, hi, hz0, hz1, hz2⟩ := info_parts Try.info22
  obtain ⟨gv, G, T, M, F, v, fs, hC, hc, hLn, b5, b6, hA, q1, q2, q3, q4, q5, q6, q7, q8⟩ := h
  have hm0 := hC.pos
  have hm20 := hC.le
  have pp : PM.PN m p := hg.pn pa
  have pD : ∀ g ∈ D, PM.PN m g := fun g hg => (q8.grp g hg).pn pa
  have hDl := q8.le hm0 hm20 pa hc
  have d5 := (b5.keep kW).cell 0 rfl
  have d6 := (b6.keep kW).cell 0 rfl
  obtain ⟨ap, cp, rfl, -⟩ := id hp.ints
  obtain ⟨av, cv, rfl⟩ := id hA.form
  have Hh := Lib.hid (implHas0 (hC.keep kW) hc.inv.wf hoT hp pp)
  rw [memB_has hc hm0 pD pp] at Hh
  rcases hmem : memB m D p
  · have hng : ¬ PM.Grp m D p := fun hh => by
      have : memB m D p = true := by unfold memB; exact @decide_eq_true _ (Classical.propDecidable _) hh
      rw [hmem] at this; cases this
    have HC := Lib.hid hC
    have Hc := Lib.hid hc
    have HLn := Lib.hid hLn
    have HA := Lib.hid hA
    have Hq1 := Lib.hid q1
    have Hq2 := Lib.hid q2
    have Hq3 := Lib.hid q3
    have Hq8 := Lib.hid q8
    have Hng := Lib.hid hng
    have Hpp := Lib.hid pp
    have Hhp := Lib.hid hp
    have Hh1 := Lib.hid h1
    have Hg := Lib.hid hg
    have Hb5 := Lib.hid b5
    have Hb6 := Lib.hid b6
    have Hfp := Lib.hid hfp
    have HfM : Hid (∀ b ∈ fp, b ∉ M) := Lib.hid fun b hb hM => by have h5 := hC.lM b hM; have h6 := hfp b hb; omega
    have Hfo : Hid (∀ b ∈ fp, b ∉ (Value.slice av D.length cv).ownBlock.toList) := Lib.hid fun b hb hM => by have h5 := (hA.ownlt b (ownB hM)).2; have h6 := hfp b hb; omega
    have hDl2 : D.length + 1 ≤ 1073741824 := by omega
    have hzw : w0.heap.size ≤ W.heap.size := Nat.le_trans q7.size kW.size
    rw [hmem] at Hh
    clear hmem hC hc hLn hA q1 q2 q3 q8 hng pp hp h1 hg pD b5 b6 hfp
    go_enter Try.func48, Try.ntmps48
    go_wp2_with (first
      | (go_at_call 35; (with_reducible refine (Hh.out).mono ?_); rintro e w1 ⟨rfl, t1⟩; have k1 := kW.trans t1; have d5' := t1.cell (by simp) d5; have d6' := t1.cell (by simp) d6)
      | (go_at_call 49; (with_reducible refine (implAdd0 (HC.out.keep k1) hoG hoT Hc.out.inv HLn.out Hpp.out (Rp.keep Hhp.out t1) HfM.out (Nat.le_trans hzw t1.size)).mono ?_); rintro en w5 ⟨rfl, gv', G', T', M', F', hC', hA', hL', hM'⟩; have HC' := Lib.hid hC'; have HA' := Lib.hid hA'; have HL' := Lib.hid hL'; have HM' := Lib.hid hM'; have c6 := hM'.only.cell Hq3.out.2.1 d6'; have A5 := (HA.out.keep k1).only hM'.only (fun b hb hm => (Hq1.out b hb).2.1 hm) (fun b hb hm => (Hq2.out b (ownB' hb)).1 hm); clear hC' hA' hL' hM')
      | (at_builtin; refine wpList_push2d rfl _ _ 24 rfl w0.heap.size 36 i0 _ 24 Try.underlying24 hi hz0 hz1 hz2 rfl (by decide) (by decide) w5 _ D fs rfl A5 ((Only.refl _ _).alloc _) (Nat.le_trans (Nat.le_trans hzw t1.size) HM'.out.only.size) w5.heap.size 1 [.slice ap p.length cp] p fp rfl (lit_src w5 [_] _ rfl) (by intro u hu; simp at hu; subst hu; rfl) (Rp.keep (Rp.only (Rp.keep Hhp.out t1) HM'.out.only HfM.out) ((Only.refl [] w5).alloc _)) (fun b hb e => Hfo.out b hb (ownB' e)) hDl2 ?_; intro v9 w9 hA9 hO9 hP9; obtain ⟨a9, n9, c9, rfl⟩ : ∃ a n c, v9 = Value.slice a n c := (let ⟨a, c, hh⟩ := hA9.form; ⟨a, _, c, hh⟩); have z6 := (((((Hb6.out.keep k1).only HM'.out.only Hq3.out.2.1).keep ((Only.refl [] w5).alloc (.cells #[.slice ap p.length cp] 36))).only hO9 (fun hm => (Hq2.out _ hm).2.2.1 rfl))); have y6 := z6.frozen 0; have x6 := z6.cell 0 rfl; have HA9 := Lib.hid hA9; have HO9 := Lib.hid hO9; have HP9 := Lib.hid hP9; clear hA9 hO9 hP9 z6)
      | fail "no arm")
    all_goals (first | go_end0 | refine bodyPost_ret (results_none rfl _ _ _) rfl ?_)
    all_goals exact ⟨rfl, D ++ [p], .inr rfl, PM.Grp.gen (n := m) (G := D ++ [p]) (fun g hg => by
      rcases List.mem_append.1 hg with hg | hg
      · exact (Hq8.out.grp g hg).pn pa
      · rw [List.mem_singleton.1 hg]; exact Hpp.out) (by simp), DrS.snoc pa HC.out Hc.out Hb5.out Hb6.out HA.out Hq1.out Hq2.out Hq3.out q4 q5 q6 q7 Hq8.out k1 Hfp.out (fun b hb => Rp.lt (Rp.keep Hhp.out t1) b hb) Hg.out Hng.out Hh1.out HC'.out HA'.out HL'.out HM'.out HA9.out HO9.out HP9.out⟩
  · have hgr : PM.Grp m D p := by
      unfold memB at hmem
      exact @of_decide_eq_true _ (Classical.propDecidable _) hmem
    rw [hmem] at Hh
    have HS : Hid (DrS w0 L m a g5 g6 D W) := Lib.hid (DrS.keep ⟨gv, G, T, M, F, _, fs, hC, hc, hLn, b5, b6, hA, q1, q2, q3, q4, q5, q6, q7, q8⟩ kW)
    have Hgr := Lib.hid hgr
    clear hmem hC hc hLn hA q1 q2 q3 q8 hgr pp hp h1 hg pD b5 b6
    go_enter Try.func48, Try.ntmps48
    go_wp2_with (first
      | (go_at_call 35; (with_reducible refine (Hh.out).mono ?_); rintro e w1 ⟨rfl, t1⟩)
      | fail "no arm")
    first | go_end0 | refine bodyPost_ret (results_none rfl _ _ _) rfl ?_
    exact ⟨rfl, D, .inl rfl, Hgr.out, HS.out.keep t1⟩
end Go.Proofs.Ytbediokigibdlaa

namespace Go.Proofs.Ytbediokigibdlaa
open Go.RowKit
set_option maxRecDepth 10000

theorem grpUp {m : Nat} {a D D' : List (List Int)} {p x : List Int} (pa : ∀ g ∈ a, PM.PN m g) (h : DrF m a D') (hD : D' = D ∨ D' = D ++ [p]) (hx : PM.Grp m D x) : PM.Grp m D' x := by
  have pD' : ∀ g ∈ D', PM.PN m g := fun g hg => (h.grp g hg).pn pa
  refine PM.Grp.mono pD' (fun g hg => PM.Grp.gen pD' ?_) hx
  rcases hD with e | e
  · rw [e]; exact hg
  · rw [e]; exact List.mem_append_left _ hg
theorem DrS.f {w0 : World} {L : Lay} {m : Nat} {a : List (List Int)} {g5 g6 : Nat} {D : List (List Int)} {W : World} (h : DrS w0 L m a g5 g6 D W) : DrF m a D := by
  obtain ⟨gv, G, T, M, F, v, fs, hC, hc, hL, b5, b6, hA, h1, h2, h3, h4, h5, h6, h7, h8⟩ := h
  exact h8
theorem DrS.o {w0 : World} {L : Lay} {m : Nat} {a : List (List Int)} {g5 g6 : Nat} {D : List (List Int)} {W : World} (h : DrS w0 L m a g5 g6 D W) : Only [] w0 W := by
  obtain ⟨gv, G, T, M, F, v, fs, hC, hc, hL, b5, b6, hA, h1, h2, h3, h4, h5, h6, h7, h8⟩ := h
  exact h7
theorem DrS.list {w0 : World} {L : Lay} {m : Nat} {a : List (List Int)} {g5 g6 : Nat} {D : List (List Int)} {W : World} (h : DrS w0 L m a g5 g6 D W) : ∃ av cv f, W.cell? ⟨g6, 0, none⟩ = some (.slice av D.length cv) ∧ Rd W (.slice av D.length cv) D f := by
  obtain ⟨gv, G, T, M, F, v, fs, hC, hc, hL, b5, b6, hA, h1, h2, h3, h4, h5, h6, h7, h8⟩ := h
  obtain ⟨av, cv, rfl⟩ := hA.form
  exact ⟨av, cv, _, b6.cell 0 rfl, hA.rd (by decide)⟩
theorem DrS.len {w0 : World} {L : Lay} {m : Nat} {a : List (List Int)} {g5 g6 : Nat} {D : List (List Int)} {W : World} (h : DrS w0 L m a g5 g6 D W) (pa : ∀ g ∈ a, PM.PN m g) : D.length ≤ 61 := by
  obtain ⟨gv, G, T, M, F, v, fs, hC, hc, hL, b5, b6, hA, h1, h2, h3, h4, h5, h6, h7, h8⟩ := h
  exact h8.le hC.pos hC.le pa hc
theorem DrS.start {w0 w2 : World} {L : Lay} {m : Nat} {gv : Nat → Value} {G : PM.Gens} {T : PM.Rows} {M F : List Nat} (a : List (List Int)) (hC : Ch 36 w0.heap.size w2 L gv m G T M F) (hc : PM.Chain m [] G T) (hL : PM.Ln m 0 G T) (k : Only [] w0 w2) :
    DrS w0 L m a w2.heap.size (w2.heap.size + 1) [] ((w2.alloc (.cells #[.pointer (some ⟨L.g, 0, none⟩)] 42)).alloc (.cells #[.slice none 0 0] 24)) := by
  have h1 : Only [] w2 (w2.alloc (.cells #[.pointer (some ⟨L.g, 0, none⟩)] 42)) := (Only.refl _ _).alloc _
  have h2 : Only [] (w2.alloc (.cells #[.pointer (some ⟨L.g, 0, none⟩)] 42)) ((w2.alloc (.cells #[.pointer (some ⟨L.g, 0, none⟩)] 42)).alloc (.cells #[.slice none 0 0] 24)) := (Only.refl _ _).alloc _
  have hz := k.size
  refine ⟨gv, G, T, M, F, .slice none 0 0, [], hC.keep (h1.trans h2), hc, hL, (Blk.new w2 [.pointer (some ⟨L.g, 0, none⟩)] 42).keep h2, Blk.new_at (by simp), Acc.nil _ _ _, by simp, by simp [Value.ownBlock], ⟨fun hm => ?_, fun hm => ?_, fun hm => ?_, fun hm => ?_⟩, hz, by omega, by omega, (k.trans h1).trans h2, DrF.zero hC.pos a hc⟩
  · have := hC.lM _ hm; omega
  · have := hC.lM _ hm; omega
  · have := hC.lF _ hm; omega
  · have := hC.lF _ hm; omega
set_option maxHeartbeats 1000000 in
theorem implDerived_no (n : Int) (vg : Value) (a : List (List Int)) (fpg : List Nat) (w : World) (hg : Rd w vg a fpg) (hgs : gensB n a = false) :
    Calls Try.prog 12 #[.int .i64 n, vg] w fun e w' => e = .returned (.int .i64 0) ∧ Only [] w w' := by
  have HcG := Lib.hid (implIsGens_rd n vg a fpg w hg)
  rw [hgs] at HcG
  clear hgs
  go_enter Try.func12, Try.ntmps12
  go_wp2_with (first
    | (go_at_call 43; (with_reducible refine (HcG.out).mono ?_); rintro en w1 ⟨rfl, t1⟩)
    | fail "no arm")
  go_ret
  exact ⟨rfl, t1⟩
set_option maxHeartbeats 8000000 in
theorem implDerived_yes (m : Nat) (vg : Value) (a : List (List Int)) (fpg : List Nat) (w : World) (hg : Rd w vg a fpg) (hgs : gensB m a = true) :
    Calls Try.prog 12 #[.int .i64 m, vg] w fun e w' => ∃ d : Nat, e = .returned (.int .i64 d) ∧ (d ∣ ordC m a m ∧ 1 ≤ d ∧ (d = 1 ↔ ablB a = true)) ∧ Only [] w w' := by
  obtain ⟨⟨n1, n20⟩, hgl, hpn⟩ := gensB_iff.1 hgs
  have hpn' : ∀ g ∈ a, PM.PN m g := by simpa using hpn
  have hm0 : 0 < m := by omega
  have hm20 : m ≤ 20 := by omega
  have hm1000 : m ≤ 1000 := by omega
  have HcG := Lib.hid (implIsGens_rd (m : Int) vg a fpg w hg)
  rw [hgs] at HcG
  obtain ⟨Ga, Ta, hCa⟩ := rank_chain m _ a fpg w hg hgs
  have HCa := Lib.hid hCa
  obtain ⟨A, C, ob, fps, rfl, -, hS⟩ := hg.open_
  have hb := hS.bound
  have Hpn := Lib.hid hpn'
  clear hgs hpn hpn' hCa
  go_enter Try.func12, Try.ntmps12
  go_wp2_with (first
    | (go_at_call 43; (with_reducible refine (HcG.out).mono ?_); rintro en w1 ⟨he, t1⟩; subst he)
    | (go_at_call 34; (with_reducible refine (implNewChain_L m hm0 hm20 _ [] [] w1 (nil_rows none 0 w1 (by simp [maxLen])) (by simp) (by simp)).mono ?_); rintro en w2 ⟨L, gv, G, T, M, F, rfl, hoG, hoT, -, hC, hCh, hLn, t2⟩; have HD0 := Lib.hid (DrS.start a hC hCh hLn t2); clear hC hCh hLn)
    | fail "no arm")
  obtain ⟨g5, hg5⟩ : ∃ g5, g5 = w2.heap.size := ⟨_, rfl⟩
  obtain ⟨g6, hg6⟩ : ∃ g6, g6 = w2.heap.size + 1 := ⟨_, rfl⟩
  rw [← hg6, ← hg5] at HD0
  try rw [← hg6]
  try rw [← hg5]
  clear hg5 hg6
  go_loopw [24] (fun y wr => ∃ (i : Nat) (D : List (List Int)), i ≤ a.length ∧ y = .int .i64 i ∧ DrS w1 L m a g5 g6 D wr ∧ Hid (∀ p ∈ a.take i, ∀ q ∈ a, PM.Grp m D (PM.cmt p q)))
    (fun y _ => a.length - (intOf y).toNat)
  case atStart => exact ⟨0, [], Nat.zero_le _, rfl, HD0.out, Lib.hid (by simp)⟩
  case round =>
    obtain ⟨W2, hnew⟩ : ∃ W, W = wr := ⟨_, rfl⟩
    subst hnew
    clear HD0
    obtain ⟨i, D, hi, rfl, hD, hq⟩ := hrel
    have hO := t1.trans hD.o
    by_cases hlt : i < a.length
    · have hltI : (i : Int) < (a.length : Int) := by omega
      have hi0 : (0 : Int) ≤ (i : Int) := by omega
      obtain ⟨b1, off, u, rfl, -, hc0, hu0⟩ := hS.atRow i hlt
      have hc := hO.cell (by simp) hc0
      have hpm := Hpn.out a[i] (List.getElem_mem hlt)
      obtain ⟨p, hp⟩ : ∃ p, p = a[i] := ⟨_, rfl⟩
      have hmem : p ∈ a := by rw [hp]; exact List.getElem_mem hlt
      have hsn := take_succ_get a i hlt
      rw [← hp] at hpm hu0 hsn
      have Hmem := Lib.hid hmem
      have Hsn := Lib.hid hsn
      have Hpm := Lib.hid hpm
      have Hu := Lib.hid hu0
      have HD := Lib.hid hD
      clear hp hpm hu0 hsn hc0 hmem hD
      go_wp2
      go_loopw [30] (fun y wr => ∃ (k : Nat) (D : List (List Int)), k ≤ a.length ∧ y = .int .i64 k ∧ DrS w1 L m a g5 g6 D wr ∧ Hid (∀ p ∈ a.take i, ∀ q ∈ a, PM.Grp m D (PM.cmt p q)) ∧ Hid (∀ q ∈ a.take k, PM.Grp m D (PM.cmt p q)))
        (fun y _ => a.length - (intOf y).toNat)
      case atStart => exact ⟨0, D, Nat.zero_le _, rfl, HD.out, hq, Lib.hid (by simp)⟩
      case round =>
        obtain ⟨W4, hnew⟩ : ∃ W, W = wr := ⟨_, rfl⟩
        subst hnew
        clear HD hq
        obtain ⟨k, D, hk, rfl, hD, hq, hqk⟩ := hrel
        have hO4 := t1.trans hD.o
        by_cases hltk : k < a.length
        · have hltkI : (k : Int) < (a.length : Int) := by omega
          have hk0 : (0 : Int) ≤ (k : Int) := by omega
          obtain ⟨b', off', u', e2, -, hc1, hu1⟩ := hS.atRow k hltk
          injection e2 with e2; injection e2 with e21 e22; subst e21; subst e22
          have hc1 := hO4.cell (by simp) hc1
          have hqm := Hpn.out a[k] (List.getElem_mem hltk)
          obtain ⟨q, hqq⟩ : ∃ q, q = a[k] := ⟨_, rfl⟩
          have hmemq : q ∈ a := by rw [hqq]; exact List.getElem_mem hltk
          have hsnq := take_succ_get a k hltk
          rw [← hqq] at hqm hu1 hsnq
          have rp := Rp.keep Hu.out hO4
          have rq := Rp.keep hu1 hO4
          have HD := Lib.hid hD
          have Hqm := Lib.hid hqm
          have Hmemq := Lib.hid hmemq
          have Hsnq := Lib.hid hsnq
          have Hcg : Hid (PM.Grp m a (PM.cmt p q)) := Lib.hid (PM.Grp.comp Hpn.out (PM.Grp.comp Hpn.out (PM.Grp.inv Hpn.out (PM.Grp.gen Hpn.out Hmem.out)) (PM.Grp.inv Hpn.out (PM.Grp.gen Hpn.out hmemq))) (PM.Grp.comp Hpn.out (PM.Grp.gen Hpn.out Hmem.out) (PM.Grp.gen Hpn.out hmemq)))
          have Hc1 : Hid (ablB a = true → PM.cmt p q = PM.pts m) := Lib.hid fun e => (PM.cmt_one Hpm.out hqm).2 (ablB_iff.1 e p Hmem.out q hmemq)
          clear hqq hqm hu1 hsnq hmemq hD
          go_wp2_with (first
            | (go_at_call 51; (with_reducible refine (implInv_rd m u p _ W4 rp Hpm.out hm1000).mono ?_); rintro e x1 ⟨v1, f1, rfl, r1, F1, y1⟩)
            | (go_at_call 51; (with_reducible refine (implInv_rd m u' q _ x1 (Rp.keep rq y1) Hqm.out hm1000).mono ?_); rintro e x2 ⟨v2, f2, rfl, r2, F2, y2⟩; have z2 := y1.trans y2)
            | (go_at_call 50; (with_reducible refine (implCompose_rd m v1 v2 (PM.inv p) (PM.inv q) f1 f2 x2 (Rp.keep r1 y2) r2 Hpm.out.inv Hqm.out.inv hm1000).mono ?_); rintro e x3 ⟨v3, f3, rfl, r3, F3, y3⟩; have z3 := z2.trans y3)
            | (go_at_call 50; (with_reducible refine (implCompose_rd m u u' p q _ _ x3 (Rp.keep rp z3) (Rp.keep rq z3) Hpm.out Hqm.out hm1000).mono ?_); rintro e x4 ⟨v4, f4, rfl, r4, F4, y4⟩; have z4 := z3.trans y4)
            | (go_at_call 50; (with_reducible refine (implCompose_rd m v3 v4 (PM.comp (PM.inv p) (PM.inv q)) (PM.comp p q) f3 f4 x4 (Rp.keep r3 y4) r4 (Hpm.out.inv.comp Hqm.out.inv) (Hpm.out.comp Hqm.out) hm1000).mono ?_); rintro e x5 ⟨v5, f5, rfl, r5, F5, y5⟩; have z5 := z4.trans y5; have r5' : Rd _ v5 (PM.cmt p q) f5 := r5; have g5' : ∀ b ∈ f5, W4.heap.size ≤ b := (fun b hb => by have := F5.ge b hb; have := z4.size; omega))
            | (go_at_call 48; (with_reducible refine (drvAdd w1 L hoG hoT m a Hpn.out g5 g6 D W4 x5 HD.out z5 v5 (PM.cmt p q) f5 r5' g5' Hcg.out Hc1.out).mono ?_); rintro e x6 ⟨rfl, D', hD', hgD', hS'⟩)
            | fail "no arm")
          go_roundw
          case rel => exact ⟨k + 1, D', by omega, by go_num, hS', Lib.hid (fun p hp q hq2 => grpUp Hpn.out hS'.f hD' (hq.out p hp q hq2)), Lib.hid (by
            intro q2 hq2
            rw [Hsnq.out] at hq2
            rcases List.mem_append.1 hq2 with h | h
            · exact grpUp Hpn.out hS'.f hD' (hqk.out q2 h)
            · rw [List.mem_singleton.1 h]; exact hgD')⟩
          case measure => simp [intOf]; omega
        · obtain rfl : k = a.length := by omega
          have hge : ¬ ((a.length : Int) < (a.length : Int)) := by omega
          have hfin := hqk.out
          rw [List.take_length] at hfin
          have Hfin := Lib.hid hfin
          clear hfin hqk
          go_wp2
          go_roundw
          case rel => exact ⟨i + 1, D, by omega, by go_num, hD, Lib.hid (by
            intro p2 hp2
            rw [Hsn.out] at hp2
            rcases List.mem_append.1 hp2 with h | h
            · exact hq.out p2 h
            · rw [List.mem_singleton.1 h]; exact Hfin.out)⟩
          case measure => simp [intOf]; omega
    · obtain rfl : i = a.length := by omega
      have hge : ¬ ((a.length : Int) < (a.length : Int)) := by omega
      have hfin := hq.out
      rw [List.take_length] at hfin
      have Hfin := Lib.hid hfin
      have HD := Lib.hid hD
      clear hfin hq hD
      go_wp2
      go_loopw [12] (fun y wr => ∃ (k : Nat) (D : List (List Int)), k ≤ 61 ∧ y = .int .i64 k ∧ DrS w1 L m a g5 g6 D wr ∧ Hid (∀ p ∈ a, ∀ q ∈ a, PM.Grp m D (PM.cmt p q)))
        (fun y _ => 62 - (intOf y).toNat)
      case atStart => exact ⟨0, D, Nat.zero_le _, rfl, HD.out, Hfin⟩
      case round =>
        obtain ⟨W3, hnew⟩ : ∃ W, W = wr := ⟨_, rfl⟩
        subst hnew
        clear HD Hfin hO
        obtain ⟨k, D, hk, rfl, hD, hq⟩ := hrel
        have hlD := hD.len Hpn.out
        obtain ⟨av, cv, fl, hcl, -⟩ := hD.list
        by_cases hltk : k < D.length
        · have hltkI : (k : Int) < (D.length : Int) := by omega
          have hk0 : (0 : Int) ≤ (k : Int) := by omega
          have HD := Lib.hid hD
          clear hD
          go_wp2
          go_loopw [55] (fun y wr => ∃ (j : Nat) (D : List (List Int)), j ≤ a.length ∧ y = .int .i64 j ∧ k < D.length ∧ DrS w1 L m a g5 g6 D wr ∧ Hid (∀ p ∈ a, ∀ q ∈ a, PM.Grp m D (PM.cmt p q)))
            (fun y _ => a.length - (intOf y).toNat)
          case atStart => exact ⟨0, D, Nat.zero_le _, rfl, hltk, HD.out, hq⟩
          case round =>
            obtain ⟨W4, hnew⟩ : ∃ W, W = wr := ⟨_, rfl⟩
            subst hnew
            clear HD hq hlD hcl hltk hltkI
            obtain ⟨j, D, hj, rfl, hltk, hD, hq⟩ := hrel
            have hlD := hD.len Hpn.out
            have hO4 := t1.trans hD.o
            by_cases hltj : j < a.length
            · have hltjI : (j : Int) < (a.length : Int) := by omega
              have hltkI : (k : Int) < (D.length : Int) := by omega
              have hj0 : (0 : Int) ≤ (j : Int) := by omega
              obtain ⟨av, cv, fl, hcl, hrl⟩ := hD.list
              obtain ⟨av', cv', obl, fpl, ev, -, hSl⟩ := hrl.open_
              injection ev with ev1 _ ev2; subst ev1 ev2
              obtain ⟨bl, ol, ul, rfl, -, hcr, hur⟩ := hSl.atRow k hltk
              obtain ⟨b', off', u', rfl, -, hc1, hu1⟩ := hS.atRow j hltj
              have hc1 := hO4.cell (by simp) hc1
              have hqm := Hpn.out a[j] (List.getElem_mem hltj)
              have hxg := hD.f.grp D[k] (List.getElem_mem hltk)
              have hDne : D ≠ [] := by intro e; rw [e] at hltk; simp at hltk
              have Hn1 : Hid (ablB a = true → False) := Lib.hid fun e => hDne (hD.f.nil e)
              obtain ⟨q, hqq⟩ : ∃ q, q = a[j] := ⟨_, rfl⟩
              obtain ⟨x, hxx⟩ : ∃ x, x = D[k] := ⟨_, rfl⟩
              have hmemq : q ∈ a := by rw [hqq]; exact List.getElem_mem hltj
              rw [← hqq] at hqm hu1
              rw [← hxx] at hxg hur
              have rq := Rp.keep hu1 hO4
              have HD := Lib.hid hD
              have Hqm := Lib.hid hqm
              have Hxm := Lib.hid (hxg.pn Hpn.out)
              have Hcg : Hid (PM.Grp m a (PM.conj x q)) := Lib.hid (PM.Grp.comp Hpn.out (PM.Grp.comp Hpn.out (PM.Grp.inv Hpn.out (PM.Grp.gen Hpn.out hmemq)) hxg) (PM.Grp.gen Hpn.out hmemq))
              clear hqq hqm hu1 hmemq hD hxg hxx hDne hrl
              go_wp2_with (first
                | (go_at_call 36; (with_reducible refine (implConj_any m ul u' x q _ _ W4 hur rq Hxm.out Hqm.out hm1000).mono ?_); rintro e x5 ⟨v5, f5, rfl, r5, F5, y5⟩)
                | (go_at_call 48; (with_reducible refine (drvAdd w1 L hoG hoT m a Hpn.out g5 g6 D W4 x5 HD.out y5 v5 (PM.conj x q) f5 r5 F5.ge Hcg.out (fun e => (Hn1.out e).elim)).mono ?_); rintro e x6 ⟨rfl, D', hD', hgD', hS'⟩)
                | fail "no arm")
              go_roundw
              case rel => exact ⟨j + 1, D', by omega, by go_num, by
                rcases hD' with e | e
                · rw [e]; exact hltk
                · rw [e, List.length_append]; omega, hS', Lib.hid (fun p hp q hq2 => grpUp Hpn.out hS'.f hD' (hq.out p hp q hq2))⟩
              case measure => simp [intOf]; omega
            · obtain rfl : j = a.length := by omega
              have hge : ¬ ((a.length : Int) < (a.length : Int)) := by omega
              go_wp2
              go_roundw
              case rel => exact ⟨k + 1, D, by omega, by go_num, hD, hq⟩
              case measure => simp [intOf]; omega
        · have hge : ¬ ((k : Int) < (D.length : Int)) := by omega
          have HF := Lib.hid hD.f
          have hO4 := t1.trans hD.o
          obtain ⟨gv, G, T, M, F, v, fs, hC, hc, hL, b5, b6, hA, -⟩ := hD
          have d5 := b5.cell 0 rfl
          have HC := Lib.hid hC
          have Hc := Lib.hid hc
          have Hq := Lib.hid hq.out
          clear hC hc hL hA hq b5 b6
          go_wp2_with (first
            | (go_at_call 52; (with_reducible refine (implOrder0 HC.out Hc.out.inv.wf hoT).mono ?_); rintro e x7 ⟨rfl, y7⟩)
            | fail "no arm")
          go_ret
          have pD : ∀ g ∈ D, PM.PN m g := fun g hg => (HF.out.grp g hg).pn Hpn.out
          refine ⟨_, rfl, ?_, hO4.trans y7⟩
          rw [ordC_eq Hc.out hm0 pD (Nat.le_refl _)]
          exact drv_facts HCa.out hm0 Hpn.out Hc.out HF.out.grp Hq.out (fun e g hg => by rw [HF.out.nil e] at hg; cases hg)
end Go.Proofs.Ytbediokigibdlaa
