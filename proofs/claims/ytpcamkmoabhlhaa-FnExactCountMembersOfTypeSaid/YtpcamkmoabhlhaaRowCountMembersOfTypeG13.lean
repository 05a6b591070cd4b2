/- The reference's CycleType, the program's CycleType; CountMembersOfType of both (laws 32, 44). The law on CountMembersOfType: its walk. (Printed by gen_exact.py.) -/
import Derived.Test.YtpcamkmoabhlhaaRowCountMembersOfTypeG12
import Derived.Test.YtpcamkmoabhlhaaRowCountMembersOfTypeG2
import Derived.Test.YtpcamkmoabhlhaaRowCountMembersOfTypeG3
import Derived.Deep.RegionHeld3
import Derived.Deep.DeepCutAuto
namespace Go.Proofs.Ytpcamkmoabhlhaa
open Go.RowKit
set_option maxRecDepth 10000

theorem lens_cyc (p : List Int) (n : Nat) : PM.lens p n = (PM.cycs p n).map fun c => (c.length : Int) := rfl
theorem drop_filter (l : List Int) (m : Int) (i : Nat) (h : i < l.length) : (l.drop i).filter (fun z => decide (z = m)) = (if l[i] = m then [m] else []) ++ (l.drop (i + 1)).filter (fun z => decide (z = m)) := by
  rw [List.drop_eq_getElem_cons h, List.filter_cons]
  by_cases e : l[i] = m
  · simp [e]
  · simp [e]
set_option maxHeartbeats 8000000 in
theorem specCycleType_any (n : Nat) (v : Value) (p : List Int) (fp : List Nat) (w : World) (h : Rd w v p fp) (hp : PM.PN n p) (hn20 : n ≤ 20) (hn0 : 0 < n) :
    Calls Try.prog 30 #[v] w fun e w' => ∃ v', e = .returned v' ∧ AccI w.heap.size 2 w' v' (PM.cyt p) ∧ Only [] w w' := by
  obtain ⟨A, C, rfl, I⟩ := id h.ints
  obtain ⟨i1, gi, gz0, gz1, gz2⟩ := info_parts Try.info2
  have hb := I.bound
  have hn : n ≤ 1000 := by omega
  have Hpl := Lib.hid hp.1
  have Hp := Lib.hid hp
  have Hpb := Lib.hid (permB_iff.2 ⟨by rw [hp.1]; omega, hp.2⟩)
  obtain ⟨R, hR⟩ : ∃ R, R = PM.cyt p := ⟨_, rfl⟩
  have hRd : R = PM.dsc (PM.lens p n) n := by rw [hR]; unfold PM.cyt; rw [hp.1]
  have hRlen : R.length ≤ 1000 := by
    rw [hR, (PM.cyt_perm hp).length_eq, lens_cyc, List.length_map]
    have := PM.cycs_count p n
    omega
  rw [← hR]
  have Hlc := Lib.hid (PM.cycs_count p n)
  have A0 := AccI.made w w.heap.size 2 rfl (Nat.le_refl _)
  have hpn : p.length ≤ 1000 := by rw [hp.1]; exact hn
  clear hp hR
  go_enter Try.func30, Try.ntmps30
  go_wp2_with (first
    | (go_at_call 49; (with_reducible refine (specIsPerm_rd (.slice A p.length C) p fp _ (Rp.keep h (by with_reducible repeat (first | exact Only.refl _ _ | assumption | refine Only.drewN ?_ _ | refine Only.drew ?_ | refine Only.alloc ?_ _ | refine Only.setCell ?_ (by intro hh; exfalso; simp at hh; try omega) _ | refine Only.trans ?_ (by assumption))))).mono ?_); rintro e w1 ⟨he, t1⟩; rw [Hpb.out] at he; subst he; have t1 := t1.only [])
    | (go_at_call 53; (with_reducible refine (allCycles_any n (.slice A p.length C) p fp w1 (Rp.keep h (((Only.refl [] w).alloc _).trans t1)) Hp.out hn).mono ?_); rintro e w2 ⟨v2, f2, rfl, r2, F2, t2⟩; obtain ⟨a2, c2, ob2, fps2, rfl, hf2, S2⟩ := r2.open_)
    | fail "no arm")
  have k2 := ((Only.refl [] w).alloc (.cells #[] 2)).trans (t1.trans t2)
  have hz1 := (((Only.refl [] w).alloc (.cells #[] 2)).trans t1).size
  have hs1 := t1.size
  have X0 : AccG w w2 f2 2 w2 (.slice (some ⟨w.heap.size, 0, none⟩) 0 0) [] := ⟨A0.keep (t1.trans t2), k2, fun _ _ => rfl, fun b hb e => by
    have := F2.ge b hb
    have e2 : w.heap.size = b := by simpa [Value.ownBlock] using e
    simp at hs1
    omega, F2.lt⟩
  have hSb := S2.bound
  have hcc : (PM.cycs p n).length ≤ 1000 := by have := Hlc.out; omega
  obtain ⟨CL, hCL⟩ : ∃ CL, CL = PM.cycs p n := ⟨_, rfl⟩
  obtain ⟨LN, hLN⟩ : ∃ LN, LN = PM.lens p n := ⟨_, rfl⟩
  have hln : LN = CL.map fun c => (c.length : Int) := by rw [hLN, hCL]; rfl
  rw [← hLN] at hRd
  rw [← hCL] at S2 hSb hcc ⊢
  have Hln := Lib.hid hln
  have Hf2 := Lib.hid hf2
  have HRd := Lib.hid hRd
  have hnle : p.length ≤ n := by rw [Hpl.out]; exact Nat.le_refl _
  clear hCL hLN hln hf2 hRd hs1 t1 t2 A0 r2
  go_loopw [3, 5] (fun o x wr => ∃ (m : Nat) (l : List Int), m ≤ n ∧ x = .int .i64 m ∧ Hid (R = l ++ PM.dsc LN m) ∧ AccG w w2 f2 2 wr o l)
    (fun _ x _ => (intOf x).toNat)
  case atStart => exact ⟨p.length, [], hnle, rfl, Lib.hid (by rw [List.nil_append, Hpl.out]; exact HRd.out), X0⟩
  case round =>
    obtain ⟨W2, hnew⟩ : ∃ W, W = wr := ⟨_, rfl⟩
    subst hnew
    clear X0 k2
    obtain ⟨m, l, hm, rfl, hl, hG⟩ := hrel
    by_cases hpos : 0 < m
    · have hposI : (0 : Int) < (m : Int) := by omega
      obtain ⟨m', hm'⟩ : ∃ m', m = m' + 1 := ⟨m - 1, by omega⟩
      have hw : IntKind.i64.wrap ((m : Int) - 1) = (m' : Int) := by rw [IntKind.wrap_i64]; omega
      have hds : PM.dsc LN m = LN.filter (fun z => decide (z = (m : Int))) ++ PM.dsc LN m' := by rw [hm']; rfl
      have hstart : R = l ++ ((LN.drop 0).filter (fun z => decide (z = (m : Int))) ++ PM.dsc LN m') := by rw [hl.out, hds, List.drop_zero]
      have Hstart := Lib.hid hstart
      have Hm' := Lib.hid hm'
      clear hds hstart hm' hl
      go_wp2
      go_loopw [3, 6] (fun o y wr => ∃ (i : Nat) (l : List Int), i ≤ CL.length ∧ y = .int .i64 i ∧ Hid (R = l ++ ((LN.drop i).filter (fun z => decide (z = (m : Int))) ++ PM.dsc LN m')) ∧ AccG w w2 f2 2 wr o l)
        (fun _ y _ => CL.length - (intOf y).toNat)
      case atStart => exact ⟨0, l, Nat.zero_le _, rfl, Hstart, hG⟩
      case round =>
        obtain ⟨W4, hnew⟩ : ∃ W, W = wr := ⟨_, rfl⟩
        subst hnew
        clear hG Hstart
        obtain ⟨i, l, hi, rfl, hl, hG⟩ := hrel
        by_cases hlt : i < CL.length
        · have hltI : (i : Int) < (CL.length : Int) := by omega
          obtain ⟨b, off, u, rfl, hob, hc0, hu0⟩ := S2.atRow i hlt
          obtain ⟨c, hc⟩ : ∃ c, c = CL[i] := ⟨_, rfl⟩
          rw [← hc] at hu0
          obtain ⟨a4, c4, rfl, I4⟩ := hu0.ints
          have hbG : b ∈ f2 := by rw [Hf2.out, hob]; simp
          have cc := (World.cell?_of_block (w := w2) (hG.kp b hbG)).trans hc0
          have hlni : i < LN.length := by rw [Hln.out, List.length_map]; exact hlt
          have hli : LN[i] = (c.length : Int) := by simp only [Hln.out, List.getElem_map, hc]
          have hst := drop_filter LN (m : Int) i hlni
          rw [hli] at hst
          have hRI := IntsA.bound I4
          have hsz := hG.on.size
          have HG := Lib.hid hG
          have hi0 : (0 : Int) ≤ (i : Int) := by omega
          by_cases hq : c.length = m
          · rw [if_pos (by omega)] at hst
            have q1 : (c.length : Int) ≤ (m : Int) := by omega
            have q2 : (m : Int) ≤ (c.length : Int) := by omega
            have HmI := Lib.hid (show I64 (m : Int) by unfold I64; omega)
            have hR2 : R = (l ++ [(m : Int)]) ++ ((LN.drop (i + 1)).filter (fun z => decide (z = (m : Int))) ++ PM.dsc LN m') := by rw [hl.out, hst]; simp
            have HR2 := Lib.hid hR2
            have hlen : l.length + 1 ≤ 1073741824 := by
              have h1 := hRlen
              rw [hl.out, List.length_append] at h1
              omega
            clear hR2 hst hq hli hlni hc hl hG hc0 hob hbG
            go_wp2_with (first
              | (at_builtin; refine wpList_pushI rfl _ _ 23 rfl w.heap.size 2 i1 _ Try.underlying23 gi gz0 gz1 gz2 rfl W4 u3 l rfl HG.out.acc ((Only.refl _ _).alloc _) hsz W4.heap.size 1 (m : Int) rfl (lit1 _ _ _ rfl) HmI.out hlen ?_; intro v7 w7 hA7 hO7 hP7 hN7; have G7 := (HG.out.keep ((Only.refl [] W4).alloc _)).push hA7 hO7 hP7 hN7; clear hA7 hO7 hP7 hN7)
              | fail "no arm")
            go_roundw
            case rel => exact ⟨i + 1, _, by omega, by go_num, HR2, G7⟩
            case measure => simp [intOf]; omega
          · rw [if_neg (by omega), List.nil_append] at hst
            have q1 : ¬ ((c.length : Int) = (m : Int)) := by omega
            have hR2 : R = l ++ ((LN.drop (i + 1)).filter (fun z => decide (z = (m : Int))) ++ PM.dsc LN m') := by rw [hl.out, hst]
            have HR2 := Lib.hid hR2
            clear hR2 hst hq hli hlni hc hl hG hc0 hob hbG
            go_wp2
            go_roundw
            case rel => exact ⟨i + 1, _, by omega, by go_num, HR2, HG.out⟩
            case measure => simp [intOf]; omega
        · obtain rfl : i = CL.length := by omega
          have hge : ¬ ((CL.length : Int) < (CL.length : Int)) := by omega
          have hR2 : R = l ++ PM.dsc LN m' := by
            have := hl.out
            rw [List.drop_eq_nil_of_le (by rw [Hln.out, List.length_map]; exact Nat.le_refl _)] at this
            simpa using this
          have HR2 := Lib.hid hR2
          clear hR2 hl
          go_wp2
          go_roundw
          case rel => exact ⟨m', l, by have := Hm'.out; omega, rfl, HR2, hG⟩
          case measure => have := Hm'.out; simp [intOf]; omega
    · have hge : ¬ ((0 : Int) < (m : Int)) := by omega
      have hR2 : R = l := by
        have h0 : m = 0 := by omega
        rw [hl.out, h0]
        simp [PM.dsc]
      have HR2 := Lib.hid hR2
      clear hR2 hl
      go_wp2
      go_ret
      exact ⟨u3, rfl, by rw [HR2.out]; exact hG.acc, hG.on⟩
set_option maxHeartbeats 2000000 in
theorem implCycleTypeP_any (n : Nat) (v : Value) (p : List Int) (fp : List Nat) (w : World) (h : Rd w v p fp) (hp : PM.PN n p) (hn20 : n ≤ 20) (hn0 : 0 < n) :
    Calls Try.prog 35 #[v] w fun e w' => ∃ v', e = .returned v' ∧ AccI w.heap.size 2 w' v' (PM.cyt p) ∧ Only [] w w' := by
  have Hpb := Lib.hid (permB_iff.2 ⟨by rw [hp.1]; omega, hp.2⟩)
  have Hp := Lib.hid hp
  clear hp
  go_enter Try.func35, Try.ntmps35
  go_wp2_with (first
    | (go_at_call 57; (with_reducible refine (implIsPerm_rd v p fp w h).mono ?_); rintro e w1 ⟨he, t1⟩; rw [Hpb.out] at he; subst he; have t1 := t1.only [])
    | (go_at_call 61; (with_reducible refine (implCycleType_any n v p fp w1 (Rp.keep h t1) Hp.out (by omega) hn0).mono ?_); rintro e w2 ⟨v2, rfl, A2, t2⟩)
    | fail "no arm")
  go_ret
  exact ⟨v2, rfl, A2.low2 t1.size, t1.trans t2⟩
/-- how many members of a list have a cycle type -/
noncomputable def cntK (l : List (List Int)) (kind : List Int) : Nat := (l.filter fun m => eqV (PM.cyt m) kind).length
theorem cntK_yes {l : List (List Int)} {m kind : List Int} (h : eqV (PM.cyt m) kind = true) : cntK (l ++ [m]) kind = cntK l kind + 1 := by
  unfold cntK; rw [List.filter_append]; simp [h]
theorem cntK_no {l : List (List Int)} {m kind : List Int} (h : eqV (PM.cyt m) kind = false) : cntK (l ++ [m]) kind = cntK l kind := by
  unfold cntK; rw [List.filter_append]; simp [h]
theorem cntK_le (l : List (List Int)) (kind : List Int) : cntK l kind ≤ l.length := List.length_filter_le ..
/-- the number of members of a cycle type, -1 where they are not listed -/
noncomputable def cntT (n : Int) (gens : List (List Int)) (kind : List Int) : Int :=
  if gensB n gens = true then (if 3000 < ordC n.toNat gens n.toNat then -1 else (cntK (allMem n.toNat gens) kind : Nat)) else -1
theorem lsM_pn {n : Nat} {gens : List (List Int)} (hn : 0 < n) (hp : ∀ g ∈ gens, PM.PN n g) {G : PM.Gens} {T : PM.Rows} (h : PM.Chain n gens G T) : ∀ m ∈ lsM n gens, PM.PN n m := by
  intro m hm
  unfold lsM at hm
  by_cases hg : 3000 < ordC n gens n
  · rw [if_pos hg] at hm; cases hm
  · rw [if_neg hg] at hm
    exact (allMem_grp h hn hp m hm).pn hp
set_option maxHeartbeats 4000000 in
theorem specCountT_yes (n : Nat) (vg vk : Value) (gens : List (List Int)) (kind : List Int) (fpg fpk : List Nat) (w : World) (hg : Rd w vg gens fpg) (hk : Rd w vk kind fpk) (hgs : gensB n gens = true) {G : PM.Gens} {T : PM.Rows} (hCh : PM.Chain n gens G T) :
    Calls Try.prog 7 #[.int .i64 n, vg, vk] w fun e w' => e = .returned (.int .i64 (cntT n gens kind)) ∧ Only [] w w' := by
  obtain ⟨⟨n1, n20⟩, hgl, hpn⟩ := gensB_iff.1 hgs
  have hpn' : ∀ g ∈ gens, PM.PN n g := by simpa using hpn
  have hn : 0 < n := by omega
  have hn20 : n ≤ 20 := by omega
  have hop := ordC_pos hCh hn hpn' (j := n) (Nat.le_refl _)
  have hall := lsM_pn hn hpn' hCh
  have Hgs := Lib.hid hgs
  obtain ⟨R, hR⟩ : ∃ R, R = cntT n gens kind := ⟨_, rfl⟩
  rw [← hR]
  have hRd : R = if 3000 < ordC n gens n then -1 else ((cntK (allMem n gens) kind : Nat) : Int) := by
    rw [hR]; unfold cntT; rw [if_pos hgs]; rfl
  have hlsl : (lsM n gens).length = if 3000 < ordC n gens n then 0 else ordC n gens n := by
    unfold lsM
    by_cases hgt : 3000 < ordC n gens n
    · rw [if_pos hgt, if_pos hgt]; rfl
    · rw [if_neg hgt, if_neg hgt, allMem_len]
  have HRd : Hid (if 0 < (lsM n gens).length then R = ((cntK (lsM n gens) kind : Nat) : Int) ∧ (lsM n gens).length ≤ 3000 else R = -1) := Lib.hid (by
    rw [hlsl]
    by_cases hgt : 3000 < ordC n gens n
    · rw [if_pos hgt, if_neg (by omega), hRd, if_pos hgt]
    · rw [if_neg hgt, if_pos (by omega), hRd, if_neg hgt]
      refine ⟨?_, by omega⟩
      unfold lsM
      rw [if_neg hgt])
  have Hall := Lib.hid hall
  obtain ⟨LS, hLS⟩ : ∃ LS, LS = lsM n gens := ⟨_, rfl⟩
  have HaM := Lib.hid (fun (W : World) (hW : Rd W vg gens fpg) => allMembers_any n vg gens fpg W hW hgs)
  rw [← hLS] at HRd Hall HaM
  clear hpn hpn' hgs hall hR hRd hlsl hop hCh hLS
  have hq := HRd.out
  by_cases h0 : 0 < LS.length
  · rw [if_pos h0] at hq
    obtain ⟨hq1, hq2⟩ := hq
    have HR := Lib.hid hq1
    have h0I : ((LS.length : Int) == 0) = false := by
      have : (LS.length : Int) ≠ 0 := by omega
      simpa using this
    clear HRd hq1
    go_enter Try.func7, Try.ntmps7
    go_wp2_with (first
      | (go_at_call 25; (with_reducible refine (specIsGens_rd n vg gens fpg w hg).mono ?_); rintro e w1 ⟨he, t1⟩; rw [Hgs.out] at he; subst he; have t1 := t1.only [])
      | (go_at_call 27; (with_reducible refine (HaM.out w1 (Rp.keep hg t1)).mono ?_); rintro e w2 ⟨v2, f2, rfl, r2, F2, t2⟩; obtain ⟨a2, c2, ob2, fps2, rfl, -, S2⟩ := r2.open_)
      | fail "no arm")
    have k2 := t1.trans t2
    have hb := S2.bound
    go_loopw [8, 9] (fun s y wr => ∃ j : Nat, j ≤ LS.length ∧ y = .int .i64 j ∧ s = .int .i64 (cntK (LS.take j) kind : Nat) ∧ Only [] w2 wr)
      (fun _ y _ => LS.length - (intOf y).toNat)
    case atStart => exact ⟨0, Nat.zero_le _, rfl, rfl, Only.refl _ _⟩
    case round =>
      obtain ⟨W2, hnew⟩ : ∃ W, W = wr := ⟨_, rfl⟩
      subst hnew
      obtain ⟨j, hj, rfl, rfl, hO⟩ := hrel
      by_cases hlt : j < LS.length
      · have hltI : (j : Int) < (LS.length : Int) := by omega
        obtain ⟨b, off, u, rfl, hob, hc0, hu0⟩ := S2.atRow j hlt
        have hpm := Hall.out LS[j] (List.getElem_mem hlt)
        have hsn := take_succ_get LS j hlt
        obtain ⟨m, hm⟩ : ∃ m, m = LS[j] := ⟨_, rfl⟩
        rw [← hm] at hu0 hpm hsn
        have cc := hO.cell (by simp) hc0
        have Hu := Lib.hid (Rp.keep hu0 hO)
        have Hk := Lib.hid (Rp.keep hk (k2.trans hO))
        have Hpm := Lib.hid hpm
        have hcl := cntK_le (LS.take j) kind
        rw [List.length_take] at hcl
        have HcT := Lib.hid (specCycleType_any n u m _ W2 Hu.out Hpm.out hn20 hn)
        have hyes := fun h => cntK_yes (l := LS.take j) (m := m) (kind := kind) h
        have hno := fun h => cntK_no (l := LS.take j) (m := m) (kind := kind) h
        rw [← hsn] at hyes hno
        obtain ⟨cn, hcn⟩ : ∃ cn, cn = cntK (LS.take j) kind := ⟨_, rfl⟩
        rw [← hcn] at hyes hno hcl ⊢
        have Hyes := Lib.hid hyes
        have Hno := Lib.hid hno
        have hj0 : (0 : Int) ≤ (j : Int) := by omega
        clear hpm hsn hm hcn hyes hno hu0 hc0 hob
        rcases hq : eqV (PM.cyt m) kind
        · have Hq := Lib.hid hq
          clear hq
          go_wp2_with (first
            | (go_at_call 30; (with_reducible refine (HcT.out).mono ?_); rintro e w3 ⟨v3, rfl, A3, t3⟩)
            | (go_at_call 29; (with_reducible refine (equalInts_rd v3 vk (PM.cyt m) kind _ _ w3 A3.rd (Rp.keep Hk.out t3)).mono ?_); rintro e w4 ⟨he, t4⟩; rw [Hq.out] at he; subst he; have t4 := t4.only [])
            | (go_at_call 28; (with_reducible refine (boolToInt_any false _).mono ?_); rintro e w5 ⟨rfl, h5⟩; rw [h5]; clear h5)
            | fail "no arm")
          go_roundw
          case rel => exact ⟨j + 1, by omega, by go_num, by rw [Hno.out Hq.out], (hO.trans t3).trans t4⟩
          case measure => simp [intOf]; omega
        · have Hq := Lib.hid hq
          clear hq
          go_wp2_with (first
            | (go_at_call 30; (with_reducible refine (HcT.out).mono ?_); rintro e w3 ⟨v3, rfl, A3, t3⟩)
            | (go_at_call 29; (with_reducible refine (equalInts_rd v3 vk (PM.cyt m) kind _ _ w3 A3.rd (Rp.keep Hk.out t3)).mono ?_); rintro e w4 ⟨he, t4⟩; rw [Hq.out] at he; subst he; have t4 := t4.only [])
            | (go_at_call 28; (with_reducible refine (boolToInt_any true _).mono ?_); rintro e w5 ⟨rfl, h5⟩; rw [h5]; clear h5)
            | fail "no arm")
          go_roundw
          case rel => exact ⟨j + 1, by omega, by go_num, by rw [Hyes.out Hq.out]; go_num, (hO.trans t3).trans t4⟩
          case measure => simp [intOf]; omega
      · obtain rfl : j = LS.length := by omega
        have hge : ¬ ((LS.length : Int) < (LS.length : Int)) := by omega
        rw [List.take_length]
        go_wp2
        go_ret
        exact ⟨ret_int HR.out.symm, k2.trans hO⟩
  · rw [if_neg h0] at hq
    have HR := Lib.hid hq
    clear HRd hq
    go_enter Try.func7, Try.ntmps7
    go_wp2_with (first
      | (go_at_call 25; (with_reducible refine (specIsGens_rd n vg gens fpg w hg).mono ?_); rintro e w1 ⟨he, t1⟩; rw [Hgs.out] at he; subst he; have t1 := t1.only [])
      | (go_at_call 27; (with_reducible refine (HaM.out w1 (Rp.keep hg t1)).mono ?_); rintro e w2 ⟨v2, f2, rfl, r2, F2, t2⟩; obtain ⟨a2, c2, ob2, fps2, rfl, -, S2⟩ := r2.open_)
      | fail "no arm")
    go_ret
    exact ⟨ret_int HR.out.symm, t1.trans t2⟩
set_option maxHeartbeats 4000000 in
theorem implCountT_yes (n : Nat) (vg vk : Value) (gens : List (List Int)) (kind : List Int) (fpg fpk : List Nat) (w : World) (hg : Rd w vg gens fpg) (hk : Rd w vk kind fpk) (hgs : gensB n gens = true) {G : PM.Gens} {T : PM.Rows} (hCh : PM.Chain n gens G T) :
    Calls Try.prog 10 #[.int .i64 n, vg, vk] w fun e w' => e = .returned (.int .i64 (cntT n gens kind)) ∧ Only [] w w' := by
  obtain ⟨⟨n1, n20⟩, hgl, hpn⟩ := gensB_iff.1 hgs
  have hpn' : ∀ g ∈ gens, PM.PN n g := by simpa using hpn
  have hn : 0 < n := by omega
  have hn20 : n ≤ 20 := by omega
  have hall := lsM_pn hn hpn' hCh
  have Hgs := Lib.hid hgs
  have Hpn := Lib.hid hpn'
  obtain ⟨R, hR⟩ : ∃ R, R = cntT n gens kind := ⟨_, rfl⟩
  rw [← hR]
  have hRd : R = if 3000 < ordC n gens n then -1 else ((cntK (allMem n gens) kind : Nat) : Int) := by
    rw [hR]; unfold cntT; rw [if_pos hgs]; rfl
  have HRd : Hid (if ordC n gens n ≤ 3000 then R = ((cntK (lsM n gens) kind : Nat) : Int) ∧ (lsM n gens).length ≤ 3000 else R = -1) := Lib.hid (by
    by_cases hgt : 3000 < ordC n gens n
    · rw [if_neg (by omega), hRd, if_pos hgt]
    · rw [if_pos (by omega), hRd, if_neg hgt]
      unfold lsM
      rw [if_neg hgt, allMem_len]
      exact ⟨rfl, by omega⟩)
  have Hall := Lib.hid hall
  have HcM := Lib.hid (fun (B : Nat) (L : Lay) (gv : Nat → Value) (G : PM.Gens) (T : PM.Rows) (M F : List Nat) (w : World) (hC : Ch 23 B w L gv n G T M F) (hCh : PM.Chain n gens G T) (hT : L.oT = 2) => implMembers_ch n w hC hCh hT hpn')
  obtain ⟨LS, hLS⟩ : ∃ LS, LS = lsM n gens := ⟨_, rfl⟩
  rw [← hLS] at HRd Hall HcM
  clear hpn hpn' hgs hall hR hRd hCh hLS
  have hq := HRd.out
  by_cases h0 : ordC n gens n ≤ 3000
  · rw [if_pos h0] at hq
    rw [decide_eq_true h0] at HcM
    obtain ⟨hq1, hq2⟩ := hq
    have HR := Lib.hid hq1
    clear HRd hq1 h0
    go_enter Try.func10, Try.ntmps10
    go_wp2_with (first
      | (go_at_call 31; (with_reducible refine (implIsGens_rd n vg gens fpg w hg).mono ?_); rintro en w1 ⟨he, t1⟩; rw [Hgs.out] at he; subst he)
      | (go_at_call 32; (with_reducible refine (implNewChain_any n hn hn20 vg gens fpg w1 (Rp.keep hg t1) Hpn.out (by omega)).mono ?_); rintro en w4 ⟨L, gv, G, T, M, F, rfl, -, hoT, hC, hCh, t4⟩; have HC := Lib.hid hC; have HCh := Lib.hid hCh; have HoT := Lib.hid hoT; clear hC hCh hoT)
      | (go_at_call 33; (with_reducible refine (HcM.out _ _ _ _ _ _ _ w4 HC.out HCh.out HoT.out).mono ?_); rintro e w2 ⟨v2, f2, rfl, r2, F2, t2⟩; obtain ⟨a2, c2, ob2, fps2, rfl, -, S2⟩ := r2.open_)
      | fail "no arm")
    have k2 := (t1.trans t4).trans t2
    have hb := S2.bound
    go_loopw [9, 27] (fun s y wr => ∃ j : Nat, j ≤ LS.length ∧ y = .int .i64 j ∧ s = .int .i64 (cntK (LS.take j) kind : Nat) ∧ Only [] w2 wr)
      (fun _ y _ => LS.length - (intOf y).toNat)
    case atStart => exact ⟨0, Nat.zero_le _, rfl, rfl, Only.refl _ _⟩
    case round =>
      obtain ⟨W2, hnew⟩ : ∃ W, W = wr := ⟨_, rfl⟩
      subst hnew
      obtain ⟨j, hj, rfl, rfl, hO⟩ := hrel
      by_cases hlt : j < LS.length
      · have hltI : (j : Int) < (LS.length : Int) := by omega
        obtain ⟨b, off, u, rfl, hob, hc0, hu0⟩ := S2.atRow j hlt
        have hpm := Hall.out LS[j] (List.getElem_mem hlt)
        have hsn := take_succ_get LS j hlt
        obtain ⟨m, hm⟩ : ∃ m, m = LS[j] := ⟨_, rfl⟩
        rw [← hm] at hu0 hpm hsn
        have cc := hO.cell (by simp) hc0
        have Hu := Lib.hid (Rp.keep hu0 hO)
        have Hk := Lib.hid (Rp.keep hk (k2.trans hO))
        have Hpm := Lib.hid hpm
        have hcl := cntK_le (LS.take j) kind
        rw [List.length_take] at hcl
        have HcT := Lib.hid (implCycleTypeP_any n u m _ W2 Hu.out Hpm.out hn20 hn)
        have hyes := fun h => cntK_yes (l := LS.take j) (m := m) (kind := kind) h
        have hno := fun h => cntK_no (l := LS.take j) (m := m) (kind := kind) h
        rw [← hsn] at hyes hno
        obtain ⟨cn, hcn⟩ : ∃ cn, cn = cntK (LS.take j) kind := ⟨_, rfl⟩
        rw [← hcn] at hyes hno hcl ⊢
        have Hyes := Lib.hid hyes
        have Hno := Lib.hid hno
        have hj0 : (0 : Int) ≤ (j : Int) := by omega
        clear hpm hsn hm hcn hyes hno hu0 hc0 hob
        rcases hq : eqV (PM.cyt m) kind
        · have Hq := Lib.hid hq
          clear hq
          go_wp2_with (first
            | (go_at_call 35; (with_reducible refine (HcT.out).mono ?_); rintro e w3 ⟨v3, rfl, A3, t3⟩)
            | (go_at_call 34; (with_reducible refine (Equal_rd v3 vk (PM.cyt m) kind _ _ w3 A3.rd (Rp.keep Hk.out t3)).mono ?_); rintro e w4 ⟨he, t4⟩; rw [Hq.out] at he; subst he; have t4 := t4.only [])
            | fail "no arm")
          go_roundw
          case rel => exact ⟨j + 1, by omega, by go_num, by rw [Hno.out Hq.out], (hO.trans t3).trans t4⟩
          case measure => simp [intOf]; omega
        · have Hq := Lib.hid hq
          clear hq
          go_wp2_with (first
            | (go_at_call 35; (with_reducible refine (HcT.out).mono ?_); rintro e w3 ⟨v3, rfl, A3, t3⟩)
            | (go_at_call 34; (with_reducible refine (Equal_rd v3 vk (PM.cyt m) kind _ _ w3 A3.rd (Rp.keep Hk.out t3)).mono ?_); rintro e w4 ⟨he, t4⟩; rw [Hq.out] at he; subst he; have t4 := t4.only [])
            | fail "no arm")
          go_roundw
          case rel => exact ⟨j + 1, by omega, by go_num, by rw [Hyes.out Hq.out]; go_num, (hO.trans t3).trans t4⟩
          case measure => simp [intOf]; omega
      · obtain rfl : j = LS.length := by omega
        have hge : ¬ ((LS.length : Int) < (LS.length : Int)) := by omega
        rw [List.take_length]
        go_wp2
        go_ret
        exact ⟨ret_int HR.out.symm, k2.trans hO⟩
  · rw [if_neg h0] at hq
    rw [decide_eq_false h0] at HcM
    have HR := Lib.hid hq
    clear HRd hq
    go_enter Try.func10, Try.ntmps10
    go_wp2_with (first
      | (go_at_call 31; (with_reducible refine (implIsGens_rd n vg gens fpg w hg).mono ?_); rintro en w1 ⟨he, t1⟩; rw [Hgs.out] at he; subst he)
      | (go_at_call 32; (with_reducible refine (implNewChain_any n hn hn20 vg gens fpg w1 (Rp.keep hg t1) Hpn.out (by omega)).mono ?_); rintro en w4 ⟨L, gv, G, T, M, F, rfl, -, hoT, hC, hCh, t4⟩; have HC := Lib.hid hC; have HCh := Lib.hid hCh; have HoT := Lib.hid hoT; clear hC hCh hoT)
      | (go_at_call 33; (with_reducible refine (HcM.out _ _ _ _ _ _ _ w4 HC.out HCh.out HoT.out).mono ?_); rintro e w2 ⟨v2, f2, rfl, r2, F2, t2⟩)
      | fail "no arm")
    go_ret
    exact ⟨ret_int HR.out.symm, (t1.trans t4).trans t2⟩
theorem specCountT_no (n : Int) (vg vk : Value) (gens : List (List Int)) (fpg : List Nat) (w : World) (hg : Rd w vg gens fpg) (hgs : gensB n gens = false) :
    Calls Try.prog 7 #[.int .i64 n, vg, vk] w fun e w' => e = .returned (.int .i64 (-1)) ∧ Only [] w w' := by
  have Hgs := Lib.hid hgs
  clear hgs
  go_enter Try.func7, Try.ntmps7
  go_wp2_with (first
    | (go_at_call 25; (with_reducible refine (specIsGens_rd n vg gens fpg w hg).mono ?_); rintro e w1 ⟨he, t1⟩; rw [Hgs.out] at he; subst he; have t1 := t1.only [])
    | fail "no arm")
  go_ret
  exact ⟨rfl, t1⟩
theorem implCountT_no (n : Int) (vg vk : Value) (gens : List (List Int)) (fpg : List Nat) (w : World) (hg : Rd w vg gens fpg) (hgs : gensB n gens = false) :
    Calls Try.prog 10 #[.int .i64 n, vg, vk] w fun e w' => e = .returned (.int .i64 (-1)) ∧ Only [] w w' := by
  have Hgs := Lib.hid hgs
  clear hgs
  go_enter Try.func10, Try.ntmps10
  go_wp2_with (first
    | (go_at_call 31; (with_reducible refine (implIsGens_rd n vg gens fpg w hg).mono ?_); rintro e w1 ⟨he, t1⟩; rw [Hgs.out] at he; subst he)
    | fail "no arm")
  go_ret
  exact ⟨rfl, t1⟩
/-- the two counts, at all arguments -/
theorem specCountT_any (n : Int) (vg vk : Value) (gens : List (List Int)) (kind : List Int) (fpg fpk : List Nat) (w : World) (hg : Rd w vg gens fpg) (hk : Rd w vk kind fpk) :
    Calls Try.prog 7 #[.int .i64 n, vg, vk] w fun e w' => e = .returned (.int .i64 (cntT n gens kind)) ∧ Only [] w w' := by
  rcases hgs : gensB n gens
  · have e1 : cntT n gens kind = -1 := by unfold cntT; rw [if_neg (by rw [hgs]; simp)]
    rw [e1]
    exact specCountT_no n vg vk gens fpg w hg hgs
  · obtain ⟨⟨n1, n20⟩, hgl, hpn⟩ := gensB_iff.1 hgs
    obtain ⟨m, rfl⟩ := Int.eq_ofNat_of_zero_le (show 0 ≤ n by omega)
    obtain ⟨G, T, hCh⟩ := rank_chain m vg gens fpg w hg hgs
    exact specCountT_yes m vg vk gens kind fpg fpk w hg hk hgs hCh
theorem implCountT_any (n : Int) (vg vk : Value) (gens : List (List Int)) (kind : List Int) (fpg fpk : List Nat) (w : World) (hg : Rd w vg gens fpg) (hk : Rd w vk kind fpk) :
    Calls Try.prog 10 #[.int .i64 n, vg, vk] w fun e w' => e = .returned (.int .i64 (cntT n gens kind)) ∧ Only [] w w' := by
  rcases hgs : gensB n gens
  · have e1 : cntT n gens kind = -1 := by unfold cntT; rw [if_neg (by rw [hgs]; simp)]
    rw [e1]
    exact implCountT_no n vg vk gens fpg w hg hgs
  · obtain ⟨⟨n1, n20⟩, hgl, hpn⟩ := gensB_iff.1 hgs
    obtain ⟨m, rfl⟩ := Int.eq_ofNat_of_zero_le (show 0 ≤ n by omega)
    obtain ⟨G, T, hCh⟩ := rank_chain m vg gens fpg w hg hgs
    exact implCountT_yes m vg vk gens kind fpg fpk w hg hk hgs hCh
end Go.Proofs.Ytpcamkmoabhlhaa

namespace Go.Proofs.Ytpcamkmoabhlhaa
open Go.RowKit
set_option maxRecDepth 10000

set_option maxHeartbeats 4000000 in
theorem FnExactCountMembersOfType_any (w : World) (aN : Int) (iaN : I64 aN) (vaGens : Value) (aGens : List (List Int)) (faGens : List Nat) (raGens : Rd w vaGens aGens faGens) (vaCycleType : Value) (aCycleType : List Int) (faCycleType : List Nat) (raCycleType : Rd w vaCycleType aCycleType faCycleType) :
    Calls Try.prog 3 #[.int .i64 aN, vaGens, vaCycleType] w fun e w' => e = .returned (.bool true) ∧ Only [] w w' := by
  have ibaN := iaN; unfold I64 at ibaN; obtain ⟨ilaN, ihaN⟩ := ibaN
  obtain ⟨AaGens, CaGens, _, _, rfl, -⟩ := raGens.open_
  have LaGens := Rp.lt raGens
  have hbaGens : aGens.length ≤ 9223372036854775807 := by obtain ⟨_, _, _, _, hq, -, hs⟩ := raGens.open_; have := hs.bound; exact this
  obtain ⟨AaCycleType, CaCycleType, _, _, rfl, -⟩ := raCycleType.open_
  have LaCycleType := Rp.lt raCycleType
  have hbaCycleType : aCycleType.length ≤ 9223372036854775807 := by obtain ⟨_, _, _, _, hq, -, hs⟩ := raCycleType.open_; have := hs.bound; exact this
  by_cases lenaCycleType : 1048576 < aCycleType.length
  · go_enter Try.func3, Try.ntmps3
    go_wp2
    go_ret
    exact ⟨rfl, (by with_reducible repeat (first | exact Only.refl _ _ | assumption | refine Only.drewN ?_ _ | refine Only.drew ?_ | refine Only.alloc ?_ _ | refine Only.setCell ?_ (by intro hh; exfalso; simp at hh; try omega) _ | refine Only.trans ?_ (by assumption)))⟩
  have smaCycleType : Sm.sm aCycleType := ⟨by omega, fun _ _ => trivial⟩
  have csaCycleType : Mk.cnt aCycleType ≤ 1048576 := by simp only [Mk.cnt, cntL_ints]; omega
  rcases szV_cases (1048576) aGens with ⟨esaGens, msaGens⟩ | ⟨esaGens, psaGens, msaGens⟩
  · go_enter Try.func3, Try.ntmps3
    go_wp2_with (with_reducible refine (szInt64SS_rd (.slice AaGens aGens.length CaGens) aGens _ (1048576) _ raGens (by omega) (by omega)).mono ?_; rintro e w1 ⟨rfl, d0⟩)
    go_ret
    have t0 := d0.only []
    exact ⟨rfl, (by with_reducible repeat (first | exact Only.refl _ _ | assumption | refine Only.drewN ?_ _ | refine Only.drew ?_ | refine Only.alloc ?_ _ | refine Only.setCell ?_ (by intro hh; exfalso; simp at hh; try omega) _ | refine Only.trans ?_ (by assumption)))⟩
  have smaGens : Sm.sm aGens := SzSm.of_ _ (by omega)
  have csaGens : Mk.cnt aGens ≤ 1048576 := Nat.le_trans (CntSz.le aGens) (by omega)
  go_enter Try.func3, Try.ntmps3
  go_wp2_with fail
  with_reducible refine (szInt64SS_rd (.slice AaGens aGens.length CaGens) aGens _ (1048576) _ raGens (by omega) (by omega)).mono ?_
  rintro e w1 ⟨rfl, d0⟩
  have t0 := d0.only []
  rw [esaGens]
  have T0 : Only [] w w1 := t0
  have S0 : w.heap.size + 0 ≤ w1.heap.size := by have := T0.size; omega
  go_wp2_with fail
  with_reducible refine (toInt64SS_sm (.slice AaGens aGens.length CaGens) aGens _ _ (Rp.keep raGens T0) smaGens).mono ?_
  rintro e w2 ⟨v1, f1, rfl, r1, F1, t1⟩
  have T1 : Only [] w1 w2 := t1
  have S1 : w1.heap.size + 0 ≤ w2.heap.size := by have := T1.size; omega
  have L1 := Rp.lt r1
  have G1 : ∀ b ∈ f1, w1.heap.size ≤ b := fun b hb => by have := F1.ge b hb; omega
  go_wp2_with fail
  with_reducible refine (toInt64S_sm (.slice AaCycleType aCycleType.length CaCycleType) aCycleType _ _ (Rp.keep (Rp.keep raCycleType T0) T1) smaCycleType).mono ?_
  rintro e w3 ⟨v2, f2, rfl, r2, F2, t2⟩
  have T2 : Only [] w2 w3 := t2
  have S2 : w2.heap.size + 0 ≤ w3.heap.size := by have := T2.size; omega
  have L2 := Rp.lt r2
  have G2 : ∀ b ∈ f2, w2.heap.size ≤ b := fun b hb => by have := F2.ge b hb; omega
  go_wp2_with fail
  with_reducible refine (specCountT_any aN v1 v2 aGens aCycleType _ _ _ (Rp.keep r1 T2) r2).mono ?_
  rintro e w4 ⟨rfl, t3⟩
  have T3 : Only [] w3 w4 := t3
  have S3 : w3.heap.size + 0 ≤ w4.heap.size := by have := T3.size; omega
  go_wp2_with fail
  with_reducible refine (toInt64SS_sm (.slice AaGens aGens.length CaGens) aGens _ _ (Rp.keep (Rp.keep (Rp.keep (Rp.keep raGens T0) T1) T2) T3) smaGens).mono ?_
  rintro e w5 ⟨v3, f3, rfl, r3, F3, t4⟩
  have T4 : Only [] w4 w5 := t4
  have S4 : w4.heap.size + 0 ≤ w5.heap.size := by have := T4.size; omega
  have L3 := Rp.lt r3
  have G3 : ∀ b ∈ f3, w4.heap.size ≤ b := fun b hb => by have := F3.ge b hb; omega
  go_wp2_with fail
  with_reducible refine (toInt64S_sm (.slice AaCycleType aCycleType.length CaCycleType) aCycleType _ _ (Rp.keep (Rp.keep (Rp.keep (Rp.keep (Rp.keep raCycleType T0) T1) T2) T3) T4) smaCycleType).mono ?_
  rintro e w6 ⟨v4, f4, rfl, r4, F4, t5⟩
  have T5 : Only [] w5 w6 := t5
  have S5 : w5.heap.size + 0 ≤ w6.heap.size := by have := T5.size; omega
  have L4 := Rp.lt r4
  have G4 : ∀ b ∈ f4, w5.heap.size ≤ b := fun b hb => by have := F4.ge b hb; omega
  go_wp2_with fail
  with_reducible refine (implCountT_any aN v3 v4 aGens aCycleType _ _ _ (Rp.keep r3 T5) r4).mono ?_
  rintro e w7 ⟨rfl, t6⟩
  have T6 : Only [] w6 w7 := t6
  have S6 : w6.heap.size + 0 ≤ w7.heap.size := by have := T6.size; omega
  go_wp2_with fail
  with_reducible refine (toInt64SS_sm (.slice AaGens aGens.length CaGens) aGens _ _ (Rp.keep (Rp.keep (Rp.keep (Rp.keep (Rp.keep (Rp.keep (Rp.keep raGens T0) T1) T2) T3) T4) T5) T6) smaGens).mono ?_
  rintro e w8 ⟨v5, f5, rfl, r5, F5, t7⟩
  have T7 : Only [] w7 w8 := t7
  have S7 : w7.heap.size + 0 ≤ w8.heap.size := by have := T7.size; omega
  have L5 := Rp.lt r5
  have G5 : ∀ b ∈ f5, w7.heap.size ≤ b := fun b hb => by have := F5.ge b hb; omega
  have e8 : eqV aGens aGens = true := eqV_yes rfl
  go_wp2_with fail
  with_reducible refine (eqInt64SS_rd v3 v5 aGens aGens _ _ _ (Rp.keep (Rp.keep (Rp.keep r3 T5) T6) T7) r5).mono ?_
  rintro e w9 ⟨rfl, d8⟩
  have t8 := d8.only []
  have T8 : Only [] w8 w9 := t8
  have S8 : w8.heap.size + 0 ≤ w9.heap.size := by have := T8.size; omega
  go_wp2_with fail
  with_reducible refine (toInt64S_sm (.slice AaCycleType aCycleType.length CaCycleType) aCycleType _ _ (Rp.keep (Rp.keep (Rp.keep (Rp.keep (Rp.keep (Rp.keep (Rp.keep (Rp.keep (Rp.keep raCycleType T0) T1) T2) T3) T4) T5) T6) T7) T8) smaCycleType).mono ?_
  rintro e w10 ⟨v6, f6, rfl, r6, F6, t9⟩
  have T9 : Only [] w9 w10 := t9
  have S9 : w9.heap.size + 0 ≤ w10.heap.size := by have := T9.size; omega
  have L6 := Rp.lt r6
  have G6 : ∀ b ∈ f6, w9.heap.size ≤ b := fun b hb => by have := F6.ge b hb; omega
  have e10 : eqV aCycleType aCycleType = true := eqV_yes rfl
  go_wp2_with fail
  with_reducible refine (eqInt64S_rd v4 v6 aCycleType aCycleType _ _ _ (Rp.keep (Rp.keep (Rp.keep (Rp.keep r4 T6) T7) T8) T9) r6).mono ?_
  rintro e w11 ⟨rfl, d10⟩
  have t10 := d10.only []
  have T10 : Only [] w10 w11 := t10
  have S10 : w10.heap.size + 0 ≤ w11.heap.size := by have := T10.size; omega
  go_wp2
  go_ret
  refine ⟨rfl, ?_⟩
  exact (Only.keepThen (Only.keepThen (Only.keepThen (Only.keepThen (Only.keepThen (Only.keepThen (Only.keepThen (Only.keepThen (Only.keepThen (Only.keepThen T0 T1) T2) T3) T4) T5) T6) T7) T8) T9) T10)
end Go.Proofs.Ytpcamkmoabhlhaa
