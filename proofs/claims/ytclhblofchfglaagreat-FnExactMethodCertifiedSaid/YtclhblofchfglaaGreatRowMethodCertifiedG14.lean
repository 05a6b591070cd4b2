/- A method by the reference: its check (laws 41, 51, 57, 58). Whether the reference's search has found a state (laws 41, 46, 51, 57, 58). A slice of numbers of the call's own: its cells, an entry written over. -/
import Derived.Test.YtclhblofchfglaaGreatRowMethodCertifiedG13
import Derived.Deep.DeepCutAuto
import Derived.Test.YtclhblofchfglaaGreatRowMethodCertifiedG11
import Derived.Test.YtclhblofchfglaaGreatRowMethodCertifiedG12
namespace Go.Proofs.YtclhblofchfglaaGreat
open Go.RowKit
set_option maxRecDepth 10000

set_option maxHeartbeats 1000000 in
theorem containsAll_any (va : Value) (A : List Int) (fa : List Nat) (vb : Value) (Bs : List Int) (fb : List Nat) (w : World) (ha : Rd w va A fa) (hb : Rd w vb Bs fb) :
    Calls Tryz.prog 108 #[va, vb] w fun e w' => e = .returned (.bool (Bs.all fun y => decide (y ∈ A))) ∧ Only [] w w' := by
  obtain ⟨a, c, rfl, IA⟩ := ha.ints
  obtain ⟨a2, c2, rfl, IB⟩ := hb.ints
  have hbb := IB.bound
  go_enter Tryz.func108, Tryz.ntmps108
  go_wp2
  go_loopw [5] (fun i wr => ∃ j : Nat, j ≤ Bs.length ∧ i = .int .i64 j ∧ (∀ y ∈ Bs.take j, y ∈ A) ∧ Only [] w wr)
    (fun i _ => Bs.length - (intOf i).toNat)
  case atStart => exact ⟨0, Nat.zero_le _, rfl, by simp, Only.refl _ _⟩
  case round =>
    obtain ⟨W2, hnew⟩ : ∃ W, W = wr := ⟨_, rfl⟩
    subst hnew
    obtain ⟨j, hj, rfl, hr, hK⟩ := hrel
    have Hr := Lib.hid hr
    clear hr
    by_cases hlt : j < Bs.length
    · obtain ⟨b, off, rfl, -, hc⟩ := IB.at_ j hlt
      have hcw := hK.cell (by simp) hc
      by_cases hm : Bs[j] ∈ A
      · have Hd := Lib.hid (decide_eq_true hm)
        have Hm := Lib.hid hm
        clear hc hm
        go_wp2_with (first
          | (go_at_call 154; (with_reducible refine (containsInt_any a c A Bs[j] _ W2 (IA.keep hK)).mono ?_); rintro e w3 ⟨he, d3⟩; rw [Hd.out] at he; subst he; have t3 := d3.only []; clear d3)
          | fail "no arm")
        go_roundw
        case rel => exact ⟨j + 1, by omega, by go_num, by
          rw [take_succ_get Bs j hlt]; intro y hy
          rcases List.mem_append.1 hy with hy | hy
          · exact Hr.out y hy
          · simp at hy; subst hy; exact Hm.out, hK.trans t3⟩
        case measure => simp [intOf]; omega
      · have Hd := Lib.hid (decide_eq_false hm)
        have Hf := Lib.hid (show (Bs.all fun y => decide (y ∈ A)) = false by
          rw [List.all_eq_false]; exact ⟨Bs[j], List.getElem_mem _, by simpa using hm⟩)
        clear hc hm
        go_wp2_with (first
          | (go_at_call 154; (with_reducible refine (containsInt_any a c A Bs[j] _ W2 (IA.keep hK)).mono ?_); rintro e w3 ⟨he, d3⟩; rw [Hd.out] at he; subst he; have t3 := d3.only []; clear d3)
          | fail "no arm")
        go_ret
        exact ⟨ret_bool Hf.out.symm, hK.trans t3⟩
    · have Hf := Lib.hid (show (Bs.all fun y => decide (y ∈ A)) = true by
        rw [List.all_eq_true]; intro y hy
        have := Hr.out y (by rw [List.take_of_length_le (by omega)]; exact hy)
        exact decide_eq_true this)
      go_wp2
      go_ret
      exact ⟨ret_bool Hf.out.symm, hK⟩
set_option maxHeartbeats 4000000 in
theorem specIsMethod_any (cs : List Value) (x : Puzzle) (fp : List Nat) (v : Value) (goals : List (List Int)) (fg : List Nat) (w : World) (h : Rp.rep w cs x fp) (hg : Rd w v goals fg) :
    Calls Tryz.prog 58 #[.agg cs.toArray, v] w fun e w' => e = .returned (.bool (methB x goals)) ∧ Only [] w w' := by
  have h0 := h
  obtain ⟨v2, rfl, p0, p1, h2⟩ := h
  clear p0 p1 h2
  have hg0 := hg
  obtain ⟨a, cap, ob, fps, rfl, -, S⟩ := hg.open_
  have hb := S.bound
  have X0 : Blk (w.alloc (.cells #[.int .i64 x.points, .string x.names, v2] 33)) w.heap.size [.int .i64 x.points, .string x.names, v2] := Blk.new w [.int .i64 x.points, .string x.names, v2] 33
  rcases hv : validPz x
  · have Hf := Lib.hid (methB_no1 (goals := goals) hv)
    have Hv := Lib.hid hv
    clear hv
    go_enter Tryz.func58, Tryz.ntmps58
    go_wp2_with (first
      | (go_at_call 81; (with_reducible refine (specIsValidPuzzle_any [.int .i64 x.points, .string x.names, v2] x _ _ (Rp.keep h0 (by with_reducible repeat (first | exact Only.refl _ _ | assumption | refine Only.drewN ?_ _ | refine Only.drew ?_ | refine Only.alloc ?_ _ | refine Only.setCell ?_ (by intro hh; exfalso; simp at hh; try omega) _ | refine Only.trans ?_ (by assumption))))).mono ?_); rintro e w1 ⟨he, t1⟩; rw [Hv.out] at he; subst he)
      | fail "no arm")
    go_ret
    exact ⟨ret_bool Hf.out.symm, (by with_reducible repeat (first | exact Only.refl _ _ | assumption | refine Only.drewN ?_ _ | refine Only.drew ?_ | refine Only.alloc ?_ _ | refine Only.setCell ?_ (by intro hh; exfalso; simp at hh; try omega) _ | refine Only.trans ?_ (by assumption)))⟩
  have hvf := validPz_facts hv
  obtain ⟨q1, q20, -, -⟩ := hvf
  have Hv := Lib.hid hv
  rcases hr : inR (goals.length : Int) 1 5
  · have Hf := Lib.hid (methB_no2 (x := x) hr)
    have Hr := Lib.hid hr
    clear hv hr
    go_enter Tryz.func58, Tryz.ntmps58
    go_wp2_with (first
      | (go_at_call 81; (with_reducible refine (specIsValidPuzzle_any [.int .i64 x.points, .string x.names, v2] x _ _ (Rp.keep h0 (by with_reducible repeat (first | exact Only.refl _ _ | assumption | refine Only.drewN ?_ _ | refine Only.drew ?_ | refine Only.alloc ?_ _ | refine Only.setCell ?_ (by intro hh; exfalso; simp at hh; try omega) _ | refine Only.trans ?_ (by assumption))))).mono ?_); rintro e w1 ⟨he, t1⟩; rw [Hv.out] at he; subst he)
      | (go_at_call 88; (with_reducible refine (inRange_any (goals.length : Int) 1 5 _).mono ?_); rintro e w1 ⟨he, rfl⟩; rw [Hr.out] at he; subst he)
      | fail "no arm")
    go_ret
    exact ⟨ret_bool Hf.out.symm, (by with_reducible repeat (first | exact Only.refl _ _ | assumption | refine Only.drewN ?_ _ | refine Only.drew ?_ | refine Only.alloc ?_ _ | refine Only.setCell ?_ (by intro hh; exfalso; simp at hh; try omega) _ | refine Only.trans ?_ (by assumption)))⟩
  have hrg := inR_iff.1 hr
  have Hr := Lib.hid hr
  clear hv hr
  go_enter Tryz.func58, Tryz.ntmps58
  go_upto_region 5 with (first
    | (go_at_call 81; (with_reducible refine (specIsValidPuzzle_any [.int .i64 x.points, .string x.names, v2] x _ _ (Rp.keep h0 (by with_reducible repeat (first | exact Only.refl _ _ | assumption | refine Only.drewN ?_ _ | refine Only.drew ?_ | refine Only.alloc ?_ _ | refine Only.setCell ?_ (by intro hh; exfalso; simp at hh; try omega) _ | refine Only.trans ?_ (by assumption))))).mono ?_); rintro e w1 ⟨he, t1⟩; rw [Hv.out] at he; subst he)
    | (go_at_call 88; (with_reducible refine (inRange_any (goals.length : Int) 1 5 _).mono ?_); rintro e w1 ⟨he, rfl⟩; rw [Hr.out] at he; subst he)
    | fail "no arm")
  have K1 : Only [] w w1 := (by with_reducible repeat (first | exact Only.refl _ _ | assumption | refine Only.drewN ?_ _ | refine Only.drew ?_ | refine Only.alloc ?_ _ | refine Only.setCell ?_ (by intro hh; exfalso; simp at hh; try omega) _ | refine Only.trans ?_ (by assumption)))
  have X1 := X0.keep t1
  clear X0 t1
  go_loopw [6] (fun i wr => ∃ j : Nat, j ≤ goals.length ∧ i = .int .i64 j ∧ okTo x goals j ∧ Only [] w1 wr)
    (fun i _ => goals.length - (intOf i).toNat)
  case atStart => exact ⟨0, Nat.zero_le _, rfl, fun i hi => by omega, Only.refl _ _⟩
  case round =>
    obtain ⟨W2, hnew⟩ : ∃ W, W = wr := ⟨_, rfl⟩
    subst hnew
    obtain ⟨j, hj, rfl, hok, hK⟩ := hrel
    have kW := K1.trans hK
    have Hok := Lib.hid hok
    clear hok
    have x0 := (X1.keep hK).cell 0 rfl
    by_cases hlt : j < goals.length
    · obtain ⟨b, off, u, rfl, -, hc, hu⟩ := S.atRow j hlt
      have hgd : goals.getD j [] = goals[j] := getD_get hlt
      have hcw := kW.cell (by simp) hc
      obtain ⟨ag, cg, rfl, Ig⟩ := hu.ints
      obtain ⟨goal, hgl⟩ : ∃ goal, goal = goals[j] := ⟨_, rfl⟩
      rw [← hgl] at hgd Ig hcw
      have Hgd := Lib.hid hgd
      have hjI : (j : Int) < (goals.length : Int) := by omega
      clear hgl hc hu hgd
      have hpt : ∀ W, Only [] W2 W → Calls Tryz.prog 107 #[.int .i64 x.points, .slice ag goal.length cg] W fun e w' => e = .returned (.bool (trackB x.points goal)) ∧ Only [] W w' := fun W hW => (isPointList_rd x.points _ goal _ W (Ig.keep (kW.trans hW)).rd (by omega) (by omega)).mono fun e w' hh => ⟨hh.1, hh.2.only []⟩
      obtain ⟨tr, htr⟩ : ∃ tr, tr = trackB x.points goal := ⟨_, rfl⟩
      rw [← htr] at hpt
      have Hpt := Lib.hid hpt
      clear hpt
      obtain ⟨r, hr⟩ : ∃ r : Bool, r = (!tr || (decide (0 < j) && !pairB (goals.getD (j - 1) []) goal)) := ⟨_, rfl⟩
      go_wp2
      go_cut [60] (fun s60 wx => s60 = .bool r ∧ Only [] W2 wx)
      case first =>
        cases tr
        · have hrr : r = true := by rw [hr]; rfl
          subst hrr
          clear hr htr
          refine wp_region_held_drew (S := fun w' => Only [] W2 w' ∧ w'.cell? ⟨w.heap.size, 0, none⟩ = some (.int .i64 x.points) ∧ w'.cell? ⟨b, off + j, none⟩ = some (.slice ag goal.length cg)) (by kernel_rfl) (and_of (Only.refl [] W2).drew (fun h__ => ⟨h__.cell (by simp) x0, h__.cell (by simp) hcw⟩)) (fun hHeld => ?_)
          refine tkV (v := ?v1) 0 ?h1 ?r1; (case h1 => (intro w__ hSw; (try dsimp only at hSw); go_simp; try with_reducible rfl)); (try simp only [Act.put, aT, aZ, sB, sZ, sS])
          refine tkV (v := ?v2) 1 ?h2 ?r2; (case h2 => (intro w__ hSw; (try dsimp only at hSw); go_simp; try with_reducible rfl)); (try simp only [Act.put, aT, aZ, aS, sB, sZ, sS])
          refine tkV (v := ?v3) 2 ?h3 ?r3; (case h3 => (intro w__ hSw; (try dsimp only at hSw); go_simp; try with_reducible rfl)); (try simp only [Act.put, aT, aZ, aS, sB, sZ, sS])
          refine tkV (v := ?v4) 3 ?h4 ?r4; (case h4 => (intro w__ hSw; (try dsimp only at hSw); go_simp; try with_reducible rfl)); (try simp only [Act.put, aT, aZ, aS, sB, sZ, sS])
          refine tkV (v := ?v5) 4 ?h5 ?r5; (case h5 => (intro w__ hSw; (try dsimp only at hSw); go_simp; try with_reducible rfl)); (try simp only [Act.put, aT, aZ, aS, sB, sZ, sS])
          refine tkV (v := ?v6) 5 ?h6 ?r6; (case h6 => (intro w__ hSw; (try dsimp only at hSw); go_simp; try with_reducible rfl)); (try simp only [Act.put, aT, aZ, aS, sB, sZ, sS])
          refine wpAnyH_ready (rs := [6]) (by kernel_rfl) (by simp) ?_
          refine AllReadyH.cons rfl (fun K hK => ?_) AllReadyH.nil
          go_simp
          (go_at_call 107; (with_reducible refine (Hpt.out _ (And.left (by assumption))).mono ?_); rintro e w5 ⟨rfl, t5⟩)
          go_wp2_with fail
          refine hK.out _ _ ?hS7 (fun hHeld => ?rest7)
          case hS7 => ((refine and_of ?_ (fun h__ => ⟨h__.cell (by simp) x0, h__.cell (by simp) hcw⟩)); first | exact Only.trans (And.left (by assumption)) (by assumption) | exact And.left (by assumption) | assumption)
          clear hK K
          (try simp only [Act.put, aT, aZ, aS, sB, sZ, sS])
          refine tkV (v := ?v8) 7 ?h8 ?r8; (case h8 => (intro w__ hSw; (try dsimp only at hSw); go_simp; try with_reducible rfl)); (try simp only [Act.put, aT, aZ, aS, sB, sZ, sS])
          refine tkV (v := ?v9) 8 ?h9 ?r9; (case h9 => (intro w__ hSw; (try dsimp only at hSw); go_simp; try with_reducible rfl)); (try simp only [Act.put, aT, aZ, aS, sB, sZ, sS])
          refine tkU 9 ?_; (try simp only [Act.put, aT, aZ, aS, sB, sZ, sS])
          refine tkU 10 ?_; (try simp only [Act.put, aT, aZ, aS, sB, sZ, sS])
          refine tkU 11 ?_; (try simp only [Act.put, aT, aZ, aS, sB, sZ, sS])
          refine tkU 12 ?_; (try simp only [Act.put, aT, aZ, aS, sB, sZ, sS])
          refine tkU 13 ?_; (try simp only [Act.put, aT, aZ, aS, sB, sZ, sS])
          refine tkU 14 ?_; (try simp only [Act.put, aT, aZ, aS, sB, sZ, sS])
          refine tkU 15 ?_; (try simp only [Act.put, aT, aZ, aS, sB, sZ, sS])
          refine tkU 16 ?_; (try simp only [Act.put, aT, aZ, aS, sB, sZ, sS])
          refine tkU 17 ?_; (try simp only [Act.put, aT, aZ, aS, sB, sZ, sS])
          refine tkU 18 ?_; (try simp only [Act.put, aT, aZ, aS, sB, sZ, sS])
          refine tkU 19 ?_; (try simp only [Act.put, aT, aZ, aS, sB, sZ, sS])
          refine tkU 20 ?_; (try simp only [Act.put, aT, aZ, aS, sB, sZ, sS])
          refine tkU 21 ?_; (try simp only [Act.put, aT, aZ, aS, sB, sZ, sS])
          refine tkU 22 ?_; (try simp only [Act.put, aT, aZ, aS, sB, sZ, sS])
          refine tkU 23 ?_; (try simp only [Act.put, aT, aZ, aS, sB, sZ, sS])
          refine tkU 24 ?_; (try simp only [Act.put, aT, aZ, aS, sB, sZ, sS])
          refine tkU 25 ?_; (try simp only [Act.put, aT, aZ, aS, sB, sZ, sS])
          refine tkU 26 ?_; (try simp only [Act.put, aT, aZ, aS, sB, sZ, sS])
          refine tkU 27 ?_; (try simp only [Act.put, aT, aZ, aS, sB, sZ, sS])
          refine tkU 28 ?_; (try simp only [Act.put, aT, aZ, aS, sB, sZ, sS])
          refine tkU 29 ?_; (try simp only [Act.put, aT, aZ, aS, sB, sZ, sS])
          refine tkU 30 ?_; (try simp only [Act.put, aT, aZ, aS, sB, sZ, sS])
          refine tkU 31 ?_; (try simp only [Act.put, aT, aZ, aS, sB, sZ, sS])
          refine tkU 32 ?_; (try simp only [Act.put, aT, aZ, aS, sB, sZ, sS])
          refine tkU 33 ?_; (try simp only [Act.put, aT, aZ, aS, sB, sZ, sS])
          refine tkU 34 ?_; (try simp only [Act.put, aT, aZ, aS, sB, sZ, sS])
          refine tkU 35 ?_; (try simp only [Act.put, aT, aZ, aS, sB, sZ, sS])
          refine tkU 36 ?_; (try simp only [Act.put, aT, aZ, aS, sB, sZ, sS])
          refine tkU 37 ?_; (try simp only [Act.put, aT, aZ, aS, sB, sZ, sS])
          refine tkV (v := ?v10) 38 ?h10 ?r10; (case h10 => (intro w__ hSw; (try dsimp only at hSw); go_simp; try with_reducible rfl)); (try simp only [Act.put, aT, aZ, aS, sB, sZ, sS])
          refine wpAnyH_done (by kernel_rfl) ?_ _
          go_wp2
          go_meet
          exact ⟨rfl, And.left (by assumption)⟩
        by_cases hj0 : 0 < j
        · obtain ⟨jp, hjp⟩ : ∃ jp, jp = j - 1 := ⟨_, rfl⟩
          have hjl : jp < goals.length := by omega
          obtain ⟨b', off', u', hA', -, hc', hu'⟩ := S.atRow jp hjl
          injection hA' with hA'; injection hA' with hA1 hA2; subst hA1; subst hA2
          have hpd : goals.getD jp [] = goals[jp] := getD_get hjl
          obtain ⟨ap, cp, rfl, Ip⟩ := hu'.ints
          rw [← hjp] at hr
          obtain ⟨prev, hpv⟩ : ∃ prev, prev = goals[jp] := ⟨_, rfl⟩
          rw [← hpv] at hpd Ip hc'
          rw [hpd] at hr
          have hcp := kW.cell (by simp) hc'
          have e1 : IntKind.i64.wrap ((j : Int) - 1) = (j : Int) - 1 := by rw [IntKind.wrap_i64]; omega
          have e2 : ((j : Int) - 1).toNat = jp := by omega
          have e3 : (0 : Int) ≤ (j : Int) - 1 := by omega
          have e4 : (j : Int) - 1 < (goals.length : Int) := by omega
          have e5 : (0 : Int) < (j : Int) := by omega
          have e6 : (1 : Int) ≤ (j : Int) := by omega
          clear hpv hpd hc' hu' hjp
          by_cases hle : goal.length ≤ prev.length
          · have hge : decide ((goal.length : Int) ≤ (prev.length : Int)) = true := decide_eq_true (by omega)
            have hrr : r = true := by rw [hr]; unfold pairB; rw [decide_eq_false (by omega : ¬ prev.length < goal.length), decide_eq_true hj0]; rfl
            subst hrr
            clear hr htr
            refine wp_region_held_drew (S := fun w' => Only [] W2 w' ∧ w'.cell? ⟨w.heap.size, 0, none⟩ = some (.int .i64 x.points) ∧ w'.cell? ⟨b, off + j, none⟩ = some (.slice ag goal.length cg) ∧ w'.cell? ⟨b, off + jp, none⟩ = some (.slice ap prev.length cp)) (by kernel_rfl) (and_of (Only.refl [] W2).drew (fun h__ => ⟨h__.cell (by simp) x0, h__.cell (by simp) hcw, h__.cell (by simp) hcp⟩)) (fun hHeld => ?_)
            refine tkV (v := ?v11) 0 ?h11 ?r11; (case h11 => (intro w__ hSw; (try dsimp only at hSw); go_simp; try with_reducible rfl)); (try simp only [Act.put, aT, aZ, sB, sZ, sS])
            refine tkV (v := ?v12) 1 ?h12 ?r12; (case h12 => (intro w__ hSw; (try dsimp only at hSw); go_simp; try with_reducible rfl)); (try simp only [Act.put, aT, aZ, aS, sB, sZ, sS])
            refine tkV (v := ?v13) 2 ?h13 ?r13; (case h13 => (intro w__ hSw; (try dsimp only at hSw); go_simp; try with_reducible rfl)); (try simp only [Act.put, aT, aZ, aS, sB, sZ, sS])
            refine tkV (v := ?v14) 3 ?h14 ?r14; (case h14 => (intro w__ hSw; (try dsimp only at hSw); go_simp; try with_reducible rfl)); (try simp only [Act.put, aT, aZ, aS, sB, sZ, sS])
            refine tkV (v := ?v15) 4 ?h15 ?r15; (case h15 => (intro w__ hSw; (try dsimp only at hSw); go_simp; try with_reducible rfl)); (try simp only [Act.put, aT, aZ, aS, sB, sZ, sS])
            refine tkV (v := ?v16) 5 ?h16 ?r16; (case h16 => (intro w__ hSw; (try dsimp only at hSw); go_simp; try with_reducible rfl)); (try simp only [Act.put, aT, aZ, aS, sB, sZ, sS])
            refine wpAnyH_ready (rs := [6]) (by kernel_rfl) (by simp) ?_
            refine AllReadyH.cons rfl (fun K hK => ?_) AllReadyH.nil
            go_simp
            (go_at_call 107; (with_reducible refine (Hpt.out _ (And.left (by assumption))).mono ?_); rintro e w5 ⟨rfl, t5⟩)
            go_wp2_with fail
            refine hK.out _ _ ?hS17 (fun hHeld => ?rest17)
            case hS17 => ((refine and_of ?_ (fun h__ => ⟨h__.cell (by simp) x0, h__.cell (by simp) hcw, h__.cell (by simp) hcp⟩)); first | exact Only.trans (And.left (by assumption)) (by assumption) | exact And.left (by assumption) | assumption)
            clear hK K
            (try simp only [Act.put, aT, aZ, aS, sB, sZ, sS])
            refine tkV (v := ?v18) 7 ?h18 ?r18; (case h18 => (intro w__ hSw; (try dsimp only at hSw); go_simp; try with_reducible rfl)); (try simp only [Act.put, aT, aZ, aS, sB, sZ, sS])
            refine tkV (v := ?v19) 8 ?h19 ?r19; (case h19 => (intro w__ hSw; (try dsimp only at hSw); go_simp; try with_reducible rfl)); (try simp only [Act.put, aT, aZ, aS, sB, sZ, sS])
            refine tkV (v := ?v20) 9 ?h20 ?r20; (case h20 => (intro w__ hSw; (try dsimp only at hSw); go_simp; try with_reducible rfl)); (try simp only [Act.put, aT, aZ, aS, sB, sZ, sS])
            refine tkV (v := ?v21) 10 ?h21 ?r21; (case h21 => (intro w__ hSw; (try dsimp only at hSw); go_simp; try with_reducible rfl)); (try simp only [Act.put, aT, aZ, aS, sB, sZ, sS])
            refine tkV (v := ?v22) 11 ?h22 ?r22; (case h22 => (intro w__ hSw; (try dsimp only at hSw); go_simp; try with_reducible rfl)); (try simp only [Act.put, aT, aZ, aS, sB, sZ, sS])
            refine tkV (v := ?v23) 12 ?h23 ?r23; (case h23 => (intro w__ hSw; (try dsimp only at hSw); go_simp; try with_reducible rfl)); (try simp only [Act.put, aT, aZ, aS, sB, sZ, sS])
            refine tkV (v := ?v24) 13 ?h24 ?r24; (case h24 => (intro w__ hSw; (try dsimp only at hSw); go_simp; try with_reducible rfl)); (try simp only [Act.put, aT, aZ, aS, sB, sZ, sS])
            refine tkV (v := ?v25) 14 ?h25 ?r25; (case h25 => (intro w__ hSw; (try dsimp only at hSw); go_simp; try with_reducible rfl)); (try simp only [Act.put, aT, aZ, aS, sB, sZ, sS])
            refine tkV (v := ?v26) 15 ?h26 ?r26; (case h26 => (intro w__ hSw; (try dsimp only at hSw); go_simp; try with_reducible rfl)); (try simp only [Act.put, aT, aZ, aS, sB, sZ, sS])
            refine tkV (v := ?v27) 16 ?h27 ?r27; (case h27 => (intro w__ hSw; (try dsimp only at hSw); go_simp; try with_reducible rfl)); (try simp only [Act.put, aT, aZ, aS, sB, sZ, sS])
            refine tkV (v := ?v28) 17 ?h28 ?r28; (case h28 => (intro w__ hSw; (try dsimp only at hSw); go_simp; try with_reducible rfl)); (try simp only [Act.put, aT, aZ, aS, sB, sZ, sS])
            refine tkV (v := ?v29) 18 ?h29 ?r29; (case h29 => (intro w__ hSw; (try dsimp only at hSw); go_simp; try with_reducible rfl)); (try simp only [Act.put, aT, aZ, aS, sB, sZ, sS])
            refine tkV (v := ?v30) 19 ?h30 ?r30; (case h30 => (intro w__ hSw; (try dsimp only at hSw); go_simp; try with_reducible rfl)); (try simp only [Act.put, aT, aZ, aS, sB, sZ, sS])
            refine tkV (v := ?v31) 20 ?h31 ?r31; (case h31 => (intro w__ hSw; (try dsimp only at hSw); go_simp; try with_reducible rfl)); (try simp only [Act.put, aT, aZ, aS, sB, sZ, sS])
            refine tkV (v := ?v32) 21 ?h32 ?r32; (case h32 => (intro w__ hSw; (try dsimp only at hSw); go_simp; try with_reducible rfl)); (try simp only [Act.put, aT, aZ, aS, sB, sZ, sS])
            refine tkV (v := ?v33) 22 ?h33 ?r33; (case h33 => (intro w__ hSw; (try dsimp only at hSw); go_simp; try with_reducible rfl)); (try simp only [Act.put, aT, aZ, aS, sB, sZ, sS])
            refine tkV (v := ?v34) 23 ?h34 ?r34; (case h34 => (intro w__ hSw; (try dsimp only at hSw); go_simp; try with_reducible rfl)); (try simp only [Act.put, aT, aZ, aS, sB, sZ, sS])
            refine tkV (v := ?v35) 24 ?h35 ?r35; (case h35 => (intro w__ hSw; (try dsimp only at hSw); go_simp; try with_reducible rfl)); (try simp only [Act.put, aT, aZ, aS, sB, sZ, sS])
            refine tkU 25 ?_; (try simp only [Act.put, aT, aZ, aS, sB, sZ, sS])
            refine tkU 26 ?_; (try simp only [Act.put, aT, aZ, aS, sB, sZ, sS])
            refine tkU 27 ?_; (try simp only [Act.put, aT, aZ, aS, sB, sZ, sS])
            refine tkU 28 ?_; (try simp only [Act.put, aT, aZ, aS, sB, sZ, sS])
            refine tkU 29 ?_; (try simp only [Act.put, aT, aZ, aS, sB, sZ, sS])
            refine tkU 30 ?_; (try simp only [Act.put, aT, aZ, aS, sB, sZ, sS])
            refine tkU 31 ?_; (try simp only [Act.put, aT, aZ, aS, sB, sZ, sS])
            refine tkU 32 ?_; (try simp only [Act.put, aT, aZ, aS, sB, sZ, sS])
            refine tkU 33 ?_; (try simp only [Act.put, aT, aZ, aS, sB, sZ, sS])
            refine tkU 34 ?_; (try simp only [Act.put, aT, aZ, aS, sB, sZ, sS])
            refine tkU 35 ?_; (try simp only [Act.put, aT, aZ, aS, sB, sZ, sS])
            refine tkV (v := ?v36) 36 ?h36 ?r36; (case h36 => (intro w__ hSw; (try dsimp only at hSw); go_simp; try with_reducible rfl)); (try simp only [Act.put, aT, aZ, aS, sB, sZ, sS])
            refine tkV (v := ?v37) 37 ?h37 ?r37; (case h37 => (intro w__ hSw; (try dsimp only at hSw); go_simp; try with_reducible rfl)); (try simp only [Act.put, aT, aZ, aS, sB, sZ, sS])
            refine tkV (v := ?v38) 38 ?h38 ?r38; (case h38 => (intro w__ hSw; (try dsimp only at hSw); go_simp; try with_reducible rfl)); (try simp only [Act.put, aT, aZ, aS, sB, sZ, sS])
            refine wpAnyH_done (by kernel_rfl) ?_ _
            go_wp2
            go_meet
            exact ⟨rfl, And.left (by assumption)⟩
          · have hge : decide ((goal.length : Int) ≤ (prev.length : Int)) = false := decide_eq_false (by omega)
            have hrr : r = !(prev.all fun y => decide (y ∈ goal)) := by
              rw [hr]; unfold pairB; rw [decide_eq_true (by omega : prev.length < goal.length), decide_eq_true hj0]; simp
            have hca : ∀ W, Only [] W2 W → Calls Tryz.prog 108 #[.slice ag goal.length cg, .slice ap prev.length cp] W fun e w' => e = .returned (.bool !r) ∧ Only [] W w' := fun W hW => by
              rw [hrr, Bool.not_not]
              exact containsAll_any _ goal _ _ prev _ W (Ig.keep (kW.trans hW)).rd (Ip.keep (kW.trans hW)).rd
            have Hca := Lib.hid hca
            clear hca hrr hr htr
            refine wp_region_held_drew (S := fun w' => Only [] W2 w' ∧ w'.cell? ⟨w.heap.size, 0, none⟩ = some (.int .i64 x.points) ∧ w'.cell? ⟨b, off + j, none⟩ = some (.slice ag goal.length cg) ∧ w'.cell? ⟨b, off + jp, none⟩ = some (.slice ap prev.length cp)) (by kernel_rfl) (and_of (Only.refl [] W2).drew (fun h__ => ⟨h__.cell (by simp) x0, h__.cell (by simp) hcw, h__.cell (by simp) hcp⟩)) (fun hHeld => ?_)
            refine tkV (v := ?v39) 0 ?h39 ?r39; (case h39 => (intro w__ hSw; (try dsimp only at hSw); go_simp; try with_reducible rfl)); (try simp only [Act.put, aT, aZ, sB, sZ, sS])
            refine tkV (v := ?v40) 1 ?h40 ?r40; (case h40 => (intro w__ hSw; (try dsimp only at hSw); go_simp; try with_reducible rfl)); (try simp only [Act.put, aT, aZ, aS, sB, sZ, sS])
            refine tkV (v := ?v41) 2 ?h41 ?r41; (case h41 => (intro w__ hSw; (try dsimp only at hSw); go_simp; try with_reducible rfl)); (try simp only [Act.put, aT, aZ, aS, sB, sZ, sS])
            refine tkV (v := ?v42) 3 ?h42 ?r42; (case h42 => (intro w__ hSw; (try dsimp only at hSw); go_simp; try with_reducible rfl)); (try simp only [Act.put, aT, aZ, aS, sB, sZ, sS])
            refine tkV (v := ?v43) 4 ?h43 ?r43; (case h43 => (intro w__ hSw; (try dsimp only at hSw); go_simp; try with_reducible rfl)); (try simp only [Act.put, aT, aZ, aS, sB, sZ, sS])
            refine tkV (v := ?v44) 5 ?h44 ?r44; (case h44 => (intro w__ hSw; (try dsimp only at hSw); go_simp; try with_reducible rfl)); (try simp only [Act.put, aT, aZ, aS, sB, sZ, sS])
            refine wpAnyH_ready (rs := [6]) (by kernel_rfl) (by simp) ?_
            refine AllReadyH.cons rfl (fun K hK => ?_) AllReadyH.nil
            go_simp
            (go_at_call 107; (with_reducible refine (Hpt.out _ (And.left (by assumption))).mono ?_); rintro e w5 ⟨rfl, t5⟩)
            go_wp2_with fail
            refine hK.out _ _ ?hS45 (fun hHeld => ?rest45)
            case hS45 => ((refine and_of ?_ (fun h__ => ⟨h__.cell (by simp) x0, h__.cell (by simp) hcw, h__.cell (by simp) hcp⟩)); first | exact Only.trans (And.left (by assumption)) (by assumption) | exact And.left (by assumption) | assumption)
            clear hK K
            (try simp only [Act.put, aT, aZ, aS, sB, sZ, sS])
            refine tkV (v := ?v46) 7 ?h46 ?r46; (case h46 => (intro w__ hSw; (try dsimp only at hSw); go_simp; try with_reducible rfl)); (try simp only [Act.put, aT, aZ, aS, sB, sZ, sS])
            refine tkV (v := ?v47) 8 ?h47 ?r47; (case h47 => (intro w__ hSw; (try dsimp only at hSw); go_simp; try with_reducible rfl)); (try simp only [Act.put, aT, aZ, aS, sB, sZ, sS])
            refine tkV (v := ?v48) 9 ?h48 ?r48; (case h48 => (intro w__ hSw; (try dsimp only at hSw); go_simp; try with_reducible rfl)); (try simp only [Act.put, aT, aZ, aS, sB, sZ, sS])
            refine tkV (v := ?v49) 10 ?h49 ?r49; (case h49 => (intro w__ hSw; (try dsimp only at hSw); go_simp; try with_reducible rfl)); (try simp only [Act.put, aT, aZ, aS, sB, sZ, sS])
            refine tkV (v := ?v50) 11 ?h50 ?r50; (case h50 => (intro w__ hSw; (try dsimp only at hSw); go_simp; try with_reducible rfl)); (try simp only [Act.put, aT, aZ, aS, sB, sZ, sS])
            refine tkV (v := ?v51) 12 ?h51 ?r51; (case h51 => (intro w__ hSw; (try dsimp only at hSw); go_simp; try with_reducible rfl)); (try simp only [Act.put, aT, aZ, aS, sB, sZ, sS])
            refine tkV (v := ?v52) 13 ?h52 ?r52; (case h52 => (intro w__ hSw; (try dsimp only at hSw); go_simp; try with_reducible rfl)); (try simp only [Act.put, aT, aZ, aS, sB, sZ, sS])
            refine tkV (v := ?v53) 14 ?h53 ?r53; (case h53 => (intro w__ hSw; (try dsimp only at hSw); go_simp; try with_reducible rfl)); (try simp only [Act.put, aT, aZ, aS, sB, sZ, sS])
            refine tkV (v := ?v54) 15 ?h54 ?r54; (case h54 => (intro w__ hSw; (try dsimp only at hSw); go_simp; try with_reducible rfl)); (try simp only [Act.put, aT, aZ, aS, sB, sZ, sS])
            refine tkV (v := ?v55) 16 ?h55 ?r55; (case h55 => (intro w__ hSw; (try dsimp only at hSw); go_simp; try with_reducible rfl)); (try simp only [Act.put, aT, aZ, aS, sB, sZ, sS])
            refine tkV (v := ?v56) 17 ?h56 ?r56; (case h56 => (intro w__ hSw; (try dsimp only at hSw); go_simp; try with_reducible rfl)); (try simp only [Act.put, aT, aZ, aS, sB, sZ, sS])
            refine tkV (v := ?v57) 18 ?h57 ?r57; (case h57 => (intro w__ hSw; (try dsimp only at hSw); go_simp; try with_reducible rfl)); (try simp only [Act.put, aT, aZ, aS, sB, sZ, sS])
            refine tkV (v := ?v58) 19 ?h58 ?r58; (case h58 => (intro w__ hSw; (try dsimp only at hSw); go_simp; try with_reducible rfl)); (try simp only [Act.put, aT, aZ, aS, sB, sZ, sS])
            refine tkV (v := ?v59) 20 ?h59 ?r59; (case h59 => (intro w__ hSw; (try dsimp only at hSw); go_simp; try with_reducible rfl)); (try simp only [Act.put, aT, aZ, aS, sB, sZ, sS])
            refine tkV (v := ?v60) 21 ?h60 ?r60; (case h60 => (intro w__ hSw; (try dsimp only at hSw); go_simp; try with_reducible rfl)); (try simp only [Act.put, aT, aZ, aS, sB, sZ, sS])
            refine tkV (v := ?v61) 22 ?h61 ?r61; (case h61 => (intro w__ hSw; (try dsimp only at hSw); go_simp; try with_reducible rfl)); (try simp only [Act.put, aT, aZ, aS, sB, sZ, sS])
            refine tkV (v := ?v62) 23 ?h62 ?r62; (case h62 => (intro w__ hSw; (try dsimp only at hSw); go_simp; try with_reducible rfl)); (try simp only [Act.put, aT, aZ, aS, sB, sZ, sS])
            refine tkV (v := ?v63) 24 ?h63 ?r63; (case h63 => (intro w__ hSw; (try dsimp only at hSw); go_simp; try with_reducible rfl)); (try simp only [Act.put, aT, aZ, aS, sB, sZ, sS])
            refine tkV (v := ?v64) 25 ?h64 ?r64; (case h64 => (intro w__ hSw; (try dsimp only at hSw); go_simp; try with_reducible rfl)); (try simp only [Act.put, aT, aZ, aS, sB, sZ, sS])
            refine tkV (v := ?v65) 26 ?h65 ?r65; (case h65 => (intro w__ hSw; (try dsimp only at hSw); go_simp; try with_reducible rfl)); (try simp only [Act.put, aT, aZ, aS, sB, sZ, sS])
            refine tkV (v := ?v66) 27 ?h66 ?r66; (case h66 => (intro w__ hSw; (try dsimp only at hSw); go_simp; try with_reducible rfl)); (try simp only [Act.put, aT, aZ, aS, sB, sZ, sS])
            refine tkV (v := ?v67) 28 ?h67 ?r67; (case h67 => (intro w__ hSw; (try dsimp only at hSw); go_simp; try with_reducible rfl)); (try simp only [Act.put, aT, aZ, aS, sB, sZ, sS])
            refine tkV (v := ?v68) 29 ?h68 ?r68; (case h68 => (intro w__ hSw; (try dsimp only at hSw); go_simp; try with_reducible rfl)); (try simp only [Act.put, aT, aZ, aS, sB, sZ, sS])
            refine tkV (v := ?v69) 30 ?h69 ?r69; (case h69 => (intro w__ hSw; (try dsimp only at hSw); go_simp; try with_reducible rfl)); (try simp only [Act.put, aT, aZ, aS, sB, sZ, sS])
            refine tkV (v := ?v70) 31 ?h70 ?r70; (case h70 => (intro w__ hSw; (try dsimp only at hSw); go_simp; try with_reducible rfl)); (try simp only [Act.put, aT, aZ, aS, sB, sZ, sS])
            refine tkV (v := ?v71) 32 ?h71 ?r71; (case h71 => (intro w__ hSw; (try dsimp only at hSw); go_simp; try with_reducible rfl)); (try simp only [Act.put, aT, aZ, aS, sB, sZ, sS])
            refine tkV (v := ?v72) 33 ?h72 ?r72; (case h72 => (intro w__ hSw; (try dsimp only at hSw); go_simp; try with_reducible rfl)); (try simp only [Act.put, aT, aZ, aS, sB, sZ, sS])
            refine wpAnyH_ready (rs := [34]) (by kernel_rfl) (by simp) ?_
            refine AllReadyH.cons rfl (fun K hK => ?_) AllReadyH.nil
            go_simp
            (go_at_call 108; (with_reducible refine (Hca.out _ (And.left (by assumption))).mono ?_); rintro e w6 ⟨rfl, t6⟩)
            go_wp2_with fail
            refine hK.out _ _ ?hS73 (fun hHeld => ?rest73)
            case hS73 => ((refine and_of ?_ (fun h__ => ⟨h__.cell (by simp) x0, h__.cell (by simp) hcw, h__.cell (by simp) hcp⟩)); first | exact Only.trans (And.left (by assumption)) (by assumption) | exact And.left (by assumption) | assumption)
            clear hK K
            (try simp only [Act.put, aT, aZ, aS, sB, sZ, sS])
            refine tkV (v := ?v74) 35 ?h74 ?r74; (case h74 => (intro w__ hSw; (try dsimp only at hSw); go_simp; try with_reducible rfl)); (try simp only [Act.put, aT, aZ, aS, sB, sZ, sS])
            refine tkV (v := ?v75) 36 ?h75 ?r75; (case h75 => (intro w__ hSw; (try dsimp only at hSw); go_simp; try with_reducible rfl)); (try simp only [Act.put, aT, aZ, aS, sB, sZ, sS])
            refine tkV (v := ?v76) 37 ?h76 ?r76; (case h76 => (intro w__ hSw; (try dsimp only at hSw); go_simp; try with_reducible rfl)); (try simp only [Act.put, aT, aZ, aS, sB, sZ, sS])
            refine tkV (v := ?v77) 38 ?h77 ?r77; (case h77 => (intro w__ hSw; (try dsimp only at hSw); go_simp; try with_reducible rfl)); (try simp only [Act.put, aT, aZ, aS, sB, sZ, sS])
            refine wpAnyH_done (by kernel_rfl) ?_ _
            go_wp2
            go_meet
            exact ⟨by simp, And.left (by assumption)⟩
        · have e5 : ¬ (0 : Int) < (j : Int) := by omega
          have hrr : r = false := by rw [hr, decide_eq_false hj0]; rfl
          subst hrr
          clear hr htr
          refine wp_region_held_drew (S := fun w' => Only [] W2 w' ∧ w'.cell? ⟨w.heap.size, 0, none⟩ = some (.int .i64 x.points) ∧ w'.cell? ⟨b, off + j, none⟩ = some (.slice ag goal.length cg)) (by kernel_rfl) (and_of (Only.refl [] W2).drew (fun h__ => ⟨h__.cell (by simp) x0, h__.cell (by simp) hcw⟩)) (fun hHeld => ?_)
          refine tkV (v := ?v78) 0 ?h78 ?r78; (case h78 => (intro w__ hSw; (try dsimp only at hSw); go_simp; try with_reducible rfl)); (try simp only [Act.put, aT, aZ, sB, sZ, sS])
          refine tkV (v := ?v79) 1 ?h79 ?r79; (case h79 => (intro w__ hSw; (try dsimp only at hSw); go_simp; try with_reducible rfl)); (try simp only [Act.put, aT, aZ, aS, sB, sZ, sS])
          refine tkV (v := ?v80) 2 ?h80 ?r80; (case h80 => (intro w__ hSw; (try dsimp only at hSw); go_simp; try with_reducible rfl)); (try simp only [Act.put, aT, aZ, aS, sB, sZ, sS])
          refine tkV (v := ?v81) 3 ?h81 ?r81; (case h81 => (intro w__ hSw; (try dsimp only at hSw); go_simp; try with_reducible rfl)); (try simp only [Act.put, aT, aZ, aS, sB, sZ, sS])
          refine tkV (v := ?v82) 4 ?h82 ?r82; (case h82 => (intro w__ hSw; (try dsimp only at hSw); go_simp; try with_reducible rfl)); (try simp only [Act.put, aT, aZ, aS, sB, sZ, sS])
          refine tkV (v := ?v83) 5 ?h83 ?r83; (case h83 => (intro w__ hSw; (try dsimp only at hSw); go_simp; try with_reducible rfl)); (try simp only [Act.put, aT, aZ, aS, sB, sZ, sS])
          refine wpAnyH_ready (rs := [6]) (by kernel_rfl) (by simp) ?_
          refine AllReadyH.cons rfl (fun K hK => ?_) AllReadyH.nil
          go_simp
          (go_at_call 107; (with_reducible refine (Hpt.out _ (And.left (by assumption))).mono ?_); rintro e w5 ⟨rfl, t5⟩)
          go_wp2_with fail
          refine hK.out _ _ ?hS84 (fun hHeld => ?rest84)
          case hS84 => ((refine and_of ?_ (fun h__ => ⟨h__.cell (by simp) x0, h__.cell (by simp) hcw⟩)); first | exact Only.trans (And.left (by assumption)) (by assumption) | exact And.left (by assumption) | assumption)
          clear hK K
          (try simp only [Act.put, aT, aZ, aS, sB, sZ, sS])
          refine tkV (v := ?v85) 7 ?h85 ?r85; (case h85 => (intro w__ hSw; (try dsimp only at hSw); go_simp; try with_reducible rfl)); (try simp only [Act.put, aT, aZ, aS, sB, sZ, sS])
          refine tkV (v := ?v86) 8 ?h86 ?r86; (case h86 => (intro w__ hSw; (try dsimp only at hSw); go_simp; try with_reducible rfl)); (try simp only [Act.put, aT, aZ, aS, sB, sZ, sS])
          refine tkV (v := ?v87) 9 ?h87 ?r87; (case h87 => (intro w__ hSw; (try dsimp only at hSw); go_simp; try with_reducible rfl)); (try simp only [Act.put, aT, aZ, aS, sB, sZ, sS])
          refine tkV (v := ?v88) 10 ?h88 ?r88; (case h88 => (intro w__ hSw; (try dsimp only at hSw); go_simp; try with_reducible rfl)); (try simp only [Act.put, aT, aZ, aS, sB, sZ, sS])
          refine tkV (v := ?v89) 11 ?h89 ?r89; (case h89 => (intro w__ hSw; (try dsimp only at hSw); go_simp; try with_reducible rfl)); (try simp only [Act.put, aT, aZ, aS, sB, sZ, sS])
          refine tkU 12 ?_; (try simp only [Act.put, aT, aZ, aS, sB, sZ, sS])
          refine tkU 13 ?_; (try simp only [Act.put, aT, aZ, aS, sB, sZ, sS])
          refine tkU 14 ?_; (try simp only [Act.put, aT, aZ, aS, sB, sZ, sS])
          refine tkU 15 ?_; (try simp only [Act.put, aT, aZ, aS, sB, sZ, sS])
          refine tkU 16 ?_; (try simp only [Act.put, aT, aZ, aS, sB, sZ, sS])
          refine tkU 17 ?_; (try simp only [Act.put, aT, aZ, aS, sB, sZ, sS])
          refine tkU 18 ?_; (try simp only [Act.put, aT, aZ, aS, sB, sZ, sS])
          refine tkU 19 ?_; (try simp only [Act.put, aT, aZ, aS, sB, sZ, sS])
          refine tkU 20 ?_; (try simp only [Act.put, aT, aZ, aS, sB, sZ, sS])
          refine tkU 21 ?_; (try simp only [Act.put, aT, aZ, aS, sB, sZ, sS])
          refine tkU 22 ?_; (try simp only [Act.put, aT, aZ, aS, sB, sZ, sS])
          refine tkU 23 ?_; (try simp only [Act.put, aT, aZ, aS, sB, sZ, sS])
          refine tkU 24 ?_; (try simp only [Act.put, aT, aZ, aS, sB, sZ, sS])
          refine tkU 25 ?_; (try simp only [Act.put, aT, aZ, aS, sB, sZ, sS])
          refine tkU 26 ?_; (try simp only [Act.put, aT, aZ, aS, sB, sZ, sS])
          refine tkU 27 ?_; (try simp only [Act.put, aT, aZ, aS, sB, sZ, sS])
          refine tkU 28 ?_; (try simp only [Act.put, aT, aZ, aS, sB, sZ, sS])
          refine tkU 29 ?_; (try simp only [Act.put, aT, aZ, aS, sB, sZ, sS])
          refine tkU 30 ?_; (try simp only [Act.put, aT, aZ, aS, sB, sZ, sS])
          refine tkU 31 ?_; (try simp only [Act.put, aT, aZ, aS, sB, sZ, sS])
          refine tkU 32 ?_; (try simp only [Act.put, aT, aZ, aS, sB, sZ, sS])
          refine tkU 33 ?_; (try simp only [Act.put, aT, aZ, aS, sB, sZ, sS])
          refine tkU 34 ?_; (try simp only [Act.put, aT, aZ, aS, sB, sZ, sS])
          refine tkU 35 ?_; (try simp only [Act.put, aT, aZ, aS, sB, sZ, sS])
          refine tkU 36 ?_; (try simp only [Act.put, aT, aZ, aS, sB, sZ, sS])
          refine tkV (v := ?v90) 37 ?h90 ?r90; (case h90 => (intro w__ hSw; (try dsimp only at hSw); go_simp; try with_reducible rfl)); (try simp only [Act.put, aT, aZ, aS, sB, sZ, sS])
          refine tkV (v := ?v91) 38 ?h91 ?r91; (case h91 => (intro w__ hSw; (try dsimp only at hSw); go_simp; try with_reducible rfl)); (try simp only [Act.put, aT, aZ, aS, sB, sZ, sS])
          refine wpAnyH_done (by kernel_rfl) ?_ _
          go_wp2
          go_meet
          exact ⟨rfl, And.left (by assumption)⟩
      case rest =>
        obtain ⟨W4, hnew⟩ : ∃ W, W = wc := ⟨_, rfl⟩
        subst hnew
        obtain ⟨rfl, k4⟩ := hcut
        cases r
        · have htr2 : tr = true := by cases tr with
            | false => simp at hr
            | true => rfl
          rw [htr2] at hr htr
          have Hn := Lib.hid (Hok.out.next (by rw [Hgd.out]; exact htr.symm) (fun h0 => by
            rw [decide_eq_true h0] at hr
            rw [Hgd.out]
            cases hp : pairB (goals.getD (j - 1) []) goal
            · rw [hp] at hr; cases hr
            · rfl))
          clear hr htr htr2
          go_wp2
          go_roundw
          case rel => exact ⟨j + 1, by omega, by go_num, Hn.out, hK.trans k4⟩
          case measure => simp [intOf]; omega
        · have Hf := Lib.hid (methB_no3 (x := x) hlt (fun hc => by
            rw [Hgd.out, ← htr] at hc
            rw [hc.1] at hr
            have h3 := hr.symm
            simp only [Bool.not_true, Bool.false_or, Bool.and_eq_true] at h3
            have h4 := hc.2 (of_decide_eq_true h3.1)
            rw [h4] at h3
            exact absurd h3.2 (by simp)))
          clear hr htr
          go_wp2
          go_ret
          exact ⟨ret_bool Hf.out.symm, kW.trans k4⟩
    · have hje : j = goals.length := by omega
      have hok := Hok.out
      rw [hje] at hok
      have Hf := Lib.hid (methB_end Hv.out Hr.out hok)
      have hlp : goals.length - 1 < goals.length := by omega
      obtain ⟨b, off, u, rfl, -, hc, hu⟩ := S.atRow (goals.length - 1) hlp
      have hgd : goals.getD (goals.length - 1) [] = goals[goals.length - 1] := getD_get hlp
      obtain ⟨al, cl, rfl, Il⟩ := hu.ints
      obtain ⟨last, hl⟩ : ∃ l, l = goals[goals.length - 1] := ⟨_, rfl⟩
      rw [← hl] at hgd Il hc
      rw [hgd] at Hf
      obtain ⟨jp, hjp⟩ : ∃ jp, jp = goals.length - 1 := ⟨_, rfl⟩
      rw [← hjp] at hc
      have e1 : IntKind.i64.wrap ((goals.length : Int) - 1) = (goals.length : Int) - 1 := by rw [IntKind.wrap_i64]; omega
      have e2 : ((goals.length : Int) - 1).toNat = jp := by omega
      have e3 : (0 : Int) ≤ (goals.length : Int) - 1 := by omega
      have e4 : (goals.length : Int) - 1 < (goals.length : Int) := by omega
      have hcw := kW.cell (by simp) hc
      have hlb := Il.bound
      have hjI : ¬ (j : Int) < (goals.length : Int) := by omega
      clear hl hgd hjp hc hu Hok hok hje
      go_wp2
      go_quiet (fail)
      go_wp2
      go_ret
      exact ⟨ret_bool Hf.out.symm, kW.drewN _⟩
end Go.Proofs.YtclhblofchfglaaGreat

namespace Go.Proofs.YtclhblofchfglaaGreat
open Go.RowKit
set_option maxRecDepth 10000

set_option maxHeartbeats 2000000 in
/-- a search that found all states -/
theorem isFound_any (cs : List Value) (x : Puzzle) (t : Table) (fp : List Nat) (B : Nat) (v : Value) (u : Value) (s : List Int) (fs : List Nat) (w : World) (h : Rp.rep w cs x fp) (hS : SrF B w x t v) (he : expl x = some t) (hu : Rd w u s fs) :
    Calls Tryz.prog 71 #[.agg cs.toArray, v, u] w fun e w' => e = .returned (.bool (reachB x s)) ∧ Only [] w w' := by
  have h0 := h
  obtain ⟨v2, rfl, p0, p1, h2⟩ := h
  clear p0 p1 h2
  obtain ⟨hb, -⟩ := expl_built he
  obtain ⟨A1, A2, A3, C1, C2, C3, so, ob, fps, fd, fz, rfl, hR, hSr, -⟩ := hS
  have hL := hb.ll
  have hnd : t.patterns.Nodup := hb.bi.nd
  have HS := Lib.hid hSr
  have Hnd := Lib.hid hnd
  have K0 : Only [] w ((w.alloc (.cells #[.int .i64 x.points, .string x.names, v2] 33)).alloc (.cells #[.slice A1 t.patterns.length C1, .slice A2 t.distances.length C2, .slice A3 so.length C3, .bool true] 85)) := ((Only.refl _ _).alloc _).alloc _
  have X0 : Blk ((w.alloc (.cells #[.int .i64 x.points, .string x.names, v2] 33)).alloc (.cells #[.slice A1 t.patterns.length C1, .slice A2 t.distances.length C2, .slice A3 so.length C3, .bool true] 85)) w.heap.size [.int .i64 x.points, .string x.names, v2] := (Blk.new w [.int .i64 x.points, .string x.names, v2] 33).keep ((Only.refl _ _).alloc _)
  have Y0 : Blk ((w.alloc (.cells #[.int .i64 x.points, .string x.names, v2] 33)).alloc (.cells #[.slice A1 t.patterns.length C1, .slice A2 t.distances.length C2, .slice A3 so.length C3, .bool true] 85)) (w.heap.size + 1) [.slice A1 t.patterns.length C1, .slice A2 t.distances.length C2, .slice A3 so.length C3, .bool true] := Blk.new_at (by simp)
  rcases hq : stateB x s
  · have Hf := Lib.hid (show reachB x s = false by unfold reachB; rw [hq]; rfl)
    have Hq := Lib.hid hq
    clear hq he hb hnd hSr
    go_enter Tryz.func71, Tryz.ntmps71
    go_wp2_with (first
      | (go_at_call 42; (with_reducible refine (specIsState_any [.int .i64 x.points, .string x.names, v2] x _ u s _ _ (Rp.keep h0 (by with_reducible repeat (first | exact Only.refl _ _ | assumption | refine Only.drewN ?_ _ | refine Only.drew ?_ | refine Only.alloc ?_ _ | refine Only.setCell ?_ (by intro hh; exfalso; simp at hh; try omega) _ | refine Only.trans ?_ (by assumption)))) (Rp.keep hu (by with_reducible repeat (first | exact Only.refl _ _ | assumption | refine Only.drewN ?_ _ | refine Only.drew ?_ | refine Only.alloc ?_ _ | refine Only.setCell ?_ (by intro hh; exfalso; simp at hh; try omega) _ | refine Only.trans ?_ (by assumption))))).mono ?_); rintro e w1 ⟨he, t1⟩; rw [Hq.out] at he; subst he)
      | fail "no arm")
    go_ret
    exact ⟨ret_bool Hf.out.symm, (by with_reducible repeat (first | exact Only.refl _ _ | assumption | refine Only.drewN ?_ _ | refine Only.drew ?_ | refine Only.alloc ?_ _ | refine Only.setCell ?_ (by intro hh; exfalso; simp at hh; try omega) _ | refine Only.trans ?_ (by assumption)))⟩
  · have hsl : s.length = x.points.toNat := (stateB_pn hq).2.2.2.1
    have Hsl := Lib.hid hsl
    have Hq := Lib.hid hq
    by_cases hm : s ∈ t.patterns
    · obtain ⟨i, hi, e⟩ := List.getElem_of_mem hm
      have Hg := Lib.hid (show t.patterns.getD i [] = s by rw [getD_get hi, e])
      have Hf := Lib.hid ((expl_reach he).1 hm)
      have hi0 : (0 : Int) ≤ (i : Int) := by omega
      clear hq he hb hnd hSr hsl hm e
      go_enter Tryz.func71, Tryz.ntmps71
      go_wp2_with (first
        | (go_at_call 42; (with_reducible refine (specIsState_any [.int .i64 x.points, .string x.names, v2] x _ u s _ _ (Rp.keep h0 (by with_reducible repeat (first | exact Only.refl _ _ | assumption | refine Only.drewN ?_ _ | refine Only.drew ?_ | refine Only.alloc ?_ _ | refine Only.setCell ?_ (by intro hh; exfalso; simp at hh; try omega) _ | refine Only.trans ?_ (by assumption)))) (Rp.keep hu (by with_reducible repeat (first | exact Only.refl _ _ | assumption | refine Only.drewN ?_ _ | refine Only.drew ?_ | refine Only.alloc ?_ _ | refine Only.setCell ?_ (by intro hh; exfalso; simp at hh; try omega) _ | refine Only.trans ?_ (by assumption))))).mono ?_); rintro e w1 ⟨he, t1⟩; rw [Hq.out] at he; subst he; have Y1 := Y0.keep t1; have y0 := Y1.cell 0 rfl; have y1 := Y1.cell 1 rfl; have y2 := Y1.cell 2 rfl; have y3 := Y1.cell 3 rfl)
        | (go_at_call 126; (with_reducible refine (searchIndex_yes A1 A2 A3 C1 C2 C3 true t.patterns t.distances so ob fps fd fz _ u s _ _ (hR.keep (by with_reducible repeat (first | exact Only.refl _ _ | assumption | refine Only.drewN ?_ _ | refine Only.drew ?_ | refine Only.alloc ?_ _ | refine Only.setCell ?_ (by intro hh; exfalso; simp at hh; try omega) _ | refine Only.trans ?_ (by assumption)))) HS.out (Rp.keep hu (by with_reducible repeat (first | exact Only.refl _ _ | assumption | refine Only.drewN ?_ _ | refine Only.drew ?_ | refine Only.alloc ?_ _ | refine Only.setCell ?_ (by intro hh; exfalso; simp at hh; try omega) _ | refine Only.trans ?_ (by assumption)))) Hsl.out hL i hi Hg.out Hnd.out).mono ?_); rintro e w2 ⟨rfl, t2⟩)
        | fail "no arm")
      go_ret
      exact ⟨ret_bool Hf.out.symm, (by with_reducible repeat (first | exact Only.refl _ _ | assumption | refine Only.drewN ?_ _ | refine Only.drew ?_ | refine Only.alloc ?_ _ | refine Only.setCell ?_ (by intro hh; exfalso; simp at hh; try omega) _ | refine Only.trans ?_ (by assumption)))⟩
    · have Hm := Lib.hid hm
      have Hf := Lib.hid (show reachB x s = false by
        cases hr : reachB x s with
        | false => rfl
        | true => exact absurd ((expl_reach he).2 hr) hm)
      clear hq he hb hnd hSr hsl hm
      go_enter Tryz.func71, Tryz.ntmps71
      go_wp2_with (first
        | (go_at_call 42; (with_reducible refine (specIsState_any [.int .i64 x.points, .string x.names, v2] x _ u s _ _ (Rp.keep h0 (by with_reducible repeat (first | exact Only.refl _ _ | assumption | refine Only.drewN ?_ _ | refine Only.drew ?_ | refine Only.alloc ?_ _ | refine Only.setCell ?_ (by intro hh; exfalso; simp at hh; try omega) _ | refine Only.trans ?_ (by assumption)))) (Rp.keep hu (by with_reducible repeat (first | exact Only.refl _ _ | assumption | refine Only.drewN ?_ _ | refine Only.drew ?_ | refine Only.alloc ?_ _ | refine Only.setCell ?_ (by intro hh; exfalso; simp at hh; try omega) _ | refine Only.trans ?_ (by assumption))))).mono ?_); rintro e w1 ⟨he, t1⟩; rw [Hq.out] at he; subst he; have Y1 := Y0.keep t1; have y0 := Y1.cell 0 rfl; have y1 := Y1.cell 1 rfl; have y2 := Y1.cell 2 rfl; have y3 := Y1.cell 3 rfl)
        | (go_at_call 126; (with_reducible refine (searchIndex_no A1 A2 A3 C1 C2 C3 true t.patterns t.distances so ob fps fd fz _ u s _ _ (hR.keep (by with_reducible repeat (first | exact Only.refl _ _ | assumption | refine Only.drewN ?_ _ | refine Only.drew ?_ | refine Only.alloc ?_ _ | refine Only.setCell ?_ (by intro hh; exfalso; simp at hh; try omega) _ | refine Only.trans ?_ (by assumption)))) HS.out (Rp.keep hu (by with_reducible repeat (first | exact Only.refl _ _ | assumption | refine Only.drewN ?_ _ | refine Only.drew ?_ | refine Only.alloc ?_ _ | refine Only.setCell ?_ (by intro hh; exfalso; simp at hh; try omega) _ | refine Only.trans ?_ (by assumption)))) Hsl.out hL Hm.out).mono ?_); rintro e w2 ⟨rfl, t2⟩)
        | fail "no arm")
      go_ret
      exact ⟨ret_bool Hf.out.symm, (by with_reducible repeat (first | exact Only.refl _ _ | assumption | refine Only.drewN ?_ _ | refine Only.drew ?_ | refine Only.alloc ?_ _ | refine Only.setCell ?_ (by intro hh; exfalso; simp at hh; try omega) _ | refine Only.trans ?_ (by assumption)))⟩
set_option maxHeartbeats 2000000 in
theorem isSearchable_any (cs : List Value) (x : Puzzle) (fp : List Nat) (u : Value) (s : List Int) (fs : List Nat) (w : World) (h : Rp.rep w cs x fp) (hu : Rd w u s fs) :
    Calls Tryz.prog 59 #[.agg cs.toArray, u] w fun e w' => e = .returned (.bool ((expl x).isSome && reachB x s)) ∧ Only [] w w' := by
  have h0 := h
  obtain ⟨v2, rfl, p0, p1, h2⟩ := h
  clear p0 p1 h2
  have X0 : Blk (w.alloc (.cells #[.int .i64 x.points, .string x.names, v2] 33)) w.heap.size [.int .i64 x.points, .string x.names, v2] := Blk.new w [.int .i64 x.points, .string x.names, v2] 33
  rcases he : expl x with _ | t
  · have He := Lib.hid he
    clear he
    go_enter Tryz.func59, Tryz.ntmps59
    go_wp2_with (first
      | (go_at_call 109; (with_reducible refine (searchStates_no [.int .i64 x.points, .string x.names, v2] x _ _ (Rp.keep h0 (by with_reducible repeat (first | exact Only.refl _ _ | assumption | refine Only.drewN ?_ _ | refine Only.drew ?_ | refine Only.alloc ?_ _ | refine Only.setCell ?_ (by intro hh; exfalso; simp at hh; try omega) _ | refine Only.trans ?_ (by assumption)))) He.out).mono ?_); rintro e w1 ⟨A1, n1, C1, A2, n2, C2, A3, n3, C3, wh, rfl, t1⟩)
      | fail "no arm")
    go_ret
    exact ⟨rfl, (by with_reducible repeat (first | exact Only.refl _ _ | assumption | refine Only.drewN ?_ _ | refine Only.drew ?_ | refine Only.alloc ?_ _ | refine Only.setCell ?_ (by intro hh; exfalso; simp at hh; try omega) _ | refine Only.trans ?_ (by assumption)))⟩
  · have He := Lib.hid he
    clear he
    obtain ⟨r, hr⟩ : ∃ r, r = reachB x s := ⟨_, rfl⟩
    have Hr := Lib.hid hr
    have e9 : ((some t).isSome && reachB x s) = r := by rw [hr]; rfl
    rw [e9]
    clear hr e9
    go_enter Tryz.func59, Tryz.ntmps59
    go_wp2_with (first
      | (go_at_call 109; (with_reducible refine (searchStates_yes [.int .i64 x.points, .string x.names, v2] x t _ _ (Rp.keep h0 (by with_reducible repeat (first | exact Only.refl _ _ | assumption | refine Only.drewN ?_ _ | refine Only.drew ?_ | refine Only.alloc ?_ _ | refine Only.setCell ?_ (by intro hh; exfalso; simp at hh; try omega) _ | refine Only.trans ?_ (by assumption)))) He.out).mono ?_); rintro e w1 ⟨A1, n1, C1, A2, n2, C2, A3, n3, C3, wh, rfl, hS, t1⟩; have kb := (Only.refl [] w1).alloc (.cells #[.slice A1 n1 C1, .slice A2 n2 C2, .slice A3 n3 C3, .bool wh] 85); have X1 := (X0.keep t1).keep kb; have x0 := X1.cell 0 rfl; have x1 := X1.cell 1 rfl; have x2 := X1.cell 2 rfl; have U1 := Blk.new w1 [.slice A1 n1 C1, .slice A2 n2 C2, .slice A3 n3 C3, .bool wh] 85; have a0 := U1.cell 0 rfl; have a1 := U1.cell 1 rfl; have a2 := U1.cell 2 rfl; have a3 := U1.cell 3 rfl)
      | (go_at_call 71; (with_reducible refine (isFound_any [.int .i64 x.points, .string x.names, v2] x t _ _ _ u s _ _ (Rp.keep h0 (by with_reducible repeat (first | exact Only.refl _ _ | assumption | refine Only.drewN ?_ _ | refine Only.drew ?_ | refine Only.alloc ?_ _ | refine Only.setCell ?_ (by intro hh; exfalso; simp at hh; try omega) _ | refine Only.trans ?_ (by assumption)))) (hS.keep kb) He.out (Rp.keep hu (by with_reducible repeat (first | exact Only.refl _ _ | assumption | refine Only.drewN ?_ _ | refine Only.drew ?_ | refine Only.alloc ?_ _ | refine Only.setCell ?_ (by intro hh; exfalso; simp at hh; try omega) _ | refine Only.trans ?_ (by assumption))))).mono ?_); rintro e w2 ⟨he, t2⟩; rw [← Hr.out] at he; subst he)
      | fail "no arm")
    go_ret
    exact ⟨rfl, (by with_reducible repeat (first | exact Only.refl _ _ | assumption | refine Only.drewN ?_ _ | refine Only.drew ?_ | refine Only.alloc ?_ _ | refine Only.setCell ?_ (by intro hh; exfalso; simp at hh; try omega) _ | refine Only.trans ?_ (by assumption)))⟩
end Go.Proofs.YtclhblofchfglaaGreat

namespace Go.Proofs.YtclhblofchfglaaGreat
open Go.RowKit
set_option maxRecDepth 10000

theorem map_one_flatten (l : List Int) : (l.map fun x => [Value.int .i64 x]).flatten = l.map (Value.int .i64) := by
  induction l with
  | nil => rfl
  | cons x l ih => simp only [List.map_cons, List.flatten_cons, ih, List.cons_append, List.nil_append]
theorem AccI.row {B : Nat} {e : TypeId} {w : World} {v : Value} {l : List Int} (h : AccI B e w v l) : w.ownsRow B e 1 v l.length (l.map (Value.int .i64)) ∧ ∀ x ∈ l, I64 x := by
  obtain ⟨fs, h⟩ := h
  obtain ⟨css, ho, hcl, hr⟩ := h.own
  have hfl := h.fl
  have hc : css = l.map fun x => [Value.int .i64 x] := by
    apply List.ext_getElem (by simp [hcl])
    intro k h1 h2
    have hk : k < l.length := by omega
    have := (hr k h1 hk (by omega)).1
    rw [this]; simp
  refine ⟨?_, fun x hx => ?_⟩
  · rw [hc, map_one_flatten] at ho; exact ho
  · obtain ⟨k, hk, rfl⟩ := List.getElem_of_mem hx
    exact (hr k (by omega) hk (by omega)).2.1
theorem AccI.ofRow {B : Nat} {e : TypeId} {w : World} {v : Value} {l : List Int} (h : w.ownsRow B e 1 v l.length (l.map (Value.int .i64))) (hI : ∀ x ∈ l, I64 x) : AccI B e w v l := by
  have hf : ∀ n : Nat, (List.replicate n ([] : List Nat)).flatten = [] := fun n => by induction n with | zero => rfl | succ n ih => simp [List.replicate_succ, ih]
  refine ⟨List.replicate l.length [], ⟨l.map fun x => [Value.int .i64 x], ?_, by simp, fun k h1 h2 h3 => ?_⟩, by simp, fun g _ => by rw [hf]; simp⟩
  · rw [map_one_flatten]; exact h
  · exact ⟨by simp, hI _ (List.getElem_mem h2), by simp⟩
/-- an entry is written over -/
theorem AccI.put {B : Nat} {e : TypeId} {w : World} {v : Value} {l : List Int} (h : AccI B e w v l) {i : Nat} (hi : i < l.length) {x : Int} (hx : I64 x) :
    ∃ g c, v = .slice (some ⟨g, 0, none⟩) l.length c ∧ w.cell? ⟨g, i, none⟩ = some (.int .i64 l[i]) ∧ w.frozen? ⟨g, i, none⟩ = false ∧ B ≤ g ∧ AccI B e (w.setCell ⟨g, i, none⟩ (.int .i64 x)) v (l.set i x) := by
  obtain ⟨hO, hw⟩ := h.row
  obtain ⟨g, cap, rfl, hb, hlt⟩ := hO.form (by omega)
  obtain ⟨hO2, -⟩ := hO.stored i (.int .i64 x)
  refine ⟨g, cap, rfl, ?_, hO.frozenAt i, hb, AccI.ofRow ?_ ?_⟩
  · rw [hO.cellAt i (by omega)]; simp [hi]
  · rw [List.length_set, List.map_set]; exact hO2
  · intro y hy
    rcases List.mem_or_eq_of_mem_set hy with h1 | rfl
    · exact hw y h1
    · exact hx
end Go.Proofs.YtclhblofchfglaaGreat
