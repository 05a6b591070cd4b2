/- Equality of plain data: the reference's and the program's. -/
import Derived.Test.YtolapilacmgliaaLawCertificate
import Derived.Test.YtolapilacmgliaaLawTableS
import Derived.Test.YtolapilacmgliaaWord
namespace Go.Proofs.Ytolapilacmgliaa
open Go.RowKit

set_option maxHeartbeats 400000 in
theorem equalInts_any (a a' : Option Addr) (cap cap' : Nat) (l l' : List Int) (fp fp' : List Nat) (w : World) (h : IntsA w a cap l fp) (h' : IntsA w a' cap' l' fp') :
    Calls Try.prog 38 #[.slice a l.length cap, .slice a' l'.length cap'] w fun e w' => e = .returned (.bool (eqV l l')) ∧ Drew w w' := by
  have hb := h.bound
  have hb' := h'.bound
  by_cases hl : l.length = l'.length
  · have hne : ((l.length : Int) != (l'.length : Int)) = false := by simp [hl]
    have Hl := Lib.hid hl; clear hl
    go_enter Try.func38, Try.ntmps38
    go_wp2
    go_loopw [5] (fun i wr => ∃ j : Nat, j ≤ l.length ∧ i = .int .i64 j ∧ l.take j = l'.take j ∧ Drew w wr)
      (fun i _ => l.length - (intOf i).toNat)
    case atStart => exact ⟨0, Nat.zero_le _, rfl, rfl, Drew.refl _⟩
    case round =>
      obtain ⟨j, hj, rfl, hr, n, rfl⟩ := hrel
      have Hr := Lib.hid hr; clear hr
      by_cases hlt : j < l.length
      · have hlt' : j < l'.length := by have := Hl.out; omega
        obtain ⟨b, off, ha, -, hc⟩ := h.at_ j hlt
        obtain ⟨b', off', ha', -, hc'⟩ := h'.at_ j hlt'
        go_wp2
        go_quiet (fail)
        go_wp2
        · have hne : (l[j] != l'[j]) = true := by assumption
          go_ret
          exact ⟨ret_bool (eqInts_no hlt hlt' hne).symm, ((Drew.refl _).drewN _).drewN _⟩
        · have heq : (l[j] != l'[j]) = false := by assumption
          go_roundw
          case rel => exact ⟨j + 1, by omega, by go_num, eqInts_step hlt hlt' heq Hr.out, ⟨_, rfl⟩⟩
          case measure => simp [intOf]; omega
      · go_wp2
        go_ret
        exact ⟨ret_bool (eqL_yes Hl.out hlt Hr.out).symm, (Drew.refl _).drewN n⟩
  · have hne : ((l.length : Int) != (l'.length : Int)) = true := by simp; omega
    go_enter Try.func38, Try.ntmps38
    go_wp2
    go_ret
    exact ⟨ret_bool (eqL_len hne).symm, Drew.refl _⟩

theorem equalInts_rd (v v' : Value) (l l' : List Int) (fp fp' : List Nat) (w : World) (h : Rd w v l fp) (h' : Rd w v' l' fp') :
    Calls Try.prog 38 #[v, v'] w fun e w' => e = .returned (.bool (eqV l l')) ∧ Drew w w' := by
  obtain ⟨a, cap, rfl, hI⟩ := h.ints
  obtain ⟨a', cap', rfl, hI'⟩ := h'.ints
  exact equalInts_any a a' cap cap' l l' fp fp' w hI hI'
set_option maxHeartbeats 400000 in
theorem equalPartitions_any (a a' : Option Addr) (cap cap' : Nat) (l l' : List (List Int)) (ob ob' : List Nat) (fps fps' : List (List Nat)) (w : World) (h : SeqA w a cap l ob fps) (h' : SeqA w a' cap' l' ob' fps') :
    Calls Try.prog 39 #[.slice a l.length cap, .slice a' l'.length cap'] w fun e w' => e = .returned (.bool (eqV l l')) ∧ Drew w w' := by
  have hb := h.bound
  have hb' := h'.bound
  by_cases hl : l.length = l'.length
  · have hne : ((l.length : Int) != (l'.length : Int)) = false := by simp [hl]
    have Hl := Lib.hid hl; clear hl
    go_enter Try.func39, Try.ntmps39
    go_wp2
    go_loopw [5] (fun i wr => ∃ j : Nat, j ≤ l.length ∧ i = .int .i64 j ∧ l.take j = l'.take j ∧ Drew w wr)
      (fun i _ => l.length - (intOf i).toNat)
    case atStart => exact ⟨0, Nat.zero_le _, rfl, rfl, Drew.refl _⟩
    case round =>
      obtain ⟨j, hj, rfl, hr, n, rfl⟩ := hrel
      have Hr := Lib.hid hr; clear hr
      by_cases hlt : j < l.length
      · have hlt' : j < l'.length := by have := Hl.out; omega
        obtain ⟨b, off, v, rfl, -, hc, hv⟩ := h.atRow j hlt
        obtain ⟨b', off', v', rfl, -, hc', hv'⟩ := h'.atRow j hlt'
        rcases hq : eqV l[j] l'[j]
        all_goals go_wp2
        all_goals go_quiet ((go_at_call 38; exact quiet_drewN (equalInts_rd v v' l[j] l'[j] _ _ _ (Rp.keep hv (Only.ofDrewN _ _ _)) (Rp.keep hv' (Only.ofDrewN _ _ _)))))
        all_goals go_wp2
        · go_ret
          exact ⟨ret_bool (eqL_no hlt hlt' hq).symm, ((Drew.refl _).drewN _).drewN _⟩
        · go_roundw
          case rel => exact ⟨j + 1, by omega, by go_num, eqL_step hlt hlt' hq Hr.out, ⟨_, rfl⟩⟩
          case measure => simp [intOf]; omega
      · go_wp2
        go_ret
        exact ⟨ret_bool (eqL_yes Hl.out hlt Hr.out).symm, (Drew.refl _).drewN n⟩
  · have hne : ((l.length : Int) != (l'.length : Int)) = true := by simp; omega
    go_enter Try.func39, Try.ntmps39
    go_wp2
    go_ret
    exact ⟨ret_bool (eqL_len hne).symm, Drew.refl _⟩
theorem equalPartitions_rd (v v' : Value) (l l' : List (List Int)) (fp fp' : List Nat) (w : World) (h : Rd w v l fp) (h' : Rd w v' l' fp') :
    Calls Try.prog 39 #[v, v'] w fun e w' => e = .returned (.bool (eqV l l')) ∧ Drew w w' := by
  obtain ⟨a, cap, ob, fps, rfl, -, hs⟩ := h.open_
  obtain ⟨a', cap', ob', fps', rfl, -, hs'⟩ := h'.open_
  exact equalPartitions_any a a' cap cap' l l' ob ob' fps fps' w hs hs'

set_option maxHeartbeats 400000 in
theorem Equal_any (a a' : Option Addr) (cap cap' : Nat) (l l' : List Int) (fp fp' : List Nat) (w : World) (h : IntsA w a cap l fp) (h' : IntsA w a' cap' l' fp') :
    Calls Try.prog 42 #[.slice a l.length cap, .slice a' l'.length cap'] w fun e w' => e = .returned (.bool (eqV l l')) ∧ Drew w w' := by
  have hb := h.bound
  have hb' := h'.bound
  by_cases hl : l.length = l'.length
  · have hne : ((l.length : Int) != (l'.length : Int)) = false := by simp [hl]
    have Hl := Lib.hid hl; clear hl
    go_enter Try.func42, Try.ntmps42
    go_wp2
    go_loopw [5, 13] (fun _ i wr => ∃ j : Nat, j ≤ l.length ∧ i = .int .i64 j ∧ l.take j = l'.take j ∧ Drew w wr)
      (fun _ i _ => l.length - (intOf i).toNat)
    case atStart => exact ⟨0, Nat.zero_le _, rfl, rfl, Drew.refl _⟩
    case round =>
      obtain ⟨j, hj, rfl, hr, n, rfl⟩ := hrel
      have Hr := Lib.hid hr; clear hr
      by_cases hlt : j < l.length
      · have hlt' : j < l'.length := by have := Hl.out; omega
        obtain ⟨b, off, ha, -, hc⟩ := h.at_ j hlt
        obtain ⟨b', off', ha', -, hc'⟩ := h'.at_ j hlt'
        go_wp2
        go_quiet (fail)
        go_wp2
        · have hne : (l[j] != l'[j]) = true := by assumption
          go_ret
          exact ⟨ret_bool (eqInts_no hlt hlt' hne).symm, ((Drew.refl _).drewN _).drewN _⟩
        · have heq : (l[j] != l'[j]) = false := by assumption
          go_roundw
          case rel => exact ⟨j + 1, by omega, by go_num, eqInts_step hlt hlt' heq Hr.out, ⟨_, rfl⟩⟩
          case measure => simp [intOf]; omega
      · go_wp2
        go_ret
        exact ⟨ret_bool (eqL_yes Hl.out hlt Hr.out).symm, (Drew.refl _).drewN n⟩
  · have hne : ((l.length : Int) != (l'.length : Int)) = true := by simp; omega
    go_enter Try.func42, Try.ntmps42
    go_wp2
    go_ret
    exact ⟨ret_bool (eqL_len hne).symm, Drew.refl _⟩

theorem Equal_rd (v v' : Value) (l l' : List Int) (fp fp' : List Nat) (w : World) (h : Rd w v l fp) (h' : Rd w v' l' fp') :
    Calls Try.prog 42 #[v, v'] w fun e w' => e = .returned (.bool (eqV l l')) ∧ Drew w w' := by
  obtain ⟨a, cap, rfl, hI⟩ := h.ints
  obtain ⟨a', cap', rfl, hI'⟩ := h'.ints
  exact Equal_any a a' cap cap' l l' fp fp' w hI hI'
set_option maxHeartbeats 1000000 in
/-- slices.EqualFunc over slices of slices: the function says whether two elements are equal -/
theorem EqualFunc_rows (f : FuncId) (caps : Array Value) (hcf : ∀ args w, (callFunc f args).run Try.prog w = .ok (.enter f args) w)
    (v v' : Value) (l l' : List (List Int)) (fp fp' : List Nat) (w : World) (h : Rd w v l fp) (h' : Rd w v' l' fp')
    (hc : ∀ (u u' : Value) (x x' : List Int) (f1 f1' : List Nat) (w' : World), Rd w' u x f1 → Rd w' u' x' f1' → Calls Try.prog f (#[u, u'] ++ caps) w' fun e w'' => e = .returned (.bool (eqV x x')) ∧ Only [] w' w'') :
    Calls Try.prog 56 #[v, v', .func (.func f) #[] caps] w fun e w' => e = .returned (.bool (eqV l l')) ∧ Only [] w w' := by
  obtain ⟨a, cap, ob, fps, rfl, -, hs⟩ := h.open_
  obtain ⟨a', cap', ob', fps', rfl, -, hs'⟩ := h'.open_
  have hb := hs.bound
  have hb' := hs'.bound
  have HC := Lib.hid hc
  clear hc
  by_cases hl : l.length = l'.length
  · have hne : ((l.length : Int) != (l'.length : Int)) = false := by simp [hl]
    have Hl := Lib.hid hl; clear hl
    go_enter Try.func56, Try.ntmps56
    go_wp2
    go_loopw [7, 8, 9, 17] (fun _ _ _ i wr => ∃ j : Nat, j ≤ l.length ∧ i = .int .i64 j ∧ l.take j = l'.take j ∧ Only [] w wr)
      (fun _ _ _ i _ => l.length - (intOf i).toNat)
    case atStart => exact ⟨0, Nat.zero_le _, rfl, rfl, Only.refl _ _⟩
    case round =>
      obtain ⟨j, hj, rfl, hr, hK⟩ := hrel
      have Hr := Lib.hid hr; clear hr
      by_cases hlt : j < l.length
      · have hlt' : j < l'.length := by have := Hl.out; omega
        obtain ⟨b, off, u, rfl, -, c0, hv⟩ := hs.atRow j hlt
        obtain ⟨b', off', u', rfl, -, c0', hv'⟩ := hs'.atRow j hlt'
        have c := hK.cell (by simp) c0
        have c' := hK.cell (by simp) c0'
        clear c0 c0'
        rcases hq : eqV l[j] l'[j]
        all_goals go_wp2_with (with_reducible refine (HC.out u u' l[j] l'[j] _ _ wr (Rp.keep hv hK) (Rp.keep hv' hK)).mono ?_; rintro e w1 ⟨rfl, hk1⟩)
        · go_ret
          exact ⟨ret_bool (eqL_no hlt hlt' hq).symm, hK.trans hk1⟩
        · go_roundw
          case rel => exact ⟨j + 1, by omega, by go_num, eqL_step hlt hlt' hq Hr.out, hK.trans hk1⟩
          case measure => simp [intOf]; omega
      · go_wp2
        go_ret
        exact ⟨ret_bool (eqL_yes Hl.out hlt Hr.out).symm, hK⟩
  · have hne : ((l.length : Int) != (l'.length : Int)) = true := by simp; omega
    go_enter Try.func56, Try.ntmps56
    go_wp2
    go_ret
    exact ⟨ret_bool (eqL_len hne).symm, Only.refl _ _⟩

theorem samePartition_closure (u u' : Value) (x x' : List Int) (f1 f1' : List Nat) (w : World) (h : Rd w u x f1) (h' : Rd w u' x' f1') :
    Calls Try.prog 57 #[u, u'] w fun e w' => e = .returned (.bool (eqV x x')) ∧ Only [] w w' := by
  go_enter Try.func57, Try.ntmps57
  go_wp2_with ((go_at_call 42; (with_reducible refine (Equal_rd u u' x x' _ _ _ h h').mono ?_); rintro e w1 ⟨rfl, d1⟩))
  go_ret
  exact ⟨rfl, d1.only _⟩
theorem samePartition_rd (v v' : Value) (l l' : List (List Int)) (fp fp' : List Nat) (w : World) (h : Rd w v l fp) (h' : Rd w v' l' fp') :
    Calls Try.prog 43 #[v, v'] w fun e w' => e = .returned (.bool (eqV l l')) ∧ Only [] w w' := by
  have Hc := Lib.hid (EqualFunc_rows 57 #[] Try.call57 v v' l l' fp fp' w h h' (fun u u' x x' f1 f1' w' r r' => samePartition_closure u u' x x' f1 f1' w' r r'))
  go_enter Try.func43, Try.ntmps43
  go_wp2_with ((go_at_call 56; (with_reducible refine (Hc.out).mono ?_); rintro e w1 ⟨rfl, t1⟩))
  go_ret
  exact ⟨rfl, t1⟩

theorem Table.ne1 {t t' : Table} (h : eqV t.tracked t'.tracked = false) : eqV t t' = false := eqV_no fun he => (eqV_iff'.1 h) (by rw [he])
theorem Table.ne2 {t t' : Table} (h : eqV t.patterns t'.patterns = false) : eqV t t' = false := eqV_no fun he => (eqV_iff'.1 h) (by rw [he])
theorem Table.ne3 {t t' : Table} (h : eqV t.distances t'.distances = false) : eqV t t' = false := eqV_no fun he => (eqV_iff'.1 h) (by rw [he])
theorem Table.eq3 {t t' : Table} (h1 : eqV t.tracked t'.tracked = true) (h2 : eqV t.patterns t'.patterns = true) (h3 : eqV t.distances t'.distances = true) : eqV t t' = true :=
  eqV_yes (Table.eq_iff.2 ⟨eqV_iff.1 h1, eqV_iff.1 h2, eqV_iff.1 h3⟩)

set_option maxHeartbeats 1000000 in
theorem implSameTable_any (cs cs' : List Value) (t t' : Table) (fp fp' : List Nat) (w : World) (h : Rp.rep w cs t fp) (h' : Rp.rep w cs' t' fp') :
    Calls Try.prog 45 #[.agg cs.toArray, .agg cs'.toArray] w fun e w' => e = .returned (.bool (eqV t t')) ∧ Only [] w w' := by
  obtain ⟨v0, v1, v2, f0, f1, f2, rfl, rfl, h0, h1, h2⟩ := h
  obtain ⟨v0', v1', v2', f0', f1', f2', rfl, rfl, h0', h1', h2'⟩ := h'
  rcases q0 : eqV t.tracked t'.tracked
  · go_enter Try.func45, Try.ntmps45
    go_wp2_with ((go_at_call 42; (with_reducible refine (Equal_rd v0 v0' t.tracked t'.tracked _ _ _ (Rp.keep h0 (by with_reducible repeat (first | exact Only.refl _ _ | assumption | refine Only.drewN ?_ _ | refine Only.drew ?_ | refine Only.alloc ?_ _ | refine Only.setCell ?_ (by intro hh; exfalso; simp at hh; try omega) _ | refine Only.trans ?_ (by assumption)))) (Rp.keep h0' (by with_reducible repeat (first | exact Only.refl _ _ | assumption | refine Only.drewN ?_ _ | refine Only.drew ?_ | refine Only.alloc ?_ _ | refine Only.setCell ?_ (by intro hh; exfalso; simp at hh; try omega) _ | refine Only.trans ?_ (by assumption))))).mono ?_); rintro e w1 ⟨rfl, n1, rfl⟩))
    go_ret
    exact ⟨ret_bool (Table.ne1 q0).symm, (by with_reducible repeat (first | exact Only.refl _ _ | assumption | refine Only.drewN ?_ _ | refine Only.drew ?_ | refine Only.alloc ?_ _ | refine Only.setCell ?_ (by intro hh; exfalso; simp at hh; try omega) _ | refine Only.trans ?_ (by assumption)))⟩
  rcases q1 : eqV t.patterns t'.patterns
  · go_enter Try.func45, Try.ntmps45
    go_wp2_with (first
      | (go_at_call 42; (with_reducible refine (Equal_rd v0 v0' t.tracked t'.tracked _ _ _ (Rp.keep h0 (by with_reducible repeat (first | exact Only.refl _ _ | assumption | refine Only.drewN ?_ _ | refine Only.drew ?_ | refine Only.alloc ?_ _ | refine Only.setCell ?_ (by intro hh; exfalso; simp at hh; try omega) _ | refine Only.trans ?_ (by assumption)))) (Rp.keep h0' (by with_reducible repeat (first | exact Only.refl _ _ | assumption | refine Only.drewN ?_ _ | refine Only.drew ?_ | refine Only.alloc ?_ _ | refine Only.setCell ?_ (by intro hh; exfalso; simp at hh; try omega) _ | refine Only.trans ?_ (by assumption))))).mono ?_); rintro e w1 ⟨rfl, n1, rfl⟩)
      | (go_at_call 43; (with_reducible refine (samePartition_rd v1 v1' t.patterns t'.patterns _ _ _ (Rp.keep h1 (by with_reducible repeat (first | exact Only.refl _ _ | assumption | refine Only.drewN ?_ _ | refine Only.drew ?_ | refine Only.alloc ?_ _ | refine Only.setCell ?_ (by intro hh; exfalso; simp at hh; try omega) _ | refine Only.trans ?_ (by assumption)))) (Rp.keep h1' (by with_reducible repeat (first | exact Only.refl _ _ | assumption | refine Only.drewN ?_ _ | refine Only.drew ?_ | refine Only.alloc ?_ _ | refine Only.setCell ?_ (by intro hh; exfalso; simp at hh; try omega) _ | refine Only.trans ?_ (by assumption))))).mono ?_); rintro e w2 ⟨rfl, t2⟩))
    go_ret
    exact ⟨ret_bool (Table.ne2 q1).symm, (by with_reducible repeat (first | exact Only.refl _ _ | assumption | refine Only.drewN ?_ _ | refine Only.drew ?_ | refine Only.alloc ?_ _ | refine Only.setCell ?_ (by intro hh; exfalso; simp at hh; try omega) _ | refine Only.trans ?_ (by assumption)))⟩
  rcases q2 : eqV t.distances t'.distances
  all_goals go_enter Try.func45, Try.ntmps45
  all_goals go_wp2_with (first
      | (go_at_call 42; (with_reducible refine (Equal_rd v0 v0' t.tracked t'.tracked _ _ _ (Rp.keep h0 (by with_reducible repeat (first | exact Only.refl _ _ | assumption | refine Only.drewN ?_ _ | refine Only.drew ?_ | refine Only.alloc ?_ _ | refine Only.setCell ?_ (by intro hh; exfalso; simp at hh; try omega) _ | refine Only.trans ?_ (by assumption)))) (Rp.keep h0' (by with_reducible repeat (first | exact Only.refl _ _ | assumption | refine Only.drewN ?_ _ | refine Only.drew ?_ | refine Only.alloc ?_ _ | refine Only.setCell ?_ (by intro hh; exfalso; simp at hh; try omega) _ | refine Only.trans ?_ (by assumption))))).mono ?_); rintro e w1 ⟨rfl, n1, rfl⟩)
      | (go_at_call 43; (with_reducible refine (samePartition_rd v1 v1' t.patterns t'.patterns _ _ _ (Rp.keep h1 (by with_reducible repeat (first | exact Only.refl _ _ | assumption | refine Only.drewN ?_ _ | refine Only.drew ?_ | refine Only.alloc ?_ _ | refine Only.setCell ?_ (by intro hh; exfalso; simp at hh; try omega) _ | refine Only.trans ?_ (by assumption)))) (Rp.keep h1' (by with_reducible repeat (first | exact Only.refl _ _ | assumption | refine Only.drewN ?_ _ | refine Only.drew ?_ | refine Only.alloc ?_ _ | refine Only.setCell ?_ (by intro hh; exfalso; simp at hh; try omega) _ | refine Only.trans ?_ (by assumption))))).mono ?_); rintro e w2 ⟨rfl, t2⟩; have y0 := t2.cells_eq w.heap.size (by simp; try omega) (by simp); have y1 := t2.cells_eq (w.heap.size + 1) (by simp) (by simp))
      | (go_at_call 42; (with_reducible refine (Equal_rd v2 v2' t.distances t'.distances _ _ _ (Rp.keep h2 (by with_reducible repeat (first | exact Only.refl _ _ | assumption | refine Only.drewN ?_ _ | refine Only.drew ?_ | refine Only.alloc ?_ _ | refine Only.setCell ?_ (by intro hh; exfalso; simp at hh; try omega) _ | refine Only.trans ?_ (by assumption)))) (Rp.keep h2' (by with_reducible repeat (first | exact Only.refl _ _ | assumption | refine Only.drewN ?_ _ | refine Only.drew ?_ | refine Only.alloc ?_ _ | refine Only.setCell ?_ (by intro hh; exfalso; simp at hh; try omega) _ | refine Only.trans ?_ (by assumption))))).mono ?_); rintro e w3 ⟨rfl, n3, rfl⟩))
  · go_ret
    exact ⟨ret_bool (Table.ne3 q2).symm, (by with_reducible repeat (first | exact Only.refl _ _ | assumption | refine Only.drewN ?_ _ | refine Only.drew ?_ | refine Only.alloc ?_ _ | refine Only.setCell ?_ (by intro hh; exfalso; simp at hh; try omega) _ | refine Only.trans ?_ (by assumption)))⟩
  · go_ret
    exact ⟨ret_bool (Table.eq3 q0 q1 q2).symm, (by with_reducible repeat (first | exact Only.refl _ _ | assumption | refine Only.drewN ?_ _ | refine Only.drew ?_ | refine Only.alloc ?_ _ | refine Only.setCell ?_ (by intro hh; exfalso; simp at hh; try omega) _ | refine Only.trans ?_ (by assumption)))⟩

set_option maxHeartbeats 1000000 in
theorem specSameTable_any (cs cs' : List Value) (t t' : Table) (fp fp' : List Nat) (w : World) (h : Rp.rep w cs t fp) (h' : Rp.rep w cs' t' fp') :
    Calls Try.prog 40 #[.agg cs.toArray, .agg cs'.toArray] w fun e w' => e = .returned (.bool (eqV t t')) ∧ Only [] w w' := by
  obtain ⟨v0, v1, v2, f0, f1, f2, rfl, rfl, h0, h1, h2⟩ := h
  obtain ⟨v0', v1', v2', f0', f1', f2', rfl, rfl, h0', h1', h2'⟩ := h'
  rcases q0 : eqV t.tracked t'.tracked
  · go_enter Try.func40, Try.ntmps40
    go_wp2_with ((go_at_call 38; (with_reducible refine (equalInts_rd v0 v0' t.tracked t'.tracked _ _ _ (Rp.keep h0 (by with_reducible repeat (first | exact Only.refl _ _ | assumption | refine Only.drewN ?_ _ | refine Only.drew ?_ | refine Only.alloc ?_ _ | refine Only.setCell ?_ (by intro hh; exfalso; simp at hh; try omega) _ | refine Only.trans ?_ (by assumption)))) (Rp.keep h0' (by with_reducible repeat (first | exact Only.refl _ _ | assumption | refine Only.drewN ?_ _ | refine Only.drew ?_ | refine Only.alloc ?_ _ | refine Only.setCell ?_ (by intro hh; exfalso; simp at hh; try omega) _ | refine Only.trans ?_ (by assumption))))).mono ?_); rintro e w1 ⟨rfl, n1, rfl⟩))
    go_ret
    exact ⟨ret_bool (Table.ne1 q0).symm, (by with_reducible repeat (first | exact Only.refl _ _ | assumption | refine Only.drewN ?_ _ | refine Only.drew ?_ | refine Only.alloc ?_ _ | refine Only.setCell ?_ (by intro hh; exfalso; simp at hh; try omega) _ | refine Only.trans ?_ (by assumption)))⟩
  rcases q2 : eqV t.distances t'.distances
  · go_enter Try.func40, Try.ntmps40
    go_wp2_with (first
      | (go_at_call 38; (with_reducible refine (equalInts_rd v0 v0' t.tracked t'.tracked _ _ _ (Rp.keep h0 (by with_reducible repeat (first | exact Only.refl _ _ | assumption | refine Only.drewN ?_ _ | refine Only.drew ?_ | refine Only.alloc ?_ _ | refine Only.setCell ?_ (by intro hh; exfalso; simp at hh; try omega) _ | refine Only.trans ?_ (by assumption)))) (Rp.keep h0' (by with_reducible repeat (first | exact Only.refl _ _ | assumption | refine Only.drewN ?_ _ | refine Only.drew ?_ | refine Only.alloc ?_ _ | refine Only.setCell ?_ (by intro hh; exfalso; simp at hh; try omega) _ | refine Only.trans ?_ (by assumption))))).mono ?_); rintro e w1 ⟨rfl, n1, rfl⟩)
      | (go_at_call 38; (with_reducible refine (equalInts_rd v2 v2' t.distances t'.distances _ _ _ (Rp.keep h2 (by with_reducible repeat (first | exact Only.refl _ _ | assumption | refine Only.drewN ?_ _ | refine Only.drew ?_ | refine Only.alloc ?_ _ | refine Only.setCell ?_ (by intro hh; exfalso; simp at hh; try omega) _ | refine Only.trans ?_ (by assumption)))) (Rp.keep h2' (by with_reducible repeat (first | exact Only.refl _ _ | assumption | refine Only.drewN ?_ _ | refine Only.drew ?_ | refine Only.alloc ?_ _ | refine Only.setCell ?_ (by intro hh; exfalso; simp at hh; try omega) _ | refine Only.trans ?_ (by assumption))))).mono ?_); rintro e w3 ⟨rfl, n3, rfl⟩))
    go_ret
    exact ⟨ret_bool (Table.ne3 q2).symm, (by with_reducible repeat (first | exact Only.refl _ _ | assumption | refine Only.drewN ?_ _ | refine Only.drew ?_ | refine Only.alloc ?_ _ | refine Only.setCell ?_ (by intro hh; exfalso; simp at hh; try omega) _ | refine Only.trans ?_ (by assumption)))⟩
  generalize hl : t.patterns = l at *
  generalize hl' : t'.patterns = l' at *
  have L1 := Lib.hid hl
  have L2 := Lib.hid hl'
  clear hl hl'
  obtain ⟨a, cap, ob, fps, rfl, rfl, hs⟩ := h1.open_
  obtain ⟨a', cap', ob', fps', rfl, rfl, hs'⟩ := h1'.open_
  have hb := hs.bound
  have hb' := hs'.bound
  by_cases hlen : l.length ≠ l'.length
  · have hne : ((l.length : Int) != (l'.length : Int)) = true := by simp; omega
    go_enter Try.func40, Try.ntmps40
    go_wp2_with (first
      | (go_at_call 38; (with_reducible refine (equalInts_rd v0 v0' t.tracked t'.tracked _ _ _ (Rp.keep h0 (by with_reducible repeat (first | exact Only.refl _ _ | assumption | refine Only.drewN ?_ _ | refine Only.drew ?_ | refine Only.alloc ?_ _ | refine Only.setCell ?_ (by intro hh; exfalso; simp at hh; try omega) _ | refine Only.trans ?_ (by assumption)))) (Rp.keep h0' (by with_reducible repeat (first | exact Only.refl _ _ | assumption | refine Only.drewN ?_ _ | refine Only.drew ?_ | refine Only.alloc ?_ _ | refine Only.setCell ?_ (by intro hh; exfalso; simp at hh; try omega) _ | refine Only.trans ?_ (by assumption))))).mono ?_); rintro e w1 ⟨rfl, n1, rfl⟩)
      | (go_at_call 38; (with_reducible refine (equalInts_rd v2 v2' t.distances t'.distances _ _ _ (Rp.keep h2 (by with_reducible repeat (first | exact Only.refl _ _ | assumption | refine Only.drewN ?_ _ | refine Only.drew ?_ | refine Only.alloc ?_ _ | refine Only.setCell ?_ (by intro hh; exfalso; simp at hh; try omega) _ | refine Only.trans ?_ (by assumption)))) (Rp.keep h2' (by with_reducible repeat (first | exact Only.refl _ _ | assumption | refine Only.drewN ?_ _ | refine Only.drew ?_ | refine Only.alloc ?_ _ | refine Only.setCell ?_ (by intro hh; exfalso; simp at hh; try omega) _ | refine Only.trans ?_ (by assumption))))).mono ?_); rintro e w3 ⟨rfl, n3, rfl⟩))
    go_ret
    exact ⟨ret_bool (Table.ne2 (by rw [L1.out, L2.out]; exact eqL_len hne)).symm, (by with_reducible repeat (first | exact Only.refl _ _ | assumption | refine Only.drewN ?_ _ | refine Only.drew ?_ | refine Only.alloc ?_ _ | refine Only.setCell ?_ (by intro hh; exfalso; simp at hh; try omega) _ | refine Only.trans ?_ (by assumption)))⟩
  have hlen := Classical.not_not.1 hlen
  have hne : ((l.length : Int) != (l'.length : Int)) = false := by simp [hlen]
  have Hl := Lib.hid hlen; clear hlen
  go_enter Try.func40, Try.ntmps40
  go_wp2_with (first
      | (go_at_call 38; (with_reducible refine (equalInts_rd v0 v0' t.tracked t'.tracked _ _ _ (Rp.keep h0 (by with_reducible repeat (first | exact Only.refl _ _ | assumption | refine Only.drewN ?_ _ | refine Only.drew ?_ | refine Only.alloc ?_ _ | refine Only.setCell ?_ (by intro hh; exfalso; simp at hh; try omega) _ | refine Only.trans ?_ (by assumption)))) (Rp.keep h0' (by with_reducible repeat (first | exact Only.refl _ _ | assumption | refine Only.drewN ?_ _ | refine Only.drew ?_ | refine Only.alloc ?_ _ | refine Only.setCell ?_ (by intro hh; exfalso; simp at hh; try omega) _ | refine Only.trans ?_ (by assumption))))).mono ?_); rintro e w1 ⟨rfl, n1, rfl⟩)
      | (go_at_call 38; (with_reducible refine (equalInts_rd v2 v2' t.distances t'.distances _ _ _ (Rp.keep h2 (by with_reducible repeat (first | exact Only.refl _ _ | assumption | refine Only.drewN ?_ _ | refine Only.drew ?_ | refine Only.alloc ?_ _ | refine Only.setCell ?_ (by intro hh; exfalso; simp at hh; try omega) _ | refine Only.trans ?_ (by assumption)))) (Rp.keep h2' (by with_reducible repeat (first | exact Only.refl _ _ | assumption | refine Only.drewN ?_ _ | refine Only.drew ?_ | refine Only.alloc ?_ _ | refine Only.setCell ?_ (by intro hh; exfalso; simp at hh; try omega) _ | refine Only.trans ?_ (by assumption))))).mono ?_); rintro e w3 ⟨rfl, n3, rfl⟩))
  go_loopw [5] (fun i wr => ∃ j : Nat, j ≤ l.length ∧ i = .int .i64 j ∧ l.take j = l'.take j ∧ Drew ((w.alloc (.cells #[v0, .slice a l.length cap, v2] 52)).alloc (.cells #[v0', .slice a' l'.length cap', v2'] 52)) wr)
    (fun i _ => l.length - (intOf i).toNat)
  case atStart => exact ⟨0, Nat.zero_le _, rfl, rfl, ⟨_, rfl⟩⟩
  case round =>
    obtain ⟨j, hj, rfl, hr, n, rfl⟩ := hrel
    have Hr := Lib.hid hr; clear hr
    by_cases hlt : j < l.length
    · have hlt' : j < l'.length := by have := Hl.out; omega
      obtain ⟨b, off, u, rfl, -, c0, hv⟩ := hs.atRow j hlt
      obtain ⟨b', off', u', rfl, -, c0', hv'⟩ := hs'.atRow j hlt'
      have k0 := World.block_lt_of_cell? w _ c0
      have k0' := World.block_lt_of_cell? w _ c0'
      simp only at k0 k0'
      have l0 : b < w.heap.size + 1 := by omega
      have l0' : b' < w.heap.size + 1 := by omega
      rcases hq : eqV l[j] l'[j]
      all_goals go_wp2
      all_goals go_quiet ((go_at_call 38; exact quiet_drewN (equalInts_rd u u' l[j] l'[j] _ _ _ (Rp.keep hv ((((Only.refl [] w).alloc _).alloc _).drewN _)) (Rp.keep hv' ((((Only.refl [] w).alloc _).alloc _).drewN _)))))
      all_goals go_wp2
      · go_ret
        exact ⟨ret_bool (Table.ne2 (by rw [L1.out, L2.out]; exact eqL_no hlt hlt' hq)).symm, (by with_reducible repeat (first | exact Only.refl _ _ | assumption | refine Only.drewN ?_ _ | refine Only.drew ?_ | refine Only.alloc ?_ _ | refine Only.setCell ?_ (by intro hh; exfalso; simp at hh; try omega) _ | refine Only.trans ?_ (by assumption)))⟩
      · go_roundw
        case rel => exact ⟨j + 1, by omega, by go_num, eqL_step hlt hlt' hq Hr.out, ⟨_, rfl⟩⟩
        case measure => simp [intOf]; omega
    · go_wp2
      go_ret
      exact ⟨ret_bool (Table.eq3 q0 (by rw [L1.out, L2.out]; exact eqL_yes Hl.out hlt Hr.out) q2).symm, (by with_reducible repeat (first | exact Only.refl _ _ | assumption | refine Only.drewN ?_ _ | refine Only.drew ?_ | refine Only.alloc ?_ _ | refine Only.setCell ?_ (by intro hh; exfalso; simp at hh; try omega) _ | refine Only.trans ?_ (by assumption)))⟩

end Go.Proofs.Ytolapilacmgliaa
