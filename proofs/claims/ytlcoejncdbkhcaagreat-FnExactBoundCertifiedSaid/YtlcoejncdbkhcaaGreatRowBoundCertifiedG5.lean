/- Equality of plain data: the reference's and the program's. Tracked sets, patterns and well-formed tables: the reference's and the program's. Plain facts on permutations: composition, inverse, the group that a list generates. The identity permutation: the reference's and the program's. -/
import Derived.Test.YtlcoejncdbkhcaaGreatRowBoundCertifiedG4
import Derived.Test.YtlcoejncdbkhcaaGreatRowBoundCertifiedG2
namespace Go.Proofs.YtlcoejncdbkhcaaGreat
open Go.RowKit
set_option maxRecDepth 10000

set_option maxHeartbeats 400000 in
theorem equalInts_any (a a' : Option Addr) (cap cap' : Nat) (l l' : List Int) (fp fp' : List Nat) (w : World) (h : IntsA w a cap l fp) (h' : IntsA w a' cap' l' fp') :
    Calls Tryz.prog 201 #[.slice a l.length cap, .slice a' l'.length cap'] w fun e w' => e = .returned (.bool (eqV l l')) ∧ Drew w w' := by
  have hb := h.bound
  have hb' := h'.bound
  by_cases hl : l.length = l'.length
  · have hne : ((l.length : Int) != (l'.length : Int)) = false := by simp [hl]
    have Hl := Lib.hid hl; clear hl
    go_enter Tryz.func201, Tryz.ntmps201
    go_wp2
    go_loopw [5] (fun i wr => ∃ j : Nat, j ≤ l.length ∧ i = .int .i64 j ∧ l.take j = l'.take j ∧ Drew w wr)
      (fun i _ => l.length - (intOf i).toNat)
    case atStart => exact ⟨0, Nat.zero_le _, rfl, rfl, Drew.refl _⟩
    case round =>
      obtain ⟨j, hj, rfl, hr, n, rfl⟩ := hrel
      have Hr := Lib.hid hr; clear hr
      by_cases hlt : j < l.length
      · have hlt' : j < l'.length := by have := Hl.out; omega
        obtain ⟨b, off, ha, -, hc⟩ := h.at_ j hlt
        obtain ⟨b', off', ha', -, hc'⟩ := h'.at_ j hlt'
        go_wp2
        go_quiet (fail)
        go_wp2
        · have hne : (l[j] != l'[j]) = true := by assumption
          go_ret
          exact ⟨ret_bool (eqInts_no hlt hlt' hne).symm, ((Drew.refl _).drewN _).drewN _⟩
        · have heq : (l[j] != l'[j]) = false := by assumption
          go_roundw
          case rel => exact ⟨j + 1, by omega, by go_num, eqInts_step hlt hlt' heq Hr.out, ⟨_, rfl⟩⟩
          case measure => simp [intOf]; omega
      · go_wp2
        go_ret
        exact ⟨ret_bool (eqL_yes Hl.out hlt Hr.out).symm, (Drew.refl _).drewN n⟩
  · have hne : ((l.length : Int) != (l'.length : Int)) = true := by simp; omega
    go_enter Tryz.func201, Tryz.ntmps201
    go_wp2
    go_ret
    exact ⟨ret_bool (eqL_len hne).symm, Drew.refl _⟩

theorem equalInts_rd (v v' : Value) (l l' : List Int) (fp fp' : List Nat) (w : World) (h : Rd w v l fp) (h' : Rd w v' l' fp') :
    Calls Tryz.prog 201 #[v, v'] w fun e w' => e = .returned (.bool (eqV l l')) ∧ Drew w w' := by
  obtain ⟨a, cap, rfl, hI⟩ := h.ints
  obtain ⟨a', cap', rfl, hI'⟩ := h'.ints
  exact equalInts_any a a' cap cap' l l' fp fp' w hI hI'
set_option maxHeartbeats 400000 in
theorem Equal_any (a a' : Option Addr) (cap cap' : Nat) (l l' : List Int) (fp fp' : List Nat) (w : World) (h : IntsA w a cap l fp) (h' : IntsA w a' cap' l' fp') :
    Calls Tryz.prog 155 #[.slice a l.length cap, .slice a' l'.length cap'] w fun e w' => e = .returned (.bool (eqV l l')) ∧ Drew w w' := by
  have hb := h.bound
  have hb' := h'.bound
  by_cases hl : l.length = l'.length
  · have hne : ((l.length : Int) != (l'.length : Int)) = false := by simp [hl]
    have Hl := Lib.hid hl; clear hl
    go_enter Tryz.func155, Tryz.ntmps155
    go_wp2
    go_loopw [5, 13] (fun _ i wr => ∃ j : Nat, j ≤ l.length ∧ i = .int .i64 j ∧ l.take j = l'.take j ∧ Drew w wr)
      (fun _ i _ => l.length - (intOf i).toNat)
    case atStart => exact ⟨0, Nat.zero_le _, rfl, rfl, Drew.refl _⟩
    case round =>
      obtain ⟨j, hj, rfl, hr, n, rfl⟩ := hrel
      have Hr := Lib.hid hr; clear hr
      by_cases hlt : j < l.length
      · have hlt' : j < l'.length := by have := Hl.out; omega
        obtain ⟨b, off, ha, -, hc⟩ := h.at_ j hlt
        obtain ⟨b', off', ha', -, hc'⟩ := h'.at_ j hlt'
        go_wp2
        go_quiet (fail)
        go_wp2
        · have hne : (l[j] != l'[j]) = true := by assumption
          go_ret
          exact ⟨ret_bool (eqInts_no hlt hlt' hne).symm, ((Drew.refl _).drewN _).drewN _⟩
        · have heq : (l[j] != l'[j]) = false := by assumption
          go_roundw
          case rel => exact ⟨j + 1, by omega, by go_num, eqInts_step hlt hlt' heq Hr.out, ⟨_, rfl⟩⟩
          case measure => simp [intOf]; omega
      · go_wp2
        go_ret
        exact ⟨ret_bool (eqL_yes Hl.out hlt Hr.out).symm, (Drew.refl _).drewN n⟩
  · have hne : ((l.length : Int) != (l'.length : Int)) = true := by simp; omega
    go_enter Tryz.func155, Tryz.ntmps155
    go_wp2
    go_ret
    exact ⟨ret_bool (eqL_len hne).symm, Drew.refl _⟩

theorem Equal_rd (v v' : Value) (l l' : List Int) (fp fp' : List Nat) (w : World) (h : Rd w v l fp) (h' : Rd w v' l' fp') :
    Calls Tryz.prog 155 #[v, v'] w fun e w' => e = .returned (.bool (eqV l l')) ∧ Drew w w' := by
  obtain ⟨a, cap, rfl, hI⟩ := h.ints
  obtain ⟨a', cap', rfl, hI'⟩ := h'.ints
  exact Equal_any a a' cap cap' l l' fp fp' w hI hI'
set_option maxHeartbeats 1000000 in
/-- slices.EqualFunc over slices of slices: the function says whether two elements are equal -/
theorem EqualFunc_rows (f : FuncId) (caps : Array Value) (hcf : ∀ args w, (callFunc f args).run Tryz.prog w = .ok (.enter f args) w)
    (v v' : Value) (l l' : List (List Int)) (fp fp' : List Nat) (w : World) (h : Rd w v l fp) (h' : Rd w v' l' fp')
    (hc : ∀ (u u' : Value) (x x' : List Int) (f1 f1' : List Nat) (w' : World), Rd w' u x f1 → Rd w' u' x' f1' → Calls Tryz.prog f (#[u, u'] ++ caps) w' fun e w'' => e = .returned (.bool (eqV x x')) ∧ Only [] w' w'') :
    Calls Tryz.prog 204 #[v, v', .func (.func f) #[] caps] w fun e w' => e = .returned (.bool (eqV l l')) ∧ Only [] w w' := by
  obtain ⟨a, cap, ob, fps, rfl, -, hs⟩ := h.open_
  obtain ⟨a', cap', ob', fps', rfl, -, hs'⟩ := h'.open_
  have hb := hs.bound
  have hb' := hs'.bound
  have HC := Lib.hid hc
  clear hc
  by_cases hl : l.length = l'.length
  · have hne : ((l.length : Int) != (l'.length : Int)) = false := by simp [hl]
    have Hl := Lib.hid hl; clear hl
    go_enter Tryz.func204, Tryz.ntmps204
    go_wp2
    go_loopw [7, 8, 9, 17] (fun _ _ _ i wr => ∃ j : Nat, j ≤ l.length ∧ i = .int .i64 j ∧ l.take j = l'.take j ∧ Only [] w wr)
      (fun _ _ _ i _ => l.length - (intOf i).toNat)
    case atStart => exact ⟨0, Nat.zero_le _, rfl, rfl, Only.refl _ _⟩
    case round =>
      obtain ⟨j, hj, rfl, hr, hK⟩ := hrel
      have Hr := Lib.hid hr; clear hr
      by_cases hlt : j < l.length
      · have hlt' : j < l'.length := by have := Hl.out; omega
        obtain ⟨b, off, u, rfl, -, c0, hv⟩ := hs.atRow j hlt
        obtain ⟨b', off', u', rfl, -, c0', hv'⟩ := hs'.atRow j hlt'
        have c := hK.cell (by simp) c0
        have c' := hK.cell (by simp) c0'
        clear c0 c0'
        rcases hq : eqV l[j] l'[j]
        all_goals go_wp2_with (with_reducible refine (HC.out u u' l[j] l'[j] _ _ wr (Rp.keep hv hK) (Rp.keep hv' hK)).mono ?_; rintro e w1 ⟨rfl, hk1⟩)
        · go_ret
          exact ⟨ret_bool (eqL_no hlt hlt' hq).symm, hK.trans hk1⟩
        · go_roundw
          case rel => exact ⟨j + 1, by omega, by go_num, eqL_step hlt hlt' hq Hr.out, hK.trans hk1⟩
          case measure => simp [intOf]; omega
      · go_wp2
        go_ret
        exact ⟨ret_bool (eqL_yes Hl.out hlt Hr.out).symm, hK⟩
  · have hne : ((l.length : Int) != (l'.length : Int)) = true := by simp; omega
    go_enter Tryz.func204, Tryz.ntmps204
    go_wp2
    go_ret
    exact ⟨ret_bool (eqL_len hne).symm, Only.refl _ _⟩

theorem samePartition_closure (u u' : Value) (x x' : List Int) (f1 f1' : List Nat) (w : World) (h : Rd w u x f1) (h' : Rd w u' x' f1') :
    Calls Tryz.prog 205 #[u, u'] w fun e w' => e = .returned (.bool (eqV x x')) ∧ Only [] w w' := by
  go_enter Tryz.func205, Tryz.ntmps205
  go_wp2_with ((go_at_call 155; (with_reducible refine (Equal_rd u u' x x' _ _ _ h h').mono ?_); rintro e w1 ⟨rfl, d1⟩))
  go_ret
  exact ⟨rfl, d1.only _⟩
theorem samePartition_rd (v v' : Value) (l l' : List (List Int)) (fp fp' : List Nat) (w : World) (h : Rd w v l fp) (h' : Rd w v' l' fp') :
    Calls Tryz.prog 156 #[v, v'] w fun e w' => e = .returned (.bool (eqV l l')) ∧ Only [] w w' := by
  have Hc := Lib.hid (EqualFunc_rows 205 #[] Tryz.call205 v v' l l' fp fp' w h h' (fun u u' x x' f1 f1' w' r r' => samePartition_closure u u' x x' f1 f1' w' r r'))
  go_enter Tryz.func156, Tryz.ntmps156
  go_wp2_with ((go_at_call 204; (with_reducible refine (Hc.out).mono ?_); rintro e w1 ⟨rfl, t1⟩))
  go_ret
  exact ⟨rfl, t1⟩

theorem Table.ne1 {t t' : Table} (h : eqV t.tracked t'.tracked = false) : eqV t t' = false := eqV_no fun he => (eqV_iff'.1 h) (by rw [he])
theorem Table.ne2 {t t' : Table} (h : eqV t.patterns t'.patterns = false) : eqV t t' = false := eqV_no fun he => (eqV_iff'.1 h) (by rw [he])
theorem Table.ne3 {t t' : Table} (h : eqV t.distances t'.distances = false) : eqV t t' = false := eqV_no fun he => (eqV_iff'.1 h) (by rw [he])
theorem Table.eq3 {t t' : Table} (h1 : eqV t.tracked t'.tracked = true) (h2 : eqV t.patterns t'.patterns = true) (h3 : eqV t.distances t'.distances = true) : eqV t t' = true :=
  eqV_yes (Table.eq_iff.2 ⟨eqV_iff.1 h1, eqV_iff.1 h2, eqV_iff.1 h3⟩)

set_option maxHeartbeats 1000000 in
theorem implSameTable_any (cs cs' : List Value) (t t' : Table) (fp fp' : List Nat) (w : World) (h : Rp.rep w cs t fp) (h' : Rp.rep w cs' t' fp') :
    Calls Tryz.prog 107 #[.agg cs.toArray, .agg cs'.toArray] w fun e w' => e = .returned (.bool (eqV t t')) ∧ Only [] w w' := by
  obtain ⟨v0, v1, v2, f0, f1, f2, rfl, rfl, h0, h1, h2⟩ := h
  obtain ⟨v0', v1', v2', f0', f1', f2', rfl, rfl, h0', h1', h2'⟩ := h'
  rcases q0 : eqV t.tracked t'.tracked
  · go_enter Tryz.func107, Tryz.ntmps107
    go_wp2_with ((go_at_call 155; (with_reducible refine (Equal_rd v0 v0' t.tracked t'.tracked _ _ _ (Rp.keep h0 (by with_reducible repeat (first | exact Only.refl _ _ | assumption | refine Only.drewN ?_ _ | refine Only.drew ?_ | refine Only.alloc ?_ _ | refine Only.setCell ?_ (by intro hh; exfalso; simp at hh; try omega) _ | refine Only.trans ?_ (by assumption)))) (Rp.keep h0' (by with_reducible repeat (first | exact Only.refl _ _ | assumption | refine Only.drewN ?_ _ | refine Only.drew ?_ | refine Only.alloc ?_ _ | refine Only.setCell ?_ (by intro hh; exfalso; simp at hh; try omega) _ | refine Only.trans ?_ (by assumption))))).mono ?_); rintro e w1 ⟨rfl, n1, rfl⟩))
    go_ret
    exact ⟨ret_bool (Table.ne1 q0).symm, (by with_reducible repeat (first | exact Only.refl _ _ | assumption | refine Only.drewN ?_ _ | refine Only.drew ?_ | refine Only.alloc ?_ _ | refine Only.setCell ?_ (by intro hh; exfalso; simp at hh; try omega) _ | refine Only.trans ?_ (by assumption)))⟩
  rcases q1 : eqV t.patterns t'.patterns
  · go_enter Tryz.func107, Tryz.ntmps107
    go_wp2_with (first
      | (go_at_call 155; (with_reducible refine (Equal_rd v0 v0' t.tracked t'.tracked _ _ _ (Rp.keep h0 (by with_reducible repeat (first | exact Only.refl _ _ | assumption | refine Only.drewN ?_ _ | refine Only.drew ?_ | refine Only.alloc ?_ _ | refine Only.setCell ?_ (by intro hh; exfalso; simp at hh; try omega) _ | refine Only.trans ?_ (by assumption)))) (Rp.keep h0' (by with_reducible repeat (first | exact Only.refl _ _ | assumption | refine Only.drewN ?_ _ | refine Only.drew ?_ | refine Only.alloc ?_ _ | refine Only.setCell ?_ (by intro hh; exfalso; simp at hh; try omega) _ | refine Only.trans ?_ (by assumption))))).mono ?_); rintro e w1 ⟨rfl, n1, rfl⟩)
      | (go_at_call 156; (with_reducible refine (samePartition_rd v1 v1' t.patterns t'.patterns _ _ _ (Rp.keep h1 (by with_reducible repeat (first | exact Only.refl _ _ | assumption | refine Only.drewN ?_ _ | refine Only.drew ?_ | refine Only.alloc ?_ _ | refine Only.setCell ?_ (by intro hh; exfalso; simp at hh; try omega) _ | refine Only.trans ?_ (by assumption)))) (Rp.keep h1' (by with_reducible repeat (first | exact Only.refl _ _ | assumption | refine Only.drewN ?_ _ | refine Only.drew ?_ | refine Only.alloc ?_ _ | refine Only.setCell ?_ (by intro hh; exfalso; simp at hh; try omega) _ | refine Only.trans ?_ (by assumption))))).mono ?_); rintro e w2 ⟨rfl, t2⟩))
    go_ret
    exact ⟨ret_bool (Table.ne2 q1).symm, (by with_reducible repeat (first | exact Only.refl _ _ | assumption | refine Only.drewN ?_ _ | refine Only.drew ?_ | refine Only.alloc ?_ _ | refine Only.setCell ?_ (by intro hh; exfalso; simp at hh; try omega) _ | refine Only.trans ?_ (by assumption)))⟩
  rcases q2 : eqV t.distances t'.distances
  all_goals go_enter Tryz.func107, Tryz.ntmps107
  all_goals go_wp2_with (first
      | (go_at_call 155; (with_reducible refine (Equal_rd v0 v0' t.tracked t'.tracked _ _ _ (Rp.keep h0 (by with_reducible repeat (first | exact Only.refl _ _ | assumption | refine Only.drewN ?_ _ | refine Only.drew ?_ | refine Only.alloc ?_ _ | refine Only.setCell ?_ (by intro hh; exfalso; simp at hh; try omega) _ | refine Only.trans ?_ (by assumption)))) (Rp.keep h0' (by with_reducible repeat (first | exact Only.refl _ _ | assumption | refine Only.drewN ?_ _ | refine Only.drew ?_ | refine Only.alloc ?_ _ | refine Only.setCell ?_ (by intro hh; exfalso; simp at hh; try omega) _ | refine Only.trans ?_ (by assumption))))).mono ?_); rintro e w1 ⟨rfl, n1, rfl⟩)
      | (go_at_call 156; (with_reducible refine (samePartition_rd v1 v1' t.patterns t'.patterns _ _ _ (Rp.keep h1 (by with_reducible repeat (first | exact Only.refl _ _ | assumption | refine Only.drewN ?_ _ | refine Only.drew ?_ | refine Only.alloc ?_ _ | refine Only.setCell ?_ (by intro hh; exfalso; simp at hh; try omega) _ | refine Only.trans ?_ (by assumption)))) (Rp.keep h1' (by with_reducible repeat (first | exact Only.refl _ _ | assumption | refine Only.drewN ?_ _ | refine Only.drew ?_ | refine Only.alloc ?_ _ | refine Only.setCell ?_ (by intro hh; exfalso; simp at hh; try omega) _ | refine Only.trans ?_ (by assumption))))).mono ?_); rintro e w2 ⟨rfl, t2⟩; have y0 := t2.cells_eq w.heap.size (by simp; try omega) (by simp); have y1 := t2.cells_eq (w.heap.size + 1) (by simp) (by simp))
      | (go_at_call 155; (with_reducible refine (Equal_rd v2 v2' t.distances t'.distances _ _ _ (Rp.keep h2 (by with_reducible repeat (first | exact Only.refl _ _ | assumption | refine Only.drewN ?_ _ | refine Only.drew ?_ | refine Only.alloc ?_ _ | refine Only.setCell ?_ (by intro hh; exfalso; simp at hh; try omega) _ | refine Only.trans ?_ (by assumption)))) (Rp.keep h2' (by with_reducible repeat (first | exact Only.refl _ _ | assumption | refine Only.drewN ?_ _ | refine Only.drew ?_ | refine Only.alloc ?_ _ | refine Only.setCell ?_ (by intro hh; exfalso; simp at hh; try omega) _ | refine Only.trans ?_ (by assumption))))).mono ?_); rintro e w3 ⟨rfl, n3, rfl⟩))
  · go_ret
    exact ⟨ret_bool (Table.ne3 q2).symm, (by with_reducible repeat (first | exact Only.refl _ _ | assumption | refine Only.drewN ?_ _ | refine Only.drew ?_ | refine Only.alloc ?_ _ | refine Only.setCell ?_ (by intro hh; exfalso; simp at hh; try omega) _ | refine Only.trans ?_ (by assumption)))⟩
  · go_ret
    exact ⟨ret_bool (Table.eq3 q0 q1 q2).symm, (by with_reducible repeat (first | exact Only.refl _ _ | assumption | refine Only.drewN ?_ _ | refine Only.drew ?_ | refine Only.alloc ?_ _ | refine Only.setCell ?_ (by intro hh; exfalso; simp at hh; try omega) _ | refine Only.trans ?_ (by assumption)))⟩

set_option maxHeartbeats 1000000 in
theorem specSameTable_any (cs cs' : List Value) (t t' : Table) (fp fp' : List Nat) (w : World) (h : Rp.rep w cs t fp) (h' : Rp.rep w cs' t' fp') :
    Calls Tryz.prog 153 #[.agg cs.toArray, .agg cs'.toArray] w fun e w' => e = .returned (.bool (eqV t t')) ∧ Only [] w w' := by
  obtain ⟨v0, v1, v2, f0, f1, f2, rfl, rfl, h0, h1, h2⟩ := h
  obtain ⟨v0', v1', v2', f0', f1', f2', rfl, rfl, h0', h1', h2'⟩ := h'
  rcases q0 : eqV t.tracked t'.tracked
  · go_enter Tryz.func153, Tryz.ntmps153
    go_wp2_with ((go_at_call 201; (with_reducible refine (equalInts_rd v0 v0' t.tracked t'.tracked _ _ _ (Rp.keep h0 (by with_reducible repeat (first | exact Only.refl _ _ | assumption | refine Only.drewN ?_ _ | refine Only.drew ?_ | refine Only.alloc ?_ _ | refine Only.setCell ?_ (by intro hh; exfalso; simp at hh; try omega) _ | refine Only.trans ?_ (by assumption)))) (Rp.keep h0' (by with_reducible repeat (first | exact Only.refl _ _ | assumption | refine Only.drewN ?_ _ | refine Only.drew ?_ | refine Only.alloc ?_ _ | refine Only.setCell ?_ (by intro hh; exfalso; simp at hh; try omega) _ | refine Only.trans ?_ (by assumption))))).mono ?_); rintro e w1 ⟨rfl, n1, rfl⟩))
    go_ret
    exact ⟨ret_bool (Table.ne1 q0).symm, (by with_reducible repeat (first | exact Only.refl _ _ | assumption | refine Only.drewN ?_ _ | refine Only.drew ?_ | refine Only.alloc ?_ _ | refine Only.setCell ?_ (by intro hh; exfalso; simp at hh; try omega) _ | refine Only.trans ?_ (by assumption)))⟩
  rcases q2 : eqV t.distances t'.distances
  · go_enter Tryz.func153, Tryz.ntmps153
    go_wp2_with (first
      | (go_at_call 201; (with_reducible refine (equalInts_rd v0 v0' t.tracked t'.tracked _ _ _ (Rp.keep h0 (by with_reducible repeat (first | exact Only.refl _ _ | assumption | refine Only.drewN ?_ _ | refine Only.drew ?_ | refine Only.alloc ?_ _ | refine Only.setCell ?_ (by intro hh; exfalso; simp at hh; try omega) _ | refine Only.trans ?_ (by assumption)))) (Rp.keep h0' (by with_reducible repeat (first | exact Only.refl _ _ | assumption | refine Only.drewN ?_ _ | refine Only.drew ?_ | refine Only.alloc ?_ _ | refine Only.setCell ?_ (by intro hh; exfalso; simp at hh; try omega) _ | refine Only.trans ?_ (by assumption))))).mono ?_); rintro e w1 ⟨rfl, n1, rfl⟩)
      | (go_at_call 201; (with_reducible refine (equalInts_rd v2 v2' t.distances t'.distances _ _ _ (Rp.keep h2 (by with_reducible repeat (first | exact Only.refl _ _ | assumption | refine Only.drewN ?_ _ | refine Only.drew ?_ | refine Only.alloc ?_ _ | refine Only.setCell ?_ (by intro hh; exfalso; simp at hh; try omega) _ | refine Only.trans ?_ (by assumption)))) (Rp.keep h2' (by with_reducible repeat (first | exact Only.refl _ _ | assumption | refine Only.drewN ?_ _ | refine Only.drew ?_ | refine Only.alloc ?_ _ | refine Only.setCell ?_ (by intro hh; exfalso; simp at hh; try omega) _ | refine Only.trans ?_ (by assumption))))).mono ?_); rintro e w3 ⟨rfl, n3, rfl⟩))
    go_ret
    exact ⟨ret_bool (Table.ne3 q2).symm, (by with_reducible repeat (first | exact Only.refl _ _ | assumption | refine Only.drewN ?_ _ | refine Only.drew ?_ | refine Only.alloc ?_ _ | refine Only.setCell ?_ (by intro hh; exfalso; simp at hh; try omega) _ | refine Only.trans ?_ (by assumption)))⟩
  generalize hl : t.patterns = l at *
  generalize hl' : t'.patterns = l' at *
  have L1 := Lib.hid hl
  have L2 := Lib.hid hl'
  clear hl hl'
  obtain ⟨a, cap, ob, fps, rfl, rfl, hs⟩ := h1.open_
  obtain ⟨a', cap', ob', fps', rfl, rfl, hs'⟩ := h1'.open_
  have hb := hs.bound
  have hb' := hs'.bound
  by_cases hlen : l.length ≠ l'.length
  · have hne : ((l.length : Int) != (l'.length : Int)) = true := by simp; omega
    go_enter Tryz.func153, Tryz.ntmps153
    go_wp2_with (first
      | (go_at_call 201; (with_reducible refine (equalInts_rd v0 v0' t.tracked t'.tracked _ _ _ (Rp.keep h0 (by with_reducible repeat (first | exact Only.refl _ _ | assumption | refine Only.drewN ?_ _ | refine Only.drew ?_ | refine Only.alloc ?_ _ | refine Only.setCell ?_ (by intro hh; exfalso; simp at hh; try omega) _ | refine Only.trans ?_ (by assumption)))) (Rp.keep h0' (by with_reducible repeat (first | exact Only.refl _ _ | assumption | refine Only.drewN ?_ _ | refine Only.drew ?_ | refine Only.alloc ?_ _ | refine Only.setCell ?_ (by intro hh; exfalso; simp at hh; try omega) _ | refine Only.trans ?_ (by assumption))))).mono ?_); rintro e w1 ⟨rfl, n1, rfl⟩)
      | (go_at_call 201; (with_reducible refine (equalInts_rd v2 v2' t.distances t'.distances _ _ _ (Rp.keep h2 (by with_reducible repeat (first | exact Only.refl _ _ | assumption | refine Only.drewN ?_ _ | refine Only.drew ?_ | refine Only.alloc ?_ _ | refine Only.setCell ?_ (by intro hh; exfalso; simp at hh; try omega) _ | refine Only.trans ?_ (by assumption)))) (Rp.keep h2' (by with_reducible repeat (first | exact Only.refl _ _ | assumption | refine Only.drewN ?_ _ | refine Only.drew ?_ | refine Only.alloc ?_ _ | refine Only.setCell ?_ (by intro hh; exfalso; simp at hh; try omega) _ | refine Only.trans ?_ (by assumption))))).mono ?_); rintro e w3 ⟨rfl, n3, rfl⟩))
    go_ret
    exact ⟨ret_bool (Table.ne2 (by rw [L1.out, L2.out]; exact eqL_len hne)).symm, (by with_reducible repeat (first | exact Only.refl _ _ | assumption | refine Only.drewN ?_ _ | refine Only.drew ?_ | refine Only.alloc ?_ _ | refine Only.setCell ?_ (by intro hh; exfalso; simp at hh; try omega) _ | refine Only.trans ?_ (by assumption)))⟩
  have hlen := Classical.not_not.1 hlen
  have hne : ((l.length : Int) != (l'.length : Int)) = false := by simp [hlen]
  have Hl := Lib.hid hlen; clear hlen
  go_enter Tryz.func153, Tryz.ntmps153
  go_wp2_with (first
      | (go_at_call 201; (with_reducible refine (equalInts_rd v0 v0' t.tracked t'.tracked _ _ _ (Rp.keep h0 (by with_reducible repeat (first | exact Only.refl _ _ | assumption | refine Only.drewN ?_ _ | refine Only.drew ?_ | refine Only.alloc ?_ _ | refine Only.setCell ?_ (by intro hh; exfalso; simp at hh; try omega) _ | refine Only.trans ?_ (by assumption)))) (Rp.keep h0' (by with_reducible repeat (first | exact Only.refl _ _ | assumption | refine Only.drewN ?_ _ | refine Only.drew ?_ | refine Only.alloc ?_ _ | refine Only.setCell ?_ (by intro hh; exfalso; simp at hh; try omega) _ | refine Only.trans ?_ (by assumption))))).mono ?_); rintro e w1 ⟨rfl, n1, rfl⟩)
      | (go_at_call 201; (with_reducible refine (equalInts_rd v2 v2' t.distances t'.distances _ _ _ (Rp.keep h2 (by with_reducible repeat (first | exact Only.refl _ _ | assumption | refine Only.drewN ?_ _ | refine Only.drew ?_ | refine Only.alloc ?_ _ | refine Only.setCell ?_ (by intro hh; exfalso; simp at hh; try omega) _ | refine Only.trans ?_ (by assumption)))) (Rp.keep h2' (by with_reducible repeat (first | exact Only.refl _ _ | assumption | refine Only.drewN ?_ _ | refine Only.drew ?_ | refine Only.alloc ?_ _ | refine Only.setCell ?_ (by intro hh; exfalso; simp at hh; try omega) _ | refine Only.trans ?_ (by assumption))))).mono ?_); rintro e w3 ⟨rfl, n3, rfl⟩))
  go_loopw [5] (fun i wr => ∃ j : Nat, j ≤ l.length ∧ i = .int .i64 j ∧ l.take j = l'.take j ∧ Drew ((w.alloc (.cells #[v0, .slice a l.length cap, v2] 32)).alloc (.cells #[v0', .slice a' l'.length cap', v2'] 32)) wr)
    (fun i _ => l.length - (intOf i).toNat)
  case atStart => exact ⟨0, Nat.zero_le _, rfl, rfl, ⟨_, rfl⟩⟩
  case round =>
    obtain ⟨j, hj, rfl, hr, n, rfl⟩ := hrel
    have Hr := Lib.hid hr; clear hr
    by_cases hlt : j < l.length
    · have hlt' : j < l'.length := by have := Hl.out; omega
      obtain ⟨b, off, u, rfl, -, c0, hv⟩ := hs.atRow j hlt
      obtain ⟨b', off', u', rfl, -, c0', hv'⟩ := hs'.atRow j hlt'
      have k0 := World.block_lt_of_cell? w _ c0
      have k0' := World.block_lt_of_cell? w _ c0'
      simp only at k0 k0'
      have l0 : b < w.heap.size + 1 := by omega
      have l0' : b' < w.heap.size + 1 := by omega
      rcases hq : eqV l[j] l'[j]
      all_goals go_wp2
      all_goals go_quiet ((go_at_call 201; exact quiet_drewN (equalInts_rd u u' l[j] l'[j] _ _ _ (Rp.keep hv ((((Only.refl [] w).alloc _).alloc _).drewN _)) (Rp.keep hv' ((((Only.refl [] w).alloc _).alloc _).drewN _)))))
      all_goals go_wp2
      · go_ret
        exact ⟨ret_bool (Table.ne2 (by rw [L1.out, L2.out]; exact eqL_no hlt hlt' hq)).symm, (by with_reducible repeat (first | exact Only.refl _ _ | assumption | refine Only.drewN ?_ _ | refine Only.drew ?_ | refine Only.alloc ?_ _ | refine Only.setCell ?_ (by intro hh; exfalso; simp at hh; try omega) _ | refine Only.trans ?_ (by assumption)))⟩
      · go_roundw
        case rel => exact ⟨j + 1, by omega, by go_num, eqL_step hlt hlt' hq Hr.out, ⟨_, rfl⟩⟩
        case measure => simp [intOf]; omega
    · go_wp2
      go_ret
      exact ⟨ret_bool (Table.eq3 q0 (by rw [L1.out, L2.out]; exact eqL_yes Hl.out hlt Hr.out) q2).symm, (by with_reducible repeat (first | exact Only.refl _ _ | assumption | refine Only.drewN ?_ _ | refine Only.drew ?_ | refine Only.alloc ?_ _ | refine Only.setCell ?_ (by intro hh; exfalso; simp at hh; try omega) _ | refine Only.trans ?_ (by assumption)))⟩

end Go.Proofs.YtlcoejncdbkhcaaGreat

namespace Go.Proofs.YtlcoejncdbkhcaaGreat
open Go.RowKit
set_option maxRecDepth 10000

/-- a strictly increasing list of points of n -/
def Inc (n : Int) (l : List Int) : Prop := (∀ x ∈ l, 0 ≤ x ∧ x < n) ∧ l.Pairwise (· < ·)
instance (n : Int) (l : List Int) : Decidable (Inc n l) := inferInstanceAs (Decidable (_ ∧ _))
/-- distinct points of n -/
def Dis (n : Int) (l : List Int) : Prop := (∀ x ∈ l, 0 ≤ x ∧ x < n) ∧ l.Nodup
instance (n : Int) (l : List Int) : Decidable (Dis n l) := inferInstanceAs (Decidable (_ ∧ _))
def trackB (n : Int) (l : List Int) : Bool := decide (0 < l.length) && decide (Inc n l)
def patB (n : Int) (k : Nat) (l : List Int) : Bool := decide (l.length = k) && decide (Dis n l)
theorem pw_take_step {l : List Int} {j : Nat} (h : j < l.length) (h1 : (l.take j).Pairwise (· < ·)) (h2 : ∀ i (hi : i + 1 = j), l[i]'(by omega) < l[j]) : (l.take (j + 1)).Pairwise (· < ·) := by
  rw [take_succ_get l j h]
  refine List.pairwise_append.2 ⟨h1, by simp, fun a ha b hb => ?_⟩
  simp at hb; subst hb
  rcases Nat.eq_zero_or_pos j with h0 | h0
  · subst h0; simp at ha
  · obtain ⟨i, rfl⟩ : ∃ i, j = i + 1 := ⟨j - 1, by omega⟩
    have hi : i < l.length := by omega
    have h3 := h2 i rfl
    obtain ⟨k, hk, rfl⟩ := List.mem_take_iff_getElem.1 ha
    rcases Nat.lt_or_ge k i with hki | hki
    · rw [take_succ_get l i hi] at h1
      have := (List.pairwise_append.1 h1).2.2 l[k] (List.mem_take_iff_getElem.2 ⟨k, by omega, rfl⟩) l[i] (by simp)
      omega
    · have : k = i := by omega
      subst this; exact h3
theorem pw_take_not {l : List Int} {i : Nat} (h : i + 1 < l.length) (h2 : ¬ l[i] < l[i + 1]) : ¬ l.Pairwise (· < ·) := by
  intro hp
  exact h2 (List.pairwise_iff_getElem.1 hp i (i + 1) (by omega) h (by omega))
theorem inc_ge {l : List Int} (h0 : ∀ x ∈ l, 0 ≤ x) (hp : l.Pairwise (· < ·)) : ∀ k (hk : k < l.length), (k : Int) ≤ l[k] := by
  intro k
  induction k with
  | zero => intro hk; have := h0 _ (List.getElem_mem hk); omega
  | succ k ih =>
    intro hk
    have h1 := ih (by omega)
    have h2 := List.pairwise_iff_getElem.1 hp k (k + 1) (by omega) hk (by omega)
    omega
theorem Inc.len {n : Int} {l : List Int} (h : Inc n l) : (l.length : Int) ≤ n ∨ l.length = 0 := by
  rcases Nat.eq_zero_or_pos l.length with h0 | h0
  · exact .inr h0
  · left
    have h1 := inc_ge (fun x hx => (h.1 x hx).1) h.2 (l.length - 1) (by omega)
    have h2 := (h.1 l[l.length - 1] (List.getElem_mem _)).2
    omega
theorem pw_nodup {l : List Int} (h : l.Pairwise (· < ·)) : l.Nodup := by
  rw [List.nodup_iff_pairwise_ne]
  exact h.imp fun h => Int.ne_of_lt h
theorem Inc.dis {n : Int} {l : List Int} (h : Inc n l) : Dis n l := ⟨h.1, pw_nodup h.2⟩
theorem trackB_iff {n : Int} {l : List Int} : trackB n l = true ↔ 0 < l.length ∧ Inc n l := by simp [trackB]
theorem patB_iff {n : Int} {k : Nat} {l : List Int} : patB n k l = true ↔ l.length = k ∧ Dis n l := by simp [patB]
theorem trackB_no {n : Int} {l : List Int} (h : ¬ Inc n l) : trackB n l = false := by simp [trackB, h]
theorem patB_no {n : Int} {k : Nat} {l : List Int} (h : ¬ Dis n l) : patB n k l = false := by simp [patB, h]
theorem trackB_pat {n : Int} {l : List Int} (h : trackB n l = true) : patB n l.length l = true := patB_iff.2 ⟨rfl, (trackB_iff.1 h).2.dis⟩
theorem wrap64_pred (i : Nat) (h : i < 9223372036854775807) : wrap64 (((i + 1 : Nat) : Int) - 1) = (i : Int) := by unfold wrap64; omega

set_option maxHeartbeats 1000000 in
theorem isPointList_any (n : Int) (a : Option Addr) (cap : Nat) (l : List Int) (fp : List Nat) (w : World) (h : IntsA w a cap l fp) (n0 : 0 ≤ n) (n1 : n ≤ 1000) :
    Calls Tryz.prog 214 #[.int .i64 n, .slice a l.length cap] w fun e w' => e = .returned (.bool (trackB n l)) ∧ Drew w w' := by
  have hb := h.bound
  rcases hq : inR l.length 1 n
  · go_enter Tryz.func214, Tryz.ntmps214
    go_wp2_with ((go_at_call 62; (with_reducible refine (inRange_any l.length 1 n _).mono ?_); rintro e w1 ⟨rfl, rfl⟩))
    go_ret
    exact ⟨ret_bool (by
      rw [eq_comm, ← Bool.not_eq_true, trackB_iff]; rintro ⟨h0, h1⟩
      rw [inR_not] at hq; have := h1.len; omega), Drew.refl _⟩
  obtain ⟨g1, g2⟩ := inR_iff.1 hq
  have hfin : trackB n l = decide (Inc n l) := by unfold trackB; rw [decide_eq_true (by omega)]; rfl
  have Hfin := Lib.hid hfin; clear hfin
  go_enter Tryz.func214, Tryz.ntmps214
  go_wp2_with ((go_at_call 62; (with_reducible refine (inRange_any l.length 1 n _).mono ?_); rintro e w ⟨rfl, rfl⟩))
  go_loopw [5] (fun i wr => ∃ j : Nat, j ≤ l.length ∧ i = .int .i64 j ∧ (∀ x ∈ l.take j, 0 ≤ x ∧ x < n) ∧ (l.take j).Pairwise (· < ·) ∧ Drew w wr)
    (fun i _ => l.length - (intOf i).toNat)
  case atStart => exact ⟨0, Nat.zero_le _, rfl, by simp, by simp, Drew.refl _⟩
  case round =>
    obtain ⟨j, hj, rfl, hr, hn, k, rfl⟩ := hrel
    have Hr := Lib.hid hr; clear hr
    have Hn := Lib.hid hn; clear hn
    by_cases hlt : j < l.length
    · rcases c1 : inR l[j] 0 (n - 1)
      · obtain ⟨b, off, rfl, -, hc⟩ := h.at_ j hlt
        go_wp2
        go_quiet ((go_at_call 62; exact quiet_drewN (inRange_q l[j] 0 (n - 1) _)))
        go_wp2
        go_ret
        exact ⟨ret_bool (by rw [Hfin.out, eq_comm, decide_eq_false_iff_not]; intro hp; have := hp.1 l[j] (List.getElem_mem _); rw [inR_not] at c1; omega), ((Drew.refl _).drewN _).drewN _⟩
      have hx := inR_iff.1 c1
      have Hx := Lib.hid hx; clear hx
      rcases Nat.eq_zero_or_pos j with hj0 | hj0
      · subst hj0
        obtain ⟨b, off, rfl, -, hc⟩ := h.at_ 0 hlt
        rw [Nat.add_zero] at hc
        go_wp2
        go_quiet ((go_at_call 62; exact quiet_drewN (inRange_q l[0] 0 (n - 1) _)))
        go_wp2
        go_roundw
        case rel => exact ⟨1, by omega, by go_num, mem_take_step hlt Hr.out (by have := Hx.out; omega), pw_take_step hlt Hn.out (by intro i hi; omega), ⟨_, rfl⟩⟩
        case measure => simp [intOf]; omega
      · obtain ⟨i, rfl⟩ : ∃ i, j = i + 1 := ⟨j - 1, by omega⟩
        have hi : i < l.length := by omega
        have hw := wrap64_pred i (by omega)
        have hgt : decide ((((i + 1 : Nat) : Int)) > 0) = true := decide_eq_true (by omega)
        obtain ⟨b, off, rfl, -, hc⟩ := h.at_ (i + 1) hlt
        obtain ⟨b2, off2, he, -, hc2⟩ := h.at_ i hi
        obtain ⟨rfl, rfl⟩ : b = b2 ∧ off = off2 := by simpa using he
        by_cases c2 : l[i + 1] ≤ l[i]
        · have d2 : decide (l[i + 1] ≤ l[i]) = true := decide_eq_true c2
          have C2 := Lib.hid c2; clear c2
          go_wp2
          go_quiet ((go_at_call 62; exact quiet_drewN (inRange_q l[i + 1] 0 (n - 1) _)))
          go_wp2
          go_ret
          exact ⟨ret_bool (by rw [Hfin.out, eq_comm, decide_eq_false_iff_not]; intro hp; exact pw_take_not hlt (by have := C2.out; omega) hp.2), ((Drew.refl _).drewN _).drewN _⟩
        · have d2 : decide (l[i + 1] ≤ l[i]) = false := decide_eq_false c2
          have C2 := Lib.hid c2; clear c2
          go_wp2
          go_quiet ((go_at_call 62; exact quiet_drewN (inRange_q l[i + 1] 0 (n - 1) _)))
          go_wp2
          go_roundw
          case rel => exact ⟨i + 2, by omega, by go_num, mem_take_step hlt Hr.out (by have := Hx.out; omega), pw_take_step hlt Hn.out (by
            intro q hq; have : q = i := (by omega); subst this; have := C2.out; omega), ⟨_, rfl⟩⟩
          case measure => simp [intOf]; omega
    · go_wp2
      go_ret
      exact ⟨ret_bool (by rw [Hfin.out, eq_comm, decide_eq_true_iff]; have h1 := Hr.out; have h2 := Hn.out; rw [List.take_of_length_le (by omega)] at h1 h2; exact ⟨h1, h2⟩), ⟨_, rfl⟩⟩
theorem isPointList_rd (n : Int) (v : Value) (l : List Int) (fp : List Nat) (w : World) (h : Rd w v l fp) (n0 : 0 ≤ n) (n1 : n ≤ 1000) :
    Calls Tryz.prog 214 #[.int .i64 n, v] w fun e w' => e = .returned (.bool (trackB n l)) ∧ Drew w w' := by
  obtain ⟨a, cap, rfl, hI⟩ := h.ints
  exact isPointList_any n a cap l fp w hI n0 n1
set_option maxHeartbeats 1000000 in
theorem isDistinctList_any (n : Int) (a : Option Addr) (cap : Nat) (l : List Int) (m : Nat) (fp : List Nat) (w : World) (h : IntsA w a cap l fp) (n0 : 0 ≤ n) (n1 : n ≤ 1000) (hm : m ≤ 9223372036854775807) :
    Calls Tryz.prog 234 #[.int .i64 n, .slice a l.length cap, .int .i64 m] w fun e w' => e = .returned (.bool (patB n m l)) ∧ Drew w w' := by
  have hb := h.bound
  by_cases hq : l.length = m
  · subst hq
    have hfin : patB n l.length l = decide (Dis n l) := by unfold patB; rw [decide_eq_true rfl]; rfl
    have Hfin := Lib.hid hfin; clear hfin
    go_enter Tryz.func234, Tryz.ntmps234
    go_wp2
    go_loopw [7] (fun i wr => ∃ j : Nat, j ≤ l.length ∧ i = .int .i64 j ∧ (∀ x ∈ l.take j, 0 ≤ x ∧ x < n) ∧ (l.take j).Nodup ∧ Drew w wr)
      (fun i _ => l.length - (intOf i).toNat)
    case atStart => exact ⟨0, Nat.zero_le _, rfl, by simp, by simp, Drew.refl _⟩
    case round =>
      obtain ⟨j, hj, rfl, hr, hn, k, rfl⟩ := hrel
      have Hr := Lib.hid hr; clear hr
      have Hn := Lib.hid hn; clear hn
      by_cases hlt : j < l.length
      · obtain ⟨b, off, rfl, -, hc⟩ := h.at_ j hlt
        have hcap := h.len
        have hi1 : (0 : Int) ≤ (j : Int) := by omega
        have hi2 : (j : Int) < (l.length : Int) := by omega
        rcases c1 : inR l[j] 0 (n - 1)
        · go_wp2
          go_quiet ((go_at_call 62; exact quiet_drewN (inRange_q l[j] 0 (n - 1) _)))
          go_wp2
          go_ret
          exact ⟨ret_bool (by rw [Hfin.out, eq_comm, decide_eq_false_iff_not]; intro hp; have := hp.1 l[j] (List.getElem_mem _); rw [inR_not] at c1; omega), ((Drew.refl _).drewN _).drewN _⟩
        have hx := inR_iff.1 c1
        have Hx := Lib.hid hx; clear hx
        rcases c2 : decide (l[j] ∈ l.take j)
        all_goals go_wp2
        all_goals go_quiet (first
          | (go_at_call 62; exact quiet_drewN (inRange_q l[j] 0 (n - 1) _))
          | (go_at_call 208; exact quiet_drewN (containsInt_pre (some ⟨b, off, none⟩) cap l j l[j] fp _ (h.keep (Only.ofDrewN _ _ _)) hj)))
        · have C2 := Lib.hid (of_decide_eq_false c2); clear c2
          go_wp2
          go_roundw
          case rel => exact ⟨j + 1, by omega, by go_num, mem_take_step hlt Hr.out (by have := Hx.out; omega), nodup_take_step hlt Hn.out C2.out, ⟨_, rfl⟩⟩
          case measure => simp [intOf]; omega
        · have C2 := Lib.hid (of_decide_eq_true c2); clear c2
          go_wp2
          go_ret
          exact ⟨ret_bool (by rw [Hfin.out, eq_comm, decide_eq_false_iff_not]; intro hp; exact nodup_take_not hlt C2.out hp.2), ((Drew.refl _).drewN _).drewN _⟩
      · go_wp2
        go_ret
        exact ⟨ret_bool (by rw [Hfin.out, eq_comm, decide_eq_true_iff]; have h1 := Hr.out; have h2 := Hn.out; rw [List.take_of_length_le (by omega)] at h1 h2; exact ⟨h1, h2⟩), ⟨_, rfl⟩⟩
  · have d1 : ((l.length : Int) != (m : Int)) = true := by simp only [bne_iff_ne, ne_eq]; omega
    have Hq := Lib.hid hq; clear hq
    go_enter Tryz.func234, Tryz.ntmps234
    go_wp2
    go_ret
    exact ⟨ret_bool (by unfold patB; rw [decide_eq_false Hq.out]; rfl), Drew.refl _⟩
theorem isDistinctList_rd (n : Int) (v : Value) (l : List Int) (m : Nat) (fp : List Nat) (w : World) (h : Rd w v l fp) (n0 : 0 ≤ n) (n1 : n ≤ 1000) (hm : m ≤ 9223372036854775807) :
    Calls Tryz.prog 234 #[.int .i64 n, v, .int .i64 m] w fun e w' => e = .returned (.bool (patB n m l)) ∧ Drew w w' := by
  obtain ⟨a, cap, rfl, hI⟩ := h.ints
  exact isDistinctList_any n a cap l m fp w hI n0 n1 hm
theorem isPoint_q (n x : Int) (w : World) (n0 : 0 ≤ n) (n1 : n ≤ 1000) :
    Calls Tryz.prog 239 #[.int .i64 n, .int .i64 x] w fun e w' => e = .returned (.bool (inR x 0 (n - 1))) ∧ Drew w w' := by
  go_enter Tryz.func239, Tryz.ntmps239
  go_wp2_with ((go_at_call 66; (with_reducible refine (within_any x 0 (n - 1) _).mono ?_); rintro e w1 ⟨rfl, rfl⟩))
  go_ret
  exact ⟨rfl, Drew.refl _⟩
set_option maxHeartbeats 1000000 in
theorem isTracked_any (n : Int) (a : Option Addr) (cap : Nat) (l : List Int) (fp : List Nat) (w : World) (h : IntsA w a cap l fp) (n0 : 0 ≤ n) (n1 : n ≤ 1000) :
    Calls Tryz.prog 221 #[.int .i64 n, .slice a l.length cap] w fun e w' => e = .returned (.bool (trackB n l)) ∧ Drew w w' := by
  have hb := h.bound
  go_enter Tryz.func221, Tryz.ntmps221
  go_wp2
  go_loopw [9] (fun i wr => ∃ j : Nat, j ≤ l.length ∧ i = .int .i64 j ∧ (∀ x ∈ l.take j, 0 ≤ x ∧ x < n) ∧ (l.take j).Pairwise (· < ·) ∧ Drew w wr)
    (fun i _ => l.length - (intOf i).toNat)
  case atStart => exact ⟨0, Nat.zero_le _, rfl, by simp, by simp, Drew.refl _⟩
  case round =>
    obtain ⟨j, hj, rfl, hr, hn, k, rfl⟩ := hrel
    have Hr := Lib.hid hr; clear hr
    have Hn := Lib.hid hn; clear hn
    by_cases hlt : j < l.length
    · rcases c1 : inR l[j] 0 (n - 1)
      · obtain ⟨b, off, rfl, -, hc⟩ := h.at_ j hlt
        go_wp2_with ((go_at_call 239; (with_reducible refine (isPoint_q n l[j] _ n0 n1).mono ?_); rintro e w1 ⟨rfl, m, rfl⟩))
        go_ret
        exact ⟨ret_bool (by rw [eq_comm]; exact trackB_no fun hp => by have := hp.1 l[j] (List.getElem_mem _); rw [inR_not] at c1; omega), ⟨_, rfl⟩⟩
      have hx := inR_iff.1 c1
      have Hx := Lib.hid hx; clear hx
      rcases Nat.eq_zero_or_pos j with hj0 | hj0
      · subst hj0
        obtain ⟨b, off, rfl, -, hc⟩ := h.at_ 0 hlt
        rw [Nat.add_zero] at hc
        go_wp2_with ((go_at_call 239; (with_reducible refine (isPoint_q n l[0] _ n0 n1).mono ?_); rintro e w1 ⟨rfl, m, rfl⟩))
        go_roundw
        case rel => exact ⟨1, by omega, by go_num, mem_take_step hlt Hr.out (by have := Hx.out; omega), pw_take_step hlt Hn.out (by intro i hi; omega), ⟨_, rfl⟩⟩
        case measure => simp [intOf]; omega
      · obtain ⟨i, rfl⟩ : ∃ i, j = i + 1 := ⟨j - 1, by omega⟩
        have hi : i < l.length := by omega
        have hw := wrap64_pred i (by omega)
        have hgt : decide ((((i + 1 : Nat) : Int)) > 0) = true := decide_eq_true (by omega)
        obtain ⟨b, off, rfl, -, hc⟩ := h.at_ (i + 1) hlt
        obtain ⟨b2, off2, he, -, hc2⟩ := h.at_ i hi
        obtain ⟨rfl, rfl⟩ : b = b2 ∧ off = off2 := by simpa using he
        by_cases c2 : l[i + 1] ≤ l[i]
        · have d2 : decide (l[i] ≥ l[i + 1]) = true := decide_eq_true c2
          have C2 := Lib.hid c2; clear c2
          go_wp2_with ((go_at_call 239; (with_reducible refine (isPoint_q n l[i + 1] _ n0 n1).mono ?_); rintro e w1 ⟨rfl, m, rfl⟩))
          go_ret
          exact ⟨ret_bool (by rw [eq_comm]; exact trackB_no fun hp => pw_take_not hlt (by have := C2.out; omega) hp.2), ⟨_, rfl⟩⟩
        · have d2 : decide (l[i] ≥ l[i + 1]) = false := decide_eq_false c2
          have C2 := Lib.hid c2; clear c2
          go_wp2_with ((go_at_call 239; (with_reducible refine (isPoint_q n l[i + 1] _ n0 n1).mono ?_); rintro e w1 ⟨rfl, m, rfl⟩))
          go_roundw
          case rel => exact ⟨i + 2, by omega, by go_num, mem_take_step hlt Hr.out (by have := Hx.out; omega), pw_take_step hlt Hn.out (by
            intro q hq; have : q = i := (by omega); subst this; have := C2.out; omega), ⟨_, rfl⟩⟩
          case measure => simp [intOf]; omega
    · go_wp2
      go_ret
      refine ⟨ret_bool ?_, ⟨_, rfl⟩⟩
      have h1 := Hr.out; have h2 := Hn.out; rw [List.take_of_length_le (by omega)] at h1 h2
      unfold trackB
      rw [decide_eq_true (show Inc n l from ⟨h1, h2⟩)]; simp
theorem isTracked_rd (n : Int) (v : Value) (l : List Int) (fp : List Nat) (w : World) (h : Rd w v l fp) (n0 : 0 ≤ n) (n1 : n ≤ 1000) :
    Calls Tryz.prog 221 #[.int .i64 n, v] w fun e w' => e = .returned (.bool (trackB n l)) ∧ Drew w w' := by
  obtain ⟨a, cap, rfl, hI⟩ := h.ints
  exact isTracked_any n a cap l fp w hI n0 n1
def wfT (t : Table) : Bool := trackB 20 t.tracked && (inR t.patterns.length 1 3000 && (decide (t.distances.length = t.patterns.length) && (t.patterns.all (patB 20 t.tracked.length) && t.distances.all (fun d => inR d 0 3000))))
theorem wfT_iff {t : Table} : wfT t = true ↔ trackB 20 t.tracked = true ∧ (1 ≤ t.patterns.length ∧ t.patterns.length ≤ 3000) ∧ t.distances.length = t.patterns.length ∧ (∀ x ∈ t.patterns, patB 20 t.tracked.length x = true) ∧ (∀ d ∈ t.distances, inR d 0 3000 = true) := by
  simp [wfT, inR]; omega
theorem wfT_no {t : Table} (h : ¬ (trackB 20 t.tracked = true ∧ (1 ≤ t.patterns.length ∧ t.patterns.length ≤ 3000) ∧ t.distances.length = t.patterns.length ∧ (∀ x ∈ t.patterns, patB 20 t.tracked.length x = true) ∧ (∀ d ∈ t.distances, inR d 0 3000 = true))) : wfT t = false := by
  rw [← Bool.not_eq_true, wfT_iff]; exact h
theorem mem_take_stepR {l : List (List Int)} {j : Nat} (h : j < l.length) {P : List Int → Prop} (h1 : ∀ x ∈ l.take j, P x) (h2 : P l[j]) : ∀ x ∈ l.take (j + 1), P x := by
  rw [take_succ_get l j h]
  intro x hx
  rcases List.mem_append.1 hx with hx | hx
  · exact h1 x hx
  · simp at hx; subst hx; exact h2
end Go.Proofs.YtlcoejncdbkhcaaGreat

namespace PM

/-- the entry of p at x -/
def at_ (p : List Int) (x : Int) : Int := p.getD x.toNat 0
/-- p first, q second -/
def comp (p q : List Int) : List Int := p.map (at_ q)
def inv (p : List Int) : List Int := (pts p.length).map fun y => (p.idxOf y : Int)

/-- a permutation of n points -/
def PN (n : Nat) (p : List Int) : Prop := p.length = n ∧ IsP p

theorem at_nat (p : List Int) (k : Nat) (h : k < p.length) : at_ p (k : Int) = p[k] := by
  simp [at_, h]
theorem at_mem {p : List Int} {x : Int} (h0 : 0 ≤ x) (h : x < p.length) : at_ p x ∈ p := by
  have hx : x.toNat < p.length := by omega
  have : at_ p x = p[x.toNat] := by simp [at_, hx]
  rw [this]; exact List.getElem_mem _
theorem comp_len (p q : List Int) : (comp p q).length = p.length := by simp [comp]
theorem inv_len (p : List Int) : (inv p).length = p.length := by simp [inv, pts_len]
theorem at_comp {p q : List Int} {x : Int} (h0 : 0 ≤ x) (h : x < p.length) : at_ (comp p q) x = at_ q (at_ p x) := by
  have hx : x.toNat < p.length := by omega
  simp [at_, comp, hx]
theorem at_pts {n : Nat} {x : Int} (h0 : 0 ≤ x) (h : x < n) : at_ (pts n) x = x := by
  have hx : x.toNat < (pts n).length := by rw [pts_len]; omega
  have : at_ (pts n) x = (pts n)[x.toNat] := by simp [at_, hx]
  rw [this, pts_get]; omega
/-- lists of one length with the same entries -/
theorem ext_at {p q : List Int} (hl : p.length = q.length) (h : ∀ x : Int, 0 ≤ x → x < p.length → at_ p x = at_ q x) : p = q := by
  apply List.ext_getElem hl
  intro k h1 h2
  have := h k (by omega) (by omega)
  rwa [at_nat p k h1, at_nat q k h2] at this

theorem PN.rng {n : Nat} {p : List Int} (h : PN n p) {x : Int} (h0 : 0 ≤ x) (h1 : x < n) : 0 ≤ at_ p x ∧ at_ p x < n := by
  have := h.2.1 _ (at_mem h0 (by rw [h.1]; exact h1))
  rw [h.1] at this; exact this
theorem nodup_inj {p : List Int} (h : p.Nodup) {i j : Nat} (hi : i < p.length) (hj : j < p.length) (e : p[i] = p[j]) : i = j := by
  have hp := List.pairwise_iff_getElem.1 h
  rcases Nat.lt_trichotomy i j with hl | hl | hl
  · exact absurd e (hp i j hi hj hl)
  · exact hl
  · exact absurd e.symm (hp j i hj hi hl)
theorem PN.inj {n : Nat} {p : List Int} (h : PN n p) {x y : Int} (hx0 : 0 ≤ x) (hx : x < n) (hy0 : 0 ≤ y) (hy : y < n) (he : at_ p x = at_ p y) : x = y := by
  have h1 : x.toNat < p.length := by rw [h.1]; omega
  have h2 : y.toNat < p.length := by rw [h.1]; omega
  have e1 : at_ p x = p[x.toNat] := by simp [at_, h1]
  have e2 : at_ p y = p[y.toNat] := by simp [at_, h2]
  rw [e1, e2] at he
  have := nodup_inj h.2.2 h1 h2 he
  omega
theorem PN.surj {n : Nat} {p : List Int} (h : PN n p) {y : Int} (hy0 : 0 ≤ y) (hy : y < n) : ∃ x : Int, 0 ≤ x ∧ x < n ∧ at_ p x = y := by
  have hm : y ∈ p := h.2.all (mem_pts.2 ⟨hy0, by rw [h.1]; exact hy⟩)
  obtain ⟨k, hk, hk2⟩ := List.getElem_of_mem hm
  refine ⟨k, by omega, by have := h.1; omega, ?_⟩
  rw [at_nat p k hk]; exact hk2
/-- what makes a list a permutation -/
theorem PN.mk' {n : Nat} {p : List Int} (hl : p.length = n) (hr : ∀ x : Int, 0 ≤ x → x < n → 0 ≤ at_ p x ∧ at_ p x < n) (hi : ∀ x y : Int, 0 ≤ x → x < n → 0 ≤ y → y < n → at_ p x = at_ p y → x = y) : PN n p := by
  refine ⟨hl, fun x hx => ?_, ?_⟩
  · obtain ⟨k, hk, rfl⟩ := List.getElem_of_mem hx
    have := hr k (by omega) (by omega)
    rw [at_nat p k hk] at this; rw [hl]; exact this
  · rw [List.nodup_iff_pairwise_ne, List.pairwise_iff_getElem]
    intro i j hi' hj' hij he
    have := hi i j (by omega) (by omega) (by omega) (by omega) (by rw [at_nat p i hi', at_nat p j hj']; exact he)
    omega
theorem PN.id (n : Nat) : PN n (pts n) := PN.mk' (pts_len n) (fun x h0 h1 => by rw [at_pts h0 h1]; exact ⟨h0, h1⟩) (fun x y a b c d e => by rwa [at_pts a b, at_pts c d] at e)
theorem PN.comp {n : Nat} {p q : List Int} (hp : PN n p) (hq : PN n q) : PN n (comp p q) := by
  refine PN.mk' (by rw [comp_len, hp.1]) (fun x h0 h1 => ?_) (fun x y a b c d e => ?_)
  · rw [at_comp h0 (by rw [hp.1]; exact h1)]
    have := hp.rng h0 h1
    exact hq.rng this.1 this.2
  · rw [at_comp a (by rw [hp.1]; exact b), at_comp c (by rw [hp.1]; exact d)] at e
    have h1 := hp.rng a b
    have h2 := hp.rng c d
    exact hp.inj a b c d (hq.inj h1.1 h1.2 h2.1 h2.2 e)
theorem at_inv {n : Nat} {p : List Int} (hp : PN n p) {x : Int} (h0 : 0 ≤ x) (h1 : x < n) : at_ (inv p) (at_ p x) = x := by
  have hr := hp.rng h0 h1
  have hk : x.toNat < p.length := by rw [hp.1]; omega
  have e1 : at_ p x = p[x.toNat] := by simp [at_, hk]
  have e2 : ∀ y : Int, 0 ≤ y → y < n → at_ (inv p) y = (p.idxOf y : Int) := by
    intro y hy0 hy1
    have hy : y.toNat < (pts p.length).length := by rw [pts_len, hp.1]; omega
    have he : (pts p.length)[y.toNat] = y := by rw [pts_get]; omega
    unfold at_ inv
    rw [List.getD_eq_getElem?_getD, List.getElem?_map, List.getElem?_eq_getElem hy, he]
    rfl
  rw [e2 _ hr.1 hr.2, e1]
  have hm : p[x.toNat] ∈ p := List.getElem_mem _
  have hi := List.idxOf_lt_length_of_mem hm
  have hg : p[p.idxOf p[x.toNat]] = p[x.toNat] := by simp
  have := nodup_inj hp.2.2 hi hk hg
  rw [this]; omega
theorem PN.inv {n : Nat} {p : List Int} (hp : PN n p) : PN n (inv p) := by
  refine PN.mk' (by rw [inv_len, hp.1]) (fun x h0 h1 => ?_) (fun x y a b c d e => ?_)
  · obtain ⟨z, hz0, hz1, rfl⟩ := hp.surj h0 h1
    rw [at_inv hp hz0 hz1]; exact ⟨hz0, hz1⟩
  · obtain ⟨z, hz0, hz1, rfl⟩ := hp.surj a b
    obtain ⟨z', hz0', hz1', rfl⟩ := hp.surj c d
    rw [at_inv hp hz0 hz1, at_inv hp hz0' hz1'] at e
    rw [e]
theorem comp_inv {n : Nat} {p : List Int} (hp : PN n p) : comp p (inv p) = pts n := by
  refine ext_at (by rw [comp_len, pts_len, hp.1]) fun x h0 h1 => ?_
  rw [comp_len, hp.1] at h1
  rw [at_comp h0 (by rw [hp.1]; exact h1), at_inv hp h0 h1, at_pts h0 h1]
theorem inv_comp {n : Nat} {p : List Int} (hp : PN n p) : comp (inv p) p = pts n := by
  refine ext_at (by rw [comp_len, pts_len, inv_len, hp.1]) fun x h0 h1 => ?_
  rw [comp_len, inv_len, hp.1] at h1
  obtain ⟨z, hz0, hz1, rfl⟩ := hp.surj h0 h1
  rw [at_comp h0 (by rw [inv_len, hp.1]; exact h1), at_inv hp hz0 hz1, at_pts h0 h1]
theorem comp_id {n : Nat} {p : List Int} (hp : PN n p) : comp p (pts n) = p := by
  refine ext_at (by rw [comp_len]) fun x h0 h1 => ?_
  rw [comp_len, hp.1] at h1
  have := hp.rng h0 h1
  rw [at_comp h0 (by rw [hp.1]; exact h1), at_pts this.1 this.2]
theorem id_comp {n : Nat} {p : List Int} (hp : PN n p) : comp (pts n) p = p := by
  refine ext_at (by rw [comp_len, pts_len, hp.1]) fun x h0 h1 => ?_
  rw [comp_len, pts_len] at h1
  rw [at_comp h0 (by rw [pts_len]; exact h1), at_pts h0 h1]
theorem comp_assoc {n : Nat} {p q r : List Int} (hp : PN n p) (hq : PN n q) : comp (comp p q) r = comp p (comp q r) := by
  refine ext_at (by simp [comp_len]) fun x h0 h1 => ?_
  rw [comp_len, comp_len, hp.1] at h1
  have := hp.rng h0 h1
  rw [at_comp h0 (by rw [comp_len, hp.1]; exact h1), at_comp h0 (by rw [hp.1]; exact h1), at_comp h0 (by rw [hp.1]; exact h1), at_comp this.1 (by rw [hq.1]; exact this.2)]
theorem comp_right_cancel {n : Nat} {p q g : List Int} (hp : PN n p) (hq : PN n q) (hg : PN n g) (h : comp p g = comp q g) : p = q := by
  have h2 : comp (comp p g) (inv g) = comp (comp q g) (inv g) := by rw [h]
  rwa [comp_assoc hp hg, comp_assoc hq hg, comp_inv hg, comp_id hp, comp_id hq] at h2

/-- the group that G generates -/
inductive Grp (n : Nat) (G : List (List Int)) : List Int → Prop
  | id : Grp n G (pts n)
  | mul {p g : List Int} : Grp n G p → g ∈ G → Grp n G (comp p g)
  | div {p g : List Int} : Grp n G p → g ∈ G → Grp n G (comp p (inv g))

section
variable {n : Nat} {G : List (List Int)} (hG : ∀ g ∈ G, PN n g)
include hG
theorem Grp.pn {p : List Int} (h : Grp n G p) : PN n p := by
  induction h with
  | id => exact PN.id n
  | mul _ hg ih => exact ih.comp (hG _ hg)
  | div _ hg ih => exact ih.comp (hG _ hg).inv
theorem Grp.comp {p q : List Int} (hp : Grp n G p) (hq : Grp n G q) : Grp n G (comp p q) := by
  have pp := hp.pn hG
  induction hq with
  | id => rw [comp_id pp]; exact hp
  | mul hq hg ih => rw [← comp_assoc pp (Grp.pn hG hq)]; exact ih.mul hg
  | div hq hg ih => rw [← comp_assoc pp (Grp.pn hG hq)]; exact ih.div hg
theorem Grp.gen {g : List Int} (h : g ∈ G) : Grp n G g := by
  have := (Grp.id (n := n) (G := G)).mul h
  rwa [id_comp (hG g h)] at this
theorem Grp.gen_inv {g : List Int} (h : g ∈ G) : Grp n G (PM.inv g) := by
  have := (Grp.id (n := n) (G := G)).div h
  rwa [id_comp (hG g h).inv] at this
end
theorem inv_of {n : Nat} {p q : List Int} (hp : PN n p) (hq : PN n q) (h : comp p q = pts n) : q = PM.inv p := by
  have : comp (PM.inv p) (comp p q) = comp (PM.inv p) (pts n) := by rw [h]
  rwa [← comp_assoc hp.inv hp, inv_comp hp, id_comp hq, comp_id hp.inv] at this
theorem inv_inv {n : Nat} {p : List Int} (hp : PN n p) : PM.inv (PM.inv p) = p := (inv_of hp.inv hp (inv_comp hp)).symm
theorem inv_comp_eq {n : Nat} {p q : List Int} (hp : PN n p) (hq : PN n q) : PM.inv (comp p q) = comp (PM.inv q) (PM.inv p) := by
  refine (inv_of (hp.comp hq) (hq.inv.comp hp.inv) ?_).symm
  rw [comp_assoc hp hq, ← comp_assoc hq hq.inv, comp_inv hq, id_comp hp.inv, comp_inv hp]
theorem inv_id (n : Nat) : PM.inv (pts n) = pts n := (inv_of (PN.id n) (PN.id n) (comp_id (PN.id n))).symm
theorem Grp.inv {n : Nat} {G : List (List Int)} (hG : ∀ g ∈ G, PN n g) {p : List Int} (hp : Grp n G p) : Grp n G (PM.inv p) := by
  induction hp with
  | id => rw [inv_id]; exact .id
  | mul hq hg ih => rw [inv_comp_eq (Grp.pn hG hq) (hG _ hg)]; exact Grp.comp hG (Grp.gen_inv hG hg) ih
  | div hq hg ih => rw [inv_comp_eq (Grp.pn hG hq) (hG _ hg).inv, inv_inv (hG _ hg)]; exact Grp.comp hG (Grp.gen hG hg) ih
theorem Grp.mono {n : Nat} {G G' : List (List Int)} (hG' : ∀ g ∈ G', PN n g) (h : ∀ g ∈ G, Grp n G' g) {p : List Int} (hp : Grp n G p) : Grp n G' p := by
  induction hp with
  | id => exact .id
  | mul _ hg ih => exact Grp.comp hG' ih (h _ hg)
  | div _ hg ih => exact Grp.comp hG' ih (Grp.inv hG' (h _ hg))

/-- all lists of k entries out of a list -/
def allL (A : List Int) : Nat → List (List Int)
  | 0 => [[]]
  | k + 1 => (allL A k).flatMap fun l => A.map fun x => x :: l
theorem mem_allL {A : List Int} : ∀ (p : List Int), (∀ x ∈ p, x ∈ A) → p ∈ allL A p.length := by
  intro p
  induction p with
  | nil => intro _; simp [allL]
  | cons x p ih =>
    intro h
    have h1 := ih fun y hy => h y (by simp [hy])
    simp only [allL, List.length_cons, List.mem_flatMap, List.mem_map]
    exact ⟨p, h1, x, h x (by simp), rfl⟩
theorem nodup_exists {α : Type} (L : List α) (S : α → Prop) : ∃ L' : List α, L'.Nodup ∧ ∀ x, x ∈ L' ↔ x ∈ L ∧ S x := by
  classical
  induction L with
  | nil => exact ⟨[], List.nodup_nil, by simp⟩
  | cons a L ih =>
    obtain ⟨L', h1, h2⟩ := ih
    by_cases h : a ∈ L' ∨ ¬ S a
    · refine ⟨L', h1, fun x => ?_⟩
      rw [h2 x]
      constructor
      · rintro ⟨a1, a2⟩; exact ⟨by simp [a1], a2⟩
      · rintro ⟨a1, a2⟩
        rcases List.mem_cons.1 a1 with rfl | a1
        · rcases h with h | h
          · exact (h2 x).1 h
          · exact absurd a2 h
        · exact ⟨a1, a2⟩
    · have h' : a ∉ L' ∧ S a := ⟨fun e => h (.inl e), Classical.byContradiction fun e => h (.inr e)⟩
      refine ⟨a :: L', List.nodup_cons.2 ⟨h'.1, h1⟩, fun x => ?_⟩
      simp only [List.mem_cons, h2 x]
      constructor
      · rintro (rfl | ⟨a1, a2⟩)
        · exact ⟨.inl rfl, h'.2⟩
        · exact ⟨.inr a1, a2⟩
      · rintro ⟨rfl | a1, a2⟩
        · exact .inl rfl
        · exact .inr ⟨a1, a2⟩
/-- a set of permutations closed under a factor is closed under its inverse -/
theorem closed_div {n : Nat} {S : List Int → Prop} (hS : ∀ p, S p → PN n p) {g : List Int} (hg : PN n g) (hc : ∀ p, S p → S (comp p g)) : ∀ p, S p → S (comp p (PM.inv g)) := by
  intro p hp
  obtain ⟨L, h1, h2⟩ := nodup_exists (allL (pts n) n) S
  have hin : ∀ q, S q → q ∈ L := fun q hq => (h2 q).2 ⟨by
    have h3 := hS q hq
    have h4 := mem_allL (A := pts n) q (fun x hx => by have := h3.2.1 x hx; rw [h3.1] at this; exact mem_pts.2 this)
    rwa [h3.1] at h4, hq⟩
  have hsub : L.map (fun q => comp q g) ⊆ L := by
    intro x hx
    obtain ⟨q, hq, rfl⟩ := List.mem_map.1 hx
    exact hin _ (hc q ((h2 q).1 hq).2)
  have hnd : (L.map fun q => comp q g).Nodup := by
    refine List.pairwise_map.2 ?_
    refine List.Pairwise.imp_of_mem (R := fun a b => a ≠ b) ?_ h1
    intro a b ha hb hab he
    exact hab (comp_right_cancel (hS a ((h2 a).1 ha).2) (hS b ((h2 b).1 hb).2) hg he)
  have hall := nodup_sub_all hnd hsub (by simp)
  obtain ⟨q, hq, hqe⟩ := List.mem_map.1 (hall (hin p hp))
  have hqS := ((h2 q).1 hq).2
  rw [← hqe, comp_assoc (hS q hqS) hg, comp_inv hg, comp_id (hS q hqS)]
  exact hqS
/-- a set that has the identity and is closed under generators has the group -/
theorem grp_sub {n : Nat} {G : List (List Int)} (hG : ∀ g ∈ G, PN n g) {S : List Int → Prop} (hS : ∀ p, S p → PN n p) (h1 : S (pts n)) (hc : ∀ p g, S p → g ∈ G → S (comp p g)) {p : List Int} (hp : Grp n G p) : S p := by
  induction hp with
  | id => exact h1
  | mul _ hg ih => exact hc _ _ ih hg
  | div _ hg ih => exact closed_div hS (hG _ hg) (fun q hq => hc q _ hq hg) _ ih
end PM

namespace Go.Proofs.YtlcoejncdbkhcaaGreat
open Go.RowKit
set_option maxRecDepth 10000

theorem pts_succ (k : Nat) : PM.pts (k + 1) = PM.pts k ++ [(k : Int)] := by simp [PM.pts, List.range_succ]
theorem pts_map (k : Nat) : (PM.pts k).map (Value.int .i64) = (List.range k).map (fun i : Nat => Value.int .i64 (i : Int)) := by simp [PM.pts]

set_option maxHeartbeats 1000000 in
theorem specIdentity_any (m : Nat) (w : World) (hm : m ≤ 1000) :
    Calls Tryz.prog 72 #[.int .i64 m] w fun e w' => ∃ v fp', e = .returned v ∧ Rd w' v (PM.pts m) fp' ∧ Fresh w.heap.size w' fp' ∧ Only [] w w' := by
  obtain ⟨i0, hi, hz0, hz1, hz2⟩ := info_parts Tryz.info2
  go_enter Tryz.func72, Tryz.ntmps72
  go_wp2
  go_loopw [3, 4] (fun o i wr => ∃ (j : Nat) (fs : List (List Nat)), j ≤ m ∧ i = .int .i64 j ∧ Acc w.heap.size 2 wr o (PM.pts j) fs ∧ Fresh w.heap.size wr fs.flatten ∧ Only [] w wr)
    (fun _ i _ => m - (intOf i).toNat)
  case atStart => exact ⟨0, [], Nat.zero_le _, rfl, Acc.made w w.heap.size _ rfl (Nat.le_refl _), Fresh.nil _ _, (Only.refl _ _).alloc _⟩
  case round =>
    obtain ⟨j, fs, hj, rfl, hA, hF, hK⟩ := hrel
    by_cases hlt : j < m
    · have hsz := hK.size
      have hlj : (PM.pts j).length + 1 ≤ 1073741824 := by rw [PM.pts_len]; omega
      have hI : I64 (j : Int) := by unfold I64; omega
      have HI := Lib.hid hI; clear hI
      go_wp2_with ((at_builtin; refine wpList_pushF rfl _ _ 25 rfl w.heap.size 2 i0 _ 8 Tryz.underlying25 hi hz0 hz1 hz2 rfl (by decide) (by decide) wr _ (PM.pts j) fs rfl hA hF ((Only.refl _ _).alloc _) hsz wr.heap.size 1 [.int .i64 (j : Int)] (j : Int) [] rfl (lit_src wr [.int .i64 (j : Int)] _ rfl) (by intro u hu; simp at hu; subst hu; rfl) (int_rd _ HI.out) (Fresh.nil _ _) hlj w (hK.alloc _) (Nat.le_refl _) ?_; intro v3 w3 hA3 hF3 hK3 _))
      go_roundw
      case rel => exact ⟨j + 1, _, by omega, by go_num, by rw [pts_succ]; exact hA3, hF3, hK3⟩
      case measure => simp [intOf]; omega
    · have hjl : j = m := by omega
      rw [hjl] at hA
      have HA := Lib.hid hA
      clear hjl hA
      go_wp2
      go_ret
      exact ⟨_, _, rfl, HA.out.rd (by decide), HA.out.fresh hF, hK⟩
set_option maxHeartbeats 1000000 in
theorem implIdentity_any (m : Nat) (w : World) (hm : m ≤ 1000) :
    Calls Tryz.prog 78 #[.int .i64 m] w fun e w' => ∃ v fp', e = .returned v ∧ Rd w' v (PM.pts m) fp' ∧ Fresh w.heap.size w' fp' ∧ Only [] w w' := by
  obtain ⟨i0, hi, hz0, hz1, hz2⟩ := info_parts Tryz.info2
  go_enter Tryz.func78, Tryz.ntmps78
  go_wp2_with (at_make; refine wpList_make_full _ rfl _ _ 25 rfl w.heap.size 2 i0 _ 1 Tryz.underlying25 hi hz0 hz1 _ _ _ _ m rfl rfl rfl rfl (by rw [hz2]; omega) (by unfold maxLen; omega) (Nat.le_refl _) ?_; intro w1 hown hg)
  rw [madeInts, Nat.mul_one] at hown
  have hs1 := hg.size
  go_loopw [9] (fun i wr => ∃ j : Nat, j ≤ m ∧ i = .int .i64 j ∧
      wr.ownsRow w.heap.size 2 1 (.slice (some ⟨w.heap.size, 0, none⟩) m m) m ((PM.pts j).map (Value.int .i64) ++ List.replicate (m - j) (.int .i64 0)) ∧ Only [] w wr)
    (fun i _ => m - (intOf i).toNat)
  case atStart => exact ⟨0, Nat.zero_le _, rfl, by simpa [PM.pts] using hown, (Only.refl _ _).grown hg (by simp)⟩
  case round =>
    obtain ⟨j, hj, rfl, hO, hK⟩ := hrel
    have hpl : ((PM.pts j).map (Value.int .i64)).length = j := by rw [List.length_map, PM.pts_len]
    by_cases hlt : j < m
    · obtain ⟨hO2, hg2⟩ := hO.stored j (.int .i64 j)
      have hstep : ((PM.pts j).map (Value.int .i64) ++ List.replicate (m - j) (Value.int .i64 0)).set j (.int .i64 j) = (PM.pts (j + 1)).map (Value.int .i64) ++ List.replicate (m - (j + 1)) (.int .i64 0) := by
        rw [show m - j = (m - (j + 1)) + 1 by omega, List.replicate_succ, List.set_append_right _ _ (by omega), hpl, Nat.sub_self, pts_succ]
        simp
      rw [hstep] at hO2
      have hc2 : wr.cell? ⟨w.heap.size, j, none⟩ = some (.int .i64 0) := by
        rw [hO.cellAt j (by omega), List.getElem?_append_right (by omega), List.getElem?_replicate, if_pos (by omega)]
      have hf2 := hO.frozenAt j
      have hK2 := hK.setCell (p := ⟨w.heap.size, j, none⟩) (by simp) (.int .i64 j)
      have HO := Lib.hid hO2
      clear hO hO2 hg hg2 hown hstep hpl
      go_wp2
      go_roundw
      case rel => exact ⟨j + 1, by omega, by go_num, HO.out, hK2⟩
      case measure => simp [intOf]; omega
    · have hjl : j = m := by omega
      rw [hjl] at hO
      simp only [Nat.sub_self, List.replicate_zero, List.append_nil] at hO
      have hw : ∀ x ∈ PM.pts m, I64 x := fun x hx => by have := PM.mem_pts.1 hx; unfold I64; omega
      have hO' : wr.ownsRow w.heap.size 2 1 (.slice (some ⟨w.heap.size, 0, none⟩) m m) (PM.pts m).length ((PM.pts m).map (Value.int .i64)) := by rw [PM.pts_len]; exact hO
      obtain ⟨a', cap', hv, -, hI, hF⟩ := own_ints hO' hw
      have HI := Lib.hid hI
      have Hv := Lib.hid hv
      clear hjl hO hO' hv hown hI hpl hw
      go_wp2
      go_ret
      refine ⟨_, _, rfl, ?_, hF, hK⟩
      have hr := HI.out.rd
      rw [← Hv.out] at hr; exact hr
theorem specIdentity_i (n : Int) (w : World) (h0 : 0 ≤ n) (h1 : n ≤ 1000) :
    Calls Tryz.prog 72 #[.int .i64 n] w fun e w' => ∃ v fp', e = .returned v ∧ Rd w' v (PM.pts n.toNat) fp' ∧ Fresh w.heap.size w' fp' ∧ Only [] w w' := by
  obtain ⟨m, rfl⟩ := Int.eq_ofNat_of_zero_le h0
  exact specIdentity_any m w (by omega)
theorem implIdentity_i (n : Int) (w : World) (h0 : 0 ≤ n) (h1 : n ≤ 1000) :
    Calls Tryz.prog 78 #[.int .i64 n] w fun e w' => ∃ v fp', e = .returned v ∧ Rd w' v (PM.pts n.toNat) fp' ∧ Fresh w.heap.size w' fp' ∧ Only [] w w' := by
  obtain ⟨m, rfl⟩ := Int.eq_ofNat_of_zero_le h0
  exact implIdentity_any m w (by omega)
end Go.Proofs.YtlcoejncdbkhcaaGreat
