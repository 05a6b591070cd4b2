/- FillJob: plain data, how it lies in memory, the laws' own helpers on it. (Printed by gen_struct.py.) Laws on append and make over rows of the call's own, whatever the source (nil, empty or not). Ranges, words: the program's and the reference's tests on them. A slice that a loop appends to: its value, the elements so far, the memory they reach. Small values in memory: the empty slice, a literal of one element, a number; slices.Clone. Plain facts on permutations as lists of numbers. -/
import Derived.Test.YtkhdmiemfpelcaaGreatRowCrashFillG2
import Derived.Test.YtkhdmiemfpelcaaGreatRowCrashFillG1
import Derived.Maps.AppendAt
import Derived.Lib.SlBytesConst
namespace Go.Proofs.YtkhdmiemfpelcaaGreat
open Go.RowKit
set_option maxRecDepth 10000

structure FillJob where
  table : Table
  next : Int
  log : ByteArray
  synced : Int

instance : Rp FillJob where
  size := 6
  rep w cs x fp := ∃ c0, cs = c0 ++ [Value.int .i64 x.next] ++ [Value.string x.log] ++ [Value.int .i64 x.synced] ∧ I64 x.next ∧ x.log.size ≤ maxLen ∧ I64 x.synced ∧ Rp.rep w c0 x.table fp
  len h := by
    obtain ⟨c0, rfl, p1, p2, p3, h0⟩ := h
    simp [Rp.len h0, Rp.size]
  frame h hf := by
    obtain ⟨c0, hcs, p1, p2, p3, h0⟩ := h
    exact ⟨c0, hcs, p1, p2, p3, Rp.frame h0 fun b hb => hf b (by simp [hb])⟩
  lt h := by
    obtain ⟨c0, hcs, p1, p2, p3, h0⟩ := h
    intro b hb
    exact Rp.lt h0 b hb

instance : Mk FillJob where
  mark k x := ⟨Mk.mark (k) x.table, x.next, x.log, x.synced⟩
  cnt x := Mk.cnt x.table
instance : Sz FillJob where
  sz x := Sz.sz x.table + x.log.size
instance : Sm FillJob where
  sm x := Sm.sm x.table
instance : SzSm FillJob := ⟨fun x h => by
  have h' : Sz.sz x.table + x.log.size ≤ 2097152 := h
  exact SzSm.of_ x.table (by omega)⟩
instance : CntSz FillJob := ⟨fun x => by
  have h' : Mk.cnt x.table ≤ Sz.sz x.table + x.log.size := by have := CntSz.le x.table; omega
  exact h'⟩
instance : MkL FillJob := ⟨fun k x => by simp [Mk.mark, Mk.cnt, markL_idem, markL_cnt], fun k x => by simp [Mk.mark, Mk.cnt, markL_cnt]⟩
theorem FillJob.eq_iff {x y : FillJob} : x = y ↔ x.table = y.table ∧ x.next = y.next ∧ x.log = y.log ∧ x.synced = y.synced := by
  cases x; cases y; simp

set_option maxHeartbeats 1000000 in
theorem eqFillJob_any (cs cs' : List Value) (x y : FillJob) (fp fp' : List Nat) (w : World) (h : Rp.rep w cs x fp) (h' : Rp.rep w cs' y fp') :
    Calls Tryz.prog 10 #[.agg cs.toArray, .agg cs'.toArray] w fun e w' => e = .returned (.bool (eqV x y)) ∧ Only [] w w' := by
  obtain ⟨c0, rfl, p1, p2, p3, h0⟩ := h
  have q0 := h0
  obtain ⟨a00, a01, a02, _, _, _, rfl, -, -, -, -⟩ := q0
  obtain ⟨c0', rfl, p1', p2', p3', h0'⟩ := h'
  have q0' := h0'
  obtain ⟨a00', a01', a02', _, _, _, rfl, -, -, -, -⟩ := q0'
  rcases q0 : eqV x.table y.table
  · go_enter Tryz.func10, Tryz.ntmps10
    go_wp2_with (first | (go_at_call 26; (with_reducible refine (eqTable_any [a00, a01, a02] [a00', a01', a02'] x.table y.table _ _ _ (Rp.keep h0 (by with_reducible repeat (first | exact Only.refl _ _ | assumption | refine Only.drewN ?_ _ | refine Only.drew ?_ | refine Only.alloc ?_ _ | refine Only.setCell ?_ (by intro hh; exfalso; simp at hh; try omega) _ | refine Only.trans ?_ (by assumption)))) (Rp.keep h0' (by with_reducible repeat (first | exact Only.refl _ _ | assumption | refine Only.drewN ?_ _ | refine Only.drew ?_ | refine Only.alloc ?_ _ | refine Only.setCell ?_ (by intro hh; exfalso; simp at hh; try omega) _ | refine Only.trans ?_ (by assumption))))).mono ?_); rintro e w0 ⟨rfl, hk0⟩; have y00 := hk0.cells_eq w.heap.size (by first | omega | (simp; done) | (simp; omega)) (by simp); have y01 := hk0.cells_eq (w.heap.size + 1) (by first | omega | (simp; done) | (simp; omega)) (by simp); have s0 : w.heap.size + 1 < w0.heap.size := (by have := hk0.size; first | omega | (simp at this; omega))))
    go_ret
    exact ⟨ret_bool (eqV_no (fun he => (eqV_iff'.1 q0) (FillJob.eq_iff.1 he).1)).symm, (by with_reducible repeat (first | exact Only.refl _ _ | assumption | refine Only.drewN ?_ _ | refine Only.drew ?_ | refine Only.alloc ?_ _ | refine Only.setCell ?_ (by intro hh; exfalso; simp at hh; try omega) _ | refine Only.trans ?_ (by assumption)))⟩
  by_cases q1 : x.next ≠ y.next
  · have b1 : (x.next != y.next) = true := by simpa using q1
    go_enter Tryz.func10, Tryz.ntmps10
    go_wp2_with (first | (go_at_call 26; (with_reducible refine (eqTable_any [a00, a01, a02] [a00', a01', a02'] x.table y.table _ _ _ (Rp.keep h0 (by with_reducible repeat (first | exact Only.refl _ _ | assumption | refine Only.drewN ?_ _ | refine Only.drew ?_ | refine Only.alloc ?_ _ | refine Only.setCell ?_ (by intro hh; exfalso; simp at hh; try omega) _ | refine Only.trans ?_ (by assumption)))) (Rp.keep h0' (by with_reducible repeat (first | exact Only.refl _ _ | assumption | refine Only.drewN ?_ _ | refine Only.drew ?_ | refine Only.alloc ?_ _ | refine Only.setCell ?_ (by intro hh; exfalso; simp at hh; try omega) _ | refine Only.trans ?_ (by assumption))))).mono ?_); rintro e w0 ⟨rfl, hk0⟩; have y00 := hk0.cells_eq w.heap.size (by first | omega | (simp; done) | (simp; omega)) (by simp); have y01 := hk0.cells_eq (w.heap.size + 1) (by first | omega | (simp; done) | (simp; omega)) (by simp); have s0 : w.heap.size + 1 < w0.heap.size := (by have := hk0.size; first | omega | (simp at this; omega))))
    go_ret
    exact ⟨ret_bool (eqV_no (fun he => q1 (FillJob.eq_iff.1 he).2.1)).symm, (by with_reducible repeat (first | exact Only.refl _ _ | assumption | refine Only.drewN ?_ _ | refine Only.drew ?_ | refine Only.alloc ?_ _ | refine Only.setCell ?_ (by intro hh; exfalso; simp at hh; try omega) _ | refine Only.trans ?_ (by assumption)))⟩
  have q1 : x.next = y.next := Classical.not_not.1 q1
  have b1 : (x.next != y.next) = false := by simpa using q1
  have Q1 := Lib.hid q1
  clear q1
  by_cases q2 : x.log ≠ y.log
  · have b2 := str_ne q2
    go_enter Tryz.func10, Tryz.ntmps10
    go_wp2_with (first | (go_at_call 26; (with_reducible refine (eqTable_any [a00, a01, a02] [a00', a01', a02'] x.table y.table _ _ _ (Rp.keep h0 (by with_reducible repeat (first | exact Only.refl _ _ | assumption | refine Only.drewN ?_ _ | refine Only.drew ?_ | refine Only.alloc ?_ _ | refine Only.setCell ?_ (by intro hh; exfalso; simp at hh; try omega) _ | refine Only.trans ?_ (by assumption)))) (Rp.keep h0' (by with_reducible repeat (first | exact Only.refl _ _ | assumption | refine Only.drewN ?_ _ | refine Only.drew ?_ | refine Only.alloc ?_ _ | refine Only.setCell ?_ (by intro hh; exfalso; simp at hh; try omega) _ | refine Only.trans ?_ (by assumption))))).mono ?_); rintro e w0 ⟨rfl, hk0⟩; have y00 := hk0.cells_eq w.heap.size (by first | omega | (simp; done) | (simp; omega)) (by simp); have y01 := hk0.cells_eq (w.heap.size + 1) (by first | omega | (simp; done) | (simp; omega)) (by simp); have s0 : w.heap.size + 1 < w0.heap.size := (by have := hk0.size; first | omega | (simp at this; omega))))
    go_ret
    exact ⟨ret_bool (eqV_no (fun he => q2 (FillJob.eq_iff.1 he).2.2.1)).symm, (by with_reducible repeat (first | exact Only.refl _ _ | assumption | refine Only.drewN ?_ _ | refine Only.drew ?_ | refine Only.alloc ?_ _ | refine Only.setCell ?_ (by intro hh; exfalso; simp at hh; try omega) _ | refine Only.trans ?_ (by assumption)))⟩
  have q2 : x.log = y.log := Classical.not_not.1 q2
  have b2 := str_eq q2
  have Q2 := Lib.hid q2
  clear q2
  by_cases q3 : x.synced ≠ y.synced
  · have b3 : (x.synced != y.synced) = true := by simpa using q3
    go_enter Tryz.func10, Tryz.ntmps10
    go_wp2_with (first | (go_at_call 26; (with_reducible refine (eqTable_any [a00, a01, a02] [a00', a01', a02'] x.table y.table _ _ _ (Rp.keep h0 (by with_reducible repeat (first | exact Only.refl _ _ | assumption | refine Only.drewN ?_ _ | refine Only.drew ?_ | refine Only.alloc ?_ _ | refine Only.setCell ?_ (by intro hh; exfalso; simp at hh; try omega) _ | refine Only.trans ?_ (by assumption)))) (Rp.keep h0' (by with_reducible repeat (first | exact Only.refl _ _ | assumption | refine Only.drewN ?_ _ | refine Only.drew ?_ | refine Only.alloc ?_ _ | refine Only.setCell ?_ (by intro hh; exfalso; simp at hh; try omega) _ | refine Only.trans ?_ (by assumption))))).mono ?_); rintro e w0 ⟨rfl, hk0⟩; have y00 := hk0.cells_eq w.heap.size (by first | omega | (simp; done) | (simp; omega)) (by simp); have y01 := hk0.cells_eq (w.heap.size + 1) (by first | omega | (simp; done) | (simp; omega)) (by simp); have s0 : w.heap.size + 1 < w0.heap.size := (by have := hk0.size; first | omega | (simp at this; omega))))
    go_ret
    exact ⟨ret_bool (eqV_no (fun he => q3 (FillJob.eq_iff.1 he).2.2.2)).symm, (by with_reducible repeat (first | exact Only.refl _ _ | assumption | refine Only.drewN ?_ _ | refine Only.drew ?_ | refine Only.alloc ?_ _ | refine Only.setCell ?_ (by intro hh; exfalso; simp at hh; try omega) _ | refine Only.trans ?_ (by assumption)))⟩
  have q3 : x.synced = y.synced := Classical.not_not.1 q3
  have b3 : (x.synced != y.synced) = false := by simpa using q3
  have Q3 := Lib.hid q3
  clear q3
  go_enter Tryz.func10, Tryz.ntmps10
  go_wp2_with (first | (go_at_call 26; (with_reducible refine (eqTable_any [a00, a01, a02] [a00', a01', a02'] x.table y.table _ _ _ (Rp.keep h0 (by with_reducible repeat (first | exact Only.refl _ _ | assumption | refine Only.drewN ?_ _ | refine Only.drew ?_ | refine Only.alloc ?_ _ | refine Only.setCell ?_ (by intro hh; exfalso; simp at hh; try omega) _ | refine Only.trans ?_ (by assumption)))) (Rp.keep h0' (by with_reducible repeat (first | exact Only.refl _ _ | assumption | refine Only.drewN ?_ _ | refine Only.drew ?_ | refine Only.alloc ?_ _ | refine Only.setCell ?_ (by intro hh; exfalso; simp at hh; try omega) _ | refine Only.trans ?_ (by assumption))))).mono ?_); rintro e w0 ⟨rfl, hk0⟩; have y00 := hk0.cells_eq w.heap.size (by first | omega | (simp; done) | (simp; omega)) (by simp); have y01 := hk0.cells_eq (w.heap.size + 1) (by first | omega | (simp; done) | (simp; omega)) (by simp); have s0 : w.heap.size + 1 < w0.heap.size := (by have := hk0.size; first | omega | (simp at this; omega))))
  go_ret
  exact ⟨ret_bool (eqV_yes (FillJob.eq_iff.2 ⟨eqV_iff.1 q0, Q1.out, Q2.out, Q3.out⟩)).symm, (by with_reducible repeat (first | exact Only.refl _ _ | assumption | refine Only.drewN ?_ _ | refine Only.drew ?_ | refine Only.alloc ?_ _ | refine Only.setCell ?_ (by intro hh; exfalso; simp at hh; try omega) _ | refine Only.trans ?_ (by assumption)))⟩

set_option maxHeartbeats 1000000 in
theorem heldFillJob_any (cs : List Value) (x : FillJob) (fp : List Nat) (k : Int) (w : World) (h : Rp.rep w cs x fp) (h0 : 0 ≤ k) (hc : k + (Mk.cnt x : Nat) ≤ 4611686018427387904) :
    Calls Tryz.prog 14 #[.agg cs.toArray, .int .i64 k] w fun e w' => e = .returned (.int .i64 (heldV k x)) ∧ Only [] w w' := by
  obtain ⟨c0, rfl, p1, p2, p3, h0⟩ := h
  have q0 := h0
  obtain ⟨a00, a01, a02, _, _, _, rfl, -, -, -, -⟩ := q0
  have hcc : Mk.cnt x = Mk.cnt x.table := rfl
  have Hcc := Lib.hid hcc; clear hcc
  have hb0 : k + (Mk.cnt x.table : Nat) ≤ 4611686018427387904 := by have := Hcc.out; omega
  have hiff : x = Mk.mark k x ↔ x.table = Mk.mark (k) x.table := by
    rw [FillJob.eq_iff]; simp [Mk.mark]
  have Hiff := Lib.hid hiff; clear hiff
  rcases heldV_pos (k) x.table with ⟨e0, m0⟩ | ⟨e0, m0⟩
  · have M0 := Lib.hid m0; clear m0
    go_enter Tryz.func14, Tryz.ntmps14
    go_wp2_with (first | (go_at_call 30; (with_reducible refine (heldTable_any [a00, a01, a02] x.table _ (k) _ (Rp.keep h0 (by with_reducible repeat (first | exact Only.refl _ _ | assumption | refine Only.drewN ?_ _ | refine Only.drew ?_ | refine Only.alloc ?_ _ | refine Only.setCell ?_ (by intro hh; exfalso; simp at hh; try omega) _ | refine Only.trans ?_ (by assumption)))) (by omega) hb0).mono ?_); rintro e w0 ⟨rfl, hk0⟩))
    go_ret
    exact ⟨ret_int (heldV_no (fun he => M0.out (Hiff.out.1 he))).symm, (by with_reducible repeat (first | exact Only.refl _ _ | assumption | refine Only.drewN ?_ _ | refine Only.drew ?_ | refine Only.alloc ?_ _ | refine Only.setCell ?_ (by intro hh; exfalso; simp at hh; try omega) _ | refine Only.trans ?_ (by assumption)))⟩
  have M0 := Lib.hid m0; clear m0
  go_enter Tryz.func14, Tryz.ntmps14
  go_wp2_with (first | (go_at_call 30; (with_reducible refine (heldTable_any [a00, a01, a02] x.table _ (k) _ (Rp.keep h0 (by with_reducible repeat (first | exact Only.refl _ _ | assumption | refine Only.drewN ?_ _ | refine Only.drew ?_ | refine Only.alloc ?_ _ | refine Only.setCell ?_ (by intro hh; exfalso; simp at hh; try omega) _ | refine Only.trans ?_ (by assumption)))) (by omega) hb0).mono ?_); rintro e w0 ⟨rfl, hk0⟩))
  go_ret
  exact ⟨ret_int (by rw [heldV_yes (Hiff.out.2 M0.out)]; have := Hcc.out; omega), (by with_reducible repeat (first | exact Only.refl _ _ | assumption | refine Only.drewN ?_ _ | refine Only.drew ?_ | refine Only.alloc ?_ _ | refine Only.setCell ?_ (by intro hh; exfalso; simp at hh; try omega) _ | refine Only.trans ?_ (by assumption)))⟩

set_option maxHeartbeats 1000000 in
theorem szFillJob_any (cs : List Value) (x : FillJob) (fp : List Nat) (k : Int) (w : World) (h : Rp.rep w cs x fp) (h0 : 0 ≤ k) (h1 : k ≤ 2147483648) :
    Calls Tryz.prog 5 #[.agg cs.toArray, .int .i64 k] w fun e w' => e = .returned (.int .i64 (szV k x)) ∧ Only [] w w' := by
  obtain ⟨c0, rfl, p1, p2, p3, h0⟩ := h
  have q0 := h0
  obtain ⟨a00, a01, a02, _, _, _, rfl, -, -, -, -⟩ := q0
  have hcc : Sz.sz x = Sz.sz x.table + x.log.size := rfl
  have Hcc := Lib.hid hcc; clear hcc
  have hm2 := p2
  unfold maxLen at hm2
  rcases szV_cases (k) x.table with ⟨e0, m0⟩ | ⟨e0, r0, m0⟩
  · go_enter Tryz.func5, Tryz.ntmps5
    go_wp2_with (first | (go_at_call 16; (with_reducible refine (szTable_any [a00, a01, a02] x.table _ (k) _ (Rp.keep h0 (by with_reducible repeat (first | exact Only.refl _ _ | assumption | refine Only.drewN ?_ _ | refine Only.drew ?_ | refine Only.alloc ?_ _ | refine Only.setCell ?_ (by intro hh; exfalso; simp at hh; try omega) _ | refine Only.trans ?_ (by assumption)))) (by omega) (by omega)).mono ?_); rintro e w0 ⟨rfl, hk0⟩; have y00 := hk0.cells_eq w.heap.size (by first | omega | (simp; done) | (simp; omega)) (by simp); have s0 : w.heap.size + 0 < w0.heap.size := (by have := hk0.size; first | omega | (simp at this; omega))))
    go_ret
    exact ⟨ret_int (szV_no (by have := Hcc.out; omega)).symm, (by with_reducible repeat (first | exact Only.refl _ _ | assumption | refine Only.drewN ?_ _ | refine Only.drew ?_ | refine Only.alloc ?_ _ | refine Only.setCell ?_ (by intro hh; exfalso; simp at hh; try omega) _ | refine Only.trans ?_ (by assumption)))⟩
  by_cases e2 : k - (Sz.sz x.table : Nat) - (x.log.size : Nat) < 0
  · go_enter Tryz.func5, Tryz.ntmps5
    go_wp2_with (first | (go_at_call 16; (with_reducible refine (szTable_any [a00, a01, a02] x.table _ (k) _ (Rp.keep h0 (by with_reducible repeat (first | exact Only.refl _ _ | assumption | refine Only.drewN ?_ _ | refine Only.drew ?_ | refine Only.alloc ?_ _ | refine Only.setCell ?_ (by intro hh; exfalso; simp at hh; try omega) _ | refine Only.trans ?_ (by assumption)))) (by omega) (by omega)).mono ?_); rintro e w0 ⟨rfl, hk0⟩; have y00 := hk0.cells_eq w.heap.size (by first | omega | (simp; done) | (simp; omega)) (by simp); have s0 : w.heap.size + 0 < w0.heap.size := (by have := hk0.size; first | omega | (simp at this; omega))))
    go_ret
    exact ⟨ret_int (szV_no (by have := Hcc.out; omega)).symm, (by with_reducible repeat (first | exact Only.refl _ _ | assumption | refine Only.drewN ?_ _ | refine Only.drew ?_ | refine Only.alloc ?_ _ | refine Only.setCell ?_ (by intro hh; exfalso; simp at hh; try omega) _ | refine Only.trans ?_ (by assumption)))⟩
  go_enter Tryz.func5, Tryz.ntmps5
  go_wp2_with (first | (go_at_call 16; (with_reducible refine (szTable_any [a00, a01, a02] x.table _ (k) _ (Rp.keep h0 (by with_reducible repeat (first | exact Only.refl _ _ | assumption | refine Only.drewN ?_ _ | refine Only.drew ?_ | refine Only.alloc ?_ _ | refine Only.setCell ?_ (by intro hh; exfalso; simp at hh; try omega) _ | refine Only.trans ?_ (by assumption)))) (by omega) (by omega)).mono ?_); rintro e w0 ⟨rfl, hk0⟩; have y00 := hk0.cells_eq w.heap.size (by first | omega | (simp; done) | (simp; omega)) (by simp); have s0 : w.heap.size + 0 < w0.heap.size := (by have := hk0.size; first | omega | (simp at this; omega))))
  go_ret
  exact ⟨ret_int (by rw [szV_yes (by have := Hcc.out; omega)]; have := Hcc.out; omega), (by with_reducible repeat (first | exact Only.refl _ _ | assumption | refine Only.drewN ?_ _ | refine Only.drew ?_ | refine Only.alloc ?_ _ | refine Only.setCell ?_ (by intro hh; exfalso; simp at hh; try omega) _ | refine Only.trans ?_ (by assumption)))⟩

set_option maxHeartbeats 1000000 in
theorem markFillJob_any (cs : List Value) (x : FillJob) (fp : List Nat) (k : Int) (w : World) (h : Rp.rep w cs x fp) (hnd : fp.Nodup) (ho : Own w fp) (h0 : 0 ≤ k) (hc : k + (Mk.cnt x : Nat) ≤ 4611686018427387904) :
    Calls Tryz.prog 13 #[.agg cs.toArray, .int .i64 k] w fun e w' => e = .returned (.int .i64 (k + (Mk.cnt x : Nat))) ∧ Rp.rep w' cs (Mk.mark k x) fp ∧ Own w' fp ∧ Only fp w w' := by
  obtain ⟨c0, rfl, p1, p2, p3, h0⟩ := h
  have q0 := h0
  obtain ⟨a00, a01, a02, _, _, _, rfl, -, -, -, -⟩ := q0
  have hcc : Mk.cnt x = Mk.cnt x.table := rfl
  have Hcc := Lib.hid hcc; clear hcc
  have hb0 : k + (Mk.cnt x.table : Nat) ≤ 4611686018427387904 := by have := Hcc.out; omega
  have n0 := hnd
  have l0 := Rp.lt h0
  go_enter Tryz.func13, Tryz.ntmps13
  go_wp2_with (first | (go_at_call 29; (with_reducible refine (markTable_any [a00, a01, a02] x.table fp (k) _ (Rp.keep h0 (by with_reducible repeat (first | exact Only.refl _ _ | assumption | refine Only.drewN ?_ _ | refine Only.drew ?_ | refine Only.alloc ?_ _ | refine Only.setCell ?_ (by intro hh; exfalso; simp at hh; try omega) _ | refine Only.trans ?_ (by assumption)))) n0 (ho.keep (by with_reducible repeat (first | exact Only.refl _ _ | assumption | refine Only.drewN ?_ _ | refine Only.drew ?_ | refine Only.alloc ?_ _ | refine Only.setCell ?_ (by intro hh; exfalso; simp at hh; try omega) _ | refine Only.trans ?_ (by assumption)))) (by omega) hb0).mono ?_); rintro e w0 ⟨rfl, r0, o0, t0⟩; have s0 : w.heap.size < w0.heap.size := (Nat.lt_of_lt_of_le (by simp) t0.size); have q0 := t0.cells_eq w.heap.size (by simp) (fun hm => absurd (l0 _ hm) (by omega))))
  go_ret
  have hk0 : Only [] w (w.alloc (.cells ([a00, a01, a02] ++ [Value.int .i64 x.next] ++ [Value.string x.log] ++ [Value.int .i64 x.synced]).toArray 34)) := (by with_reducible repeat (first | exact Only.refl _ _ | assumption | refine Only.drewN ?_ _ | refine Only.drew ?_ | refine Only.alloc ?_ _ | refine Only.setCell ?_ (by intro hh; exfalso; simp at hh; try omega) _ | refine Only.trans ?_ (by assumption)))
  exact ⟨ret_int (by have := Hcc.out; omega), ⟨[a00, a01, a02], rfl, p1, p2, p3, r0⟩, o0, (hk0.weaken _).trans t0⟩

set_option maxHeartbeats 1000000 in
theorem toFillJob_any (cs : List Value) (x : FillJob) (fp : List Nat) (w : World) (h : Rp.rep w cs x fp) (hsm : Sm.sm x) :
    Calls Tryz.prog 8 #[.agg cs.toArray] w fun e w' => ∃ cs' fp', e = .returned (.agg cs'.toArray) ∧ Rp.rep w' cs' x fp' ∧ Fresh w.heap.size w' fp' ∧ Only [] w w' := by
  obtain ⟨c0, rfl, p1, p2, p3, h0⟩ := h
  have q0 := h0
  obtain ⟨a00, a01, a02, _, _, _, rfl, -, -, -, -⟩ := q0
  have g0 : Sm.sm x.table := hsm
  go_enter Tryz.func8, Tryz.ntmps8
  go_wp2_with (first | (go_at_call 22; (with_reducible refine (toTable_any [a00, a01, a02] x.table _ _ (Rp.keep h0 (by with_reducible repeat (first | exact Only.refl _ _ | assumption | refine Only.drewN ?_ _ | refine Only.drew ?_ | refine Only.alloc ?_ _ | refine Only.setCell ?_ (by intro hh; exfalso; simp at hh; try omega) _ | refine Only.trans ?_ (by assumption)))) g0).mono ?_); rintro e w0 ⟨u0, fz0, rfl, r0, F0, t0⟩; have k0 := r0; obtain ⟨b00, b01, b02, _, _, _, rfl, -, kk0, kk1, kk2⟩ := k0; obtain ⟨D0, E0, _, _, rfl, -⟩ := kk0.open_; obtain ⟨D1, E1, _, _, rfl, -⟩ := kk1.open_; obtain ⟨D2, E2, _, _, rfl, -⟩ := kk2.open_; have s0 : w.heap.size + 1 + 1 < w0.heap.size := (by have := t0.size; simp at this; omega); have y00 := t0.cells_eq w.heap.size (by simp; try omega) (by simp); have z00 := t0.frozen_eq w.heap.size (by simp; try omega) (by simp); have y01 := t0.cells_eq (w.heap.size + 1) (by simp; try omega) (by simp); have z01 := t0.frozen_eq (w.heap.size + 1) (by simp; try omega) (by simp); have y02 := t0.cells_eq (w.heap.size + 1 + 1) (by simp; try omega) (by simp); have z02 := t0.frozen_eq (w.heap.size + 1 + 1) (by simp; try omega) (by simp)))
  have T0 := t0.size
  simp at T0
  refine bodyPost_ret (v := .agg #[.slice D0 x.table.tracked.length E0, .slice D1 x.table.patterns.length E1, .slice D2 x.table.distances.length E2, .int .i64 x.next, .string x.log, .int .i64 x.synced]) (by simp [results, Tryz.results8, go_sem, y01]) rfl ⟨[.slice D0 x.table.tracked.length E0, .slice D1 x.table.patterns.length E1, .slice D2 x.table.distances.length E2, .int .i64 x.next, .string x.log, .int .i64 x.synced], _, rfl, ⟨[.slice D0 x.table.tracked.length E0, .slice D1 x.table.patterns.length E1, .slice D2 x.table.distances.length E2], rfl, p1, p2, p3, Rp.only (fp' := [w.heap.size + 1, w.heap.size + 1 + 1]) r0 (by with_reducible repeat (first | exact Only.refl _ _ | assumption | refine Only.drewN ?_ _ | refine Only.drew ?_ | refine Only.alloc ?_ _ | refine Only.setCell ?_ (by intro _; simp) _ | refine Only.trans ?_ (Only.weaken (by assumption) _))) (fun b hb hm => by have := F0.ge b hb; simp at hm this; omega)⟩, Fresh.mono (F0.only (fp' := [w.heap.size + 1, w.heap.size + 1 + 1]) (by with_reducible repeat (first | exact Only.refl _ _ | assumption | refine Only.drewN ?_ _ | refine Only.drew ?_ | refine Only.alloc ?_ _ | refine Only.setCell ?_ (by intro _; simp) _ | refine Only.trans ?_ (Only.weaken (by assumption) _))) (fun b hb hm => by have := F0.ge b hb; simp at hm this; omega)) (by simp; try omega), (by with_reducible repeat (first | exact Only.refl _ _ | assumption | refine Only.drewN ?_ _ | refine Only.drew ?_ | refine Only.alloc ?_ _ | refine Only.setCell ?_ (by intro hh; exfalso; simp at hh; try omega) _ | refine Only.trans ?_ (by assumption)))⟩

end Go.Proofs.YtkhdmiemfpelcaaGreat

namespace Go.Proofs.YtkhdmiemfpelcaaGreat
open Go.RowKit
set_option maxRecDepth 10000

section
variable {P : Program} (w : World)
theorem run_app_none (base : Nat) (t ty e : TypeId) (i : TypeInfo) (size : Nat) (ht : P.underlying t = some (.slice e)) (hi : P.info? e = some i)
    (v : Value) (n : Nat) (xs : List Value) (hown : w.ownsRow base e size v n xs) (c : Nat) : (Builtin.append_ #[t, t] ty #[v, .slice none 0 c]).run P w = .ok v w := by
  rcases hown.2 with ⟨rfl, rfl⟩ | ⟨g, cap, cur, rfl, _, _, hnc, _⟩
  · simp [Builtin.append_, run_underlying ht, sizeOf, typeInfo, hi, Builtin.lenOf, Builtin.firstCells]
  · simp [Builtin.append_, run_underlying ht, sizeOf, typeInfo, hi, Builtin.lenOf, Builtin.firstCells, hnc, storeCells]

theorem run_app (base : Nat) (t ty e : TypeId) (i : TypeInfo) (z : Value) (size bytes : Nat) (ht : P.underlying t = some (.slice e)) (hi : P.info? e = some i) (hz : i.zero = some z)
    (hsize : i.size = size) (hby : i.bytes = bytes) (hzs : z.cells.size = size) (hsz : 0 < size)
    (v : Value) (n : Nat) (xs : List Value) (hown : w.ownsRow base e size v n xs)
    (A : Option Addr) (m c : Nat) (news : List Value) (hl : news.length = m * size) (hsrc : ∀ ad, A = some ad → ∀ j u, news[j]? = some u → w.cell? (ad.add j) = some u) (hA : A = none → m = 0) (h1 : ∀ u ∈ news, u.oneCell' = true)
    (h63 : n + m ≤ maxLen) (hbytes : (n + m) * bytes ≤ 140737488355328) (hbase : base ≤ w.heap.size) :
    ∃ v' w', (Builtin.append_ #[t, t] ty #[v, .slice A m c]).run P w = .ok v' w' ∧ w'.ownsRow base e size v' (n + m) (xs ++ news) ∧ w.grownBy w' v.ownBlock ∧
      (v'.ownBlock = v.ownBlock ∨ v'.ownBlock = some w.heap.size) := by
  rcases A with _ | ad
  · have hm := hA rfl
    subst hm
    have hn : news = [] := List.eq_nil_of_length_eq_zero (by simpa using hl)
    subst hn
    exact ⟨v, w, run_app_none w base t ty e i size ht hi v n xs hown c, by simpa using hown, ⟨rfl, rfl, rfl, Nat.le_refl _, fun _ _ _ => rfl⟩, .inl rfl⟩
  · obtain ⟨v', w', hrun, h2, h3, _, h5⟩ := run_append_own_at (P := P) w base t ty e i z size bytes ht hi hz hsize hby hzs hsz v n xs hown ad m c news hl (hsrc ad rfl) h1 h63 hbytes hbase
    exact ⟨v', w', hrun, h2, h3, h5⟩

theorem wp_app {o : Oper} {a : Act} {K : Act → World → Prop} {Q : Exit → Act → World → Prop} (s x : Operand) (t : TypeId)
    (ho : o.op = .call { callee := .builtin .append, args := #[s, x], argTypes := #[t, t] })
    (base : Nat) (e : TypeId) (i : TypeInfo) (z : Value) (size bytes : Nat) (ht : P.underlying t = some (.slice e)) (hi : P.info? e = some i) (hz : i.zero = some z)
    (hsize : i.size = size) (hby : i.bytes = bytes) (hzs : z.cells.size = size) (hsz : 0 < size)
    (v : Value) (n : Nat) (xs : List Value) (hs : a.eval s = v) (hown : w.ownsRow base e size v n xs)
    (A : Option Addr) (m c : Nat) (news : List Value) (hx : a.eval x = .slice A m c) (hl : news.length = m * size) (hsrc : ∀ ad, A = some ad → ∀ j u, news[j]? = some u → w.cell? (ad.add j) = some u) (hA : A = none → m = 0) (h1 : ∀ u ∈ news, u.oneCell' = true)
    (h63 : n + m ≤ maxLen) (hbytes : (n + m) * bytes ≤ 140737488355328) (hbase : base ≤ w.heap.size)
    (h : ∀ v' w', w'.ownsRow base e size v' (n + m) (xs ++ news) → w.grownBy w' v.ownBlock → (v'.ownBlock = v.ownBlock ∨ v'.ownBlock = some w.heap.size) → K (a.put o.dst v') w') : o.wp P a w K Q := by
  obtain ⟨v', w', hrun, h2, h3, h4⟩ := run_app (P := P) w base t o.type e i z size bytes ht hi hz hsize hby hzs hsz v n xs hown A m c news hl hsrc hA h1 h63 hbytes hbase
  unfold Oper.wp execOp
  simp only [ho, resolve, invoke, builtin, Sem.run_bind, Sem.run_pure, Result.andThen_ok, List.map_toArray, List.map_cons, List.map_nil, hs, hx, hrun]
  exact h v' w' h2 h3 h4

theorem wpList_app {ops : Array Oper} {rest : List Oper} {o : Oper} {a : Act} {Q : Exit → Act → World → Prop} (hgd : o.guard = none) (s x : Operand) (t : TypeId)
    (ho : o.op = .call { callee := .builtin .append, args := #[s, x], argTypes := #[t, t] })
    (base : Nat) (e : TypeId) (i : TypeInfo) (z : Value) (size bytes : Nat) (ht : P.underlying t = some (.slice e)) (hi : P.info? e = some i) (hz : i.zero = some z)
    (hsize : i.size = size) (hby : i.bytes = bytes) (hzs : z.cells.size = size) (hsz : 0 < size)
    (v : Value) (n : Nat) (xs : List Value) (hs : a.eval s = v) (hown : w.ownsRow base e size v n xs)
    (A : Option Addr) (m c : Nat) (news : List Value) (hx : a.eval x = .slice A m c) (hl : news.length = m * size) (hsrc : ∀ ad, A = some ad → ∀ j u, news[j]? = some u → w.cell? (ad.add j) = some u) (hA : A = none → m = 0) (h1 : ∀ u ∈ news, u.oneCell' = true)
    (h63 : n + m ≤ maxLen) (hbytes : (n + m) * bytes ≤ 140737488355328) (hbase : base ≤ w.heap.size)
    (h : ∀ v' w', w'.ownsRow base e size v' (n + m) (xs ++ news) → w.grownBy w' v.ownBlock → (v'.ownBlock = v.ownBlock ∨ v'.ownBlock = some w.heap.size) → wpList P ops Q rest (a.put o.dst v') w') : wpList P ops Q (o :: rest) a w :=
  wpList_plain hgd fun _ hK => wp_app w s x t ho base e i z size bytes ht hi hz hsize hby hzs hsz v n xs hs hown A m c news hx hl hsrc hA h1 h63 hbytes hbase fun v' w' h2 h3 h4 => hK _ _ (h v' w' h2 h3 h4)
end

/-- the source of an append: a slice of int64s -/
theorem ints_src {w : World} {a : Option Addr} {cap : Nat} {l : List Int} {fp : List Nat} (h : IntsA w a cap l fp) :
    (∀ ad, a = some ad → ∀ j u, (l.map (Value.int .i64))[j]? = some u → w.cell? (ad.add j) = some u) ∧ (a = none → l.length = 0) := by
  constructor
  · intro ad ha j u hu
    have hj : j < l.length := by
      have := (List.getElem?_eq_some_iff.1 hu).1; simpa using this
    obtain ⟨b, off, ha', -, hc⟩ := h.at_ j hj
    rw [ha] at ha'; injection ha' with ha'; subst ha'
    have hadd : (⟨b, off, none⟩ : Addr).add j = ⟨b, off + j, none⟩ := by unfold Addr.add; split <;> simp_all
    rw [hadd, hc]
    simpa [hj] using hu
  · intro ha
    rcases Nat.eq_zero_or_pos l.length with h0 | h0
    · exact h0
    · obtain ⟨b, off, ha', -, -⟩ := h.at_ 0 h0
      rw [ha] at ha'; cases ha'
theorem ints_one (l : List Int) : ∀ u ∈ l.map (Value.int .i64), u.oneCell' = true := by
  intro u hu
  obtain ⟨x, -, rfl⟩ := List.mem_map.1 hu
  rfl

set_option maxHeartbeats 400000 in
theorem copyInts_rd (v : Value) (l : List Int) (fp : List Nat) (w : World) (h : Rd w v l fp) (hl : l.length ≤ 1073741824) :
    Calls Tryz.prog 36 #[v] w fun e w' => ∃ v fp', e = .returned v ∧ Rd w' v l fp' ∧ Fresh w.heap.size w' fp' ∧ Only [] w w' := by
  obtain ⟨a, cap, rfl, hI⟩ := h.ints
  obtain ⟨i0, hi, hz0, hz1, hz2⟩ := info_parts Tryz.info2
  obtain ⟨q1, q2⟩ := ints_src (hI.keep ((Only.refl _ w).alloc (.cells #[] 2)))
  go_enter Tryz.func36, Tryz.ntmps36
  go_wp2_with (at_builtin; refine wpList_app _ rfl _ _ 25 rfl w.heap.size 2 i0 _ 1 8 Tryz.underlying25 hi hz0 hz1 hz2 rfl (by omega) (.slice (some ⟨w.heap.size, 0, none⟩) 0 0) 0 [] rfl (World.ownsRow_made w #[] 0 (Nat.le_refl _) (by unfold maxLen; omega) rfl) a l.length cap (l.map (Value.int .i64)) rfl (by simp) q1 q2 (ints_one l) (by unfold maxLen; omega) (by omega) (by simp) ?_; intro v1 w1 hO hg hb)
  rw [Nat.zero_add, List.nil_append] at hO
  obtain ⟨a', cap', hv, -, hI', hF⟩ := own_ints hO hI.wf
  have Hv := Lib.hid hv
  have hK : Only [] w w1 := ((Only.refl _ _).alloc _).grown hg (by simp [Value.ownBlock])
  clear hO hg hb hv q1 q2
  go_wp2
  go_ret
  refine ⟨_, _, rfl, ?_, hF, hK⟩
  have hr := hI'.rd
  rw [← Hv.out] at hr; exact hr

/-- the index of the first element that a function likes, -1 if there is none -/
def idxF {α : Type} (pr : α → Bool) (l : List α) : Int := match l.findIdx? pr with
  | some i => i
  | none => -1
theorem idxF_some {α : Type} {pr : α → Bool} {l : List α} {j : Nat} (hj : j < l.length) (h : ∀ x ∈ l.take j, pr x = false) (hp : pr l[j] = true) : idxF pr l = j := by
  have : l.findIdx? pr = some j := by
    rw [List.findIdx?_eq_some_iff_getElem]
    refine ⟨hj, hp, fun i hi => ?_⟩
    have := h l[i] (by rw [List.mem_take_iff_getElem]; exact ⟨i, by omega, rfl⟩)
    simp [this]
  unfold idxF; rw [this]
theorem idxF_none {α : Type} {pr : α → Bool} {l : List α} (h : ∀ x ∈ l, pr x = false) : idxF pr l = -1 := by
  have : l.findIdx? pr = none := by
    rw [List.findIdx?_eq_none_iff]; intro x hx; simp [h x hx]
  unfold idxF; rw [this]
theorem idxF_ge {α : Type} {pr : α → Bool} {l : List α} : decide (0 ≤ idxF pr l) = l.any pr := by
  unfold idxF
  cases h : l.findIdx? pr with
  | some i =>
    have hh := (List.findIdx?_eq_some_iff_getElem.1 h)
    obtain ⟨hi, hp, -⟩ := hh
    have : l.any pr = true := List.any_eq_true.2 ⟨_, List.getElem_mem hi, hp⟩
    rw [this]; simp
  | none =>
    rw [List.findIdx?_eq_none_iff] at h
    have : l.any pr = false := by rw [List.any_eq_false]; intro x hx; simp [h x hx]
    rw [this]; simp

end Go.Proofs.YtkhdmiemfpelcaaGreat


namespace Go.Proofs.YtkhdmiemfpelcaaGreat
open Go.RowKit
set_option maxRecDepth 10000

def inR (x lo hi : Int) : Bool := decide (lo ≤ x) && decide (x ≤ hi)
theorem inR_iff {x lo hi : Int} : inR x lo hi = true ↔ lo ≤ x ∧ x ≤ hi := by simp [inR]
theorem inR_not {x lo hi : Int} : inR x lo hi = false ↔ ¬ (lo ≤ x ∧ x ≤ hi) := by rw [← inR_iff]; simp

theorem inRange_any (x lo hi : Int) (w : World) :
    Calls Tryz.prog 18 #[.int .i64 x, .int .i64 lo, .int .i64 hi] w fun e w' => e = .returned (.bool (inR x lo hi)) ∧ w' = w := by
  by_cases h1 : lo ≤ x
  · by_cases h2 : x ≤ hi
    · go_enter Tryz.func18, Tryz.ntmps18
      go_wp2
      go_ret
      exact ⟨ret_bool (by simp [inR, h1, h2]), rfl⟩
    · go_enter Tryz.func18, Tryz.ntmps18
      go_wp2
      go_ret
      exact ⟨ret_bool (by simp [inR, h2]), rfl⟩
  · go_enter Tryz.func18, Tryz.ntmps18
    go_wp2
    go_ret
    exact ⟨ret_bool (by simp [inR]; omega), rfl⟩
theorem within_any (x lo hi : Int) (w : World) :
    Calls Tryz.prog 24 #[.int .i64 x, .int .i64 lo, .int .i64 hi] w fun e w' => e = .returned (.bool (inR x lo hi)) ∧ w' = w := by
  by_cases h1 : lo ≤ x
  · by_cases h2 : x ≤ hi
    · go_enter Tryz.func24, Tryz.ntmps24
      go_wp2
      go_ret
      exact ⟨ret_bool (by simp [inR, h1, h2]), rfl⟩
    · go_enter Tryz.func24, Tryz.ntmps24
      go_wp2
      go_ret
      exact ⟨ret_bool (by simp [inR, h2]), rfl⟩
  · go_enter Tryz.func24, Tryz.ntmps24
    go_wp2
    go_ret
    exact ⟨ret_bool (by simp [inR]; omega), rfl⟩

def okLetter (g x : Int) : Bool := decide (x ≠ 0) && inR x (-(min g 8)) (min g 8)
/-- the valid words of g generators -/
def validW (g : Int) (l : List Int) : Bool := decide (l.length ≤ 200) && l.all (okLetter g)
theorem okLetter_iff {g x : Int} : okLetter g x = true ↔ x ≠ 0 ∧ -(min g 8) ≤ x ∧ x ≤ min g 8 := by simp [okLetter, inR_iff]
theorem okLetter_not {g x : Int} : okLetter g x = false ↔ ¬ (x ≠ 0 ∧ -(min g 8) ≤ x ∧ x ≤ min g 8) := by rw [← okLetter_iff]; simp
theorem validW_no {g : Int} {l : List Int} {j : Nat} (hj : j < l.length) (h : okLetter g l[j] = false) : validW g l = false := by
  unfold validW
  have : l.all (okLetter g) = false := by
    rw [List.all_eq_false]; exact ⟨l[j], List.getElem_mem _, by simp [h]⟩
  rw [this]; simp
theorem validW_long {g : Int} {l : List Int} (h : 200 < l.length) : validW g l = false := by
  unfold validW
  have : decide (l.length ≤ 200) = false := by simp; omega
  rw [this]; rfl
theorem validW_yes {g : Int} {l : List Int} (h : l.length ≤ 200) (h2 : ∀ x ∈ l, okLetter g x = true) : validW g l = true := by
  unfold validW
  simp only [h, decide_true, Bool.true_and, List.all_eq_true]
  exact h2
theorem all_step {pr : Int → Bool} {l : List Int} {j : Nat} (hj : j < l.length) (h : ∀ x ∈ l.take j, pr x = true) (hp : pr l[j] = true) : ∀ x ∈ l.take (j + 1), pr x = true := by
  rw [take_succ_get l j hj]; intro x hx
  rcases List.mem_append.1 hx with hx | hx
  · exact h x hx
  · simp at hx; subst hx; exact hp

set_option maxHeartbeats 1000000 in
theorem isWordOf_rd (g : Int) (v : Value) (l : List Int) (fp : List Nat) (w : World) (h : Rd w v l fp) (g0 : 0 ≤ g) (g1 : g ≤ 4611686018427387904) :
    Calls Tryz.prog 88 #[.int .i64 g, v] w fun e w' => e = .returned (.bool (validW g l)) ∧ Drew w w' := by
  obtain ⟨a, cap, rfl, hI⟩ := h.ints
  have hb := hI.bound
  by_cases hlen : 200 < l.length
  · go_enter Tryz.func88, Tryz.ntmps88
    go_wp2
    go_ret
    exact ⟨ret_bool (validW_long hlen).symm, Drew.refl _⟩
  go_enter Tryz.func88, Tryz.ntmps88
  go_wp2
  go_loopw [5] (fun i wr => ∃ j : Nat, j ≤ l.length ∧ i = .int .i64 j ∧ (∀ x ∈ l.take j, okLetter g x = true) ∧ Drew w wr)
    (fun i _ => l.length - (intOf i).toNat)
  case atStart => exact ⟨0, Nat.zero_le _, rfl, by simp, Drew.refl _⟩
  case round =>
    obtain ⟨j, hj, rfl, hr, n, rfl⟩ := hrel
    have Hr := Lib.hid hr; clear hr
    by_cases hlt : j < l.length
    · obtain ⟨b, off, rfl, -, hc⟩ := hI.at_ j hlt
      generalize hx : l[j] = x at *
      have Hx := Lib.hid hx
      clear hx
      by_cases c0 : x = 0
      · have t0 : (x == 0) = true := by simpa using c0
        have C0 := Lib.hid c0; clear c0
        go_wp2
        go_ret
        exact ⟨ret_bool (validW_no hlt (by rw [Hx.out, okLetter_not]; exact fun hh => hh.1 C0.out)).symm, ⟨_, rfl⟩⟩
      have t0 : (x == 0) = false := by simpa using c0
      have C0 := Lib.hid c0; clear c0
      rcases c1 : inR x (-8) 8
      · go_wp2_with ((go_at_call 18; (with_reducible refine (inRange_any x (-8) 8 _).mono ?_); rintro e w1 ⟨rfl, rfl⟩))
        go_ret
        exact ⟨ret_bool (validW_no hlt (by rw [Hx.out, okLetter_not]; rw [inR_not] at c1; omega)).symm, ⟨_, rfl⟩⟩
      have c2 := inR_iff.1 c1
      obtain ⟨c2, c3⟩ := c2
      by_cases c4 : g < x
      · go_wp2_with ((go_at_call 18; (with_reducible refine (inRange_any x (-8) 8 _).mono ?_); rintro e w1 ⟨rfl, rfl⟩))
        go_ret
        exact ⟨ret_bool (validW_no hlt (by rw [Hx.out, okLetter_not]; omega)).symm, ⟨_, rfl⟩⟩
      by_cases c5 : g < -x
      · go_wp2_with ((go_at_call 18; (with_reducible refine (inRange_any x (-8) 8 _).mono ?_); rintro e w1 ⟨rfl, rfl⟩))
        go_ret
        exact ⟨ret_bool (validW_no hlt (by rw [Hx.out, okLetter_not]; omega)).symm, ⟨_, rfl⟩⟩
      go_wp2_with ((go_at_call 18; (with_reducible refine (inRange_any x (-8) 8 _).mono ?_); rintro e w1 ⟨rfl, rfl⟩))
      go_roundw
      case rel => exact ⟨j + 1, by omega, by go_num, all_step hlt Hr.out (by rw [Hx.out, okLetter_iff]; exact ⟨C0.out, by omega, by omega⟩), ⟨_, rfl⟩⟩
      case measure => simp [intOf]; omega
    · go_wp2
      go_ret
      exact ⟨ret_bool (validW_yes (by omega) (by have := Hr.out; rwa [List.take_of_length_le (by omega)] at this)).symm, ⟨_, rfl⟩⟩





end Go.Proofs.YtkhdmiemfpelcaaGreat


namespace Go.Proofs.YtkhdmiemfpelcaaGreat
open Go.RowKit
set_option maxRecDepth 10000

/-- v is a slice of the call's own (its block, if any, from B on); its elements read as l, what they reach is fs; the slice's own block is none of that -/
structure Acc {α : Type} [Rp α] (B : Nat) (e : TypeId) (w : World) (v : Value) (l : List α) (fs : List (List Nat)) : Prop where
  own : ∃ css : List (List Value), w.ownsRow B e (Rp.size α) v l.length css.flatten ∧ css.length = l.length ∧ ∀ k (h1 : k < css.length) (h2 : k < l.length) (h3 : k < fs.length), Rp.rep w css[k] l[k] fs[k]
  fl : fs.length = l.length
  apart : ∀ g, v.ownBlock = some g → g ∉ fs.flatten

section
variable {α : Type} [Rp α] {w w' : World} {B : Nat} {e : TypeId} {v : Value} {l : List α} {fs : List (List Nat)}
theorem Acc.nil (w : World) (B : Nat) (e : TypeId) : Acc B e w (.slice none 0 0) ([] : List α) [] :=
  ⟨⟨[], World.ownsRow_nil w B e _, rfl, by simp⟩, rfl, by simp⟩
theorem Acc.made (w : World) (B : Nat) (e : TypeId) {g : Nat} (hg : g = w.heap.size) (hB : B ≤ g) : Acc B e (w.alloc (.cells #[] e)) (.slice (some ⟨g, 0, none⟩) 0 0) ([] : List α) [] := by
  subst hg
  exact ⟨⟨[], World.ownsRow_made w #[] 0 hB (by unfold maxLen; omega) (by simp), rfl, by simp⟩, rfl, by simp⟩
theorem Acc.lt (h : Acc B e w v l fs) : ∀ b ∈ fs.flatten, b < w.heap.size := by
  intro b hb
  obtain ⟨f, hf, hb⟩ := List.mem_flatten.1 hb
  obtain ⟨k, hk, rfl⟩ := List.getElem_of_mem hf
  obtain ⟨css, -, hcl, hr⟩ := h.own
  have := h.fl
  exact Rp.lt (hr k (by omega) (by omega) hk) b hb
theorem Acc.ownlt (h : Acc B e w v l fs) : ∀ g, v.ownBlock = some g → B ≤ g ∧ g < w.heap.size := by
  obtain ⟨css, ho, -, -⟩ := h.own
  exact ho.lt
theorem Acc.only {fp : List Nat} (h : Acc B e w v l fs) (ho : Only fp w w') (hd : ∀ b ∈ fs.flatten, b ∉ fp) (hv : ∀ g, v.ownBlock = some g → g ∉ fp) : Acc B e w' v l fs := by
  obtain ⟨css, hr, hcl, hre⟩ := h.own
  refine ⟨⟨css, ?_, hcl, fun k h1 h2 h3 => Rp.only (hre k h1 h2 h3) ho fun b hb hm => hd b (List.mem_flatten.2 ⟨_, List.getElem_mem _, hb⟩) hm⟩, h.fl, h.apart⟩
  refine ⟨hr.1, ?_⟩
  rcases hr.2 with ⟨rfl, h0⟩ | ⟨g, cp, cur, rfl, hb, hg, hrest⟩
  · exact .inl ⟨rfl, h0⟩
  · exact .inr ⟨g, cp, cur, rfl, hb, by rw [ho.block g (Array.getElem?_eq_some_iff.1 hg).1 (hv g rfl)]; exact hg, hrest⟩
theorem Acc.keep (h : Acc B e w v l fs) (ho : Only [] w w') : Acc B e w' v l fs := h.only ho (by simp) (by simp)
theorem Acc.form (h : Acc B e w v l fs) : ∃ a c, v = .slice a l.length c := by
  obtain ⟨css, ho, -, -⟩ := h.own
  rcases ho.2 with ⟨rfl, h0⟩ | ⟨g, cp, cur, rfl, -⟩
  · exact ⟨none, 0, by rw [h0]⟩
  · exact ⟨_, _, rfl⟩
theorem Acc.rd (h : Acc B e w v l fs) (hs : 0 < Rp.size α) : Rd w v l (v.ownBlock.toList ++ fs.flatten) := by
  obtain ⟨css, ho, hcl, hr⟩ := h.own
  obtain ⟨a, c, hv, -, hI⟩ := own_seq (xs := l) (fps := fs) ho hs hcl h.fl hr
  have := hI.rd
  rw [← hv] at this; exact this
theorem Acc.fresh (h : Acc B e w v l fs) (hf : Fresh B w fs.flatten) : Fresh B w (v.ownBlock.toList ++ fs.flatten) := by
  obtain ⟨css, ho, -, -⟩ := h.own
  have h1 := own_fresh ho
  refine ⟨List.nodup_append.2 ⟨h1.nd, hf.nd, fun a ha b hb hab => ?_⟩, fun b hb => ?_, h1.own.append hf.own⟩
  · subst hab
    have : v.ownBlock = some a := by simpa using ha
    exact h.apart a this hb
  · rcases List.mem_append.1 hb with hb | hb
    · exact h1.ge b hb
    · exact hf.ge b hb
end

/-- the cells of a literal -/
theorem lit_src (w : World) (cs : List Value) (e : TypeId) {g : Nat} (hg : g = w.heap.size) : ∀ j u, cs[j]? = some u → (w.alloc (.cells cs.toArray e)).cell? ⟨g, j, none⟩ = some u := by
  subst hg
  intro j u hu
  rw [cell_of_row _ _ _ _ _ _ (heap_alloc_new w _)]
  simpa using hu

section
variable {P : Program} {α : Type} [Rp α] {ops : Array Oper} {rest : List Oper} {o : Oper} {a : Act} {w : World} {Q : Exit → Act → World → Prop} {K : Act → World → Prop}
/-- append(v, y), y one element -/
theorem wp_push (s x : Operand) (t : TypeId)
    (ho : o.op = .call { callee := .builtin .append, args := #[s, x], argTypes := #[t, t] })
    (B : Nat) (e : TypeId) (i : TypeInfo) (z : Value) (bytes : Nat) (ht : P.underlying t = some (.slice e)) (hi : P.info? e = some i) (hz : i.zero = some z)
    (hsize : i.size = Rp.size α) (hby : i.bytes = bytes) (hzs : z.cells.size = Rp.size α) (hsz : 0 < Rp.size α) (hbb : bytes ≤ 65536)
    (w0 : World) (v : Value) (l : List α) (fs : List (List Nat)) (hs : a.eval s = v) (hA : Acc B e w0 v l fs) (hK0 : Only [] w0 w) (hB : B ≤ w0.heap.size)
    (g c : Nat) (cs : List Value) (y : α) (fp : List Nat) (hx : a.eval x = .slice (some ⟨g, 0, none⟩) 1 c) (hsrc : ∀ j u, cs[j]? = some u → w.cell? ⟨g, j, none⟩ = some u) (hcs : ∀ u ∈ cs, u.oneCell' = true)
    (hy : Rp.rep w cs y fp) (hap : ∀ b ∈ fp, v.ownBlock ≠ some b) (hlen : l.length + 1 ≤ 1073741824)
    (h : ∀ v' w', Acc B e w' v' (l ++ [y]) (fs ++ [fp]) → Only v.ownBlock.toList w w' → (∀ wz, Only [] wz w → wz.heap.size ≤ B → Only [] wz w') →
      (Fresh B w0 fs.flatten → Fresh w0.heap.size w fp → Fresh B w' (fs ++ [fp]).flatten) → K (a.put o.dst v') w') : o.wp P a w K Q := by
  obtain ⟨css, hown, hcl, hre⟩ := (hA.keep hK0).own
  have hcsl : cs.length = 1 * Rp.size α := by rw [Nat.one_mul]; exact Rp.len hy
  have hfl := hA.fl
  have hbytes : (l.length + 1) * bytes ≤ 140737488355328 := by
    have := Nat.mul_le_mul hlen hbb; omega
  refine wp_app w s x t ho B e i z (Rp.size α) bytes ht hi hz hsize hby hzs hsz v l.length css.flatten hs hown (some ⟨g, 0, none⟩) 1 c cs hx hcsl ?_ (by simp) hcs (by unfold maxLen; omega) hbytes (Nat.le_trans hB hK0.size) ?_
  · intro ad had j u hu
    injection had with had; subst had
    have hadd : (⟨g, 0, none⟩ : Addr).add j = ⟨g, j, none⟩ := by unfold Addr.add; split <;> simp_all
    rw [hadd]; exact hsrc j u hu
  intro v' w' hO hg hb
  have hW : Only v.ownBlock.toList w w' := (Only.refl _ _).grown hg (by intro k hk _; simp [hk])
  have hlt := (hA.keep hK0).lt
  have hap' : ∀ b ∈ fp, b ∉ v.ownBlock.toList := fun b hb hm => hap b hb (by simpa using hm)
  have hfs : ∀ b ∈ fs.flatten, b ∉ v.ownBlock.toList := fun b hb hm => hA.apart b (by simpa using hm) hb
  refine h v' w' ⟨⟨css ++ [cs], ?_, by simp [hcl], fun k h1 h2 h3 => ?_⟩, by simp [hfl], ?_⟩ hW ?_ ?_
  · rw [List.length_append, List.flatten_append]; simpa using hO
  · by_cases hk : k < l.length
    · rw [List.getElem_append_left (by rw [hcl]; exact hk), List.getElem_append_left hk, List.getElem_append_left (by rw [hfl]; exact hk)]
      exact Rp.only (hre k (by omega) hk (by omega)) hW fun b hb => hfs b (List.mem_flatten.2 ⟨_, List.getElem_mem _, hb⟩)
    · have : k = l.length := by simp at h2; omega
      subst this
      rw [List.getElem_append_right (by rw [hcl]; omega), List.getElem_append_right (by omega), List.getElem_append_right (by rw [hfl]; omega)]
      simpa [hcl, hfl] using Rp.only hy hW hap'
  · intro g' hg' hm
    rw [List.flatten_append] at hm
    simp only [List.flatten_cons, List.flatten_nil, List.append_nil] at hm
    rcases hb with hb | hb
    · rw [hb] at hg'
      rcases List.mem_append.1 hm with hm | hm
      · exact hA.apart g' hg' hm
      · exact hap g' hm hg'
    · rw [hb] at hg'; injection hg' with hg'; subst hg'
      rcases List.mem_append.1 hm with hm | hm
      · exact absurd (hlt _ hm) (by omega)
      · exact absurd (Rp.lt hy _ hm) (by omega)
  · intro wz hz hzB
    refine hz.then_ hW fun b hm hb => ?_
    have hm' : v.ownBlock = some b := by simpa using hm
    have := (hA.ownlt b hm').1
    omega
  · intro hF hFy
    rw [List.flatten_append]
    simp only [List.flatten_cons, List.flatten_nil, List.append_nil]
    have hF' := (hF.keep hK0)
    refine ((Fresh.append hF' hFy hB fun b hb => hF.lt b hb)).only hW fun b hm => ?_
    rcases List.mem_append.1 hm with hm | hm
    · exact hfs b hm
    · exact hap' b hm
/-- the same where y was made behind w0 -/
theorem wp_pushF (s x : Operand) (t : TypeId)
    (ho : o.op = .call { callee := .builtin .append, args := #[s, x], argTypes := #[t, t] })
    (B : Nat) (e : TypeId) (i : TypeInfo) (z : Value) (bytes : Nat) (ht : P.underlying t = some (.slice e)) (hi : P.info? e = some i) (hz : i.zero = some z)
    (hsize : i.size = Rp.size α) (hby : i.bytes = bytes) (hzs : z.cells.size = Rp.size α) (hsz : 0 < Rp.size α) (hbb : bytes ≤ 65536)
    (w0 : World) (v : Value) (l : List α) (fs : List (List Nat)) (hs : a.eval s = v) (hA : Acc B e w0 v l fs) (hF : Fresh B w0 fs.flatten) (hK0 : Only [] w0 w) (hB : B ≤ w0.heap.size)
    (g c : Nat) (cs : List Value) (y : α) (fp : List Nat) (hx : a.eval x = .slice (some ⟨g, 0, none⟩) 1 c) (hsrc : ∀ j u, cs[j]? = some u → w.cell? ⟨g, j, none⟩ = some u) (hcs : ∀ u ∈ cs, u.oneCell' = true)
    (hy : Rp.rep w cs y fp) (hFy : Fresh w0.heap.size w fp) (hlen : l.length + 1 ≤ 1073741824) (wz : World) (hz0 : Only [] wz w) (hzB : wz.heap.size ≤ B)
    (h : ∀ v' w', Acc B e w' v' (l ++ [y]) (fs ++ [fp]) → Fresh B w' (fs ++ [fp]).flatten → Only [] wz w' → Only v.ownBlock.toList w w' → K (a.put o.dst v') w') : o.wp P a w K Q :=
  wp_push s x t ho B e i z bytes ht hi hz hsize hby hzs hsz hbb w0 v l fs hs hA hK0 hB g c cs y fp hx hsrc hcs hy
    (fun b hb hv => by have := (hA.ownlt b hv).2; have := hFy.ge b hb; omega) hlen fun v' w' h1 h2 h3 h4 => h v' w' h1 (h4 hF hFy) (h3 wz hz0 hzB) h2
theorem wpList_pushF (hgd : o.guard = none) (s x : Operand) (t : TypeId)
    (ho : o.op = .call { callee := .builtin .append, args := #[s, x], argTypes := #[t, t] })
    (B : Nat) (e : TypeId) (i : TypeInfo) (z : Value) (bytes : Nat) (ht : P.underlying t = some (.slice e)) (hi : P.info? e = some i) (hz : i.zero = some z)
    (hsize : i.size = Rp.size α) (hby : i.bytes = bytes) (hzs : z.cells.size = Rp.size α) (hsz : 0 < Rp.size α) (hbb : bytes ≤ 65536)
    (w0 : World) (v : Value) (l : List α) (fs : List (List Nat)) (hs : a.eval s = v) (hA : Acc B e w0 v l fs) (hF : Fresh B w0 fs.flatten) (hK0 : Only [] w0 w) (hB : B ≤ w0.heap.size)
    (g c : Nat) (cs : List Value) (y : α) (fp : List Nat) (hx : a.eval x = .slice (some ⟨g, 0, none⟩) 1 c) (hsrc : ∀ j u, cs[j]? = some u → w.cell? ⟨g, j, none⟩ = some u) (hcs : ∀ u ∈ cs, u.oneCell' = true)
    (hy : Rp.rep w cs y fp) (hFy : Fresh w0.heap.size w fp) (hlen : l.length + 1 ≤ 1073741824) (wz : World) (hz0 : Only [] wz w) (hzB : wz.heap.size ≤ B)
    (h : ∀ v' w', Acc B e w' v' (l ++ [y]) (fs ++ [fp]) → Fresh B w' (fs ++ [fp]).flatten → Only [] wz w' → Only v.ownBlock.toList w w' → wpList P ops Q rest (a.put o.dst v') w') : wpList P ops Q (o :: rest) a w :=
  wpList_plain hgd fun _ hK => wp_pushF s x t ho B e i z bytes ht hi hz hsize hby hzs hsz hbb w0 v l fs hs hA hF hK0 hB g c cs y fp hx hsrc hcs hy hFy hlen wz hz0 hzB fun v' w' h1 h2 h3 h4 => hK _ _ (h v' w' h1 h2 h3 h4)
end
end Go.Proofs.YtkhdmiemfpelcaaGreat

namespace Go.Proofs.YtkhdmiemfpelcaaGreat
open Go.RowKit
set_option maxRecDepth 10000

set_option maxHeartbeats 400000 in
theorem Clone_rd (v : Value) (l : List Int) (fp : List Nat) (w : World) (h : Rd w v l fp) (hl : l.length ≤ 1073741824) :
    Calls Tryz.prog 78 #[v] w fun e w' => ∃ v fp', e = .returned v ∧ Rd w' v l fp' ∧ Fresh w.heap.size w' fp' ∧ Only [] w w' := by
  obtain ⟨a, cap, rfl, hI⟩ := h.ints
  rcases a with _ | ad
  · have h0 : l.length = 0 := (ints_src hI).2 rfl
    have : l = [] := List.eq_nil_of_length_eq_zero h0
    subst this
    have hnil := fun W => Lib.run_eql_slice_nil (P := Tryz.prog) W 25 2 none 0 cap 0 0 Tryz.underlying25
    go_enter Tryz.func78, Tryz.ntmps78
    go_wp2
    go_ret
    exact ⟨_, [], rfl, (IntsA.nil w none (cap := 0) (by simp [maxLen])).rd, Fresh.nil _ _, (by with_reducible repeat (first | exact Only.refl _ _ | assumption | refine Only.drewN ?_ _ | refine Only.drew ?_ | refine Only.alloc ?_ _ | refine Only.setCell ?_ (by intro hh; exfalso; simp at hh; try omega) _ | refine Only.trans ?_ (by assumption)))⟩
  · obtain ⟨i0, hi, hz0, hz1, hz2⟩ := info_parts Tryz.info2
    obtain ⟨q1, q2⟩ := ints_src (hI.keep ((Only.refl _ w).alloc (.cells #[] 2)))
    have hnil := fun W => Lib.run_eql_slice_nil (P := Tryz.prog) W 25 2 (some ad) l.length cap 0 0 Tryz.underlying25
    go_enter Tryz.func78, Tryz.ntmps78
    go_wp2_with (at_builtin; refine wpList_app _ rfl _ _ 25 rfl w.heap.size 2 i0 _ 1 8 Tryz.underlying25 hi hz0 hz1 hz2 rfl (by omega) (.slice (some ⟨w.heap.size, 0, none⟩) 0 0) 0 [] rfl (World.ownsRow_made w #[] 0 (Nat.le_refl _) (by unfold maxLen; omega) rfl) (some ad) l.length cap (l.map (Value.int .i64)) rfl (by simp) q1 q2 (ints_one l) (by unfold maxLen; omega) (by omega) (by simp) ?_; intro v1 w1 hO hg hb)
    rw [Nat.zero_add, List.nil_append] at hO
    obtain ⟨a', cap', hv, -, hI', hF⟩ := own_ints hO hI.wf
    have Hv := Lib.hid hv
    have hK : Only [] w w1 := ((Only.refl _ _).alloc _).grown hg (by simp [Value.ownBlock])
    clear hO hg hb hv q1 q2
    go_wp2
    go_ret
    refine ⟨_, _, rfl, ?_, hF, hK⟩
    have hr := hI'.rd
    rw [← Hv.out] at hr; exact hr

theorem nil_rd {α : Type} [Rp α] (w : World) : Rd w (.slice none 0 0) ([] : List α) [] := ⟨none, 0, [], [], rfl, rfl, SeqA.nil w none (by simp [maxLen])⟩
theorem int_rd {n : Int} (w : World) (h : I64 n) : Rd w (.int .i64 n) n [] := ⟨rfl, h, rfl⟩
end Go.Proofs.YtkhdmiemfpelcaaGreat

namespace PM

section
variable {α : Type} [DecidableEq α]
theorem nodup_sub_len : ∀ {l1 l2 : List α}, l1.Nodup → l1 ⊆ l2 → l1.length ≤ l2.length := by
  intro l1
  induction l1 with
  | nil => intro l2 _ _; simp
  | cons a t ih =>
    intro l2 hn hs
    obtain ⟨ha, ht⟩ := List.nodup_cons.1 hn
    have ham : a ∈ l2 := hs (by simp)
    have h1 : t ⊆ l2.erase a := by
      intro x hx
      refine (List.mem_erase_of_ne ?_).2 (hs (by simp [hx]))
      intro e; subst e; exact ha hx
    have h2 := ih ht h1
    have h3 := List.length_erase_of_mem ham
    have h4 : 0 < l2.length := List.length_pos_of_mem ham
    simp only [List.length_cons]
    omega
/-- a list without repetitions that lies within a list no longer has all of it -/
theorem nodup_sub_all {l1 l2 : List α} (hn : l1.Nodup) (hs : l1 ⊆ l2) (hl : l2.length ≤ l1.length) : l2 ⊆ l1 := by
  intro x hx
  apply Classical.byContradiction
  intro hxn
  have h := nodup_sub_len (List.nodup_cons.2 ⟨hxn, hn⟩) (l2 := l2) (by
    intro y hy
    rcases List.mem_cons.1 hy with rfl | hy
    · exact hx
    · exact hs hy)
  simp at h
  omega
/-- a list that has all of a list without repetitions, and is no longer, has no repetition -/
theorem nodup_of_all : ∀ {l1 l2 : List α}, l1.Nodup → l1 ⊆ l2 → l2.length ≤ l1.length → l2.Nodup := by
  intro l1
  induction l1 with
  | nil =>
    intro l2 _ _ hl
    have : l2 = [] := List.eq_nil_of_length_eq_zero (by simpa using hl)
    subst this; exact List.nodup_nil
  | cons a t ih =>
    intro l2 hn hs hl
    obtain ⟨ha, ht⟩ := List.nodup_cons.1 hn
    have ham : a ∈ l2 := hs (by simp)
    have h1 : t ⊆ l2.erase a := by
      intro x hx
      refine (List.mem_erase_of_ne ?_).2 (hs (by simp [hx]))
      intro e; subst e; exact ha hx
    have h3 := List.length_erase_of_mem ham
    have h4 : 0 < l2.length := List.length_pos_of_mem ham
    simp only [List.length_cons] at hl
    have h5 := ih ht h1 (by omega)
    have h6 : a ∉ l2.erase a := by
      intro hm
      have := nodup_sub_len hn (l2 := l2.erase a) (by
        intro y hy
        rcases List.mem_cons.1 hy with rfl | hy
        · exact hm
        · exact h1 hy)
      simp at this
      omega
    exact (List.perm_cons_erase ham).nodup_iff.2 (List.nodup_cons.2 ⟨h6, h5⟩)
end

/-- the numbers 0, 1, .., n-1 -/
def pts (n : Nat) : List Int := (List.range n).map (fun k : Nat => (k : Int))
theorem pts_len (n : Nat) : (pts n).length = n := by simp [pts]
theorem mem_pts {n : Nat} {x : Int} : x ∈ pts n ↔ 0 ≤ x ∧ x < n := by
  simp only [pts, List.mem_map, List.mem_range]
  constructor
  · rintro ⟨k, hk, rfl⟩; omega
  · intro ⟨h1, h2⟩; exact ⟨x.toNat, by omega, by omega⟩
theorem pts_nodup (n : Nat) : (pts n).Nodup := by
  exact List.Pairwise.map _ (fun a b (h : a ≠ b) hab => h (by omega)) List.nodup_range
theorem pts_get (n k : Nat) (h : k < (pts n).length) : (pts n)[k] = (k : Int) := by simp [pts]

/-- p is a permutation of its indices -/
def IsP (p : List Int) : Prop := (∀ x ∈ p, 0 ≤ x ∧ x < p.length) ∧ p.Nodup
instance (p : List Int) : Decidable (IsP p) := by unfold IsP; exact inferInstance
theorem IsP.sub {p : List Int} (h : IsP p) : p ⊆ pts p.length := fun x hx => mem_pts.2 (h.1 x hx)
theorem IsP.all {p : List Int} (h : IsP p) : pts p.length ⊆ p := nodup_sub_all h.2 h.sub (by rw [pts_len]; exact Nat.le_refl _)
theorem isP_of_all {p : List Int} (h1 : ∀ x ∈ p, 0 ≤ x ∧ x < p.length) (h2 : pts p.length ⊆ p) : IsP p :=
  ⟨h1, nodup_of_all (pts_nodup _) h2 (by rw [pts_len]; exact Nat.le_refl _)⟩

/-- the numbers of a list as bits -/
def mask : List Int → Nat
  | [] => 0
  | x :: l => 2 ^ x.toNat ||| mask l
theorem mask_append (l : List Int) (x : Int) : mask (l ++ [x]) = mask l ||| 2 ^ x.toNat := by
  induction l with
  | nil => simp [mask]
  | cons y l ih => simp [mask, ih, Nat.or_assoc]
theorem mask_bit (l : List Int) (h : ∀ x ∈ l, 0 ≤ x) (k : Nat) : (mask l).testBit k = decide ((k : Int) ∈ l) := by
  induction l with
  | nil => simp [mask]
  | cons x l ih =>
    rw [mask, Nat.testBit_or, ih (fun y hy => h y (by simp [hy])), Nat.testBit_two_pow]
    have hx := h x (by simp)
    have : (x.toNat = k) ↔ ((k : Int) = x) := by omega
    simp [this]
theorem mask_lt (l : List Int) (n : Nat) (h : ∀ x ∈ l, 0 ≤ x ∧ x < n) : mask l < 2 ^ n := by
  induction l with
  | nil => simp [mask]; exact Nat.pow_pos (by decide)
  | cons x l ih =>
    have hx := h x (by simp)
    exact Nat.or_lt_two_pow (Nat.pow_lt_pow_right (by decide) (by omega)) (ih fun y hy => h y (by simp [hy]))
theorem mask_full (p : List Int) (h : ∀ x ∈ p, 0 ≤ x ∧ x < p.length) : mask p = 2 ^ p.length - 1 ↔ IsP p := by
  constructor
  · intro hm
    refine isP_of_all h fun x hx => ?_
    obtain ⟨h0, h1⟩ := mem_pts.1 hx
    have hb := mask_bit p (fun y hy => (h y hy).1) x.toNat
    rw [hm, Nat.testBit_two_pow_sub_one] at hb
    have : decide (x.toNat < p.length) = true := decide_eq_true (by omega)
    rw [this] at hb
    have := of_decide_eq_true hb.symm
    have e : (x.toNat : Int) = x := by omega
    rwa [e] at this
  · intro hp
    apply Nat.eq_of_testBit_eq
    intro k
    rw [mask_bit p (fun y hy => (h y hy).1), Nat.testBit_two_pow_sub_one]
    have : ((k : Int) ∈ p) ↔ k < p.length := by
      constructor
      · intro hk; have := h _ hk; omega
      · intro hk; exact hp.all (mem_pts.2 (by omega))
    simp [this]
end PM
