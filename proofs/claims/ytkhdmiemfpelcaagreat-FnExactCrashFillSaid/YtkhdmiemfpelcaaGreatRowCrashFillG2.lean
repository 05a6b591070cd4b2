/- What the exact laws share: marks are kept by marking again; a struct's block. Table: plain data, how it lies in memory, the laws' own helpers on it. (Printed by gen_struct.py.) The laws' own helpers on slices of tables: eq, mark, held, to, sz. Puzzle: plain data, how it lies in memory, the laws' own helpers on it. (Printed by gen_struct.py.) -/
import Derived.Test.YtkhdmiemfpelcaaGreatRowCrashFillG1
import Derived.StillTailTactics
namespace Go.Proofs.YtkhdmiemfpelcaaGreat
open Go.RowKit
set_option maxRecDepth 10000

class MkL (α : Type) [Mk α] : Prop where
  idem : ∀ (k : Int) (x : α), Mk.mark k (Mk.mark k x) = Mk.mark k x
  cnt : ∀ (k : Int) (x : α), Mk.cnt (Mk.mark k x) = Mk.cnt x
instance : MkL Int := ⟨fun _ _ => rfl, fun _ _ => rfl⟩
theorem markL_cnt {α : Type} [Mk α] [MkL α] (k : Int) (l : List α) : cntL (markL k l) = cntL l := by
  induction l generalizing k with
  | nil => rfl
  | cons x l ih => simp [markL, cntL, ih, MkL.cnt]
theorem markL_idem {α : Type} [Mk α] [MkL α] (k : Int) (l : List α) : markL k (markL k l) = markL k l := by
  induction l generalizing k with
  | nil => rfl
  | cons x l ih => simp [markL, ih, MkL.cnt, MkL.idem]
instance {α : Type} [Mk α] [MkL α] : MkL (List α) := ⟨markL_idem, markL_cnt⟩
theorem heldV_mark {α : Type} [Mk α] [MkL α] (k : Int) (x : α) : heldV k (Mk.mark k x) = k + (Mk.cnt x : Nat) := by
  rw [heldV_yes (MkL.idem k x).symm, MkL.cnt]

/-- how many numbers there are, against the size that the laws reckon -/
class CntSz (α : Type) [Mk α] [Sz α] : Prop where
  le : ∀ x : α, Mk.cnt x ≤ Sz.sz x
instance : CntSz (List Int) := ⟨fun l => by simp [Mk.cnt, cntL_ints, Sz.sz]⟩
theorem cntL_szL {α : Type} [Mk α] [Sz α] [CntSz α] (l : List α) : cntL l ≤ szL l := by
  induction l with
  | nil => simp [cntL]
  | cons x l ih => have := CntSz.le x; simp only [cntL, szL]; omega
instance {α : Type} [Mk α] [Sz α] [CntSz α] : CntSz (List α) := ⟨fun l => by have := cntL_szL l; show cntL l ≤ l.length + szL l; omega⟩

theorem str_ne {a b : ByteArray} (h : a ≠ b) : (a.toList == b.toList) = false := by
  rw [beq_eq_false_iff_ne]
  intro e
  rw [ByteArray.toList_eq, ByteArray.toList_eq] at e
  exact h (ByteArray.ext (Array.toList_inj.1 e))
theorem str_eq {a b : ByteArray} (h : a = b) : (a.toList == b.toList) = true := by subst h; simp
theorem and_of {a b : Prop} (h : a) (k : a → b) : a ∧ b := ⟨h, k h⟩
/-- block g holds just the cells cs -/
def Blk (w : World) (g : Nat) (cs : List Value) : Prop := ∃ t, w.heap[g]? = some (.cells cs.toArray t (0, 0))
theorem Blk.lt {w : World} {g : Nat} {cs : List Value} (h : Blk w g cs) : g < w.heap.size := by
  obtain ⟨t, h⟩ := h; exact (Array.getElem?_eq_some_iff.1 h).1
theorem Blk.new (w : World) (cs : List Value) (t : TypeId) : Blk (w.alloc (.cells cs.toArray t)) w.heap.size cs := ⟨t, heap_alloc_new w _⟩
theorem Blk.new_at {w : World} {cs : List Value} {t : TypeId} {g : Nat} (h : g = w.heap.size) : Blk (w.alloc (.cells cs.toArray t)) g cs := by subst h; exact Blk.new _ _ _
theorem Blk.only {w w' : World} {g : Nat} {cs : List Value} {fp : List Nat} (h : Blk w g cs) (ho : Only fp w w') (hn : g ∉ fp) : Blk w' g cs := by
  have := h.lt
  obtain ⟨t, h⟩ := h; exact ⟨t, (ho.block g this hn).trans h⟩
theorem Blk.keep {w w' : World} {g : Nat} {cs : List Value} (h : Blk w g cs) (ho : Only [] w w') : Blk w' g cs := h.only ho (by simp)
theorem Blk.cell {w : World} {g : Nat} {cs : List Value} (h : Blk w g cs) (i : Nat) {v : Value} (hv : cs[i]? = some v) : w.cell? ⟨g, i, none⟩ = some v := by
  obtain ⟨t, h⟩ := h
  rw [cell_of_row w g i _ t (0, 0) h]; simpa using hv
end Go.Proofs.YtkhdmiemfpelcaaGreat

namespace Go.Proofs.YtkhdmiemfpelcaaGreat
open Go.RowKit
set_option maxRecDepth 10000

structure Table where
  tracked : List Int
  patterns : List (List Int)
  distances : List Int

instance : Rp Table where
  size := 3
  rep w cs x fp := ∃ v0 v1 v2 f0 f1 f2, cs = [v0] ++ [v1] ++ [v2] ∧ fp = f0 ++ (f1 ++ f2) ∧ Rd w v0 x.tracked f0 ∧ Rd w v1 x.patterns f1 ∧ Rd w v2 x.distances f2
  len h := by
    obtain ⟨v0, v1, v2, f0, f1, f2, rfl, -, h0, h1, h2⟩ := h
    rfl
  frame h hf := by
    obtain ⟨v0, v1, v2, f0, f1, f2, hcs, rfl, h0, h1, h2⟩ := h
    exact ⟨v0, v1, v2, f0, f1, f2, hcs, rfl, Rp.frame h0 fun b hb => hf b (by simp [hb]), Rp.frame h1 fun b hb => hf b (by simp [hb]), Rp.frame h2 fun b hb => hf b (by simp [hb])⟩
  lt h := by
    obtain ⟨v0, v1, v2, f0, f1, f2, hcs, rfl, h0, h1, h2⟩ := h
    intro b hb
    simp only [List.mem_append] at hb
    rcases hb with hb | hb | hb
    · exact Rp.lt h0 b hb
    · exact Rp.lt h1 b hb
    · exact Rp.lt h2 b hb

instance : Mk Table where
  mark k x := ⟨Mk.mark (k) x.tracked, Mk.mark (k + (Mk.cnt x.tracked : Nat)) x.patterns, Mk.mark (k + (Mk.cnt x.tracked : Nat) + (Mk.cnt x.patterns : Nat)) x.distances⟩
  cnt x := Mk.cnt x.tracked + Mk.cnt x.patterns + Mk.cnt x.distances
instance : Sz Table where
  sz x := Sz.sz x.tracked + Sz.sz x.patterns + Sz.sz x.distances
instance : Sm Table where
  sm x := Sm.sm x.tracked ∧ Sm.sm x.patterns ∧ Sm.sm x.distances
instance : SzSm Table := ⟨fun x h => by
  have h' : Sz.sz x.tracked + Sz.sz x.patterns + Sz.sz x.distances ≤ 2097152 := h
  exact ⟨SzSm.of_ _ (by omega), SzSm.of_ _ (by omega), SzSm.of_ _ (by omega)⟩⟩
instance : CntSz Table := ⟨fun x => by
  have h' : Mk.cnt x.tracked + Mk.cnt x.patterns + Mk.cnt x.distances ≤ Sz.sz x.tracked + Sz.sz x.patterns + Sz.sz x.distances := by have := CntSz.le x.tracked; have := CntSz.le x.patterns; have := CntSz.le x.distances; omega
  exact h'⟩
instance : MkL Table := ⟨fun k x => by simp [Mk.mark, Mk.cnt, markL_idem, markL_cnt], fun k x => by simp [Mk.mark, Mk.cnt, markL_cnt]⟩
theorem Table.eq_iff {x y : Table} : x = y ↔ x.tracked = y.tracked ∧ x.patterns = y.patterns ∧ x.distances = y.distances := by
  cases x; cases y; simp

set_option maxHeartbeats 1000000 in
theorem eqTable_any (cs cs' : List Value) (x y : Table) (fp fp' : List Nat) (w : World) (h : Rp.rep w cs x fp) (h' : Rp.rep w cs' y fp') :
    Calls Tryz.prog 26 #[.agg cs.toArray, .agg cs'.toArray] w fun e w' => e = .returned (.bool (eqV x y)) ∧ Only [] w w' := by
  obtain ⟨v0, v1, v2, f0, f1, f2, rfl, rfl, h0, h1, h2⟩ := h
  obtain ⟨v0', v1', v2', f0', f1', f2', rfl, rfl, h0', h1', h2'⟩ := h'
  rcases q0 : eqV x.tracked y.tracked
  · go_enter Tryz.func26, Tryz.ntmps26
    go_wp2_with (first | (go_at_call 43; (with_reducible refine (eqInt64S_rd v0 v0' x.tracked y.tracked _ _ _ (Rp.keep h0 (by with_reducible repeat (first | exact Only.refl _ _ | assumption | refine Only.drewN ?_ _ | refine Only.drew ?_ | refine Only.alloc ?_ _ | refine Only.setCell ?_ (by intro hh; exfalso; simp at hh; try omega) _ | refine Only.trans ?_ (by assumption)))) (Rp.keep h0' (by with_reducible repeat (first | exact Only.refl _ _ | assumption | refine Only.drewN ?_ _ | refine Only.drew ?_ | refine Only.alloc ?_ _ | refine Only.setCell ?_ (by intro hh; exfalso; simp at hh; try omega) _ | refine Only.trans ?_ (by assumption))))).mono ?_); rintro e w0 ⟨rfl, n0, rfl⟩) | (go_at_call 27; (with_reducible refine (eqInt64SS_rd v1 v1' x.patterns y.patterns _ _ _ (Rp.keep h1 (by with_reducible repeat (first | exact Only.refl _ _ | assumption | refine Only.drewN ?_ _ | refine Only.drew ?_ | refine Only.alloc ?_ _ | refine Only.setCell ?_ (by intro hh; exfalso; simp at hh; try omega) _ | refine Only.trans ?_ (by assumption)))) (Rp.keep h1' (by with_reducible repeat (first | exact Only.refl _ _ | assumption | refine Only.drewN ?_ _ | refine Only.drew ?_ | refine Only.alloc ?_ _ | refine Only.setCell ?_ (by intro hh; exfalso; simp at hh; try omega) _ | refine Only.trans ?_ (by assumption))))).mono ?_); rintro e w1 ⟨rfl, n1, rfl⟩) | (go_at_call 43; (with_reducible refine (eqInt64S_rd v2 v2' x.distances y.distances _ _ _ (Rp.keep h2 (by with_reducible repeat (first | exact Only.refl _ _ | assumption | refine Only.drewN ?_ _ | refine Only.drew ?_ | refine Only.alloc ?_ _ | refine Only.setCell ?_ (by intro hh; exfalso; simp at hh; try omega) _ | refine Only.trans ?_ (by assumption)))) (Rp.keep h2' (by with_reducible repeat (first | exact Only.refl _ _ | assumption | refine Only.drewN ?_ _ | refine Only.drew ?_ | refine Only.alloc ?_ _ | refine Only.setCell ?_ (by intro hh; exfalso; simp at hh; try omega) _ | refine Only.trans ?_ (by assumption))))).mono ?_); rintro e w2 ⟨rfl, n2, rfl⟩))
    go_ret
    exact ⟨ret_bool (eqV_no (fun he => (eqV_iff'.1 q0) (Table.eq_iff.1 he).1)).symm, (by with_reducible repeat (first | exact Only.refl _ _ | assumption | refine Only.drewN ?_ _ | refine Only.drew ?_ | refine Only.alloc ?_ _ | refine Only.setCell ?_ (by intro hh; exfalso; simp at hh; try omega) _ | refine Only.trans ?_ (by assumption)))⟩
  rcases q1 : eqV x.patterns y.patterns
  · go_enter Tryz.func26, Tryz.ntmps26
    go_wp2_with (first | (go_at_call 43; (with_reducible refine (eqInt64S_rd v0 v0' x.tracked y.tracked _ _ _ (Rp.keep h0 (by with_reducible repeat (first | exact Only.refl _ _ | assumption | refine Only.drewN ?_ _ | refine Only.drew ?_ | refine Only.alloc ?_ _ | refine Only.setCell ?_ (by intro hh; exfalso; simp at hh; try omega) _ | refine Only.trans ?_ (by assumption)))) (Rp.keep h0' (by with_reducible repeat (first | exact Only.refl _ _ | assumption | refine Only.drewN ?_ _ | refine Only.drew ?_ | refine Only.alloc ?_ _ | refine Only.setCell ?_ (by intro hh; exfalso; simp at hh; try omega) _ | refine Only.trans ?_ (by assumption))))).mono ?_); rintro e w0 ⟨rfl, n0, rfl⟩) | (go_at_call 27; (with_reducible refine (eqInt64SS_rd v1 v1' x.patterns y.patterns _ _ _ (Rp.keep h1 (by with_reducible repeat (first | exact Only.refl _ _ | assumption | refine Only.drewN ?_ _ | refine Only.drew ?_ | refine Only.alloc ?_ _ | refine Only.setCell ?_ (by intro hh; exfalso; simp at hh; try omega) _ | refine Only.trans ?_ (by assumption)))) (Rp.keep h1' (by with_reducible repeat (first | exact Only.refl _ _ | assumption | refine Only.drewN ?_ _ | refine Only.drew ?_ | refine Only.alloc ?_ _ | refine Only.setCell ?_ (by intro hh; exfalso; simp at hh; try omega) _ | refine Only.trans ?_ (by assumption))))).mono ?_); rintro e w1 ⟨rfl, n1, rfl⟩) | (go_at_call 43; (with_reducible refine (eqInt64S_rd v2 v2' x.distances y.distances _ _ _ (Rp.keep h2 (by with_reducible repeat (first | exact Only.refl _ _ | assumption | refine Only.drewN ?_ _ | refine Only.drew ?_ | refine Only.alloc ?_ _ | refine Only.setCell ?_ (by intro hh; exfalso; simp at hh; try omega) _ | refine Only.trans ?_ (by assumption)))) (Rp.keep h2' (by with_reducible repeat (first | exact Only.refl _ _ | assumption | refine Only.drewN ?_ _ | refine Only.drew ?_ | refine Only.alloc ?_ _ | refine Only.setCell ?_ (by intro hh; exfalso; simp at hh; try omega) _ | refine Only.trans ?_ (by assumption))))).mono ?_); rintro e w2 ⟨rfl, n2, rfl⟩))
    go_ret
    exact ⟨ret_bool (eqV_no (fun he => (eqV_iff'.1 q1) (Table.eq_iff.1 he).2.1)).symm, (by with_reducible repeat (first | exact Only.refl _ _ | assumption | refine Only.drewN ?_ _ | refine Only.drew ?_ | refine Only.alloc ?_ _ | refine Only.setCell ?_ (by intro hh; exfalso; simp at hh; try omega) _ | refine Only.trans ?_ (by assumption)))⟩
  rcases q2 : eqV x.distances y.distances
  · go_enter Tryz.func26, Tryz.ntmps26
    go_wp2_with (first | (go_at_call 43; (with_reducible refine (eqInt64S_rd v0 v0' x.tracked y.tracked _ _ _ (Rp.keep h0 (by with_reducible repeat (first | exact Only.refl _ _ | assumption | refine Only.drewN ?_ _ | refine Only.drew ?_ | refine Only.alloc ?_ _ | refine Only.setCell ?_ (by intro hh; exfalso; simp at hh; try omega) _ | refine Only.trans ?_ (by assumption)))) (Rp.keep h0' (by with_reducible repeat (first | exact Only.refl _ _ | assumption | refine Only.drewN ?_ _ | refine Only.drew ?_ | refine Only.alloc ?_ _ | refine Only.setCell ?_ (by intro hh; exfalso; simp at hh; try omega) _ | refine Only.trans ?_ (by assumption))))).mono ?_); rintro e w0 ⟨rfl, n0, rfl⟩) | (go_at_call 27; (with_reducible refine (eqInt64SS_rd v1 v1' x.patterns y.patterns _ _ _ (Rp.keep h1 (by with_reducible repeat (first | exact Only.refl _ _ | assumption | refine Only.drewN ?_ _ | refine Only.drew ?_ | refine Only.alloc ?_ _ | refine Only.setCell ?_ (by intro hh; exfalso; simp at hh; try omega) _ | refine Only.trans ?_ (by assumption)))) (Rp.keep h1' (by with_reducible repeat (first | exact Only.refl _ _ | assumption | refine Only.drewN ?_ _ | refine Only.drew ?_ | refine Only.alloc ?_ _ | refine Only.setCell ?_ (by intro hh; exfalso; simp at hh; try omega) _ | refine Only.trans ?_ (by assumption))))).mono ?_); rintro e w1 ⟨rfl, n1, rfl⟩) | (go_at_call 43; (with_reducible refine (eqInt64S_rd v2 v2' x.distances y.distances _ _ _ (Rp.keep h2 (by with_reducible repeat (first | exact Only.refl _ _ | assumption | refine Only.drewN ?_ _ | refine Only.drew ?_ | refine Only.alloc ?_ _ | refine Only.setCell ?_ (by intro hh; exfalso; simp at hh; try omega) _ | refine Only.trans ?_ (by assumption)))) (Rp.keep h2' (by with_reducible repeat (first | exact Only.refl _ _ | assumption | refine Only.drewN ?_ _ | refine Only.drew ?_ | refine Only.alloc ?_ _ | refine Only.setCell ?_ (by intro hh; exfalso; simp at hh; try omega) _ | refine Only.trans ?_ (by assumption))))).mono ?_); rintro e w2 ⟨rfl, n2, rfl⟩))
    go_ret
    exact ⟨ret_bool (eqV_no (fun he => (eqV_iff'.1 q2) (Table.eq_iff.1 he).2.2)).symm, (by with_reducible repeat (first | exact Only.refl _ _ | assumption | refine Only.drewN ?_ _ | refine Only.drew ?_ | refine Only.alloc ?_ _ | refine Only.setCell ?_ (by intro hh; exfalso; simp at hh; try omega) _ | refine Only.trans ?_ (by assumption)))⟩
  go_enter Tryz.func26, Tryz.ntmps26
  go_wp2_with (first | (go_at_call 43; (with_reducible refine (eqInt64S_rd v0 v0' x.tracked y.tracked _ _ _ (Rp.keep h0 (by with_reducible repeat (first | exact Only.refl _ _ | assumption | refine Only.drewN ?_ _ | refine Only.drew ?_ | refine Only.alloc ?_ _ | refine Only.setCell ?_ (by intro hh; exfalso; simp at hh; try omega) _ | refine Only.trans ?_ (by assumption)))) (Rp.keep h0' (by with_reducible repeat (first | exact Only.refl _ _ | assumption | refine Only.drewN ?_ _ | refine Only.drew ?_ | refine Only.alloc ?_ _ | refine Only.setCell ?_ (by intro hh; exfalso; simp at hh; try omega) _ | refine Only.trans ?_ (by assumption))))).mono ?_); rintro e w0 ⟨rfl, n0, rfl⟩) | (go_at_call 27; (with_reducible refine (eqInt64SS_rd v1 v1' x.patterns y.patterns _ _ _ (Rp.keep h1 (by with_reducible repeat (first | exact Only.refl _ _ | assumption | refine Only.drewN ?_ _ | refine Only.drew ?_ | refine Only.alloc ?_ _ | refine Only.setCell ?_ (by intro hh; exfalso; simp at hh; try omega) _ | refine Only.trans ?_ (by assumption)))) (Rp.keep h1' (by with_reducible repeat (first | exact Only.refl _ _ | assumption | refine Only.drewN ?_ _ | refine Only.drew ?_ | refine Only.alloc ?_ _ | refine Only.setCell ?_ (by intro hh; exfalso; simp at hh; try omega) _ | refine Only.trans ?_ (by assumption))))).mono ?_); rintro e w1 ⟨rfl, n1, rfl⟩) | (go_at_call 43; (with_reducible refine (eqInt64S_rd v2 v2' x.distances y.distances _ _ _ (Rp.keep h2 (by with_reducible repeat (first | exact Only.refl _ _ | assumption | refine Only.drewN ?_ _ | refine Only.drew ?_ | refine Only.alloc ?_ _ | refine Only.setCell ?_ (by intro hh; exfalso; simp at hh; try omega) _ | refine Only.trans ?_ (by assumption)))) (Rp.keep h2' (by with_reducible repeat (first | exact Only.refl _ _ | assumption | refine Only.drewN ?_ _ | refine Only.drew ?_ | refine Only.alloc ?_ _ | refine Only.setCell ?_ (by intro hh; exfalso; simp at hh; try omega) _ | refine Only.trans ?_ (by assumption))))).mono ?_); rintro e w2 ⟨rfl, n2, rfl⟩))
  go_ret
  exact ⟨ret_bool (eqV_yes (Table.eq_iff.2 ⟨eqV_iff.1 q0, eqV_iff.1 q1, eqV_iff.1 q2⟩)).symm, (by with_reducible repeat (first | exact Only.refl _ _ | assumption | refine Only.drewN ?_ _ | refine Only.drew ?_ | refine Only.alloc ?_ _ | refine Only.setCell ?_ (by intro hh; exfalso; simp at hh; try omega) _ | refine Only.trans ?_ (by assumption)))⟩

set_option maxHeartbeats 1000000 in
theorem heldTable_any (cs : List Value) (x : Table) (fp : List Nat) (k : Int) (w : World) (h : Rp.rep w cs x fp) (h0 : 0 ≤ k) (hc : k + (Mk.cnt x : Nat) ≤ 4611686018427387904) :
    Calls Tryz.prog 30 #[.agg cs.toArray, .int .i64 k] w fun e w' => e = .returned (.int .i64 (heldV k x)) ∧ Only [] w w' := by
  obtain ⟨v0, v1, v2, f0, f1, f2, rfl, rfl, h0, h1, h2⟩ := h
  have hcc : Mk.cnt x = Mk.cnt x.tracked + Mk.cnt x.patterns + Mk.cnt x.distances := rfl
  have Hcc := Lib.hid hcc; clear hcc
  have hb0 : k + (Mk.cnt x.tracked : Nat) ≤ 4611686018427387904 := by have := Hcc.out; omega
  have hb1 : k + (Mk.cnt x.tracked : Nat) + (Mk.cnt x.patterns : Nat) ≤ 4611686018427387904 := by have := Hcc.out; omega
  have hb2 : k + (Mk.cnt x.tracked : Nat) + (Mk.cnt x.patterns : Nat) + (Mk.cnt x.distances : Nat) ≤ 4611686018427387904 := by have := Hcc.out; omega
  have hiff : x = Mk.mark k x ↔ x.tracked = Mk.mark (k) x.tracked ∧ x.patterns = Mk.mark (k + (Mk.cnt x.tracked : Nat)) x.patterns ∧ x.distances = Mk.mark (k + (Mk.cnt x.tracked : Nat) + (Mk.cnt x.patterns : Nat)) x.distances := by
    rw [Table.eq_iff]; simp [Mk.mark]
  have Hiff := Lib.hid hiff; clear hiff
  rcases heldV_pos (k) x.tracked with ⟨e0, m0⟩ | ⟨e0, m0⟩
  · have M0 := Lib.hid m0; clear m0
    go_enter Tryz.func30, Tryz.ntmps30
    go_wp2_with (first | (go_at_call 45; (with_reducible refine (heldInt64S_rd v0 x.tracked _ (k) _ (Rp.keep h0 (by with_reducible repeat (first | exact Only.refl _ _ | assumption | refine Only.drewN ?_ _ | refine Only.drew ?_ | refine Only.alloc ?_ _ | refine Only.setCell ?_ (by intro hh; exfalso; simp at hh; try omega) _ | refine Only.trans ?_ (by assumption)))) (by omega) hb0).mono ?_); rintro e w0 ⟨rfl, n0, rfl⟩) | (go_at_call 46; (with_reducible refine (heldInt64SS_rd v1 x.patterns _ (k + (Mk.cnt x.tracked : Nat)) _ (Rp.keep h1 (by with_reducible repeat (first | exact Only.refl _ _ | assumption | refine Only.drewN ?_ _ | refine Only.drew ?_ | refine Only.alloc ?_ _ | refine Only.setCell ?_ (by intro hh; exfalso; simp at hh; try omega) _ | refine Only.trans ?_ (by assumption)))) (by omega) hb1).mono ?_); rintro e w1 ⟨rfl, n1, rfl⟩) | (go_at_call 45; (with_reducible refine (heldInt64S_rd v2 x.distances _ (k + (Mk.cnt x.tracked : Nat) + (Mk.cnt x.patterns : Nat)) _ (Rp.keep h2 (by with_reducible repeat (first | exact Only.refl _ _ | assumption | refine Only.drewN ?_ _ | refine Only.drew ?_ | refine Only.alloc ?_ _ | refine Only.setCell ?_ (by intro hh; exfalso; simp at hh; try omega) _ | refine Only.trans ?_ (by assumption)))) (by omega) hb2).mono ?_); rintro e w2 ⟨rfl, n2, rfl⟩))
    go_ret
    exact ⟨ret_int (heldV_no (fun he => M0.out (Hiff.out.1 he).1)).symm, (by with_reducible repeat (first | exact Only.refl _ _ | assumption | refine Only.drewN ?_ _ | refine Only.drew ?_ | refine Only.alloc ?_ _ | refine Only.setCell ?_ (by intro hh; exfalso; simp at hh; try omega) _ | refine Only.trans ?_ (by assumption)))⟩
  have M0 := Lib.hid m0; clear m0
  rcases heldV_pos (k + (Mk.cnt x.tracked : Nat)) x.patterns with ⟨e1, m1⟩ | ⟨e1, m1⟩
  · have M1 := Lib.hid m1; clear m1
    go_enter Tryz.func30, Tryz.ntmps30
    go_wp2_with (first | (go_at_call 45; (with_reducible refine (heldInt64S_rd v0 x.tracked _ (k) _ (Rp.keep h0 (by with_reducible repeat (first | exact Only.refl _ _ | assumption | refine Only.drewN ?_ _ | refine Only.drew ?_ | refine Only.alloc ?_ _ | refine Only.setCell ?_ (by intro hh; exfalso; simp at hh; try omega) _ | refine Only.trans ?_ (by assumption)))) (by omega) hb0).mono ?_); rintro e w0 ⟨rfl, n0, rfl⟩) | (go_at_call 46; (with_reducible refine (heldInt64SS_rd v1 x.patterns _ (k + (Mk.cnt x.tracked : Nat)) _ (Rp.keep h1 (by with_reducible repeat (first | exact Only.refl _ _ | assumption | refine Only.drewN ?_ _ | refine Only.drew ?_ | refine Only.alloc ?_ _ | refine Only.setCell ?_ (by intro hh; exfalso; simp at hh; try omega) _ | refine Only.trans ?_ (by assumption)))) (by omega) hb1).mono ?_); rintro e w1 ⟨rfl, n1, rfl⟩) | (go_at_call 45; (with_reducible refine (heldInt64S_rd v2 x.distances _ (k + (Mk.cnt x.tracked : Nat) + (Mk.cnt x.patterns : Nat)) _ (Rp.keep h2 (by with_reducible repeat (first | exact Only.refl _ _ | assumption | refine Only.drewN ?_ _ | refine Only.drew ?_ | refine Only.alloc ?_ _ | refine Only.setCell ?_ (by intro hh; exfalso; simp at hh; try omega) _ | refine Only.trans ?_ (by assumption)))) (by omega) hb2).mono ?_); rintro e w2 ⟨rfl, n2, rfl⟩))
    go_ret
    exact ⟨ret_int (heldV_no (fun he => M1.out (Hiff.out.1 he).2.1)).symm, (by with_reducible repeat (first | exact Only.refl _ _ | assumption | refine Only.drewN ?_ _ | refine Only.drew ?_ | refine Only.alloc ?_ _ | refine Only.setCell ?_ (by intro hh; exfalso; simp at hh; try omega) _ | refine Only.trans ?_ (by assumption)))⟩
  have M1 := Lib.hid m1; clear m1
  rcases heldV_pos (k + (Mk.cnt x.tracked : Nat) + (Mk.cnt x.patterns : Nat)) x.distances with ⟨e2, m2⟩ | ⟨e2, m2⟩
  · have M2 := Lib.hid m2; clear m2
    go_enter Tryz.func30, Tryz.ntmps30
    go_wp2_with (first | (go_at_call 45; (with_reducible refine (heldInt64S_rd v0 x.tracked _ (k) _ (Rp.keep h0 (by with_reducible repeat (first | exact Only.refl _ _ | assumption | refine Only.drewN ?_ _ | refine Only.drew ?_ | refine Only.alloc ?_ _ | refine Only.setCell ?_ (by intro hh; exfalso; simp at hh; try omega) _ | refine Only.trans ?_ (by assumption)))) (by omega) hb0).mono ?_); rintro e w0 ⟨rfl, n0, rfl⟩) | (go_at_call 46; (with_reducible refine (heldInt64SS_rd v1 x.patterns _ (k + (Mk.cnt x.tracked : Nat)) _ (Rp.keep h1 (by with_reducible repeat (first | exact Only.refl _ _ | assumption | refine Only.drewN ?_ _ | refine Only.drew ?_ | refine Only.alloc ?_ _ | refine Only.setCell ?_ (by intro hh; exfalso; simp at hh; try omega) _ | refine Only.trans ?_ (by assumption)))) (by omega) hb1).mono ?_); rintro e w1 ⟨rfl, n1, rfl⟩) | (go_at_call 45; (with_reducible refine (heldInt64S_rd v2 x.distances _ (k + (Mk.cnt x.tracked : Nat) + (Mk.cnt x.patterns : Nat)) _ (Rp.keep h2 (by with_reducible repeat (first | exact Only.refl _ _ | assumption | refine Only.drewN ?_ _ | refine Only.drew ?_ | refine Only.alloc ?_ _ | refine Only.setCell ?_ (by intro hh; exfalso; simp at hh; try omega) _ | refine Only.trans ?_ (by assumption)))) (by omega) hb2).mono ?_); rintro e w2 ⟨rfl, n2, rfl⟩))
    go_ret
    exact ⟨ret_int (heldV_no (fun he => M2.out (Hiff.out.1 he).2.2)).symm, (by with_reducible repeat (first | exact Only.refl _ _ | assumption | refine Only.drewN ?_ _ | refine Only.drew ?_ | refine Only.alloc ?_ _ | refine Only.setCell ?_ (by intro hh; exfalso; simp at hh; try omega) _ | refine Only.trans ?_ (by assumption)))⟩
  have M2 := Lib.hid m2; clear m2
  go_enter Tryz.func30, Tryz.ntmps30
  go_wp2_with (first | (go_at_call 45; (with_reducible refine (heldInt64S_rd v0 x.tracked _ (k) _ (Rp.keep h0 (by with_reducible repeat (first | exact Only.refl _ _ | assumption | refine Only.drewN ?_ _ | refine Only.drew ?_ | refine Only.alloc ?_ _ | refine Only.setCell ?_ (by intro hh; exfalso; simp at hh; try omega) _ | refine Only.trans ?_ (by assumption)))) (by omega) hb0).mono ?_); rintro e w0 ⟨rfl, n0, rfl⟩) | (go_at_call 46; (with_reducible refine (heldInt64SS_rd v1 x.patterns _ (k + (Mk.cnt x.tracked : Nat)) _ (Rp.keep h1 (by with_reducible repeat (first | exact Only.refl _ _ | assumption | refine Only.drewN ?_ _ | refine Only.drew ?_ | refine Only.alloc ?_ _ | refine Only.setCell ?_ (by intro hh; exfalso; simp at hh; try omega) _ | refine Only.trans ?_ (by assumption)))) (by omega) hb1).mono ?_); rintro e w1 ⟨rfl, n1, rfl⟩) | (go_at_call 45; (with_reducible refine (heldInt64S_rd v2 x.distances _ (k + (Mk.cnt x.tracked : Nat) + (Mk.cnt x.patterns : Nat)) _ (Rp.keep h2 (by with_reducible repeat (first | exact Only.refl _ _ | assumption | refine Only.drewN ?_ _ | refine Only.drew ?_ | refine Only.alloc ?_ _ | refine Only.setCell ?_ (by intro hh; exfalso; simp at hh; try omega) _ | refine Only.trans ?_ (by assumption)))) (by omega) hb2).mono ?_); rintro e w2 ⟨rfl, n2, rfl⟩))
  go_ret
  exact ⟨ret_int (by rw [heldV_yes (Hiff.out.2 ⟨M0.out, M1.out, M2.out⟩)]; have := Hcc.out; omega), (by with_reducible repeat (first | exact Only.refl _ _ | assumption | refine Only.drewN ?_ _ | refine Only.drew ?_ | refine Only.alloc ?_ _ | refine Only.setCell ?_ (by intro hh; exfalso; simp at hh; try omega) _ | refine Only.trans ?_ (by assumption)))⟩

set_option maxHeartbeats 1000000 in
theorem szTable_any (cs : List Value) (x : Table) (fp : List Nat) (k : Int) (w : World) (h : Rp.rep w cs x fp) (h0 : 0 ≤ k) (h1 : k ≤ 2147483648) :
    Calls Tryz.prog 16 #[.agg cs.toArray, .int .i64 k] w fun e w' => e = .returned (.int .i64 (szV k x)) ∧ Only [] w w' := by
  obtain ⟨v0, v1, v2, f0, f1, f2, rfl, rfl, h0, h1, h2⟩ := h
  have hcc : Sz.sz x = Sz.sz x.tracked + Sz.sz x.patterns + Sz.sz x.distances := rfl
  have Hcc := Lib.hid hcc; clear hcc
  rcases szV_cases (k) x.tracked with ⟨e0, m0⟩ | ⟨e0, r0, m0⟩
  · go_enter Tryz.func16, Tryz.ntmps16
    go_wp2_with (first | (go_at_call 31; (with_reducible refine (szInt64S_rd v0 x.tracked _ (k) _ (Rp.keep h0 (by with_reducible repeat (first | exact Only.refl _ _ | assumption | refine Only.drewN ?_ _ | refine Only.drew ?_ | refine Only.alloc ?_ _ | refine Only.setCell ?_ (by intro hh; exfalso; simp at hh; try omega) _ | refine Only.trans ?_ (by assumption)))) (by omega) (by omega)).mono ?_); rintro e w0 ⟨rfl, n0, rfl⟩) | (go_at_call 15; (with_reducible refine (szInt64SS_rd v1 x.patterns _ (k - (Sz.sz x.tracked : Nat)) _ (Rp.keep h1 (by with_reducible repeat (first | exact Only.refl _ _ | assumption | refine Only.drewN ?_ _ | refine Only.drew ?_ | refine Only.alloc ?_ _ | refine Only.setCell ?_ (by intro hh; exfalso; simp at hh; try omega) _ | refine Only.trans ?_ (by assumption)))) (by omega) (by omega)).mono ?_); rintro e w1 ⟨rfl, n1, rfl⟩) | (go_at_call 31; (with_reducible refine (szInt64S_rd v2 x.distances _ (k - (Sz.sz x.tracked : Nat) - (Sz.sz x.patterns : Nat)) _ (Rp.keep h2 (by with_reducible repeat (first | exact Only.refl _ _ | assumption | refine Only.drewN ?_ _ | refine Only.drew ?_ | refine Only.alloc ?_ _ | refine Only.setCell ?_ (by intro hh; exfalso; simp at hh; try omega) _ | refine Only.trans ?_ (by assumption)))) (by omega) (by omega)).mono ?_); rintro e w2 ⟨rfl, n2, rfl⟩))
    go_ret
    exact ⟨ret_int (szV_no (by have := Hcc.out; omega)).symm, (by with_reducible repeat (first | exact Only.refl _ _ | assumption | refine Only.drewN ?_ _ | refine Only.drew ?_ | refine Only.alloc ?_ _ | refine Only.setCell ?_ (by intro hh; exfalso; simp at hh; try omega) _ | refine Only.trans ?_ (by assumption)))⟩
  rcases szV_cases (k - (Sz.sz x.tracked : Nat)) x.patterns with ⟨e1, m1⟩ | ⟨e1, r1, m1⟩
  · go_enter Tryz.func16, Tryz.ntmps16
    go_wp2_with (first | (go_at_call 31; (with_reducible refine (szInt64S_rd v0 x.tracked _ (k) _ (Rp.keep h0 (by with_reducible repeat (first | exact Only.refl _ _ | assumption | refine Only.drewN ?_ _ | refine Only.drew ?_ | refine Only.alloc ?_ _ | refine Only.setCell ?_ (by intro hh; exfalso; simp at hh; try omega) _ | refine Only.trans ?_ (by assumption)))) (by omega) (by omega)).mono ?_); rintro e w0 ⟨rfl, n0, rfl⟩) | (go_at_call 15; (with_reducible refine (szInt64SS_rd v1 x.patterns _ (k - (Sz.sz x.tracked : Nat)) _ (Rp.keep h1 (by with_reducible repeat (first | exact Only.refl _ _ | assumption | refine Only.drewN ?_ _ | refine Only.drew ?_ | refine Only.alloc ?_ _ | refine Only.setCell ?_ (by intro hh; exfalso; simp at hh; try omega) _ | refine Only.trans ?_ (by assumption)))) (by omega) (by omega)).mono ?_); rintro e w1 ⟨rfl, n1, rfl⟩) | (go_at_call 31; (with_reducible refine (szInt64S_rd v2 x.distances _ (k - (Sz.sz x.tracked : Nat) - (Sz.sz x.patterns : Nat)) _ (Rp.keep h2 (by with_reducible repeat (first | exact Only.refl _ _ | assumption | refine Only.drewN ?_ _ | refine Only.drew ?_ | refine Only.alloc ?_ _ | refine Only.setCell ?_ (by intro hh; exfalso; simp at hh; try omega) _ | refine Only.trans ?_ (by assumption)))) (by omega) (by omega)).mono ?_); rintro e w2 ⟨rfl, n2, rfl⟩))
    go_ret
    exact ⟨ret_int (szV_no (by have := Hcc.out; omega)).symm, (by with_reducible repeat (first | exact Only.refl _ _ | assumption | refine Only.drewN ?_ _ | refine Only.drew ?_ | refine Only.alloc ?_ _ | refine Only.setCell ?_ (by intro hh; exfalso; simp at hh; try omega) _ | refine Only.trans ?_ (by assumption)))⟩
  rcases szV_cases (k - (Sz.sz x.tracked : Nat) - (Sz.sz x.patterns : Nat)) x.distances with ⟨e2, m2⟩ | ⟨e2, r2, m2⟩
  · go_enter Tryz.func16, Tryz.ntmps16
    go_wp2_with (first | (go_at_call 31; (with_reducible refine (szInt64S_rd v0 x.tracked _ (k) _ (Rp.keep h0 (by with_reducible repeat (first | exact Only.refl _ _ | assumption | refine Only.drewN ?_ _ | refine Only.drew ?_ | refine Only.alloc ?_ _ | refine Only.setCell ?_ (by intro hh; exfalso; simp at hh; try omega) _ | refine Only.trans ?_ (by assumption)))) (by omega) (by omega)).mono ?_); rintro e w0 ⟨rfl, n0, rfl⟩) | (go_at_call 15; (with_reducible refine (szInt64SS_rd v1 x.patterns _ (k - (Sz.sz x.tracked : Nat)) _ (Rp.keep h1 (by with_reducible repeat (first | exact Only.refl _ _ | assumption | refine Only.drewN ?_ _ | refine Only.drew ?_ | refine Only.alloc ?_ _ | refine Only.setCell ?_ (by intro hh; exfalso; simp at hh; try omega) _ | refine Only.trans ?_ (by assumption)))) (by omega) (by omega)).mono ?_); rintro e w1 ⟨rfl, n1, rfl⟩) | (go_at_call 31; (with_reducible refine (szInt64S_rd v2 x.distances _ (k - (Sz.sz x.tracked : Nat) - (Sz.sz x.patterns : Nat)) _ (Rp.keep h2 (by with_reducible repeat (first | exact Only.refl _ _ | assumption | refine Only.drewN ?_ _ | refine Only.drew ?_ | refine Only.alloc ?_ _ | refine Only.setCell ?_ (by intro hh; exfalso; simp at hh; try omega) _ | refine Only.trans ?_ (by assumption)))) (by omega) (by omega)).mono ?_); rintro e w2 ⟨rfl, n2, rfl⟩))
    go_ret
    exact ⟨ret_int (szV_no (by have := Hcc.out; omega)).symm, (by with_reducible repeat (first | exact Only.refl _ _ | assumption | refine Only.drewN ?_ _ | refine Only.drew ?_ | refine Only.alloc ?_ _ | refine Only.setCell ?_ (by intro hh; exfalso; simp at hh; try omega) _ | refine Only.trans ?_ (by assumption)))⟩
  go_enter Tryz.func16, Tryz.ntmps16
  go_wp2_with (first | (go_at_call 31; (with_reducible refine (szInt64S_rd v0 x.tracked _ (k) _ (Rp.keep h0 (by with_reducible repeat (first | exact Only.refl _ _ | assumption | refine Only.drewN ?_ _ | refine Only.drew ?_ | refine Only.alloc ?_ _ | refine Only.setCell ?_ (by intro hh; exfalso; simp at hh; try omega) _ | refine Only.trans ?_ (by assumption)))) (by omega) (by omega)).mono ?_); rintro e w0 ⟨rfl, n0, rfl⟩) | (go_at_call 15; (with_reducible refine (szInt64SS_rd v1 x.patterns _ (k - (Sz.sz x.tracked : Nat)) _ (Rp.keep h1 (by with_reducible repeat (first | exact Only.refl _ _ | assumption | refine Only.drewN ?_ _ | refine Only.drew ?_ | refine Only.alloc ?_ _ | refine Only.setCell ?_ (by intro hh; exfalso; simp at hh; try omega) _ | refine Only.trans ?_ (by assumption)))) (by omega) (by omega)).mono ?_); rintro e w1 ⟨rfl, n1, rfl⟩) | (go_at_call 31; (with_reducible refine (szInt64S_rd v2 x.distances _ (k - (Sz.sz x.tracked : Nat) - (Sz.sz x.patterns : Nat)) _ (Rp.keep h2 (by with_reducible repeat (first | exact Only.refl _ _ | assumption | refine Only.drewN ?_ _ | refine Only.drew ?_ | refine Only.alloc ?_ _ | refine Only.setCell ?_ (by intro hh; exfalso; simp at hh; try omega) _ | refine Only.trans ?_ (by assumption)))) (by omega) (by omega)).mono ?_); rintro e w2 ⟨rfl, n2, rfl⟩))
  go_ret
  exact ⟨ret_int (by rw [szV_yes (by have := Hcc.out; omega)]; have := Hcc.out; omega), (by with_reducible repeat (first | exact Only.refl _ _ | assumption | refine Only.drewN ?_ _ | refine Only.drew ?_ | refine Only.alloc ?_ _ | refine Only.setCell ?_ (by intro hh; exfalso; simp at hh; try omega) _ | refine Only.trans ?_ (by assumption)))⟩

set_option maxHeartbeats 1000000 in
theorem markTable_any (cs : List Value) (x : Table) (fp : List Nat) (k : Int) (w : World) (h : Rp.rep w cs x fp) (hnd : fp.Nodup) (ho : Own w fp) (h0 : 0 ≤ k) (hc : k + (Mk.cnt x : Nat) ≤ 4611686018427387904) :
    Calls Tryz.prog 29 #[.agg cs.toArray, .int .i64 k] w fun e w' => e = .returned (.int .i64 (k + (Mk.cnt x : Nat))) ∧ Rp.rep w' cs (Mk.mark k x) fp ∧ Own w' fp ∧ Only fp w w' := by
  obtain ⟨v0, v1, v2, f0, f1, f2, rfl, rfl, h0, h1, h2⟩ := h
  have hcc : Mk.cnt x = Mk.cnt x.tracked + Mk.cnt x.patterns + Mk.cnt x.distances := rfl
  have Hcc := Lib.hid hcc; clear hcc
  have hb0 : k + (Mk.cnt x.tracked : Nat) ≤ 4611686018427387904 := by have := Hcc.out; omega
  have hb1 : k + (Mk.cnt x.tracked : Nat) + (Mk.cnt x.patterns : Nat) ≤ 4611686018427387904 := by have := Hcc.out; omega
  have hb2 : k + (Mk.cnt x.tracked : Nat) + (Mk.cnt x.patterns : Nat) + (Mk.cnt x.distances : Nat) ≤ 4611686018427387904 := by have := Hcc.out; omega
  obtain ⟨n0, m0, d0, e0⟩ := nd_app hnd
  obtain ⟨n1, n2, d1, e1⟩ := nd_app m0
  have D01 : ∀ z ∈ f0, z ∉ f1 := (fun z hz hm => d0 z hz (List.mem_append_left _ hm))
  have D02 : ∀ z ∈ f0, z ∉ f2 := (fun z hz hm => d0 z hz (List.mem_append_right _ hm))
  have D10 : ∀ z ∈ f1, z ∉ f0 := (fun z hz hm => e0 z (List.mem_append_left _ hz) hm)
  have D12 : ∀ z ∈ f1, z ∉ f2 := (fun z hz hm => d1 z hz hm)
  have D20 : ∀ z ∈ f2, z ∉ f0 := (fun z hz hm => e0 z (List.mem_append_right _ hz) hm)
  have D21 : ∀ z ∈ f2, z ∉ f1 := (fun z hz hm => e1 z hz hm)
  have l0 := Rp.lt h0
  have l1 := Rp.lt h1
  have l2 := Rp.lt h2
  go_enter Tryz.func29, Tryz.ntmps29
  go_wp2_with (first | (go_at_call 44; (with_reducible refine (markInt64S_rd v0 x.tracked f0 (k) _ (Rp.keep h0 (by with_reducible repeat (first | exact Only.refl _ _ | assumption | refine Only.drewN ?_ _ | refine Only.drew ?_ | refine Only.alloc ?_ _ | refine Only.setCell ?_ (by intro hh; exfalso; simp at hh; try omega) _ | refine Only.trans ?_ (by assumption)))) (ho.left.keep (by with_reducible repeat (first | exact Only.refl _ _ | assumption | refine Only.drewN ?_ _ | refine Only.drew ?_ | refine Only.alloc ?_ _ | refine Only.setCell ?_ (by intro hh; exfalso; simp at hh; try omega) _ | refine Only.trans ?_ (by assumption)))) (by omega) hb0).mono ?_); rintro e w0 ⟨rfl, r0, o0, t0⟩; have s0 : w.heap.size < w0.heap.size := (Nat.lt_of_lt_of_le (by simp) t0.size); have q0 := t0.cells_eq w.heap.size (by simp) (fun hm => absurd (l0 _ hm) (by omega))) | (go_at_call 28; (with_reducible refine (markInt64SS_rd v1 x.patterns f1 (k + (Mk.cnt x.tracked : Nat)) _ (Rp.only (Rp.keep h1 (by with_reducible repeat (first | exact Only.refl _ _ | assumption | refine Only.drewN ?_ _ | refine Only.drew ?_ | refine Only.alloc ?_ _ | refine Only.setCell ?_ (by intro hh; exfalso; simp at hh; try omega) _ | refine Only.trans ?_ (by assumption)))) t0 D10) n1 ((ho.right.left.keep (by with_reducible repeat (first | exact Only.refl _ _ | assumption | refine Only.drewN ?_ _ | refine Only.drew ?_ | refine Only.alloc ?_ _ | refine Only.setCell ?_ (by intro hh; exfalso; simp at hh; try omega) _ | refine Only.trans ?_ (by assumption)))).only t0 D10) (by omega) hb1).mono ?_); rintro e w1 ⟨rfl, r1, o1, t1⟩; have s1 : w.heap.size < w1.heap.size := (Nat.lt_of_lt_of_le s0 t1.size); have q1 := t1.cells_eq w.heap.size s0 (fun hm => absurd (l1 _ hm) (by omega))) | (go_at_call 44; (with_reducible refine (markInt64S_rd v2 x.distances f2 (k + (Mk.cnt x.tracked : Nat) + (Mk.cnt x.patterns : Nat)) _ (Rp.only (Rp.only (Rp.keep h2 (by with_reducible repeat (first | exact Only.refl _ _ | assumption | refine Only.drewN ?_ _ | refine Only.drew ?_ | refine Only.alloc ?_ _ | refine Only.setCell ?_ (by intro hh; exfalso; simp at hh; try omega) _ | refine Only.trans ?_ (by assumption)))) t0 D20) t1 D21) (((ho.right.right.keep (by with_reducible repeat (first | exact Only.refl _ _ | assumption | refine Only.drewN ?_ _ | refine Only.drew ?_ | refine Only.alloc ?_ _ | refine Only.setCell ?_ (by intro hh; exfalso; simp at hh; try omega) _ | refine Only.trans ?_ (by assumption)))).only t0 D20).only t1 D21) (by omega) hb2).mono ?_); rintro e w2 ⟨rfl, r2, o2, t2⟩; have s2 : w.heap.size < w2.heap.size := (Nat.lt_of_lt_of_le s1 t2.size); have q2 := t2.cells_eq w.heap.size s1 (fun hm => absurd (l2 _ hm) (by omega))))
  go_ret
  have hk0 : Only [] w (w.alloc (.cells ([v0] ++ [v1] ++ [v2]).toArray 32)) := (by with_reducible repeat (first | exact Only.refl _ _ | assumption | refine Only.drewN ?_ _ | refine Only.drew ?_ | refine Only.alloc ?_ _ | refine Only.setCell ?_ (by intro hh; exfalso; simp at hh; try omega) _ | refine Only.trans ?_ (by assumption)))
  exact ⟨ret_int (by have := Hcc.out; omega), ⟨v0, v1, v2, f0, f1, f2, rfl, rfl, (Rp.only (Rp.only r0 t1 D01) t2 D02), (Rp.only r1 t2 D12), r2⟩, (((o0.only t1 D01).only t2 D02).append ((o1.only t2 D12).append o2)), (hk0.weaken _).trans (Only.trans (Only.trans (t0.mono (fun z hz _ => by simp [hz])) (t1.mono (fun z hz _ => by simp [hz]))) (t2.mono (fun z hz _ => by simp [hz])))⟩

set_option maxHeartbeats 1000000 in
theorem toTable_any (cs : List Value) (x : Table) (fp : List Nat) (w : World) (h : Rp.rep w cs x fp) (hsm : Sm.sm x) :
    Calls Tryz.prog 22 #[.agg cs.toArray] w fun e w' => ∃ cs' fp', e = .returned (.agg cs'.toArray) ∧ Rp.rep w' cs' x fp' ∧ Fresh w.heap.size w' fp' ∧ Only [] w w' := by
  obtain ⟨v0, v1, v2, f0, f1, f2, rfl, rfl, h0, h1, h2⟩ := h
  obtain ⟨g0, g1, g2⟩ := hsm
  go_enter Tryz.func22, Tryz.ntmps22
  go_wp2_with (first | (go_at_call 37; (with_reducible refine (toInt64S_sm v0 x.tracked _ _ (Rp.keep h0 (by with_reducible repeat (first | exact Only.refl _ _ | assumption | refine Only.drewN ?_ _ | refine Only.drew ?_ | refine Only.alloc ?_ _ | refine Only.setCell ?_ (by intro hh; exfalso; simp at hh; try omega) _ | refine Only.trans ?_ (by assumption)))) g0).mono ?_); rintro e w0 ⟨u0, fz0, rfl, r0, F0, t0⟩; have k0 := r0.open_; obtain ⟨A0, C0, _, _, rfl, -⟩ := k0; have s0 : w.heap.size + 1 + 1 < w0.heap.size := (by have := t0.size; simp at this; omega); have y00 := t0.cells_eq w.heap.size (by simp; try omega) (by simp); have z00 := t0.frozen_eq w.heap.size (by simp; try omega) (by simp); have y01 := t0.cells_eq (w.heap.size + 1) (by simp; try omega) (by simp); have z01 := t0.frozen_eq (w.heap.size + 1) (by simp; try omega) (by simp); have y02 := t0.cells_eq (w.heap.size + 1 + 1) (by simp; try omega) (by simp); have z02 := t0.frozen_eq (w.heap.size + 1 + 1) (by simp; try omega) (by simp)) | (go_at_call 21; (with_reducible refine (toInt64SS_sm v1 x.patterns _ _ (Rp.keep h1 (by with_reducible repeat (first | exact Only.refl _ _ | assumption | refine Only.drewN ?_ _ | refine Only.drew ?_ | refine Only.alloc ?_ _ | refine Only.setCell ?_ (by intro hh; exfalso; simp at hh; try omega) _ | refine Only.trans ?_ (by assumption)))) g1).mono ?_); rintro e w1 ⟨u1, fz1, rfl, r1, F1, t1⟩; have k1 := r1.open_; obtain ⟨A1, C1, _, _, rfl, -⟩ := k1; have s1 : w.heap.size + 1 + 1 < w1.heap.size := (by have := t1.size; simp at this; omega); have y10 := t1.cells_eq w.heap.size (by simp; try omega) (by simp); have z10 := t1.frozen_eq w.heap.size (by simp; try omega) (by simp); have y11 := t1.cells_eq (w.heap.size + 1) (by simp; try omega) (by simp); have z11 := t1.frozen_eq (w.heap.size + 1) (by simp; try omega) (by simp); have y12 := t1.cells_eq (w.heap.size + 1 + 1) (by simp; try omega) (by simp); have z12 := t1.frozen_eq (w.heap.size + 1 + 1) (by simp; try omega) (by simp)) | (go_at_call 37; (with_reducible refine (toInt64S_sm v2 x.distances _ _ (Rp.keep h2 (by with_reducible repeat (first | exact Only.refl _ _ | assumption | refine Only.drewN ?_ _ | refine Only.drew ?_ | refine Only.alloc ?_ _ | refine Only.setCell ?_ (by intro hh; exfalso; simp at hh; try omega) _ | refine Only.trans ?_ (by assumption)))) g2).mono ?_); rintro e w2 ⟨u2, fz2, rfl, r2, F2, t2⟩; have k2 := r2.open_; obtain ⟨A2, C2, _, _, rfl, -⟩ := k2; have s2 : w.heap.size + 1 + 1 < w2.heap.size := (by have := t2.size; simp at this; omega); have y20 := t2.cells_eq w.heap.size (by simp; try omega) (by simp); have z20 := t2.frozen_eq w.heap.size (by simp; try omega) (by simp); have y21 := t2.cells_eq (w.heap.size + 1) (by simp; try omega) (by simp); have z21 := t2.frozen_eq (w.heap.size + 1) (by simp; try omega) (by simp); have y22 := t2.cells_eq (w.heap.size + 1 + 1) (by simp; try omega) (by simp); have z22 := t2.frozen_eq (w.heap.size + 1 + 1) (by simp; try omega) (by simp)))
  have T0 := t0.size
  simp at T0
  have T1 := t1.size
  simp at T1
  have T2 := t2.size
  simp at T2
  refine bodyPost_ret (v := .agg #[.slice A0 x.tracked.length C0, .slice A1 x.patterns.length C1, .slice A2 x.distances.length C2]) (by simp [results, Tryz.results22, go_sem, y01, y11, y21]) rfl ⟨[.slice A0 x.tracked.length C0, .slice A1 x.patterns.length C1, .slice A2 x.distances.length C2], _, rfl, ⟨.slice A0 x.tracked.length C0, .slice A1 x.patterns.length C1, .slice A2 x.distances.length C2, fz0, fz1, fz2, rfl, rfl, Rp.only (fp' := [w.heap.size + 1, w.heap.size + 1 + 1]) r0 (by with_reducible repeat (first | exact Only.refl _ _ | assumption | refine Only.drewN ?_ _ | refine Only.drew ?_ | refine Only.alloc ?_ _ | refine Only.setCell ?_ (by intro _; simp) _ | refine Only.trans ?_ (Only.weaken (by assumption) _))) (fun b hb hm => by have := F0.ge b hb; simp at hm this; omega), Rp.only (fp' := [w.heap.size + 1, w.heap.size + 1 + 1]) r1 (by with_reducible repeat (first | exact Only.refl _ _ | assumption | refine Only.drewN ?_ _ | refine Only.drew ?_ | refine Only.alloc ?_ _ | refine Only.setCell ?_ (by intro _; simp) _ | refine Only.trans ?_ (Only.weaken (by assumption) _))) (fun b hb hm => by have := F1.ge b hb; simp at hm this; omega), Rp.only (fp' := [w.heap.size + 1, w.heap.size + 1 + 1]) r2 (by with_reducible repeat (first | exact Only.refl _ _ | assumption | refine Only.drewN ?_ _ | refine Only.drew ?_ | refine Only.alloc ?_ _ | refine Only.setCell ?_ (by intro _; simp) _ | refine Only.trans ?_ (Only.weaken (by assumption) _))) (fun b hb hm => by have := F2.ge b hb; simp at hm this; omega)⟩, Fresh.mono (Fresh.append (F0.only (fp' := [w.heap.size + 1, w.heap.size + 1 + 1]) (by with_reducible repeat (first | exact Only.refl _ _ | assumption | refine Only.drewN ?_ _ | refine Only.drew ?_ | refine Only.alloc ?_ _ | refine Only.setCell ?_ (by intro _; simp) _ | refine Only.trans ?_ (Only.weaken (by assumption) _))) (fun b hb hm => by have := F0.ge b hb; simp at hm this; omega)) (Fresh.append (F1.only (fp' := [w.heap.size + 1, w.heap.size + 1 + 1]) (by with_reducible repeat (first | exact Only.refl _ _ | assumption | refine Only.drewN ?_ _ | refine Only.drew ?_ | refine Only.alloc ?_ _ | refine Only.setCell ?_ (by intro _; simp) _ | refine Only.trans ?_ (Only.weaken (by assumption) _))) (fun b hb hm => by have := F1.ge b hb; simp at hm this; omega)) (F2.only (fp' := [w.heap.size + 1, w.heap.size + 1 + 1]) (by with_reducible repeat (first | exact Only.refl _ _ | assumption | refine Only.drewN ?_ _ | refine Only.drew ?_ | refine Only.alloc ?_ _ | refine Only.setCell ?_ (by intro _; simp) _ | refine Only.trans ?_ (Only.weaken (by assumption) _))) (fun b hb hm => by have := F2.ge b hb; simp at hm this; omega)) (by simp; try omega) (fun b hb => by have := F1.lt b hb; simp; try omega)) (by simp; try omega) (fun b hb => by have := F0.lt b hb; simp; try omega)) (by simp; try omega), (by with_reducible repeat (first | exact Only.refl _ _ | assumption | refine Only.drewN ?_ _ | refine Only.drew ?_ | refine Only.alloc ?_ _ | refine Only.setCell ?_ (by intro hh; exfalso; simp at hh; try omega) _ | refine Only.trans ?_ (by assumption)))⟩

end Go.Proofs.YtkhdmiemfpelcaaGreat

namespace Go.Proofs.YtkhdmiemfpelcaaGreat
open Go.RowKit
set_option maxRecDepth 10000

theorem SeqA.at3 {w : World} {a : Option Addr} {cap : Nat} {xs : List Table} {ob : List Nat} {fps : List (List Nat)} (h : SeqA w a cap xs ob fps) (k : Nat) (hk : k < xs.length) :
    ∃ b off v1 v2 v3, a = some ⟨b, off, none⟩ ∧ ob = [b] ∧ w.cell? ⟨b, off + k * 3, none⟩ = some v1 ∧ w.cell? ⟨b, off + k * 3 + 1, none⟩ = some v2 ∧ w.cell? ⟨b, off + k * 3 + 2, none⟩ = some v3 ∧ Rp.rep w [v1, v2, v3] xs[k] (fps[k]'(by rw [h.nf]; exact hk)) := by
  obtain ⟨b, off, cs, ha, hob, hc, hr⟩ := h.at_ k hk
  have hl := Rp.len hr
  match cs, hl with
  | [v1, v2, v3], _ => exact ⟨b, off, v1, v2, v3, ha, hob, hc 0 v1 rfl, hc 1 v2 rfl, hc 2 v3 rfl, hr⟩





/-- the first elements of a list whose elements take several cells, read one by one -/
structure ReadsC {α : Type} [Rp α] (w : World) (B : Nat) (css : List (List Value)) (xs : List α) (fps : List (List Nat)) : Prop where
  vl : css.length = xs.length
  fl : fps.length = xs.length
  at_ : ∀ k (h1 : k < css.length) (h2 : k < xs.length) (h3 : k < fps.length), Rp.rep w css[k] xs[k] fps[k]
  fresh : Fresh B w fps.flatten
section
variable {α : Type} [Rp α] {w w' : World} {B : Nat} {css : List (List Value)} {xs : List α} {fps : List (List Nat)}
theorem ReadsC.nil (w : World) (B : Nat) : ReadsC w B [] ([] : List α) [] := ⟨rfl, rfl, by simp, Fresh.nil _ _⟩
theorem ReadsC.only {fp : List Nat} (h : ReadsC w B css xs fps) (ho : Only fp w w') (hd : ∀ b ∈ fp, b < B ∨ w.heap.size ≤ b) : ReadsC w' B css xs fps :=
  ⟨h.vl, h.fl, fun k h1 h2 h3 => Rp.only (h.at_ k h1 h2 h3) ho (fun b hb hm => by
      have h4 := h.fresh.ge b (mem_flatten_get h3 hb); have h5 := h.fresh.lt b (mem_flatten_get h3 hb); have := hd b hm; omega),
    h.fresh.only ho (fun b hb hm => by have h4 := h.fresh.ge b hb; have h5 := h.fresh.lt b hb; have := hd b hm; omega)⟩
theorem ReadsC.snoc {cs : List Value} {x : α} {fp : List Nat} (h : ReadsC w B css xs fps) (hv : Rp.rep w cs x fp) (hf : Fresh w'.heap.size w fp) (hB : B ≤ w'.heap.size) (hlt : ∀ b ∈ fps.flatten, b < w'.heap.size) :
    ReadsC w B (css ++ [cs]) (xs ++ [x]) (fps ++ [fp]) := by
  refine ⟨by simp [h.vl], by simp [h.fl], fun k h1 h2 h3 => ?_, ?_⟩
  · by_cases hk : k < xs.length
    · rw [List.getElem_append_left (by rw [h.vl]; exact hk), List.getElem_append_left hk, List.getElem_append_left (by rw [h.fl]; exact hk)]
      exact h.at_ k _ _ _
    · have : k = xs.length := by simp at h2; omega
      subst this
      rw [List.getElem_append_right (by rw [h.vl]; omega), List.getElem_append_right (by omega), List.getElem_append_right (by rw [h.fl]; omega)]
      simpa [h.vl, h.fl] using hv
  · rw [List.flatten_append]
    simp only [List.flatten_cons, List.flatten_nil, List.append_nil]
    exact h.fresh.append hf hB hlt
end
theorem set3 (L : List Value) (n j : Nat) (z a b c : Value) (h : j < n) (hl : L.length = j * 3) :
    (((L ++ List.replicate ((n - j) * 3) z).set (j * 3) a).set (j * 3 + 1) b).set (j * 3 + 2) c = (L ++ [a, b, c]) ++ List.replicate ((n - (j + 1)) * 3) z := by
  have h2 : (n - j) * 3 = (n - (j + 1)) * 3 + 1 + 1 + 1 := by omega
  rw [h2, List.replicate_succ, List.replicate_succ, List.replicate_succ]
  rw [List.set_append_right _ _ (by omega), List.set_append_right _ _ (by omega), List.set_append_right _ _ (by omega)]
  have e0 : j * 3 - L.length = 0 := by omega
  have e1 : j * 3 + 1 - L.length = 1 := by omega
  have e2 : j * 3 + 2 - L.length = 2 := by omega
  rw [e0, e1, e2]
  simp only [List.set, List.append_assoc, List.cons_append, List.nil_append]

end Go.Proofs.YtkhdmiemfpelcaaGreat


namespace Go.Proofs.YtkhdmiemfpelcaaGreat
open Go.RowKit
set_option maxRecDepth 10000

structure Puzzle where
  points : Int
  names : ByteArray
  moves : List (List Int)

instance : Rp Puzzle where
  size := 3
  rep w cs x fp := ∃ v2, cs = [Value.int .i64 x.points] ++ [Value.string x.names] ++ [v2] ∧ I64 x.points ∧ x.names.size ≤ maxLen ∧ Rd w v2 x.moves fp
  len h := by
    obtain ⟨v2, rfl, p0, p1, h2⟩ := h
    rfl
  frame h hf := by
    obtain ⟨v2, hcs, p0, p1, h2⟩ := h
    exact ⟨v2, hcs, p0, p1, Rp.frame h2 fun b hb => hf b (by simp [hb])⟩
  lt h := by
    obtain ⟨v2, hcs, p0, p1, h2⟩ := h
    intro b hb
    exact Rp.lt h2 b hb

instance : Mk Puzzle where
  mark k x := ⟨x.points, x.names, Mk.mark (k) x.moves⟩
  cnt x := Mk.cnt x.moves
instance : Sz Puzzle where
  sz x := x.names.size + Sz.sz x.moves
instance : Sm Puzzle where
  sm x := Sm.sm x.moves
instance : SzSm Puzzle := ⟨fun x h => by
  have h' : x.names.size + Sz.sz x.moves ≤ 2097152 := h
  exact SzSm.of_ x.moves (by omega)⟩
instance : CntSz Puzzle := ⟨fun x => by
  have h' : Mk.cnt x.moves ≤ x.names.size + Sz.sz x.moves := by have := CntSz.le x.moves; omega
  exact h'⟩
instance : MkL Puzzle := ⟨fun k x => by simp [Mk.mark, markL_idem], fun k x => by simp [Mk.mark, Mk.cnt, markL_cnt]⟩
theorem Puzzle.eq_iff {x y : Puzzle} : x = y ↔ x.points = y.points ∧ x.names = y.names ∧ x.moves = y.moves := by
  cases x; cases y; simp

set_option maxHeartbeats 1000000 in
theorem eqPuzzle_any (cs cs' : List Value) (x y : Puzzle) (fp fp' : List Nat) (w : World) (h : Rp.rep w cs x fp) (h' : Rp.rep w cs' y fp') :
    Calls Tryz.prog 11 #[.agg cs.toArray, .agg cs'.toArray] w fun e w' => e = .returned (.bool (eqV x y)) ∧ Only [] w w' := by
  obtain ⟨v2, rfl, p0, p1, h2⟩ := h
  obtain ⟨v2', rfl, p0', p1', h2'⟩ := h'
  by_cases q0 : x.points ≠ y.points
  · have b0 : (x.points != y.points) = true := by simpa using q0
    go_enter Tryz.func11, Tryz.ntmps11
    go_wp2_with (first | (go_at_call 27; (with_reducible refine (eqInt64SS_rd v2 v2' x.moves y.moves _ _ _ (Rp.keep h2 (by with_reducible repeat (first | exact Only.refl _ _ | assumption | refine Only.drewN ?_ _ | refine Only.drew ?_ | refine Only.alloc ?_ _ | refine Only.setCell ?_ (by intro hh; exfalso; simp at hh; try omega) _ | refine Only.trans ?_ (by assumption)))) (Rp.keep h2' (by with_reducible repeat (first | exact Only.refl _ _ | assumption | refine Only.drewN ?_ _ | refine Only.drew ?_ | refine Only.alloc ?_ _ | refine Only.setCell ?_ (by intro hh; exfalso; simp at hh; try omega) _ | refine Only.trans ?_ (by assumption))))).mono ?_); rintro e w2 ⟨rfl, n2, rfl⟩))
    go_ret
    exact ⟨ret_bool (eqV_no (fun he => q0 (Puzzle.eq_iff.1 he).1)).symm, (by with_reducible repeat (first | exact Only.refl _ _ | assumption | refine Only.drewN ?_ _ | refine Only.drew ?_ | refine Only.alloc ?_ _ | refine Only.setCell ?_ (by intro hh; exfalso; simp at hh; try omega) _ | refine Only.trans ?_ (by assumption)))⟩
  have q0 : x.points = y.points := Classical.not_not.1 q0
  have b0 : (x.points != y.points) = false := by simpa using q0
  have Q0 := Lib.hid q0
  clear q0
  by_cases q1 : x.names ≠ y.names
  · have b1 := str_ne q1
    go_enter Tryz.func11, Tryz.ntmps11
    go_wp2_with (first | (go_at_call 27; (with_reducible refine (eqInt64SS_rd v2 v2' x.moves y.moves _ _ _ (Rp.keep h2 (by with_reducible repeat (first | exact Only.refl _ _ | assumption | refine Only.drewN ?_ _ | refine Only.drew ?_ | refine Only.alloc ?_ _ | refine Only.setCell ?_ (by intro hh; exfalso; simp at hh; try omega) _ | refine Only.trans ?_ (by assumption)))) (Rp.keep h2' (by with_reducible repeat (first | exact Only.refl _ _ | assumption | refine Only.drewN ?_ _ | refine Only.drew ?_ | refine Only.alloc ?_ _ | refine Only.setCell ?_ (by intro hh; exfalso; simp at hh; try omega) _ | refine Only.trans ?_ (by assumption))))).mono ?_); rintro e w2 ⟨rfl, n2, rfl⟩))
    go_ret
    exact ⟨ret_bool (eqV_no (fun he => q1 (Puzzle.eq_iff.1 he).2.1)).symm, (by with_reducible repeat (first | exact Only.refl _ _ | assumption | refine Only.drewN ?_ _ | refine Only.drew ?_ | refine Only.alloc ?_ _ | refine Only.setCell ?_ (by intro hh; exfalso; simp at hh; try omega) _ | refine Only.trans ?_ (by assumption)))⟩
  have q1 : x.names = y.names := Classical.not_not.1 q1
  have b1 := str_eq q1
  have Q1 := Lib.hid q1
  clear q1
  rcases q2 : eqV x.moves y.moves
  · go_enter Tryz.func11, Tryz.ntmps11
    go_wp2_with (first | (go_at_call 27; (with_reducible refine (eqInt64SS_rd v2 v2' x.moves y.moves _ _ _ (Rp.keep h2 (by with_reducible repeat (first | exact Only.refl _ _ | assumption | refine Only.drewN ?_ _ | refine Only.drew ?_ | refine Only.alloc ?_ _ | refine Only.setCell ?_ (by intro hh; exfalso; simp at hh; try omega) _ | refine Only.trans ?_ (by assumption)))) (Rp.keep h2' (by with_reducible repeat (first | exact Only.refl _ _ | assumption | refine Only.drewN ?_ _ | refine Only.drew ?_ | refine Only.alloc ?_ _ | refine Only.setCell ?_ (by intro hh; exfalso; simp at hh; try omega) _ | refine Only.trans ?_ (by assumption))))).mono ?_); rintro e w2 ⟨rfl, n2, rfl⟩))
    go_ret
    exact ⟨ret_bool (eqV_no (fun he => (eqV_iff'.1 q2) (Puzzle.eq_iff.1 he).2.2)).symm, (by with_reducible repeat (first | exact Only.refl _ _ | assumption | refine Only.drewN ?_ _ | refine Only.drew ?_ | refine Only.alloc ?_ _ | refine Only.setCell ?_ (by intro hh; exfalso; simp at hh; try omega) _ | refine Only.trans ?_ (by assumption)))⟩
  go_enter Tryz.func11, Tryz.ntmps11
  go_wp2_with (first | (go_at_call 27; (with_reducible refine (eqInt64SS_rd v2 v2' x.moves y.moves _ _ _ (Rp.keep h2 (by with_reducible repeat (first | exact Only.refl _ _ | assumption | refine Only.drewN ?_ _ | refine Only.drew ?_ | refine Only.alloc ?_ _ | refine Only.setCell ?_ (by intro hh; exfalso; simp at hh; try omega) _ | refine Only.trans ?_ (by assumption)))) (Rp.keep h2' (by with_reducible repeat (first | exact Only.refl _ _ | assumption | refine Only.drewN ?_ _ | refine Only.drew ?_ | refine Only.alloc ?_ _ | refine Only.setCell ?_ (by intro hh; exfalso; simp at hh; try omega) _ | refine Only.trans ?_ (by assumption))))).mono ?_); rintro e w2 ⟨rfl, n2, rfl⟩))
  go_ret
  exact ⟨ret_bool (eqV_yes (Puzzle.eq_iff.2 ⟨Q0.out, Q1.out, eqV_iff.1 q2⟩)).symm, (by with_reducible repeat (first | exact Only.refl _ _ | assumption | refine Only.drewN ?_ _ | refine Only.drew ?_ | refine Only.alloc ?_ _ | refine Only.setCell ?_ (by intro hh; exfalso; simp at hh; try omega) _ | refine Only.trans ?_ (by assumption)))⟩


set_option maxHeartbeats 1000000 in
theorem szPuzzle_any (cs : List Value) (x : Puzzle) (fp : List Nat) (k : Int) (w : World) (h : Rp.rep w cs x fp) (h0 : 0 ≤ k) (h1 : k ≤ 2147483648) :
    Calls Tryz.prog 4 #[.agg cs.toArray, .int .i64 k] w fun e w' => e = .returned (.int .i64 (szV k x)) ∧ Only [] w w' := by
  obtain ⟨v2, rfl, p0, p1, h2⟩ := h
  have hcc : Sz.sz x = x.names.size + Sz.sz x.moves := rfl
  have Hcc := Lib.hid hcc; clear hcc
  have hm1 := p1
  unfold maxLen at hm1
  by_cases e1 : k - (x.names.size : Nat) < 0
  · go_enter Tryz.func4, Tryz.ntmps4
    go_wp2_with (first | (go_at_call 15; (with_reducible refine (szInt64SS_rd v2 x.moves _ (k - (x.names.size : Nat)) _ (Rp.keep h2 (by with_reducible repeat (first | exact Only.refl _ _ | assumption | refine Only.drewN ?_ _ | refine Only.drew ?_ | refine Only.alloc ?_ _ | refine Only.setCell ?_ (by intro hh; exfalso; simp at hh; try omega) _ | refine Only.trans ?_ (by assumption)))) (by omega) (by omega)).mono ?_); rintro e w2 ⟨rfl, n2, rfl⟩))
    go_ret
    exact ⟨ret_int (szV_no (by have := Hcc.out; omega)).symm, (by with_reducible repeat (first | exact Only.refl _ _ | assumption | refine Only.drewN ?_ _ | refine Only.drew ?_ | refine Only.alloc ?_ _ | refine Only.setCell ?_ (by intro hh; exfalso; simp at hh; try omega) _ | refine Only.trans ?_ (by assumption)))⟩
  rcases szV_cases (k - (x.names.size : Nat)) x.moves with ⟨e2, m2⟩ | ⟨e2, r2, m2⟩
  · go_enter Tryz.func4, Tryz.ntmps4
    go_wp2_with (first | (go_at_call 15; (with_reducible refine (szInt64SS_rd v2 x.moves _ (k - (x.names.size : Nat)) _ (Rp.keep h2 (by with_reducible repeat (first | exact Only.refl _ _ | assumption | refine Only.drewN ?_ _ | refine Only.drew ?_ | refine Only.alloc ?_ _ | refine Only.setCell ?_ (by intro hh; exfalso; simp at hh; try omega) _ | refine Only.trans ?_ (by assumption)))) (by omega) (by omega)).mono ?_); rintro e w2 ⟨rfl, n2, rfl⟩))
    go_ret
    exact ⟨ret_int (szV_no (by have := Hcc.out; omega)).symm, (by with_reducible repeat (first | exact Only.refl _ _ | assumption | refine Only.drewN ?_ _ | refine Only.drew ?_ | refine Only.alloc ?_ _ | refine Only.setCell ?_ (by intro hh; exfalso; simp at hh; try omega) _ | refine Only.trans ?_ (by assumption)))⟩
  go_enter Tryz.func4, Tryz.ntmps4
  go_wp2_with (first | (go_at_call 15; (with_reducible refine (szInt64SS_rd v2 x.moves _ (k - (x.names.size : Nat)) _ (Rp.keep h2 (by with_reducible repeat (first | exact Only.refl _ _ | assumption | refine Only.drewN ?_ _ | refine Only.drew ?_ | refine Only.alloc ?_ _ | refine Only.setCell ?_ (by intro hh; exfalso; simp at hh; try omega) _ | refine Only.trans ?_ (by assumption)))) (by omega) (by omega)).mono ?_); rintro e w2 ⟨rfl, n2, rfl⟩))
  go_ret
  exact ⟨ret_int (by rw [szV_yes (by have := Hcc.out; omega)]; have := Hcc.out; omega), (by with_reducible repeat (first | exact Only.refl _ _ | assumption | refine Only.drewN ?_ _ | refine Only.drew ?_ | refine Only.alloc ?_ _ | refine Only.setCell ?_ (by intro hh; exfalso; simp at hh; try omega) _ | refine Only.trans ?_ (by assumption)))⟩

set_option maxHeartbeats 1000000 in
theorem markPuzzle_any (cs : List Value) (x : Puzzle) (fp : List Nat) (k : Int) (w : World) (h : Rp.rep w cs x fp) (hnd : fp.Nodup) (ho : Own w fp) (h0 : 0 ≤ k) (hc : k + (Mk.cnt x : Nat) ≤ 4611686018427387904) :
    Calls Tryz.prog 12 #[.agg cs.toArray, .int .i64 k] w fun e w' => e = .returned (.int .i64 (k + (Mk.cnt x : Nat))) ∧ Rp.rep w' cs (Mk.mark k x) fp ∧ Own w' fp ∧ Only fp w w' := by
  obtain ⟨v2, rfl, p0, p1, h2⟩ := h
  have hcc : Mk.cnt x = Mk.cnt x.moves := rfl
  have Hcc := Lib.hid hcc; clear hcc
  have hb2 : k + (Mk.cnt x.moves : Nat) ≤ 4611686018427387904 := by have := Hcc.out; omega
  have n2 := hnd
  have l2 := Rp.lt h2
  go_enter Tryz.func12, Tryz.ntmps12
  go_wp2_with (first | (go_at_call 28; (with_reducible refine (markInt64SS_rd v2 x.moves fp (k) _ (Rp.keep h2 (by with_reducible repeat (first | exact Only.refl _ _ | assumption | refine Only.drewN ?_ _ | refine Only.drew ?_ | refine Only.alloc ?_ _ | refine Only.setCell ?_ (by intro hh; exfalso; simp at hh; try omega) _ | refine Only.trans ?_ (by assumption)))) n2 (ho.keep (by with_reducible repeat (first | exact Only.refl _ _ | assumption | refine Only.drewN ?_ _ | refine Only.drew ?_ | refine Only.alloc ?_ _ | refine Only.setCell ?_ (by intro hh; exfalso; simp at hh; try omega) _ | refine Only.trans ?_ (by assumption)))) (by omega) hb2).mono ?_); rintro e w2 ⟨rfl, r2, o2, t2⟩; have s2 : w.heap.size < w2.heap.size := (Nat.lt_of_lt_of_le (by simp) t2.size); have q2 := t2.cells_eq w.heap.size (by simp) (fun hm => absurd (l2 _ hm) (by omega))))
  go_ret
  have hk0 : Only [] w (w.alloc (.cells ([Value.int .i64 x.points] ++ [Value.string x.names] ++ [v2]).toArray 37)) := (by with_reducible repeat (first | exact Only.refl _ _ | assumption | refine Only.drewN ?_ _ | refine Only.drew ?_ | refine Only.alloc ?_ _ | refine Only.setCell ?_ (by intro hh; exfalso; simp at hh; try omega) _ | refine Only.trans ?_ (by assumption)))
  exact ⟨ret_int (by have := Hcc.out; omega), ⟨v2, rfl, p0, p1, r2⟩, o2, (hk0.weaken _).trans t2⟩

set_option maxHeartbeats 1000000 in
theorem toPuzzle_any (cs : List Value) (x : Puzzle) (fp : List Nat) (w : World) (h : Rp.rep w cs x fp) (hsm : Sm.sm x) :
    Calls Tryz.prog 7 #[.agg cs.toArray] w fun e w' => ∃ cs' fp', e = .returned (.agg cs'.toArray) ∧ Rp.rep w' cs' x fp' ∧ Fresh w.heap.size w' fp' ∧ Only [] w w' := by
  obtain ⟨v2, rfl, p0, p1, h2⟩ := h
  have g2 : Sm.sm x.moves := hsm
  go_enter Tryz.func7, Tryz.ntmps7
  go_wp2_with (first | (go_at_call 21; (with_reducible refine (toInt64SS_sm v2 x.moves _ _ (Rp.keep h2 (by with_reducible repeat (first | exact Only.refl _ _ | assumption | refine Only.drewN ?_ _ | refine Only.drew ?_ | refine Only.alloc ?_ _ | refine Only.setCell ?_ (by intro hh; exfalso; simp at hh; try omega) _ | refine Only.trans ?_ (by assumption)))) g2).mono ?_); rintro e w2 ⟨u2, fz2, rfl, r2, F2, t2⟩; have k2 := r2.open_; obtain ⟨A2, C2, _, _, rfl, -⟩ := k2; have s2 : w.heap.size + 1 + 1 < w2.heap.size := (by have := t2.size; simp at this; omega); have y20 := t2.cells_eq w.heap.size (by simp; try omega) (by simp); have z20 := t2.frozen_eq w.heap.size (by simp; try omega) (by simp); have y21 := t2.cells_eq (w.heap.size + 1) (by simp; try omega) (by simp); have z21 := t2.frozen_eq (w.heap.size + 1) (by simp; try omega) (by simp); have y22 := t2.cells_eq (w.heap.size + 1 + 1) (by simp; try omega) (by simp); have z22 := t2.frozen_eq (w.heap.size + 1 + 1) (by simp; try omega) (by simp)))
  have T2 := t2.size
  simp at T2
  refine bodyPost_ret (v := .agg #[.int .i64 x.points, .string x.names, .slice A2 x.moves.length C2]) (by simp [results, Tryz.results7, go_sem, y21]) rfl ⟨[.int .i64 x.points, .string x.names, .slice A2 x.moves.length C2], _, rfl, ⟨.slice A2 x.moves.length C2, rfl, p0, p1, Rp.only (fp' := [w.heap.size + 1, w.heap.size + 1 + 1]) r2 (by with_reducible repeat (first | exact Only.refl _ _ | assumption | refine Only.drewN ?_ _ | refine Only.drew ?_ | refine Only.alloc ?_ _ | refine Only.setCell ?_ (by intro _; simp) _ | refine Only.trans ?_ (Only.weaken (by assumption) _))) (fun b hb hm => by have := F2.ge b hb; simp at hm this; omega)⟩, Fresh.mono (F2.only (fp' := [w.heap.size + 1, w.heap.size + 1 + 1]) (by with_reducible repeat (first | exact Only.refl _ _ | assumption | refine Only.drewN ?_ _ | refine Only.drew ?_ | refine Only.alloc ?_ _ | refine Only.setCell ?_ (by intro _; simp) _ | refine Only.trans ?_ (Only.weaken (by assumption) _))) (fun b hb hm => by have := F2.ge b hb; simp at hm this; omega)) (by simp; try omega), (by with_reducible repeat (first | exact Only.refl _ _ | assumption | refine Only.drewN ?_ _ | refine Only.drew ?_ | refine Only.alloc ?_ _ | refine Only.setCell ?_ (by intro hh; exfalso; simp at hh; try omega) _ | refine Only.trans ?_ (by assumption)))⟩

end Go.Proofs.YtkhdmiemfpelcaaGreat
