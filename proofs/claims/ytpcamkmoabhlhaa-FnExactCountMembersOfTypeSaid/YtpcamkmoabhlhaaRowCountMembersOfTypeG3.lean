/- IsGeneratorSet: the reference's and the program's. What the exact laws share: marks are kept by marking again; a struct's block. Table: plain data, how it lies in memory, the laws' own helpers on it. (Printed by gen_struct.py.) The laws' own helpers on slices of tables: eq, mark, held, to, sz. Puzzle: plain data, how it lies in memory, the laws' own helpers on it. (Printed by gen_struct.py.) IsValidPuzzle: the reference's and the program's. Equality of plain data: the reference's and the program's. Tracked sets, patterns and well-formed tables: the reference's and the program's. The identity permutation: the reference's and the program's. Inverses, letters, positions after a letter: the reference's and the program's. A table's faults, in plain words. Breadth-first search of patterns in plain words (law 16). Lists of one length in order; an index kept sorted by them (law 16). The reference's search: an index of lists kept sorted (law 16). A slice that a loop appends to, beside other memory of the call's own that stays as it is. -/
import Derived.Test.YtpcamkmoabhlhaaRowCountMembersOfTypeG2
import Derived.StillTailTactics
import Derived.Test.YtpcamkmoabhlhaaRowCountMembersOfTypeG1
import Derived.Laws.CopyOwn
namespace Go.Proofs.Ytpcamkmoabhlhaa
open Go.RowKit
set_option maxRecDepth 10000

set_option maxHeartbeats 400000 in
theorem IndexFunc_rows (f : FuncId) (caps : Array Value) (pr : List Int → Bool) (hcf : ∀ args w, (callFunc f args).run Try.prog w = .ok (.enter f args) w)
    (v : Value) (l : List (List Int)) (fp : List Nat) (w : World) (h : Rd w v l fp)
    (hc : ∀ x ∈ l, ∀ u f' w', Only [] w w' → Rd w' u x f' → Calls Try.prog f (#[u] ++ caps) w' fun e w'' => e = .returned (.bool (pr x)) ∧ Only [] w' w'') :
    Calls Try.prog 79 #[v, .func (.func f) #[] caps] w fun e w' => e = .returned (.int .i64 (idxF pr l)) ∧ Only [] w w' := by
  obtain ⟨a, cap, ob, fps, rfl, -, hI⟩ := h.open_
  have hb := hI.bound
  have HC := Lib.hid hc
  clear hc
  go_enter Try.func79, Try.ntmps79
  go_wp2
  go_loopw [5, 8] (fun i t wr => ∃ j : Nat, j ≤ l.length ∧ t = .int .i64 j ∧ (∀ x ∈ l.take j, pr x = false) ∧ Only [] w wr)
    (fun _ t _ => l.length - (intOf t).toNat)
  case atStart => exact ⟨0, Nat.zero_le _, rfl, by simp, Only.refl _ _⟩
  case round =>
    obtain ⟨j, hj, rfl, hr, hK⟩ := hrel
    have Hr := Lib.hid hr; clear hr
    by_cases hlt : j < l.length
    · obtain ⟨b, off, u, rfl, -, hc0, hv0⟩ := hI.atRow j hlt
      have hc := hK.cell (by simp) hc0
      have hv := Rp.keep hv0 hK
      clear hc0 hv0
      rcases hp : pr l[j]
      all_goals go_wp2_with (with_reducible refine (HC.out l[j] (List.getElem_mem _) u _ wr hK hv).mono ?_; rintro e w1 ⟨rfl, hk1⟩)
      · go_roundw
        case rel => exact ⟨j + 1, by omega, by go_num, by
          rw [take_succ_get l j hlt]; intro x hx
          rcases List.mem_append.1 hx with hx | hx
          · exact Hr.out x hx
          · simp at hx; subst hx; exact hp, hK.trans hk1⟩
        case measure => simp [intOf]; omega
      · go_ret
        exact ⟨ret_int (idxF_some hlt Hr.out hp).symm, hK.trans hk1⟩
    · go_wp2
      go_ret
      exact ⟨ret_int (idxF_none (by have := Hr.out; rwa [List.take_of_length_le (by omega)] at this)).symm, hK⟩
set_option maxHeartbeats 400000 in
theorem ContainsFunc_rows (f : FuncId) (caps : Array Value) (pr : List Int → Bool) (hcf : ∀ args w, (callFunc f args).run Try.prog w = .ok (.enter f args) w)
    (v : Value) (l : List (List Int)) (fp : List Nat) (w : World) (h : Rd w v l fp)
    (hc : ∀ x ∈ l, ∀ u f' w', Only [] w w' → Rd w' u x f' → Calls Try.prog f (#[u] ++ caps) w' fun e w'' => e = .returned (.bool (pr x)) ∧ Only [] w' w'') :
    Calls Try.prog 55 #[v, .func (.func f) #[] caps] w fun e w' => e = .returned (.bool (l.any pr)) ∧ Only [] w w' := by
  have HC := Lib.hid hc
  clear hc
  go_enter Try.func55, Try.ntmps55
  go_wp2_with ((go_at_call 79; (with_reducible refine (IndexFunc_rows f caps pr hcf v l _ w h HC.out).mono ?_); rintro e w1 ⟨rfl, hk⟩))
  go_ret
  exact ⟨ret_bool idxF_ge, hk⟩

def genB (n : Int) (g : List Int) : Bool := decide ((g.length : Int) = n) && permB g
def gensB (n : Int) (gens : List (List Int)) : Bool := inR n 1 20 && decide (gens.length ≤ 8) && gens.all (genB n)
set_option maxHeartbeats 1000000 in
theorem specIsGens_any (n : Int) (a : Option Addr) (cap : Nat) (l : List (List Int)) (ob : List Nat) (fps : List (List Nat)) (w : World) (h : SeqA w a cap l ob fps) :
    Calls Try.prog 25 #[.int .i64 n, .slice a l.length cap] w fun e w' => e = .returned (.bool (gensB n l)) ∧ Drew w w' := by
  have hb := h.bound
  rcases hq : inR n 1 20
  · go_enter Try.func25, Try.ntmps25
    go_wp2_with ((go_at_call 48; (with_reducible refine (inRange_any n 1 20 _).mono ?_); rintro e w ⟨rfl, rfl⟩))
    go_ret
    exact ⟨ret_bool (by unfold gensB; rw [hq]; rfl), Drew.refl _⟩
  by_cases hl : 8 < l.length
  · go_enter Try.func25, Try.ntmps25
    go_wp2_with ((go_at_call 48; (with_reducible refine (inRange_any n 1 20 _).mono ?_); rintro e w ⟨rfl, rfl⟩))
    go_ret
    exact ⟨ret_bool (by unfold gensB; rw [hq, decide_eq_false (by omega)]; rfl), Drew.refl _⟩
  have hfin : gensB n l = l.all (genB n) := by unfold gensB; rw [hq, decide_eq_true (by omega)]; rfl
  have Hfin := Lib.hid hfin; clear hfin
  go_enter Try.func25, Try.ntmps25
  go_wp2_with ((go_at_call 48; (with_reducible refine (inRange_any n 1 20 _).mono ?_); rintro e w ⟨rfl, rfl⟩))
  go_loopw [5] (fun i wr => ∃ j : Nat, j ≤ l.length ∧ i = .int .i64 j ∧ (∀ x ∈ l.take j, genB n x = true) ∧ Drew w wr)
    (fun i _ => l.length - (intOf i).toNat)
  case atStart => exact ⟨0, Nat.zero_le _, rfl, by simp, Drew.refl _⟩
  case round =>
    obtain ⟨j, hj, rfl, hr, k, rfl⟩ := hrel
    have Hr := Lib.hid hr; clear hr
    by_cases hlt : j < l.length
    · obtain ⟨b, off, v, rfl, -, hc, hv⟩ := h.atRow j hlt
      obtain ⟨a2, c2, rfl, hI⟩ := hv.ints
      have hb2 := hI.bound
      by_cases c1 : (l[j].length : Int) = n
      · have d1 : ((l[j].length : Int) != n) = false := by simp [c1]
        have C1 := Lib.hid c1; clear c1
        rcases c2 : permB l[j]
        all_goals go_wp2_with ((go_at_call 49; (with_reducible refine (specIsPerm_rd _ l[j] _ _ (Rp.keep hv (Only.ofDrewN _ _ _))).mono ?_); rintro e w1 ⟨rfl, n1, rfl⟩))
        · go_ret
          exact ⟨ret_bool (by rw [Hfin.out, eq_comm, List.all_eq_false]; exact ⟨l[j], List.getElem_mem _, by simp [genB, c2]⟩), ⟨_, rfl⟩⟩
        · go_roundw
          case rel => exact ⟨j + 1, by omega, by go_num, by
            rw [take_succ_get l j hlt]; intro x hx
            rcases List.mem_append.1 hx with hx | hx
            · exact Hr.out x hx
            · simp at hx; subst hx; simp [genB, c2, C1.out], ⟨_, rfl⟩⟩
          case measure => simp [intOf]; omega
      · have d1 : ((l[j].length : Int) != n) = true := by simp [c1]
        have C1 := Lib.hid c1; clear c1
        go_wp2
        go_ret
        exact ⟨ret_bool (by rw [Hfin.out, eq_comm, List.all_eq_false]; exact ⟨l[j], List.getElem_mem _, by simp [genB, C1.out]⟩), ⟨_, rfl⟩⟩
    · go_wp2
      go_ret
      exact ⟨ret_bool (by rw [Hfin.out, eq_comm, List.all_eq_true]; have := Hr.out; rwa [List.take_of_length_le (by omega)] at this), ⟨_, rfl⟩⟩
theorem specIsGens_rd (n : Int) (v : Value) (l : List (List Int)) (fp : List Nat) (w : World) (h : Rd w v l fp) :
    Calls Try.prog 25 #[.int .i64 n, v] w fun e w' => e = .returned (.bool (gensB n l)) ∧ Drew w w' := by
  obtain ⟨a, cap, ob, fps, rfl, -, hs⟩ := h.open_
  exact specIsGens_any n a cap l ob fps w hs
theorem lengthInt_q (v : Value) (l : List Int) (fp : List Nat) (w : World) (h : Rd w v l fp) :
    Calls Try.prog 39 #[v] w fun e w' => e = .returned (.int .i64 l.length) ∧ Drew w w' :=
  (lengthInt_rd v l fp w h).mono fun _ _ ⟨h1, h2⟩ => ⟨h1, by rw [h2]; exact Drew.refl _⟩
set_option maxHeartbeats 1000000 in
theorem IsGens_closure (n : Int) (u : Value) (x : List Int) (fp : List Nat) (b : Nat) (w : World) (h : Rd w u x fp) (hc : w.cell? ⟨b, 0, none⟩ = some (.int .i64 n)) :
    Calls Try.prog 56 #[u, .pointer (some ⟨b, 0, none⟩)] w fun e w' => e = .returned (.bool (!genB n x)) ∧ Only [] w w' := by
  obtain ⟨a, cap, rfl, hI⟩ := h.ints
  have hb := hI.bound
  by_cases c1 : (x.length : Int) = n
  · have d1 : ((x.length : Int) != n) = false := by simp [c1]
    have hg : genB n x = permB x := by simp [genB, c1]
    have Hg := Lib.hid hg; clear hg c1
    rcases c2 : permB x
    all_goals go_enter Try.func56, Try.ntmps56
    all_goals go_wp2
    all_goals go_quiet (first
      | (go_at_call 39; exact quiet_drewN0 (lengthInt_q _ x fp _ (Rp.keep h (Only.ofDrewN _ _ _))))
      | (go_at_call 57; exact quiet_drewN0 (implIsPerm_rd _ x fp _ (Rp.keep h (Only.ofDrewN _ _ _)))))
    all_goals go_wp2
    all_goals go_ret
    all_goals exact ⟨ret_bool (by rw [Hg.out, c2]; rfl), Only.ofDrewN _ _ _⟩
  · have d1 : ((x.length : Int) != n) = true := by simp [c1]
    have hg : genB n x = false := by simp [genB, c1]
    have Hg := Lib.hid hg; clear hg c1
    go_enter Try.func56, Try.ntmps56
    go_wp2
    go_quiet (first
      | (go_at_call 39; exact quiet_drewN0 (lengthInt_q _ x fp _ (Rp.keep h (Only.ofDrewN _ _ _))))
      | (go_at_call 57; exact quiet_drewN0 (implIsPerm_rd _ x fp _ (Rp.keep h (Only.ofDrewN _ _ _)))))
    go_wp2
    go_ret
    exact ⟨ret_bool (by rw [Hg.out]; rfl), Only.ofDrewN _ _ _⟩
set_option maxHeartbeats 1000000 in
theorem implIsGens_rd (n : Int) (v : Value) (l : List (List Int)) (fp : List Nat) (w : World) (h : Rd w v l fp) :
    Calls Try.prog 31 #[.int .i64 n, v] w fun e w' => e = .returned (.bool (gensB n l)) ∧ Only [] w w' := by
  obtain ⟨a, cap, ob, fps, rfl, -, hs⟩ := h.open_
  have hb := hs.bound
  rcases hq : inR n 1 20
  · go_enter Try.func31, Try.ntmps31
    go_wp2_with ((go_at_call 54; (with_reducible refine (within_any n 1 20 _).mono ?_); rintro e w1 ⟨rfl, rfl⟩))
    go_ret
    exact ⟨ret_bool (by unfold gensB; rw [hq]; rfl), (by with_reducible repeat (first | exact Only.refl _ _ | assumption | refine Only.drewN ?_ _ | refine Only.drew ?_ | refine Only.alloc ?_ _ | refine Only.setCell ?_ (by intro hh; exfalso; simp at hh; try omega) _ | refine Only.trans ?_ (by assumption)))⟩
  by_cases hl : l.length ≤ 8
  · have hfin : gensB n l = !(l.any fun x => !genB n x) := by unfold gensB; rw [hq, decide_eq_true hl, List.not_any_eq_all_not]; simp
    have Hfin := Lib.hid hfin; clear hfin
    have Hc := Lib.hid (ContainsFunc_rows 56 #[.pointer (some ⟨w.heap.size, 0, none⟩)] (fun x => !genB n x) Try.call56 (.slice a l.length cap) l _ (w.alloc (.cells #[.int .i64 n] 2)) (Rp.keep h (by with_reducible repeat (first | exact Only.refl _ _ | assumption | refine Only.drewN ?_ _ | refine Only.drew ?_ | refine Only.alloc ?_ _ | refine Only.setCell ?_ (by intro hh; exfalso; simp at hh; try omega) _ | refine Only.trans ?_ (by assumption))))
      (fun x _ u f' w' hw hu => IsGens_closure n u x f' w.heap.size w' hu (hw.cell (by simp) (by simp))))
    rcases hany : l.any fun x => !genB n x
    all_goals go_enter Try.func31, Try.ntmps31
    all_goals go_wp2_with (first | (go_at_call 54; refine (within_any n 1 20 _).mono ?_; rintro e w1 ⟨rfl, rfl⟩) | (go_at_call 55; (with_reducible refine (Hc.out).mono ?_); rintro e w1 ⟨rfl, hk⟩))
    all_goals go_ret
    all_goals exact ⟨ret_bool (by rw [Hfin.out, hany]; rfl), (by with_reducible repeat (first | exact Only.refl _ _ | assumption | refine Only.drewN ?_ _ | refine Only.drew ?_ | refine Only.alloc ?_ _ | refine Only.setCell ?_ (by intro hh; exfalso; simp at hh; try omega) _ | refine Only.trans ?_ (by assumption)))⟩
  · go_enter Try.func31, Try.ntmps31
    go_wp2_with ((go_at_call 54; (with_reducible refine (within_any n 1 20 _).mono ?_); rintro e w1 ⟨rfl, rfl⟩))
    go_ret
    exact ⟨ret_bool (by unfold gensB; rw [hq, decide_eq_false hl]; rfl), (by with_reducible repeat (first | exact Only.refl _ _ | assumption | refine Only.drewN ?_ _ | refine Only.drew ?_ | refine Only.alloc ?_ _ | refine Only.setCell ?_ (by intro hh; exfalso; simp at hh; try omega) _ | refine Only.trans ?_ (by assumption)))⟩
end Go.Proofs.Ytpcamkmoabhlhaa

namespace Go.Proofs.Ytpcamkmoabhlhaa
open Go.RowKit
set_option maxRecDepth 10000

class MkL (α : Type) [Mk α] : Prop where
  idem : ∀ (k : Int) (x : α), Mk.mark k (Mk.mark k x) = Mk.mark k x
  cnt : ∀ (k : Int) (x : α), Mk.cnt (Mk.mark k x) = Mk.cnt x
instance : MkL Int := ⟨fun _ _ => rfl, fun _ _ => rfl⟩
theorem markL_cnt {α : Type} [Mk α] [MkL α] (k : Int) (l : List α) : cntL (markL k l) = cntL l := by
  induction l generalizing k with
  | nil => rfl
  | cons x l ih => simp [markL, cntL, ih, MkL.cnt]
theorem markL_idem {α : Type} [Mk α] [MkL α] (k : Int) (l : List α) : markL k (markL k l) = markL k l := by
  induction l generalizing k with
  | nil => rfl
  | cons x l ih => simp [markL, ih, MkL.cnt, MkL.idem]
instance {α : Type} [Mk α] [MkL α] : MkL (List α) := ⟨markL_idem, markL_cnt⟩
/-- how many numbers there are, against the size that the laws reckon -/
class CntSz (α : Type) [Mk α] [Sz α] : Prop where
  le : ∀ x : α, Mk.cnt x ≤ Sz.sz x
instance : CntSz (List Int) := ⟨fun l => by simp [Mk.cnt, cntL_ints, Sz.sz]⟩
theorem cntL_szL {α : Type} [Mk α] [Sz α] [CntSz α] (l : List α) : cntL l ≤ szL l := by
  induction l with
  | nil => simp [cntL]
  | cons x l ih => have := CntSz.le x; simp only [cntL, szL]; omega
instance {α : Type} [Mk α] [Sz α] [CntSz α] : CntSz (List α) := ⟨fun l => by have := cntL_szL l; show cntL l ≤ l.length + szL l; omega⟩

theorem and_of {a b : Prop} (h : a) (k : a → b) : a ∧ b := ⟨h, k h⟩
/-- block g holds just the cells cs -/
def Blk (w : World) (g : Nat) (cs : List Value) : Prop := ∃ t, w.heap[g]? = some (.cells cs.toArray t (0, 0))
theorem Blk.lt {w : World} {g : Nat} {cs : List Value} (h : Blk w g cs) : g < w.heap.size := by
  obtain ⟨t, h⟩ := h; exact (Array.getElem?_eq_some_iff.1 h).1
theorem Blk.new (w : World) (cs : List Value) (t : TypeId) : Blk (w.alloc (.cells cs.toArray t)) w.heap.size cs := ⟨t, heap_alloc_new w _⟩
theorem Blk.only {w w' : World} {g : Nat} {cs : List Value} {fp : List Nat} (h : Blk w g cs) (ho : Only fp w w') (hn : g ∉ fp) : Blk w' g cs := by
  have := h.lt
  obtain ⟨t, h⟩ := h; exact ⟨t, (ho.block g this hn).trans h⟩
theorem Blk.keep {w w' : World} {g : Nat} {cs : List Value} (h : Blk w g cs) (ho : Only [] w w') : Blk w' g cs := h.only ho (by simp)
theorem Blk.cell {w : World} {g : Nat} {cs : List Value} (h : Blk w g cs) (i : Nat) {v : Value} (hv : cs[i]? = some v) : w.cell? ⟨g, i, none⟩ = some v := by
  obtain ⟨t, h⟩ := h
  rw [cell_of_row w g i _ t (0, 0) h]; simpa using hv
end Go.Proofs.Ytpcamkmoabhlhaa

namespace Go.Proofs.Ytpcamkmoabhlhaa
open Go.RowKit
set_option maxRecDepth 10000

structure Table where
  tracked : List Int
  patterns : List (List Int)
  distances : List Int

instance : Rp Table where
  size := 3
  rep w cs x fp := ∃ v0 v1 v2 f0 f1 f2, cs = [v0] ++ [v1] ++ [v2] ∧ fp = f0 ++ (f1 ++ f2) ∧ Rd w v0 x.tracked f0 ∧ Rd w v1 x.patterns f1 ∧ Rd w v2 x.distances f2
  len h := by
    obtain ⟨v0, v1, v2, f0, f1, f2, rfl, -, h0, h1, h2⟩ := h
    rfl
  frame h hf := by
    obtain ⟨v0, v1, v2, f0, f1, f2, hcs, rfl, h0, h1, h2⟩ := h
    exact ⟨v0, v1, v2, f0, f1, f2, hcs, rfl, Rp.frame h0 fun b hb => hf b (by simp [hb]), Rp.frame h1 fun b hb => hf b (by simp [hb]), Rp.frame h2 fun b hb => hf b (by simp [hb])⟩
  lt h := by
    obtain ⟨v0, v1, v2, f0, f1, f2, hcs, rfl, h0, h1, h2⟩ := h
    intro b hb
    simp only [List.mem_append] at hb
    rcases hb with hb | hb | hb
    · exact Rp.lt h0 b hb
    · exact Rp.lt h1 b hb
    · exact Rp.lt h2 b hb

instance : Mk Table where
  mark k x := ⟨Mk.mark (k) x.tracked, Mk.mark (k + (Mk.cnt x.tracked : Nat)) x.patterns, Mk.mark (k + (Mk.cnt x.tracked : Nat) + (Mk.cnt x.patterns : Nat)) x.distances⟩
  cnt x := Mk.cnt x.tracked + Mk.cnt x.patterns + Mk.cnt x.distances
instance : Sz Table where
  sz x := Sz.sz x.tracked + Sz.sz x.patterns + Sz.sz x.distances
instance : Sm Table where
  sm x := Sm.sm x.tracked ∧ Sm.sm x.patterns ∧ Sm.sm x.distances
instance : SzSm Table := ⟨fun x h => by
  have h' : Sz.sz x.tracked + Sz.sz x.patterns + Sz.sz x.distances ≤ 2097152 := h
  exact ⟨SzSm.of_ _ (by omega), SzSm.of_ _ (by omega), SzSm.of_ _ (by omega)⟩⟩
instance : CntSz Table := ⟨fun x => by
  have h' : Mk.cnt x.tracked + Mk.cnt x.patterns + Mk.cnt x.distances ≤ Sz.sz x.tracked + Sz.sz x.patterns + Sz.sz x.distances := by have := CntSz.le x.tracked; have := CntSz.le x.patterns; have := CntSz.le x.distances; omega
  exact h'⟩
instance : MkL Table := ⟨fun k x => by simp [Mk.mark, Mk.cnt, markL_idem, markL_cnt], fun k x => by simp [Mk.mark, Mk.cnt, markL_cnt]⟩
end Go.Proofs.Ytpcamkmoabhlhaa


namespace Go.Proofs.Ytpcamkmoabhlhaa
open Go.RowKit
set_option maxRecDepth 10000
/-- the first elements of a list whose elements take several cells, read one by one -/
structure ReadsC {α : Type} [Rp α] (w : World) (B : Nat) (css : List (List Value)) (xs : List α) (fps : List (List Nat)) : Prop where
  vl : css.length = xs.length
  fl : fps.length = xs.length
  at_ : ∀ k (h1 : k < css.length) (h2 : k < xs.length) (h3 : k < fps.length), Rp.rep w css[k] xs[k] fps[k]
  fresh : Fresh B w fps.flatten
section
variable {α : Type} [Rp α] {w w' : World} {B : Nat} {css : List (List Value)} {xs : List α} {fps : List (List Nat)}
theorem ReadsC.nil (w : World) (B : Nat) : ReadsC w B [] ([] : List α) [] := ⟨rfl, rfl, by simp, Fresh.nil _ _⟩
theorem ReadsC.only {fp : List Nat} (h : ReadsC w B css xs fps) (ho : Only fp w w') (hd : ∀ b ∈ fp, b < B ∨ w.heap.size ≤ b) : ReadsC w' B css xs fps :=
  ⟨h.vl, h.fl, fun k h1 h2 h3 => Rp.only (h.at_ k h1 h2 h3) ho (fun b hb hm => by
      have h4 := h.fresh.ge b (mem_flatten_get h3 hb); have h5 := h.fresh.lt b (mem_flatten_get h3 hb); have := hd b hm; omega),
    h.fresh.only ho (fun b hb hm => by have h4 := h.fresh.ge b hb; have h5 := h.fresh.lt b hb; have := hd b hm; omega)⟩
theorem ReadsC.snoc {cs : List Value} {x : α} {fp : List Nat} (h : ReadsC w B css xs fps) (hv : Rp.rep w cs x fp) (hf : Fresh w'.heap.size w fp) (hB : B ≤ w'.heap.size) (hlt : ∀ b ∈ fps.flatten, b < w'.heap.size) :
    ReadsC w B (css ++ [cs]) (xs ++ [x]) (fps ++ [fp]) := by
  refine ⟨by simp [h.vl], by simp [h.fl], fun k h1 h2 h3 => ?_, ?_⟩
  · by_cases hk : k < xs.length
    · rw [List.getElem_append_left (by rw [h.vl]; exact hk), List.getElem_append_left hk, List.getElem_append_left (by rw [h.fl]; exact hk)]
      exact h.at_ k _ _ _
    · have : k = xs.length := by simp at h2; omega
      subst this
      rw [List.getElem_append_right (by rw [h.vl]; omega), List.getElem_append_right (by omega), List.getElem_append_right (by rw [h.fl]; omega)]
      simpa [h.vl, h.fl] using hv
  · rw [List.flatten_append]
    simp only [List.flatten_cons, List.flatten_nil, List.append_nil]
    exact h.fresh.append hf hB hlt
end
end Go.Proofs.Ytpcamkmoabhlhaa


namespace Go.Proofs.Ytpcamkmoabhlhaa
open Go.RowKit
set_option maxRecDepth 10000

structure Puzzle where
  points : Int
  names : ByteArray
  moves : List (List Int)

instance : Rp Puzzle where
  size := 3
  rep w cs x fp := ∃ v2, cs = [Value.int .i64 x.points] ++ [Value.string x.names] ++ [v2] ∧ I64 x.points ∧ x.names.size ≤ maxLen ∧ Rd w v2 x.moves fp
  len h := by
    obtain ⟨v2, rfl, p0, p1, h2⟩ := h
    rfl
  frame h hf := by
    obtain ⟨v2, hcs, p0, p1, h2⟩ := h
    exact ⟨v2, hcs, p0, p1, Rp.frame h2 fun b hb => hf b (by simp [hb])⟩
  lt h := by
    obtain ⟨v2, hcs, p0, p1, h2⟩ := h
    intro b hb
    exact Rp.lt h2 b hb

instance : Mk Puzzle where
  mark k x := ⟨x.points, x.names, Mk.mark (k) x.moves⟩
  cnt x := Mk.cnt x.moves
instance : Sz Puzzle where
  sz x := x.names.size + Sz.sz x.moves
instance : Sm Puzzle where
  sm x := Sm.sm x.moves
instance : SzSm Puzzle := ⟨fun x h => by
  have h' : x.names.size + Sz.sz x.moves ≤ 2097152 := h
  exact SzSm.of_ x.moves (by omega)⟩
instance : CntSz Puzzle := ⟨fun x => by
  have h' : Mk.cnt x.moves ≤ x.names.size + Sz.sz x.moves := by have := CntSz.le x.moves; omega
  exact h'⟩
instance : MkL Puzzle := ⟨fun k x => by simp [Mk.mark, markL_idem], fun k x => by simp [Mk.mark, Mk.cnt, markL_cnt]⟩
end Go.Proofs.Ytpcamkmoabhlhaa


namespace Go.Proofs.Ytpcamkmoabhlhaa
open Go.RowKit
set_option maxRecDepth 10000

/-- the bytes of a string, as numbers -/
def bl (s : ByteArray) : List Int := s.data.toList.map fun b => (b.toNat : Int)
def namesB (s : ByteArray) : Bool := inR s.size 1 8 && ((bl s).all (fun b => inR b 65 90) && decide (bl s).Nodup)
def validPz (p : Puzzle) : Bool := gensB p.points p.moves && (namesB p.names && decide (p.names.size = p.moves.length))
end Go.Proofs.Ytpcamkmoabhlhaa

namespace Go.Proofs.Ytpcamkmoabhlhaa
open Go.RowKit
set_option maxRecDepth 10000

set_option maxHeartbeats 400000 in
theorem equalInts_any (a a' : Option Addr) (cap cap' : Nat) (l l' : List Int) (fp fp' : List Nat) (w : World) (h : IntsA w a cap l fp) (h' : IntsA w a' cap' l' fp') :
    Calls Try.prog 29 #[.slice a l.length cap, .slice a' l'.length cap'] w fun e w' => e = .returned (.bool (eqV l l')) ∧ Drew w w' := by
  have hb := h.bound
  have hb' := h'.bound
  by_cases hl : l.length = l'.length
  · have hne : ((l.length : Int) != (l'.length : Int)) = false := by simp [hl]
    have Hl := Lib.hid hl; clear hl
    go_enter Try.func29, Try.ntmps29
    go_wp2
    go_loopw [5] (fun i wr => ∃ j : Nat, j ≤ l.length ∧ i = .int .i64 j ∧ l.take j = l'.take j ∧ Drew w wr)
      (fun i _ => l.length - (intOf i).toNat)
    case atStart => exact ⟨0, Nat.zero_le _, rfl, rfl, Drew.refl _⟩
    case round =>
      obtain ⟨j, hj, rfl, hr, n, rfl⟩ := hrel
      have Hr := Lib.hid hr; clear hr
      by_cases hlt : j < l.length
      · have hlt' : j < l'.length := by have := Hl.out; omega
        obtain ⟨b, off, ha, -, hc⟩ := h.at_ j hlt
        obtain ⟨b', off', ha', -, hc'⟩ := h'.at_ j hlt'
        go_wp2
        go_quiet (fail)
        go_wp2
        · have hne : (l[j] != l'[j]) = true := by assumption
          go_ret
          exact ⟨ret_bool (eqInts_no hlt hlt' hne).symm, ((Drew.refl _).drewN _).drewN _⟩
        · have heq : (l[j] != l'[j]) = false := by assumption
          go_roundw
          case rel => exact ⟨j + 1, by omega, by go_num, eqInts_step hlt hlt' heq Hr.out, ⟨_, rfl⟩⟩
          case measure => simp [intOf]; omega
      · go_wp2
        go_ret
        exact ⟨ret_bool (eqL_yes Hl.out hlt Hr.out).symm, (Drew.refl _).drewN n⟩
  · have hne : ((l.length : Int) != (l'.length : Int)) = true := by simp; omega
    go_enter Try.func29, Try.ntmps29
    go_wp2
    go_ret
    exact ⟨ret_bool (eqL_len hne).symm, Drew.refl _⟩

theorem equalInts_rd (v v' : Value) (l l' : List Int) (fp fp' : List Nat) (w : World) (h : Rd w v l fp) (h' : Rd w v' l' fp') :
    Calls Try.prog 29 #[v, v'] w fun e w' => e = .returned (.bool (eqV l l')) ∧ Drew w w' := by
  obtain ⟨a, cap, rfl, hI⟩ := h.ints
  obtain ⟨a', cap', rfl, hI'⟩ := h'.ints
  exact equalInts_any a a' cap cap' l l' fp fp' w hI hI'

set_option maxHeartbeats 400000 in
theorem Equal_any (a a' : Option Addr) (cap cap' : Nat) (l l' : List Int) (fp fp' : List Nat) (w : World) (h : IntsA w a cap l fp) (h' : IntsA w a' cap' l' fp') :
    Calls Try.prog 34 #[.slice a l.length cap, .slice a' l'.length cap'] w fun e w' => e = .returned (.bool (eqV l l')) ∧ Drew w w' := by
  have hb := h.bound
  have hb' := h'.bound
  by_cases hl : l.length = l'.length
  · have hne : ((l.length : Int) != (l'.length : Int)) = false := by simp [hl]
    have Hl := Lib.hid hl; clear hl
    go_enter Try.func34, Try.ntmps34
    go_wp2
    go_loopw [5, 13] (fun _ i wr => ∃ j : Nat, j ≤ l.length ∧ i = .int .i64 j ∧ l.take j = l'.take j ∧ Drew w wr)
      (fun _ i _ => l.length - (intOf i).toNat)
    case atStart => exact ⟨0, Nat.zero_le _, rfl, rfl, Drew.refl _⟩
    case round =>
      obtain ⟨j, hj, rfl, hr, n, rfl⟩ := hrel
      have Hr := Lib.hid hr; clear hr
      by_cases hlt : j < l.length
      · have hlt' : j < l'.length := by have := Hl.out; omega
        obtain ⟨b, off, ha, -, hc⟩ := h.at_ j hlt
        obtain ⟨b', off', ha', -, hc'⟩ := h'.at_ j hlt'
        go_wp2
        go_quiet (fail)
        go_wp2
        · have hne : (l[j] != l'[j]) = true := by assumption
          go_ret
          exact ⟨ret_bool (eqInts_no hlt hlt' hne).symm, ((Drew.refl _).drewN _).drewN _⟩
        · have heq : (l[j] != l'[j]) = false := by assumption
          go_roundw
          case rel => exact ⟨j + 1, by omega, by go_num, eqInts_step hlt hlt' heq Hr.out, ⟨_, rfl⟩⟩
          case measure => simp [intOf]; omega
      · go_wp2
        go_ret
        exact ⟨ret_bool (eqL_yes Hl.out hlt Hr.out).symm, (Drew.refl _).drewN n⟩
  · have hne : ((l.length : Int) != (l'.length : Int)) = true := by simp; omega
    go_enter Try.func34, Try.ntmps34
    go_wp2
    go_ret
    exact ⟨ret_bool (eqL_len hne).symm, Drew.refl _⟩

theorem Equal_rd (v v' : Value) (l l' : List Int) (fp fp' : List Nat) (w : World) (h : Rd w v l fp) (h' : Rd w v' l' fp') :
    Calls Try.prog 34 #[v, v'] w fun e w' => e = .returned (.bool (eqV l l')) ∧ Drew w w' := by
  obtain ⟨a, cap, rfl, hI⟩ := h.ints
  obtain ⟨a', cap', rfl, hI'⟩ := h'.ints
  exact Equal_any a a' cap cap' l l' fp fp' w hI hI'


end Go.Proofs.Ytpcamkmoabhlhaa


namespace Go.Proofs.Ytpcamkmoabhlhaa
open Go.RowKit
set_option maxRecDepth 10000

/-- a strictly increasing list of points of n -/
def Inc (n : Int) (l : List Int) : Prop := (∀ x ∈ l, 0 ≤ x ∧ x < n) ∧ l.Pairwise (· < ·)
instance (n : Int) (l : List Int) : Decidable (Inc n l) := inferInstanceAs (Decidable (_ ∧ _))
/-- distinct points of n -/
def Dis (n : Int) (l : List Int) : Prop := (∀ x ∈ l, 0 ≤ x ∧ x < n) ∧ l.Nodup
instance (n : Int) (l : List Int) : Decidable (Dis n l) := inferInstanceAs (Decidable (_ ∧ _))
def trackB (n : Int) (l : List Int) : Bool := decide (0 < l.length) && decide (Inc n l)
def patB (n : Int) (k : Nat) (l : List Int) : Bool := decide (l.length = k) && decide (Dis n l)
theorem inc_ge {l : List Int} (h0 : ∀ x ∈ l, 0 ≤ x) (hp : l.Pairwise (· < ·)) : ∀ k (hk : k < l.length), (k : Int) ≤ l[k] := by
  intro k
  induction k with
  | zero => intro hk; have := h0 _ (List.getElem_mem hk); omega
  | succ k ih =>
    intro hk
    have h1 := ih (by omega)
    have h2 := List.pairwise_iff_getElem.1 hp k (k + 1) (by omega) hk (by omega)
    omega
theorem Inc.len {n : Int} {l : List Int} (h : Inc n l) : (l.length : Int) ≤ n ∨ l.length = 0 := by
  rcases Nat.eq_zero_or_pos l.length with h0 | h0
  · exact .inr h0
  · left
    have h1 := inc_ge (fun x hx => (h.1 x hx).1) h.2 (l.length - 1) (by omega)
    have h2 := (h.1 l[l.length - 1] (List.getElem_mem _)).2
    omega
theorem trackB_iff {n : Int} {l : List Int} : trackB n l = true ↔ 0 < l.length ∧ Inc n l := by simp [trackB]
theorem patB_iff {n : Int} {k : Nat} {l : List Int} : patB n k l = true ↔ l.length = k ∧ Dis n l := by simp [patB]
def wfT (t : Table) : Bool := trackB 20 t.tracked && (inR t.patterns.length 1 3000 && (decide (t.distances.length = t.patterns.length) && (t.patterns.all (patB 20 t.tracked.length) && t.distances.all (fun d => inR d 0 3000))))
theorem wfT_iff {t : Table} : wfT t = true ↔ trackB 20 t.tracked = true ∧ (1 ≤ t.patterns.length ∧ t.patterns.length ≤ 3000) ∧ t.distances.length = t.patterns.length ∧ (∀ x ∈ t.patterns, patB 20 t.tracked.length x = true) ∧ (∀ d ∈ t.distances, inR d 0 3000 = true) := by
  simp [wfT, inR]; omega
end Go.Proofs.Ytpcamkmoabhlhaa

namespace Go.Proofs.Ytpcamkmoabhlhaa
open Go.RowKit
set_option maxRecDepth 10000

theorem pts_succ (k : Nat) : PM.pts (k + 1) = PM.pts k ++ [(k : Int)] := by simp [PM.pts, List.range_succ]
set_option maxHeartbeats 1000000 in
theorem specIdentity_any (m : Nat) (w : World) (hm : m ≤ 1000) :
    Calls Try.prog 50 #[.int .i64 m] w fun e w' => ∃ v fp', e = .returned v ∧ Rd w' v (PM.pts m) fp' ∧ Fresh w.heap.size w' fp' ∧ Only [] w w' := by
  obtain ⟨i0, hi, hz0, hz1, hz2⟩ := info_parts Try.info2
  go_enter Try.func50, Try.ntmps50
  go_wp2
  go_loopw [3, 4] (fun o i wr => ∃ (j : Nat) (fs : List (List Nat)), j ≤ m ∧ i = .int .i64 j ∧ Acc w.heap.size 2 wr o (PM.pts j) fs ∧ Fresh w.heap.size wr fs.flatten ∧ Only [] w wr)
    (fun _ i _ => m - (intOf i).toNat)
  case atStart => exact ⟨0, [], Nat.zero_le _, rfl, Acc.made w w.heap.size _ rfl (Nat.le_refl _), Fresh.nil _ _, (Only.refl _ _).alloc _⟩
  case round =>
    obtain ⟨j, fs, hj, rfl, hA, hF, hK⟩ := hrel
    by_cases hlt : j < m
    · have hsz := hK.size
      have hlj : (PM.pts j).length + 1 ≤ 1073741824 := by rw [PM.pts_len]; omega
      have hI : I64 (j : Int) := by unfold I64; omega
      have HI := Lib.hid hI; clear hI
      go_wp2_with ((at_builtin; refine wpList_pushF rfl _ _ 23 rfl w.heap.size 2 i0 _ 8 Try.underlying23 hi hz0 hz1 hz2 rfl (by decide) (by decide) wr _ (PM.pts j) fs rfl hA hF ((Only.refl _ _).alloc _) hsz wr.heap.size 1 [.int .i64 (j : Int)] (j : Int) [] rfl (lit_src wr [.int .i64 (j : Int)] _ rfl) (by intro u hu; simp at hu; subst hu; rfl) (int_rd _ HI.out) (Fresh.nil _ _) hlj w (hK.alloc _) (Nat.le_refl _) ?_; intro v3 w3 hA3 hF3 hK3 _))
      go_roundw
      case rel => exact ⟨j + 1, _, by omega, by go_num, by rw [pts_succ]; exact hA3, hF3, hK3⟩
      case measure => simp [intOf]; omega
    · have hjl : j = m := by omega
      rw [hjl] at hA
      have HA := Lib.hid hA
      clear hjl hA
      go_wp2
      go_ret
      exact ⟨_, _, rfl, HA.out.rd (by decide), HA.out.fresh hF, hK⟩
set_option maxHeartbeats 1000000 in
theorem implIdentity_any (m : Nat) (w : World) (hm : m ≤ 1000) :
    Calls Try.prog 58 #[.int .i64 m] w fun e w' => ∃ v fp', e = .returned v ∧ Rd w' v (PM.pts m) fp' ∧ Fresh w.heap.size w' fp' ∧ Only [] w w' := by
  obtain ⟨i0, hi, hz0, hz1, hz2⟩ := info_parts Try.info2
  go_enter Try.func58, Try.ntmps58
  go_wp2_with (at_make; refine wpList_make_full _ rfl _ _ 23 rfl w.heap.size 2 i0 _ 1 Try.underlying23 hi hz0 hz1 _ _ _ _ m rfl rfl rfl rfl (by rw [hz2]; omega) (by unfold maxLen; omega) (Nat.le_refl _) ?_; intro w1 hown hg)
  rw [madeInts, Nat.mul_one] at hown
  have hs1 := hg.size
  go_loopw [9] (fun i wr => ∃ j : Nat, j ≤ m ∧ i = .int .i64 j ∧
      wr.ownsRow w.heap.size 2 1 (.slice (some ⟨w.heap.size, 0, none⟩) m m) m ((PM.pts j).map (Value.int .i64) ++ List.replicate (m - j) (.int .i64 0)) ∧ Only [] w wr)
    (fun i _ => m - (intOf i).toNat)
  case atStart => exact ⟨0, Nat.zero_le _, rfl, by simpa [PM.pts] using hown, (Only.refl _ _).grown hg (by simp)⟩
  case round =>
    obtain ⟨j, hj, rfl, hO, hK⟩ := hrel
    have hpl : ((PM.pts j).map (Value.int .i64)).length = j := by rw [List.length_map, PM.pts_len]
    by_cases hlt : j < m
    · obtain ⟨hO2, hg2⟩ := hO.stored j (.int .i64 j)
      have hstep : ((PM.pts j).map (Value.int .i64) ++ List.replicate (m - j) (Value.int .i64 0)).set j (.int .i64 j) = (PM.pts (j + 1)).map (Value.int .i64) ++ List.replicate (m - (j + 1)) (.int .i64 0) := by
        rw [show m - j = (m - (j + 1)) + 1 by omega, List.replicate_succ, List.set_append_right _ _ (by omega), hpl, Nat.sub_self, pts_succ]
        simp
      rw [hstep] at hO2
      have hc2 : wr.cell? ⟨w.heap.size, j, none⟩ = some (.int .i64 0) := by
        rw [hO.cellAt j (by omega), List.getElem?_append_right (by omega), List.getElem?_replicate, if_pos (by omega)]
      have hf2 := hO.frozenAt j
      have hK2 := hK.setCell (p := ⟨w.heap.size, j, none⟩) (by simp) (.int .i64 j)
      have HO := Lib.hid hO2
      clear hO hO2 hg hg2 hown hstep hpl
      go_wp2
      go_roundw
      case rel => exact ⟨j + 1, by omega, by go_num, HO.out, hK2⟩
      case measure => simp [intOf]; omega
    · have hjl : j = m := by omega
      rw [hjl] at hO
      simp only [Nat.sub_self, List.replicate_zero, List.append_nil] at hO
      have hw : ∀ x ∈ PM.pts m, I64 x := fun x hx => by have := PM.mem_pts.1 hx; unfold I64; omega
      have hO' : wr.ownsRow w.heap.size 2 1 (.slice (some ⟨w.heap.size, 0, none⟩) m m) (PM.pts m).length ((PM.pts m).map (Value.int .i64)) := by rw [PM.pts_len]; exact hO
      obtain ⟨a', cap', hv, -, hI, hF⟩ := own_ints hO' hw
      have HI := Lib.hid hI
      have Hv := Lib.hid hv
      clear hjl hO hO' hv hown hI hpl hw
      go_wp2
      go_ret
      refine ⟨_, _, rfl, ?_, hF, hK⟩
      have hr := HI.out.rd
      rw [← Hv.out] at hr; exact hr
end Go.Proofs.Ytpcamkmoabhlhaa

namespace Go.Proofs.Ytpcamkmoabhlhaa
open Go.RowKit
set_option maxRecDepth 10000

/-- the letters of n moves, in order -/
def ltrs : Nat → List Int
  | 0 => []
  | n + 1 => ltrs n ++ [((n + 1 : Nat) : Int), -((n + 1 : Nat) : Int)]
theorem mem_ltrs {n : Nat} {x : Int} : x ∈ ltrs n ↔ x ≠ 0 ∧ -(n : Int) ≤ x ∧ x ≤ n := by
  induction n with
  | zero => simp [ltrs]; omega
  | succ n ih => simp [ltrs, ih]; omega
/-- the permutation of a letter -/
def mv (gens : List (List Int)) (l : Int) : List Int := if 0 < l then gens.getD (l - 1).toNat [] else PM.inv (gens.getD (-l - 1).toNat [])
theorem mv_pos {gens : List (List Int)} {l : Int} {k : Nat} (h : l = (k : Int) + 1) (hk : k < gens.length) : mv gens l = gens[k] := by
  unfold mv
  rw [if_pos (by omega), show (l - 1).toNat = k by omega, List.getD_eq_getElem?_getD, List.getElem?_eq_getElem hk]; rfl
theorem mv_neg {gens : List (List Int)} {l : Int} {k : Nat} (h : l = -((k : Int) + 1)) (hk : k < gens.length) : mv gens l = PM.inv gens[k] := by
  unfold mv
  rw [if_neg (by omega), show (-l - 1).toNat = k by omega, List.getD_eq_getElem?_getD, List.getElem?_eq_getElem hk]; rfl
theorem letter_cases {n : Nat} {l : Int} (h : l ∈ ltrs n) : (∃ k : Nat, k < n ∧ l = (k : Int) + 1) ∨ (∃ k : Nat, k < n ∧ l = -((k : Int) + 1)) := by
  rw [mem_ltrs] at h
  rcases Int.lt_or_gt_of_ne h.1 with h0 | h0
  · right; exact ⟨(-l - 1).toNat, by omega, by omega⟩
  · left; exact ⟨(l - 1).toNat, by omega, by omega⟩
theorem mv_pn {n : Nat} {gens : List (List Int)} (h : ∀ g ∈ gens, PM.PN n g) {l : Int} (hl : l ∈ ltrs gens.length) : PM.PN n (mv gens l) := by
  rcases letter_cases hl with ⟨k, hk, e⟩ | ⟨k, hk, e⟩
  · rw [mv_pos e hk]; exact h _ (List.getElem_mem _)
  · rw [mv_neg e hk]; exact (h _ (List.getElem_mem _)).inv

theorem lit_srcA (w : World) (cs : List Value) (e : TypeId) {g : Nat} (hg : g = w.heap.size) : ∀ ad, some (⟨g, 0, none⟩ : Addr) = some ad → ∀ j u, cs[j]? = some u → (w.alloc (.cells cs.toArray e)).cell? (ad.add j) = some u := by
  intro ad had j u hu
  injection had with had; subst had
  have hadd : (⟨g, 0, none⟩ : Addr).add j = ⟨g, j, none⟩ := by unfold Addr.add; split <;> simp_all
  rw [hadd]; exact lit_src w cs e hg j u hu
/-- an array of int64s that a call fills -/
def Arr (B : Nat) (e : TypeId) (w : World) (g m : Nat) (l : List Int) : Prop := w.ownsRow B e 1 (.slice (some ⟨g, 0, none⟩) m m) m (l.map (Value.int .i64))
section
variable {B : Nat} {e : TypeId} {w : World} {g m : Nat} {l : List Int}
theorem Arr.len (h : Arr B e w g m l) : l.length = m := by have := h.1; simpa using this
theorem Arr.set (h : Arr B e w g m l) (i : Nat) (x : Int) : Arr B e (w.setCell ⟨g, i, none⟩ (.int .i64 x)) g m (l.set i x) := by
  have := (World.ownsRow.stored h i (.int .i64 x)).1
  unfold Arr
  rwa [List.map_set]
theorem Arr.cell (h : Arr B e w g m l) {i : Nat} (hi : i < l.length) : w.cell? ⟨g, i, none⟩ = some (.int .i64 l[i]) := by
  rw [World.ownsRow.cellAt h i (by have := h.len; omega)]; simp [hi]
theorem Arr.frozen (h : Arr B e w g m l) (i : Nat) : w.frozen? ⟨g, i, none⟩ = false := World.ownsRow.frozenAt h i
theorem Arr.rd (h : Arr B e w g m l) (hw : ∀ x ∈ l, I64 x) : Rd w (.slice (some ⟨g, 0, none⟩) m m) l [g] ∧ Fresh B w [g] := by
  have h' : w.ownsRow B e 1 (.slice (some ⟨g, 0, none⟩) m m) m (l.map (Value.int .i64)) := h
  obtain ⟨a, cap, hv, -, hI, hF⟩ := own_ints h' hw
  have hr := hI.rd
  rw [← hv] at hr
  exact ⟨hr, hF⟩
theorem Arr.only {w' : World} {fp : List Nat} (h : Arr B e w g m l) (ho : Only fp w w') (hg : g ∉ fp) : Arr B e w' g m l := by
  refine ⟨h.1, ?_⟩
  rcases h.2 with ⟨h', _⟩ | ⟨g', cp, cur, h', hb, hgg, hrest⟩
  · simp at h'
  · have : g' = g := by simp at h'; exact h'.1.symm
    subst this
    exact .inr ⟨g', cp, cur, h', hb, by rw [ho.block g' (Array.getElem?_eq_some_iff.1 hgg).1 hg]; exact hgg, hrest⟩
end
end Go.Proofs.Ytpcamkmoabhlhaa

namespace Go.Proofs.Ytpcamkmoabhlhaa
open Go.RowKit
set_option maxRecDepth 10000

theorem validPz_facts {x : Puzzle} (h : validPz x = true) : 1 ≤ x.points ∧ x.points ≤ 20 ∧ x.moves.length ≤ 8 ∧ ∀ y ∈ x.moves, (y.length : Int) = x.points ∧ permB y = true := by
  unfold validPz at h
  rw [Bool.and_eq_true] at h
  have h1 := h.1
  unfold gensB at h1
  rw [Bool.and_eq_true, Bool.and_eq_true, inR_iff, decide_eq_true_iff, List.all_eq_true] at h1
  refine ⟨h1.1.1.1, h1.1.1.2, h1.1.2, fun y hy => ?_⟩
  have := h1.2 y hy
  unfold genB at this
  simpa using this
theorem validPz_pn {x : Puzzle} (h : validPz x = true) : ∀ g ∈ x.moves, PM.PN x.points.toNat g := by
  intro g hg
  obtain ⟨h1, h2, h3, h4⟩ := validPz_facts h
  obtain ⟨h5, h6⟩ := h4 g hg
  exact ⟨by omega, (permB_iff.1 h6).2⟩
/-- the tables that can be checked -/
def checkT (x : Puzzle) (t : Table) : Bool := validPz x && (wfT t && (trackB x.points t.tracked && t.patterns.all (patB x.points t.tracked.length)))
theorem checkT_iff {x : Puzzle} {t : Table} : checkT x t = true ↔ validPz x = true ∧ wfT t = true ∧ trackB x.points t.tracked = true ∧ ∀ p ∈ t.patterns, patB x.points t.tracked.length p = true := by
  simp [checkT]
/-- the index of the first pattern that is this one, -1 if there is none -/
def idxL (l : List (List Int)) (p : List Int) : Int := idxF (fun q => decide (q = p)) l
/-- the pattern behind a letter -/
def nxt (x : Puzzle) (p : List Int) (l : Int) : List Int := PM.comp p (mv x.moves l)
/-- where a letter leads -/
def nextI (x : Puzzle) (t : Table) (p : List Int) (l : Int) : Int := idxL t.patterns (nxt x p l)
/-- a letter leads to an entry of this distance -/
def leads (x : Puzzle) (t : Table) (p : List Int) (d : Int) (l : Int) : Bool := decide (0 ≤ nextI x t p l) && decide (t.distances.getD (nextI x t p l).toNat 0 = d)
/-- the first letter that leads to an entry of this distance, 0 if there is none -/
def descL (x : Puzzle) (t : Table) (p : List Int) (d : Int) : Int := ((ltrs x.moves.length).find? (leads x t p d)).getD 0
structure Fault where
  kind : Int
  entry : Int
  letter : Int
instance : Rp Fault where
  size := 3
  rep _ cs x fp := cs = [Value.int .i64 x.kind, Value.int .i64 x.entry, Value.int .i64 x.letter] ∧ (I64 x.kind ∧ I64 x.entry ∧ I64 x.letter) ∧ fp = []
  len h := by rw [h.1]; rfl
  frame h _ := h
  lt h := by rw [h.2.2]; simp
def atD (t : Table) (i : Int) : Int := t.distances.getD i.toNat 0
def atP (t : Table) (i : Nat) : List Int := t.patterns.getD i []
def one (b : Bool) (f : Fault) : List Fault := if b = true then [f] else []
/-- the fault of a letter -/
def letF (x : Puzzle) (t : Table) (i : Nat) (l : Int) : List Fault :=
  if nextI x t (atP t i) l < 0 then [⟨4, i, l⟩] else if inR (atD t (nextI x t (atP t i) l) - atD t i) (-1) 1 = true then [] else [⟨5, i, l⟩]
def entF (x : Puzzle) (t : Table) (i : Nat) : List Fault :=
  one (decide (i = 0) && (decide (atD t i ≠ 0) || decide (atP t 0 ≠ t.tracked))) ⟨1, i, 0⟩ ++
  (one (decide (idxL t.patterns (atP t i) < i)) ⟨2, i, 0⟩ ++
  (one (decide (0 < i) && decide (atD t i = 0)) ⟨3, i, 0⟩ ++
  ((ltrs x.moves.length).flatMap (letF x t i) ++
  one (decide (0 < atD t i) && decide (descL x t (atP t i) (atD t i - 1) = 0)) ⟨6, i, 0⟩)))
theorem idxF_nonneg_or {α : Type} (pr : α → Bool) (l : List α) : idxF pr l = -1 ∨ ∃ k : Nat, ∃ h : k < l.length, idxF pr l = k ∧ pr l[k] = true := by
  unfold idxF
  cases h : l.findIdx? pr with
  | none => exact .inl rfl
  | some i =>
    right
    obtain ⟨hi, hp, -⟩ := List.findIdx?_eq_some_iff_getElem.1 h
    exact ⟨i, hi, rfl, hp⟩
theorem idxL_lt {l : List (List Int)} {p : List Int} : -1 ≤ idxL l p ∧ idxL l p < l.length := by
  rcases idxF_nonneg_or (fun q => decide (q = p)) l with h | ⟨k, hk, h, -⟩
  · unfold idxL; omega
  · unfold idxL; omega
end Go.Proofs.Ytpcamkmoabhlhaa

namespace Go.Proofs.Ytpcamkmoabhlhaa
open Go.RowKit
set_option maxRecDepth 10000

/-- the patterns met so far and their depths -/
abbrev Met16 := List (List Int) × List Int
end Go.Proofs.Ytpcamkmoabhlhaa

namespace Go.Proofs.Ytpcamkmoabhlhaa
open Go.RowKit
set_option maxRecDepth 10000

/-- a precedes b -/
def prec : List Int → List Int → Bool
  | a :: xs, b :: ys => if a = b then prec xs ys else decide (a < b)
  | _, _ => false
theorem prec_trans : ∀ {a b c : List Int}, a.length = b.length → b.length = c.length → prec a b = true → prec b c = true → prec a c = true
  | [], _, _, _, _, h, _ => by cases h
  | _ :: _, [], _, h, _, _, _ => by cases h
  | _ :: _, _ :: _, [], _, h, _, _ => by cases h
  | a :: xs, b :: ys, c :: zs, h1, h2, h3, h4 => by
    unfold prec at h3 h4 ⊢
    by_cases e1 : a = b
    · by_cases e2 : b = c
      · rw [if_pos e1] at h3; rw [if_pos e2] at h4; rw [if_pos (e1.trans e2)]
        exact prec_trans (by simpa using h1) (by simpa using h2) h3 h4
      · rw [if_neg e2] at h4; subst e1; rw [if_neg e2]; exact h4
    · rw [if_neg e1] at h3
      have h3 := of_decide_eq_true h3
      by_cases e2 : b = c
      · subst e2; rw [if_neg e1]; exact decide_eq_true h3
      · rw [if_neg e2] at h4
        have h4 := of_decide_eq_true h4
        rw [if_neg (by omega)]; exact decide_eq_true (by omega)
theorem prec_tri : ∀ {a b : List Int}, a.length = b.length → a ≠ b → prec a b = false → prec b a = true
  | [], [], _, h, _ => absurd rfl h
  | [], _ :: _, h, _, _ => by cases h
  | _ :: _, [], h, _, _ => by cases h
  | a :: xs, b :: ys, h1, h2, h3 => by
    unfold prec at h3 ⊢
    by_cases e1 : a = b
    · subst e1
      rw [if_pos rfl] at h3 ⊢
      exact prec_tri (by simpa using h1) (fun e => h2 (by rw [e])) h3
    · rw [if_neg e1] at h3
      rw [if_neg (fun e => e1 e.symm)]
      have := of_decide_eq_false h3
      exact decide_eq_true (by omega)
/-- so: an index of the lists L, sorted by them -/
structure Srt (m : Nat) (L : List (List Int)) (so : List Nat) : Prop where
  len : so.length = L.length
  many : ∀ x ∈ L, x.length = m
  in_ : ∀ i ∈ so, i < L.length
  all : ∀ i, i < L.length → i ∈ so
  asc : ∀ (i j : Nat) (hi : i < so.length) (hj : j < so.length), i < j → prec (L.getD so[i] []) (L.getD so[j] []) = true
theorem Srt.nil (m : Nat) : Srt m [] [] := ⟨rfl, by simp, by simp, by simp, by simp⟩
theorem Srt.mem {m : Nat} {L : List (List Int)} {so : List Nat} (h : Srt m L so) {i : Nat} (hi : i < so.length) : L.getD so[i] [] ∈ L := by
  have := h.in_ so[i] (List.getElem_mem hi)
  rw [List.getD_eq_getElem?_getD, List.getElem?_eq_getElem this]
  exact List.getElem_mem this
/-- k: the place at which s is or would be -/
structure Slot (L : List (List Int)) (so : List Nat) (s : List Int) (k : Nat) : Prop where
  le : k ≤ so.length
  lo : ∀ (i : Nat) (hi : i < so.length), i < k → prec (L.getD so[i] []) s = true
  hi : ∀ (i : Nat) (hi : i < so.length), k ≤ i → prec (L.getD so[i] []) s = false
theorem Srt.below {m : Nat} {L : List (List Int)} {so : List Nat} (h : Srt m L so) {s : List Int} (hs : s.length = m) {k : Nat} (hk : k < so.length) (hp : prec (L.getD so[k] []) s = true) {i : Nat} (hi : i < so.length) (hik : i ≤ k) : prec (L.getD so[i] []) s = true := by
  rcases Nat.lt_or_eq_of_le hik with hlt | rfl
  · exact prec_trans (by rw [h.many _ (h.mem hi), h.many _ (h.mem hk)]) (by rw [h.many _ (h.mem hk), hs]) (h.asc i k hi hk hlt) hp
  · exact hp
/-- one list more -/
theorem Srt.add {m : Nat} {L : List (List Int)} {so : List Nat} (h : Srt m L so) {s : List Int} (hs : s.length = m) (hn : s ∉ L) {k : Nat} (hk : Slot L so s k) : Srt m (L ++ [s]) (so.take k ++ L.length :: so.drop k) := by
  have hD : ∀ (t : Nat) (ht : t < so.length), (L ++ [s]).getD so[t] [] = L.getD so[t] [] := fun t ht => by
    have := h.in_ so[t] (List.getElem_mem ht)
    simp only [List.getD_eq_getElem?_getD, List.getElem?_append_left this]
  have hS : (L ++ [s]).getD L.length [] = s := by simp [List.getD_eq_getElem?_getD]
  have hle := hk.le
  have hG : ∀ (t : Nat) (ht : t < (so.take k ++ L.length :: so.drop k).length), (L ++ [s]).getD (so.take k ++ L.length :: so.drop k)[t] [] = if t < k then L.getD (so.getD t 0) [] else if t = k then s else L.getD (so.getD (t - 1) 0) [] := by
    intro t ht
    have htl : t < so.length + 1 := by simp at ht; omega
    by_cases h1 : t < k
    · rw [if_pos h1]
      rw [List.getElem_append_left (by simp; omega), List.getElem_take]
      rw [hD t (by omega)]
      simp [List.getD_eq_getElem?_getD, List.getElem?_eq_getElem (show t < so.length by omega)]
    · rw [if_neg h1]
      have hkl : (so.take k).length = k := by simp; omega
      rw [List.getElem_append_right (by rw [hkl]; omega)]
      by_cases h2 : t = k
      · subst h2; rw [if_pos rfl]; simp only [hkl, Nat.sub_self, List.getElem_cons_zero]; exact hS
      · rw [if_neg h2]
        have h3 : t - (so.take k).length = (t - 1 - k) + 1 := by rw [hkl]; omega
        simp only [h3, List.getElem_cons_succ, List.getElem_drop]
        have h4 : k + (t - 1 - k) = t - 1 := by omega
        have h5 : t - 1 < so.length := by omega
        simp only [h4]
        rw [hD _ h5]
        simp [List.getD_eq_getElem?_getD, List.getElem?_eq_getElem h5]
  refine ⟨?_, ?_, ?_, ?_, ?_⟩
  · have := h.len; simp; omega
  · intro x hx
    rcases List.mem_append.1 hx with hx | hx
    · exact h.many x hx
    · simp at hx; subst hx; exact hs
  · intro i hi
    rw [List.length_append, List.length_singleton]
    rcases List.mem_append.1 hi with hi | hi
    · have := h.in_ i (List.mem_of_mem_take hi); omega
    · rcases List.mem_cons.1 hi with rfl | hi
      · omega
      · have := h.in_ i (List.mem_of_mem_drop hi); omega
  · intro i hi
    rw [List.length_append, List.length_singleton] at hi
    by_cases he : i = L.length
    · subst he; simp
    · have := h.all i (by omega)
      rw [← List.take_append_drop k so] at this
      rcases List.mem_append.1 this with h1 | h1
      · exact List.mem_append_left _ h1
      · exact List.mem_append_right _ (List.mem_cons_of_mem _ h1)
  · intro i j hi hj hij
    rw [hG i hi, hG j hj]
    have hjl : j < so.length + 1 := by simp at hj; omega
    have gd : ∀ (t : Nat) (ht : t < so.length), so.getD t 0 = so[t] := fun t ht => by simp [List.getD_eq_getElem?_getD, List.getElem?_eq_getElem ht]
    by_cases j1 : j < k
    · rw [if_pos j1, if_pos (by omega), gd i (by omega), gd j (by omega)]
      exact h.asc i j (by omega) (by omega) hij
    · rw [if_neg j1]
      by_cases j2 : j = k
      · subst j2
        rw [if_pos rfl, if_pos hij, gd i (by omega)]
        exact hk.lo i (by omega) hij
      · rw [if_neg j2, gd (j - 1) (by omega)]
        by_cases i1 : i < k
        · rw [if_pos i1, gd i (by omega)]
          exact h.asc i (j - 1) (by omega) (by omega) (by omega)
        · rw [if_neg i1]
          by_cases i2 : i = k
          · rw [if_pos i2]
            have hj1 : j - 1 < so.length := by omega
            have hne : L.getD so[j - 1] [] ≠ s := fun e => hn (e ▸ h.mem hj1)
            exact prec_tri (by rw [h.many _ (h.mem hj1), hs]) hne (hk.hi (j - 1) hj1 (by omega))
          · rw [if_neg i2, gd (i - 1) (by omega)]
            exact h.asc (i - 1) (j - 1) (by omega) (by omega) (by omega)
end Go.Proofs.Ytpcamkmoabhlhaa

namespace Go.Proofs.Ytpcamkmoabhlhaa
open Go.RowKit
set_option maxRecDepth 10000


/-- the index as numbers -/
def soI (so : List Nat) : List Int := so.map fun i : Nat => (i : Int)
/-- what a search holds, as its functions read it -/
structure SrR (w : World) (A1 A2 A3 : Option Addr) (C1 C2 C3 : Nat) (L : List (List Int)) (D : List Int) (so : List Nat) (ob : List Nat) (fps : List (List Nat)) (fd fs : List Nat) : Prop where
  ls : SeqA w A1 C1 L ob fps
  dp : IntsA w A2 C2 D fd
  st : IntsA w A3 C3 (soI so) fs
theorem SrR.keep {w w' : World} {A1 A2 A3 : Option Addr} {C1 C2 C3 : Nat} {L : List (List Int)} {D : List Int} {so : List Nat} {ob : List Nat} {fps : List (List Nat)} {fd fs : List Nat} (h : SrR w A1 A2 A3 C1 C2 C3 L D so ob fps fd fs) (ho : Only [] w w') : SrR w' A1 A2 A3 C1 C2 C3 L D so ob fps fd fs :=
  ⟨h.ls.frame fun b hb => ho.block b (h.ls.lt_all b hb) (by simp), h.dp.keep ho, h.st.keep ho⟩
theorem SrR.only {w w' : World} {A1 A2 A3 : Option Addr} {C1 C2 C3 : Nat} {L : List (List Int)} {D : List Int} {so : List Nat} {ob : List Nat} {fps : List (List Nat)} {fd fs fp : List Nat} (h : SrR w A1 A2 A3 C1 C2 C3 L D so ob fps fd fs) (ho : Only fp w w') (hd : ∀ g ∈ (ob ++ fps.flatten) ++ (fd ++ fs), g ∉ fp) : SrR w' A1 A2 A3 C1 C2 C3 L D so ob fps fd fs :=
  ⟨h.ls.frame fun b hb => ho.block b (h.ls.lt_all b hb) (hd b (List.mem_append_left _ hb)), h.dp.only ho fun b hb => hd b (List.mem_append_right _ (List.mem_append_left _ hb)), h.st.only ho fun b hb => hd b (List.mem_append_right _ (List.mem_append_right _ hb))⟩



end Go.Proofs.Ytpcamkmoabhlhaa

namespace Go.Proofs.Ytpcamkmoabhlhaa
open Go.RowKit
set_option maxRecDepth 10000

section
variable {P : Program} {α : Type} [Rp α] {ops : Array Oper} {rest : List Oper} {o : Oper} {a : Act} {w : World} {Q : Exit → Act → World → Prop} {K : Act → World → Prop}
/-- append(v, y), y one element -/
theorem wp_push2 (s x : Operand) (t : TypeId)
    (ho : o.op = .call { callee := .builtin .append, args := #[s, x], argTypes := #[t, t] })
    (B : Nat) (e : TypeId) (i : TypeInfo) (z : Value) (bytes : Nat) (ht : P.underlying t = some (.slice e)) (hi : P.info? e = some i) (hz : i.zero = some z)
    (hsize : i.size = Rp.size α) (hby : i.bytes = bytes) (hzs : z.cells.size = Rp.size α) (hsz : 0 < Rp.size α) (hbb : bytes ≤ 65536)
    (w0 : World) (v : Value) (l : List α) (fs : List (List Nat)) (hs : a.eval s = v) (hA : Acc B e w0 v l fs) (hK0 : Only [] w0 w) (hB : B ≤ w0.heap.size)
    (g c : Nat) (cs : List Value) (y : α) (fp : List Nat) (hx : a.eval x = .slice (some ⟨g, 0, none⟩) 1 c) (hsrc : ∀ j u, cs[j]? = some u → w.cell? ⟨g, j, none⟩ = some u) (hcs : ∀ u ∈ cs, u.oneCell' = true)
    (hy : Rp.rep w cs y fp) (hap : ∀ b ∈ fp, v.ownBlock ≠ some b) (hlen : l.length + 1 ≤ 1073741824)
    (h : ∀ v' w', Acc B e w' v' (l ++ [y]) (fs ++ [fp]) → Only v.ownBlock.toList w w' → (∀ wz, Only [] wz w → wz.heap.size ≤ B → Only [] wz w') →
      (Fresh B w0 fs.flatten → Fresh w0.heap.size w fp → Fresh B w' (fs ++ [fp]).flatten) → (v'.ownBlock = v.ownBlock ∨ v'.ownBlock = some w.heap.size) → K (a.put o.dst v') w') : o.wp P a w K Q := by
  obtain ⟨css, hown, hcl, hre⟩ := (hA.keep hK0).own
  have hcsl : cs.length = 1 * Rp.size α := by rw [Nat.one_mul]; exact Rp.len hy
  have hfl := hA.fl
  have hbytes : (l.length + 1) * bytes ≤ 140737488355328 := by
    have := Nat.mul_le_mul hlen hbb; omega
  refine wp_app w s x t ho B e i z (Rp.size α) bytes ht hi hz hsize hby hzs hsz v l.length css.flatten hs hown (some ⟨g, 0, none⟩) 1 c cs hx hcsl ?_ (by simp) hcs (by unfold maxLen; omega) hbytes (Nat.le_trans hB hK0.size) ?_
  · intro ad had j u hu
    injection had with had; subst had
    have hadd : (⟨g, 0, none⟩ : Addr).add j = ⟨g, j, none⟩ := by unfold Addr.add; split <;> simp_all
    rw [hadd]; exact hsrc j u hu
  intro v' w' hO hg hb
  have hW : Only v.ownBlock.toList w w' := (Only.refl _ _).grown hg (by intro k hk _; simp [hk])
  have hlt := (hA.keep hK0).lt
  have hap' : ∀ b ∈ fp, b ∉ v.ownBlock.toList := fun b hb hm => hap b hb (by simpa using hm)
  have hfs : ∀ b ∈ fs.flatten, b ∉ v.ownBlock.toList := fun b hb hm => hA.apart b (by simpa using hm) hb
  refine h v' w' ⟨⟨css ++ [cs], ?_, by simp [hcl], fun k h1 h2 h3 => ?_⟩, by simp [hfl], ?_⟩ hW ?_ ?_ hb
  · rw [List.length_append, List.flatten_append]; simpa using hO
  · by_cases hk : k < l.length
    · rw [List.getElem_append_left (by rw [hcl]; exact hk), List.getElem_append_left hk, List.getElem_append_left (by rw [hfl]; exact hk)]
      exact Rp.only (hre k (by omega) hk (by omega)) hW fun b hb => hfs b (List.mem_flatten.2 ⟨_, List.getElem_mem _, hb⟩)
    · have : k = l.length := by simp at h2; omega
      subst this
      rw [List.getElem_append_right (by rw [hcl]; omega), List.getElem_append_right (by omega), List.getElem_append_right (by rw [hfl]; omega)]
      simpa [hcl, hfl] using Rp.only hy hW hap'
  · intro g' hg' hm
    rw [List.flatten_append] at hm
    simp only [List.flatten_cons, List.flatten_nil, List.append_nil] at hm
    rcases hb with hb | hb
    · rw [hb] at hg'
      rcases List.mem_append.1 hm with hm | hm
      · exact hA.apart g' hg' hm
      · exact hap g' hm hg'
    · rw [hb] at hg'; injection hg' with hg'; subst hg'
      rcases List.mem_append.1 hm with hm | hm
      · exact absurd (hlt _ hm) (by omega)
      · exact absurd (Rp.lt hy _ hm) (by omega)
  · intro wz hz hzB
    refine hz.then_ hW fun b hm hb => ?_
    have hm' : v.ownBlock = some b := by simpa using hm
    have := (hA.ownlt b hm').1
    omega
  · intro hF hFy
    rw [List.flatten_append]
    simp only [List.flatten_cons, List.flatten_nil, List.append_nil]
    have hF' := (hF.keep hK0)
    refine ((Fresh.append hF' hFy hB fun b hb => hF.lt b hb)).only hW fun b hm => ?_
    rcases List.mem_append.1 hm with hm | hm
    · exact hfs b hm
    · exact hap' b hm
end

/-- the appended slice v reads as l; the blocks of G (of the call's own) are as in the world W; nothing older than w0 was written -/
def AccK {α : Type} [Rp α] (w0 : World) (B : Nat) (e : TypeId) (G : List Nat) (W wx : World) (v : Value) (l : List α) : Prop :=
  ∃ fs, Acc B e wx v l fs ∧ Fresh B wx fs.flatten ∧ Only [] w0 wx ∧ (∀ b ∈ G, wx.heap[b]? = W.heap[b]?) ∧ (∀ b ∈ G, b < wx.heap.size) ∧ (∀ b ∈ G, b ∉ v.ownBlock.toList)

section
variable {α : Type} [Rp α] {w0 W wx wy : World} {B : Nat} {e : TypeId} {G : List Nat} {v : Value} {l : List α}
theorem AccK.keep (h : AccK w0 B e G W wx v l) (ho : Only [] wx wy) : AccK w0 B e G W wy v l := by
  obtain ⟨fs, a, b, c, d, f, g⟩ := h
  exact ⟨fs, a.keep ho, b.keep ho, c.trans ho, fun x hx => (ho.block x (f x hx) (by simp)).trans (d x hx), fun x hx => Nat.lt_of_lt_of_le (f x hx) ho.size, g⟩
theorem AccK.only (h : AccK w0 B e G W wx v l) : Only [] w0 wx := by
  obtain ⟨fs, a, b, c, d, f, g⟩ := h
  exact c
theorem AccK.lt (h : AccK w0 B e G W wx v l) : ∀ b ∈ G, b < wx.heap.size := by
  obtain ⟨fs, a, b, c, d, f, g⟩ := h
  exact f
theorem AccK.frame (h : AccK w0 B e G W wx v l) {β : Type} [Rp β] {cs : List Value} {x : β} {fp : List Nat} (hr : Rp.rep W cs x fp) (hs : ∀ b ∈ fp, b ∈ G) : Rp.rep wx cs x fp := by
  obtain ⟨fs, a, b, c, d, f, g⟩ := h
  exact Rp.frame hr fun b hb => d b (hs b hb)
theorem AccK.cell (h : AccK w0 B e G W wx v l) {p : Addr} {u : Value} (hc : W.cell? p = some u) (hs : p.block ∈ G) : wx.cell? p = some u := by
  obtain ⟨fs, a, b, c, d, f, g⟩ := h
  exact (World.cell?_of_block (d _ hs)).trans hc
/-- more memory is held, from here on -/
theorem AccK.hold (h : AccK w0 B e G W wx v l) (ho : Only [] wx wy) {G' : List Nat} (hlt : ∀ b ∈ G', b < wy.heap.size) (hge : ∀ b ∈ G', wx.heap.size ≤ b) : AccK w0 B e (G ++ G') wy wy v l := by
  obtain ⟨fs, a, b, c, d, f, g⟩ := h
  refine ⟨fs, a.keep ho, b.keep ho, c.trans ho, fun _ _ => rfl, fun x hx => ?_, fun x hx hm => ?_⟩
  · rcases List.mem_append.1 hx with hx | hx
    · exact Nat.lt_of_lt_of_le (f x hx) ho.size
    · exact hlt x hx
  · rcases List.mem_append.1 hx with hx | hx
    · exact g x hx hm
    · have := (a.ownlt x (by simpa using hm)).2
      have := hge x hx; omega
/-- the held memory as it is now -/
theorem AccK.now (h : AccK w0 B e G W wx v l) : AccK w0 B e G wx wx v l := by
  obtain ⟨fs, a, b, c, d, f, g⟩ := h
  exact ⟨fs, a, b, c, fun _ _ => rfl, f, g⟩
theorem AccK.rd (h : AccK w0 B e G W wx v l) (hs : 0 < Rp.size α) : ∃ fp, Rd wx v l fp ∧ Fresh B wx fp := by
  obtain ⟨fs, a, b, c, d, f, g⟩ := h
  exact ⟨_, a.rd hs, a.fresh b⟩
theorem AccK.form (h : AccK w0 B e G W wx v l) : ∃ a c, v = .slice a l.length c := by
  obtain ⟨fs, a, b, c, d, f, g⟩ := h
  exact a.form
end

section
variable {P : Program} {α : Type} [Rp α] {ops : Array Oper} {rest : List Oper} {o : Oper} {a : Act} {w : World} {Q : Exit → Act → World → Prop} {K : Act → World → Prop}
/-- append(v, y), y one element whose memory was made behind wa -/
theorem wp_pushK (s x : Operand) (t : TypeId)
    (ho : o.op = .call { callee := .builtin .append, args := #[s, x], argTypes := #[t, t] })
    (e : TypeId) (i : TypeInfo) (z : Value) (bytes : Nat) (ht : P.underlying t = some (.slice e)) (hi : P.info? e = some i) (hz : i.zero = some z)
    (hsize : i.size = Rp.size α) (hby : i.bytes = bytes) (hzs : z.cells.size = Rp.size α) (hsz : 0 < Rp.size α) (hbb : bytes ≤ 65536)
    {w0 wa W : World} {B : Nat} {G : List Nat} {v : Value} {l : List α} (hs : a.eval s = v) (hA : AccK w0 B e G W wa v l) (hK0 : Only [] wa w) (hB0 : w0.heap.size ≤ B) (hB : B ≤ wa.heap.size)
    (g c : Nat) (cs : List Value) (y : α) (fp : List Nat) (hx : a.eval x = .slice (some ⟨g, 0, none⟩) 1 c) (hsrc : ∀ j u, cs[j]? = some u → w.cell? ⟨g, j, none⟩ = some u) (hcs : ∀ u ∈ cs, u.oneCell' = true)
    (hy : Rp.rep w cs y fp) (hFy : Fresh wa.heap.size w fp) (hlen : l.length + 1 ≤ 1073741824)
    (h : ∀ v' w', AccK w0 B e G W w' v' (l ++ [y]) → Only v.ownBlock.toList w w' → K (a.put o.dst v') w') : o.wp P a w K Q := by
  obtain ⟨fs, hA, hF, hO, hd, hl, hap⟩ := hA
  refine wp_push2 s x t ho B e i z bytes ht hi hz hsize hby hzs hsz hbb wa v l fs hs hA hK0 hB g c cs y fp hx hsrc hcs hy
    (fun b hb hv => by have := (hA.ownlt b hv).2; have := hFy.ge b hb; omega) hlen fun v' w' h1 h2 h3 h4 h5 => h v' w' ⟨_, h1, h4 hF hFy, h3 w0 (hO.trans hK0) hB0, fun b hb => ?_, fun b hb => ?_, fun b hb hm => ?_⟩ h2
  · have hlt := Nat.lt_of_lt_of_le (hl b hb) hK0.size
    rw [h2.block b hlt (hap b hb), hK0.block b (hl b hb) (by simp)]
    exact hd b hb
  · exact Nat.lt_of_lt_of_le (Nat.lt_of_lt_of_le (hl b hb) hK0.size) h2.size
  · have hm' : v'.ownBlock = some b := by simpa using hm
    rcases h5 with h5 | h5
    · exact hap b hb (by rw [← h5]; exact hm)
    · rw [h5] at hm'; injection hm' with hm'
      have := hl b hb; have := hK0.size; omega
theorem step_pushK {E : Prop} (hgd : o.guard = none) (s x : Operand) (t : TypeId)
    (ho : o.op = .call { callee := .builtin .append, args := #[s, x], argTypes := #[t, t] })
    (e : TypeId) (i : TypeInfo) (z : Value) (bytes : Nat) (ht : P.underlying t = some (.slice e)) (hi : P.info? e = some i) (hz : i.zero = some z)
    (hsize : i.size = Rp.size α) (hby : i.bytes = bytes) (hzs : z.cells.size = Rp.size α) (hsz : 0 < Rp.size α) (hbb : bytes ≤ 65536)
    {w0 wa W : World} {B : Nat} {G : List Nat} {v : Value} {l : List α} (hs : a.eval s = v) (hA : AccK w0 B e G W wa v l) (hK0 : Only [] wa w) (hB0 : w0.heap.size ≤ B) (hB : B ≤ wa.heap.size)
    (g c : Nat) (cs : List Value) (y : α) (fp : List Nat) (hx : a.eval x = .slice (some ⟨g, 0, none⟩) 1 c) (hsrc : ∀ j u, cs[j]? = some u → w.cell? ⟨g, j, none⟩ = some u) (hcs : ∀ u ∈ cs, u.oneCell' = true)
    (hy : Rp.rep w cs y fp) (hFy : Fresh wa.heap.size w fp) (hlen : l.length + 1 ≤ 1073741824)
    (h : ∀ v' w', AccK w0 B e G W w' v' (l ++ [y]) → Only v.ownBlock.toList w w' → K (a.put o.dst v') w') : if Region.wanted o (yielded ops a.tmps) = true then Oper.wp P o a w K Q else E := by
  rw [if_pos (by simp [Region.wanted, hgd])]
  exact wp_pushK s x t ho e i z bytes ht hi hz hsize hby hzs hsz hbb hs hA hK0 hB0 hB g c cs y fp hx hsrc hcs hy hFy hlen h
end
end Go.Proofs.Ytpcamkmoabhlhaa
