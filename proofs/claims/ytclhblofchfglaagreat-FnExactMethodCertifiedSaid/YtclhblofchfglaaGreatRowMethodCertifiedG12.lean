/- A slice of numbers that a loop appends to, in fewer words. The reference's smallest optimal word (laws 20, 38). Breadth-first distances to a set of numbers, by rows of neighbours: plain facts (laws 41, 46). RedoWord: the reference's and the program's. (Printed by mkredo.py.) Inverse words: the reference's and the program's. UndoWord: the reference's and the program's. (Printed by mkredo.py.) Equality of puzzles and of sessions: the reference's and the program's functions. (Printed by mksame.py.) Words on sessions, played, taken back and played again: plain laws (laws 50, 55). A table's distances bound a state's from below; what an accepted certificate claims is true (law 59). Plain. Distances to a set of states, and words by them: plain facts (laws 41, 46). The words of a method, in plain words (laws 41, 51, 57, 58). The two phases: the puzzle of a move subset, its members among the states, words in plain terms (laws 46, 51, 57, 58). The depth-first search with a limit, and the searches with increasing limits, in plain words (law 52). The word that iterative deepening finds is a shortest one: plain law (law 56). A search of the patterns of a puzzle with at most five points ends (laws 26, 49): plain facts. The words of the method and of the two phases solve; how long they are: plain laws (laws 46, 51, 57, 58). The program's search of patterns (law 16). The reference's BuildTables (law 16). The program's ReachablePatterns, BuildTable, BuildTables (law 16). Valid tables, sets of tables: the reference's and the program's functions (laws 40, 42, 43, 52). (Printed by mkvtab.py.) The reference's LowerBound (laws 40, 42, 43, 52). -/
import Derived.Test.YtclhblofchfglaaGreatRowMethodCertifiedG11
import Derived.Deep.RegionLaw
import Derived.Test.YtclhblofchfglaaGreatRowMethodCertifiedG9
import Derived.Deep.RegionHeld3
import Derived.RangeFuncBox
import Derived.RangeFuncLeaves
import Derived.RangeFuncWrites
import Derived.RangeFuncNested
import Derived.Shelf.Abstract
import Derived.OwnWalkIn
import Derived.TacticsInMore
import Derived.LoopNIn
import Derived.LoopIn
import Derived.Maps.AppendAt
import Derived.Test.YtclhblofchfglaaGreatRowMethodCertifiedG8
import Derived.Test.YtclhblofchfglaaGreatRowMethodCertifiedG5
import Derived.Test.YtclhblofchfglaaGreatRowMethodCertifiedG10
import Derived.Test.YtclhblofchfglaaGreatRowMethodCertifiedG4
import Derived.Deep.DeepCutAuto
namespace Go.Proofs.YtclhblofchfglaaGreat
open Go.RowKit
set_option maxRecDepth 10000

theorem step_push2w {P : Program} {α : Type} [Rp α] {ops : Array Oper} {o : Oper} {a : Act} {w : World} {Q : Exit → Act → World → Prop} {K : Act → World → Prop} {E : Prop} (hgd : o.guard = none) (s x : Operand) (t : TypeId)
    (ho : o.op = .call { callee := .builtin .append, args := #[s, x], argTypes := #[t, t] })
    (B : Nat) (e : TypeId) (i : TypeInfo) (z : Value) (bytes : Nat) (ht : P.underlying t = some (.slice e)) (hi : P.info? e = some i) (hz : i.zero = some z)
    (hsize : i.size = Rp.size α) (hby : i.bytes = bytes) (hzs : z.cells.size = Rp.size α) (hsz : 0 < Rp.size α) (hbb : bytes ≤ 65536)
    (w0 : World) (v : Value) (l : List α) (fs : List (List Nat)) (hs : a.eval s = v) (hA : Acc B e w0 v l fs) (hK0 : Only [] w0 w) (hB : B ≤ w0.heap.size)
    (g c : Nat) (cs : List Value) (y : α) (fp : List Nat) (hx : a.eval x = .slice (some ⟨g, 0, none⟩) 1 c) (hsrc : ∀ j u, cs[j]? = some u → w.cell? ⟨g, j, none⟩ = some u) (hcs : ∀ u ∈ cs, u.oneCell' = true)
    (hy : Rp.rep w cs y fp) (hap : ∀ b ∈ fp, v.ownBlock ≠ some b) (hlen : l.length + 1 ≤ 1073741824)
    (h : ∀ v' w', Acc B e w' v' (l ++ [y]) (fs ++ [fp]) → Only v.ownBlock.toList w w' → (v'.ownBlock = v.ownBlock ∨ v'.ownBlock = some w.heap.size) → K (a.put o.dst v') w') : if Region.wanted o (yielded ops a.tmps) = true then Oper.wp P o a w K Q else E := by
  rw [if_pos (by simp [Region.wanted, hgd])]
  exact wp_push2 s x t ho B e i z bytes ht hi hz hsize hby hzs hsz hbb w0 v l fs hs hA hK0 hB g c cs y fp hx hsrc hcs hy hap hlen fun v' w' h1 h2 _ _ h5 => h v' w' h1 h2 h5
theorem Acc.flat0 {B : Nat} {e : TypeId} {w : World} {v : Value} {l : List Int} {fs : List (List Nat)} (h : Acc B e w v l fs) : fs.flatten = [] := by
  obtain ⟨css, ho, hcl, hr⟩ := h.own
  have hl := h.fl
  have : fs = List.replicate fs.length [] := by
    apply List.ext_getElem (by simp)
    intro k h1 h2
    have := (hr k (by omega) (by omega) h1).2.2
    simpa using this
  rw [this]; exact flatten_nil _
/-- v is a slice of numbers of the call's own -/
def AccI (B : Nat) (e : TypeId) (w : World) (v : Value) (l : List Int) : Prop := ∃ fs, Acc B e w v l fs
section
variable {w w' : World} {B : Nat} {e : TypeId} {v : Value} {l : List Int}
theorem AccI.only {fp : List Nat} (h : AccI B e w v l) (ho : Only fp w w') (hv : ∀ g, v.ownBlock = some g → g ∉ fp) : AccI B e w' v l := by
  obtain ⟨fs, h⟩ := h
  exact ⟨fs, h.only ho (by rw [h.flat0]; simp) hv⟩
theorem AccI.keep (h : AccI B e w v l) (ho : Only [] w w') : AccI B e w' v l := h.only ho (by simp)
theorem AccI.form (h : AccI B e w v l) : ∃ a c, v = .slice a l.length c := by
  obtain ⟨fs, h⟩ := h; exact h.form
theorem AccI.rd (h : AccI B e w v l) : Rd w v l v.ownBlock.toList := by
  obtain ⟨fs, h⟩ := h
  have := h.rd (by decide)
  rwa [h.flat0, List.append_nil] at this
theorem AccI.fresh (h : AccI B e w v l) : Fresh B w v.ownBlock.toList := by
  obtain ⟨fs, h⟩ := h
  have := h.fresh (by rw [h.flat0]; exact Fresh.nil _ _)
  rwa [h.flat0, List.append_nil] at this
theorem AccI.ownlt (h : AccI B e w v l) : ∀ g, v.ownBlock = some g → B ≤ g ∧ g < w.heap.size := by
  obtain ⟨fs, h⟩ := h; exact h.ownlt
theorem AccI.nil (w : World) (B : Nat) (e : TypeId) : AccI B e w (.slice none 0 0) [] := ⟨[], Acc.nil w B e⟩
theorem AccI.made (w : World) (B : Nat) (e : TypeId) {g : Nat} (hg : g = w.heap.size) (hB : B ≤ g) : AccI B e (w.alloc (.cells #[] e)) (.slice (some ⟨g, 0, none⟩) 0 0) [] := ⟨[], Acc.made w B e hg hB⟩
theorem AccI.one {n : Int} (hn : I64 n) (w : World) (B : Nat) (e : TypeId) {g : Nat} (hg : g = w.heap.size) (hB : B ≤ g) : AccI B e (w.alloc (.cells #[.int .i64 n] e)) (.slice (some ⟨g, 0, none⟩) 1 1) [n] :=
  ⟨[[]], Acc.one (cs := [.int .i64 n]) B e (int_rd w hn) hg hB⟩
end
section
variable {P : Program} {ops : Array Oper} {rest : List Oper} {o : Oper} {a : Act} {w : World} {Q : Exit → Act → World → Prop} {K : Act → World → Prop}
theorem wpList_pushI (hgd : o.guard = none) (s x : Operand) (t : TypeId)
    (ho : o.op = .call { callee := .builtin .append, args := #[s, x], argTypes := #[t, t] })
    (B : Nat) (e : TypeId) (i : TypeInfo) (z : Value) (ht : P.underlying t = some (.slice e)) (hi : P.info? e = some i) (hz : i.zero = some z)
    (hsize : i.size = 1) (hby : i.bytes = 8) (hzs : z.cells.size = 1)
    (w0 : World) (v : Value) (l : List Int) (hs : a.eval s = v) (hA : AccI B e w0 v l) (hK0 : Only [] w0 w) (hB : B ≤ w0.heap.size)
    (g c : Nat) (n : Int) (hx : a.eval x = .slice (some ⟨g, 0, none⟩) 1 c) (hsrc : w.cell? ⟨g, 0, none⟩ = some (.int .i64 n)) (hn : I64 n) (hlen : l.length + 1 ≤ 1073741824)
    (h : ∀ v' w', AccI B e w' v' (l ++ [n]) → Only v.ownBlock.toList w w' → (∀ wz, Only [] wz w → wz.heap.size ≤ B → Only [] wz w') → (v'.ownBlock = v.ownBlock ∨ v'.ownBlock = some w.heap.size) → wpList P ops Q rest (a.put o.dst v') w') : wpList P ops Q (o :: rest) a w := by
  obtain ⟨fs, hA⟩ := hA
  refine wpList_push2w (α := Int) hgd s x t ho B e i z 8 ht hi hz hsize hby hzs (by decide) (by decide) w0 v l fs hs hA hK0 hB g c [.int .i64 n] n [] hx ?_ (by intro u hu; simp at hu; subst hu; rfl) (int_rd w hn) (by simp) hlen fun v' w' h1 h2 h3 _ h5 => h v' w' ⟨_, h1⟩ h2 h3 h5
  intro j u hu
  cases j with
  | zero => simp at hu; subst hu; exact hsrc
  | succ j => simp at hu
theorem step_pushI {E : Prop} (hgd : o.guard = none) (s x : Operand) (t : TypeId)
    (ho : o.op = .call { callee := .builtin .append, args := #[s, x], argTypes := #[t, t] })
    (B : Nat) (e : TypeId) (i : TypeInfo) (z : Value) (ht : P.underlying t = some (.slice e)) (hi : P.info? e = some i) (hz : i.zero = some z)
    (hsize : i.size = 1) (hby : i.bytes = 8) (hzs : z.cells.size = 1)
    (w0 : World) (v : Value) (l : List Int) (hs : a.eval s = v) (hA : AccI B e w0 v l) (hK0 : Only [] w0 w) (hB : B ≤ w0.heap.size)
    (g c : Nat) (n : Int) (hx : a.eval x = .slice (some ⟨g, 0, none⟩) 1 c) (hsrc : w.cell? ⟨g, 0, none⟩ = some (.int .i64 n)) (hn : I64 n) (hlen : l.length + 1 ≤ 1073741824)
    (h : ∀ v' w', AccI B e w' v' (l ++ [n]) → Only v.ownBlock.toList w w' → (v'.ownBlock = v.ownBlock ∨ v'.ownBlock = some w.heap.size) → K (a.put o.dst v') w') : if Region.wanted o (yielded ops a.tmps) = true then Oper.wp P o a w K Q else E := by
  obtain ⟨fs, hA⟩ := hA
  refine step_push2w (α := Int) hgd s x t ho B e i z 8 ht hi hz hsize hby hzs (by decide) (by decide) w0 v l fs hs hA hK0 hB g c [.int .i64 n] n [] hx ?_ (by intro u hu; simp at hu; subst hu; rfl) (int_rd w hn) (by simp) hlen fun v' w' h1 h2 h5 => h v' w' ⟨_, h1⟩ h2 h5
  intro j u hu
  cases j with
  | zero => simp at hu; subst hu; exact hsrc
  | succ j => simp at hu
end
/-- the one cell of a literal -/
theorem lit1 (w : World) (u : Value) (e : TypeId) {g : Nat} (hg : g = w.heap.size) : (w.alloc (.cells #[u] e)).cell? ⟨g, 0, none⟩ = some u := lit_src w [u] e hg 0 u rfl
theorem own_after {v' v : Value} {w : World} {b : Nat} (hN : v'.ownBlock = v.ownBlock ∨ v'.ownBlock = some w.heap.size) (h1 : v.ownBlock ≠ some b) (h2 : b < w.heap.size) : v'.ownBlock ≠ some b := by
  rcases hN with e | e
  · rw [e]; exact h1
  · rw [e]; intro h; injection h with h; omega
/-- a slice of numbers under way, beside memory (G) that stays as it is in W -/
structure AccG (w W : World) (G : List Nat) (e : TypeId) (wr : World) (o : Value) (l : List Int) : Prop where
  acc : AccI w.heap.size e wr o l
  on : Only [] w wr
  kp : ∀ b ∈ G, wr.heap[b]? = W.heap[b]?
  ga : ∀ b ∈ G, o.ownBlock ≠ some b
  gl : ∀ b ∈ G, b < wr.heap.size
section
variable {w W wr w' wa wb : World} {G : List Nat} {e : TypeId} {o o' : Value} {l : List Int} {n : Int}
theorem AccG.keep (h : AccG w W G e wr o l) (ho : Only [] wr w') : AccG w W G e w' o l :=
  ⟨h.acc.keep ho, h.on.trans ho, fun b hb => (ho.block b (h.gl b hb) (by simp)).trans (h.kp b hb), h.ga, fun b hb => Nat.lt_of_lt_of_le (h.gl b hb) ho.size⟩
theorem AccG.push (h : AccG w W G e wa o l) (hA : AccI w.heap.size e wb o' (l ++ [n])) (oA : Only o.ownBlock.toList wa wb) (hP : ∀ wz, Only [] wz wa → wz.heap.size ≤ w.heap.size → Only [] wz wb) (nA : o'.ownBlock = o.ownBlock ∨ o'.ownBlock = some wa.heap.size) : AccG w W G e wb o' (l ++ [n]) :=
  ⟨hA, hP w h.on (Nat.le_refl _), fun b hb => (oA.block b (h.gl b hb) (fun hm => h.ga b hb (by simpa using hm))).trans (h.kp b hb), fun b hb => own_after nA (h.ga b hb) (h.gl b hb), fun b hb => Nat.lt_of_lt_of_le (h.gl b hb) oA.size⟩
theorem AccG.held (h : AccG w W G e wr o l) {α : Type} [Rp α] {cs : List Value} {y : α} {fp : List Nat} (hr : Rp.rep W cs y fp) (hf : ∀ b ∈ fp, b ∈ G) : Rp.rep wr cs y fp := Rp.frame hr fun b hb => h.kp b (hf b hb)
theorem AccG.ints (h : AccG w W G e wr o l) {a : Option Addr} {c : Nat} {y : List Int} {fp : List Nat} (hr : IntsA W a c y fp) (hf : ∀ b ∈ fp, b ∈ G) : IntsA wr a c y fp := hr.frame fun b hb => h.kp b (hf b hb)
end
end Go.Proofs.YtclhblofchfglaaGreat

namespace Go.Proofs.YtclhblofchfglaaGreat
open Go.RowKit
set_option maxRecDepth 10000

/-- the way down from a state: the word so far (o), the state at hand (s2) -/
structure DWn (x : Puzzle) (t : Table) (w W0 : World) (e : TypeId) (G : List Nat) (wr : World) (o s2 : Value) (dn : List Int) (i : Nat) (f2 : List Nat) : Prop where
  acc : AccI w.heap.size e wr o dn
  rd : Rd wr s2 (t.patterns.getD i []) f2
  ap : ∀ b ∈ f2, o.ownBlock ≠ some b
  on : Only [] w wr
  kp : ∀ b ∈ G, wr.heap[b]? = W0.heap[b]?
  ga : ∀ b ∈ G, o.ownBlock ≠ some b
  gl : ∀ b ∈ G, b < wr.heap.size
section
variable {x : Puzzle} {t : Table} {w W0 : World} {e : TypeId} {G : List Nat} {wr w' : World} {o s2 : Value} {dn : List Int} {i : Nat} {f2 : List Nat}
theorem DWn.keep (h : DWn x t w W0 e G wr o s2 dn i f2) (ho : Only [] wr w') : DWn x t w W0 e G w' o s2 dn i f2 :=
  ⟨h.acc.keep ho, Rp.keep h.rd ho, h.ap, h.on.trans ho, fun b hb => (ho.block b (h.gl b hb) (by simp)).trans (h.kp b hb), h.ga, fun b hb => Nat.lt_of_lt_of_le (h.gl b hb) ho.size⟩
theorem DWn.old (h : DWn x t w W0 e G wr o s2 dn i f2) {β : Type} [Rp β] {cs : List Value} {y : β} {fp : List Nat} (hr : Rp.rep W0 cs y fp) (hf : ∀ b ∈ fp, b ∈ G) : Rp.rep wr cs y fp := Rp.frame hr fun b hb => h.kp b (hf b hb)
theorem DWn.blk (h : DWn x t w W0 e G wr o s2 dn i f2) {g : Nat} {cs : List Value} (hb : Blk W0 g cs) (hg : g ∈ G) : Blk wr g cs := by
  obtain ⟨ty, hb⟩ := hb
  exact ⟨ty, (h.kp g hg).trans hb⟩
theorem DWn.ints (h : DWn x t w W0 e G wr o s2 dn i f2) {a : Option Addr} {c : Nat} {l : List Int} {fp : List Nat} (hr : IntsA W0 a c l fp) (hf : ∀ b ∈ fp, b ∈ G) : IntsA wr a c l fp := hr.frame fun b hb => h.kp b (hf b hb)
theorem DWn.step {wa wb : World} {o' s3 : Value} {l : Int} {j : Nat} {f3 : List Nat} (h : DWn x t w W0 e G wr o s2 dn i f2) (hk : Only [] wr wa) (hA : AccI w.heap.size e wb o' (dn ++ [l])) (oA : Only o.ownBlock.toList wa wb) (nA : o'.ownBlock = o.ownBlock ∨ o'.ownBlock = some wa.heap.size)
    (hP : ∀ wz, Only [] wz wa → wz.heap.size ≤ w.heap.size → Only [] wz wb) (hr : Rd wa s3 (t.patterns.getD j []) f3) (hf : ∀ b ∈ f3, o.ownBlock ≠ some b) : DWn x t w W0 e G wb o' s3 (dn ++ [l]) j f3 := by
  have h1 := h.keep hk
  refine ⟨hA, Rp.only hr oA (fun b hb hm => hf b hb (by simpa using hm)), fun b hb => own_after nA (hf b hb) (Rp.lt hr b hb), hP w h1.on (Nat.le_refl _), fun b hb => ?_, fun b hb => own_after nA (h1.ga b hb) (h1.gl b hb), fun b hb => Nat.lt_of_lt_of_le (h1.gl b hb) oA.size⟩
  rw [oA.block b (h1.gl b hb) (fun hm => h1.ga b hb (by simpa using hm))]
  exact h1.kp b hb
end
theorem depT_at {x : Puzzle} {t : Table} (hb : Built x t) {i : Nat} (hi : i < t.patterns.length) {s : List Int} (h : t.patterns.getD i [] = s) : depT t s = t.distances.getD i 0 := by
  rw [← h]; exact depT_yes hb hi
end Go.Proofs.YtclhblofchfglaaGreat

namespace Go.Proofs.YtclhblofchfglaaGreat
open Go.RowKit
set_option maxRecDepth 10000

/-- distances and the queue -/
abbrev MbS := List Int × List Nat
def mRel (v : Nat) (s : MbS) (tt : Nat) : MbS := if s.1.getD tt 0 < 0 then (s.1.set tt (s.1.getD v 0 + 1), s.2 ++ [tt]) else s
def mVis (row : Nat → List Nat) (v : Nat) (s : MbS) : MbS := (row v).foldl (mRel v) s
def mRun (row : Nat → List Nat) : Nat → Nat → MbS → MbS
  | 0, _, s => s
  | f + 1, k, s => if k < s.2.length then mRun row f (k + 1) (mVis row (s.2.getD k 0) s) else s
def mSrc (src : Nat → Bool) (N : Nat) : MbS := ((List.range N).map (fun i => if src i then 0 else -1), (List.range N).filter src)
def mDist (src : Nat → Bool) (row : Nat → List Nat) (N : Nat) : List Int := (mRun row (N + 1) 0 (mSrc src N)).1
theorem mRun_go {row : Nat → List Nat} {f k : Nat} {s : MbS} (h : k < s.2.length) : mRun row (f + 1) k s = mRun row f (k + 1) (mVis row (s.2.getD k 0) s) := by rw [mRun, if_pos h]
theorem mRun_end {row : Nat → List Nat} {f k : Nat} {s : MbS} (h : ¬ k < s.2.length) : mRun row f k s = s := by
  cases f with
  | zero => rfl
  | succ f => rw [mRun, if_neg h]
theorem getD_set9 {l : List Int} {i j : Nat} {a d : Int} (h : i < l.length) : (l.set i a).getD j d = if j = i then a else l.getD j d := by
  rw [List.getD_eq_getElem?_getD, List.getD_eq_getElem?_getD, List.getElem?_set]
  by_cases hij : i = j
  · subst hij; simp [h]
  · rw [if_neg hij, if_neg (Ne.symm hij)]
theorem getD_app9 {l : List Nat} {x j d : Nat} (h : j < l.length) : (l ++ [x]).getD j d = l.getD j d := by
  rw [List.getD_eq_getElem?_getD, List.getD_eq_getElem?_getD, List.getElem?_append_left h]
theorem getD_last9 {l : List Nat} {x d : Nat} : (l ++ [x]).getD l.length d = x := by
  rw [List.getD_eq_getElem?_getD, List.getElem?_append_right (Nat.le_refl _)]; simp
theorem getD_mem9 {l : List Nat} {j d : Nat} (h : j < l.length) : l.getD j d ∈ l := by
  rw [List.getD_eq_getElem?_getD, List.getElem?_eq_getElem h]; exact List.getElem_mem h
theorem mem_getD9 {l : List Nat} {x : Nat} (d : Nat) (h : x ∈ l) : ∃ j, j < l.length ∧ l.getD j d = x := by
  obtain ⟨j, hj, e⟩ := List.getElem_of_mem h
  exact ⟨j, hj, by rw [List.getD_eq_getElem?_getD, List.getElem?_eq_getElem hj]; exact e⟩
section
variable {src : Nat → Bool} {row : Nat → List Nat} {N : Nat}
/-- the search under way: the k-th of the queue is at hand, and those of its neighbours in done are seen -/
structure MbI (src : Nat → Bool) (row : Nat → List Nat) (N k : Nat) (done : List Nat) (s : MbS) : Prop where
  dl : s.1.length = N
  nd : s.2.Nodup
  rng : ∀ v ∈ s.2, v < N
  mem : ∀ v, v < N → (v ∈ s.2 ↔ 0 ≤ s.1.getD v 0)
  neg : ∀ v, v < N → -1 ≤ s.1.getD v 0
  zero : ∀ v, v < N → (s.1.getD v 0 = 0 ↔ src v = true)
  mono : ∀ i j, i ≤ j → j < s.2.length → s.1.getD (s.2.getD i 0) 0 ≤ s.1.getD (s.2.getD j 0) 0
  near : ∀ j, j < s.2.length → k < s.2.length → s.1.getD (s.2.getD j 0) 0 ≤ s.1.getD (s.2.getD k 0) 0 + 1
  cl : ∀ i, i < k → i < s.2.length → ∀ tt ∈ row (s.2.getD i 0), 0 ≤ s.1.getD tt 0 ∧ s.1.getD tt 0 ≤ s.1.getD (s.2.getD i 0) 0 + 1
  clk : k < s.2.length → ∀ tt ∈ done, 0 ≤ s.1.getD tt 0 ∧ s.1.getD tt 0 ≤ s.1.getD (s.2.getD k 0) 0 + 1
  par : ∀ v, v < N → 0 < s.1.getD v 0 → ∃ u, u < N ∧ v ∈ row u ∧ 0 ≤ s.1.getD u 0 ∧ s.1.getD v 0 = s.1.getD u 0 + 1
theorem MbI.start : MbI src row N 0 [] (mSrc src N) := by
  have hg : ∀ v, v < N → (mSrc src N).1.getD v 0 = if src v = true then 0 else -1 := fun v hv => by
    unfold mSrc
    rw [List.getD_eq_getElem?_getD, List.getElem?_map, List.getElem?_range hv]; rfl
  have hm : ∀ v, v ∈ (mSrc src N).2 ↔ v < N ∧ src v = true := fun v => by
    unfold mSrc
    rw [List.mem_filter, List.mem_range]
  have h0 : ∀ j, j < (mSrc src N).2.length → (mSrc src N).1.getD ((mSrc src N).2.getD j 0) 0 = 0 := fun j hj => by
    obtain ⟨a, b⟩ := (hm _).1 (getD_mem9 (d := 0) hj)
    rw [hg _ a, if_pos b]
  refine ⟨by simp [mSrc], ?_, fun v hv => ((hm v).1 hv).1, fun v hv => ?_, fun v hv => ?_, fun v hv => ?_, fun i j hi hj => ?_, fun j hj hk => ?_, fun i hi => by omega, fun _ tt hto => by simp at hto, fun v hv h => ?_⟩
  · unfold mSrc; exact List.Nodup.sublist List.filter_sublist List.nodup_range
  · rw [hm, hg v hv]; split <;> simp_all
  · rw [hg v hv]; split <;> omega
  · rw [hg v hv]; split <;> simp_all
  · rw [h0 i (by omega), h0 j hj]; exact Int.le_refl _
  · rw [h0 j hj, h0 0 hk]; omega
  · rw [hg v hv] at h; split at h <;> omega
theorem MbI.rel {k : Nat} {done : List Nat} {s : MbS} (h : MbI src row N k done s) (hk : k < s.2.length) {tt : Nat} (ht : tt < N) (hr : tt ∈ row (s.2.getD k 0)) : MbI src row N k (done ++ [tt]) (mRel (s.2.getD k 0) s tt) ∧ k < (mRel (s.2.getD k 0) s tt).2.length ∧ (mRel (s.2.getD k 0) s tt).2.getD k 0 = s.2.getD k 0 := by
  unfold mRel
  by_cases hd : s.1.getD tt 0 < 0
  · rw [if_pos hd]
    have hkv : s.2.getD k 0 ∈ s.2 := getD_mem9 hk
    have hkN := h.rng _ hkv
    have hk0 := (h.mem _ hkN).1 hkv
    have hnm : tt ∉ s.2 := fun hm => by have := (h.mem tt ht).1 hm; omega
    have hne : s.2.getD k 0 ≠ tt := fun e => hnm (e ▸ hkv)
    have hl := h.dl
    have hs : ∀ v, (s.1.set tt (s.1.getD (s.2.getD k 0) 0 + 1)).getD v 0 = if v = tt then s.1.getD (s.2.getD k 0) 0 + 1 else s.1.getD v 0 := fun v => getD_set9 (by omega)
    have hq : ∀ j, j < s.2.length → (s.2 ++ [tt]).getD j 0 = s.2.getD j 0 ∧ s.2.getD j 0 ≠ tt := fun j hj => ⟨getD_app9 hj, fun e => hnm (e ▸ getD_mem9 hj)⟩
    have hsq : ∀ j, j < s.2.length → (s.1.set tt (s.1.getD (s.2.getD k 0) 0 + 1)).getD ((s.2 ++ [tt]).getD j 0) 0 = s.1.getD (s.2.getD j 0) 0 := fun j hj => by
      rw [(hq j hj).1, hs, if_neg (hq j hj).2]
    have hsl : (s.1.set tt (s.1.getD (s.2.getD k 0) 0 + 1)).getD ((s.2 ++ [tt]).getD s.2.length 0) 0 = s.1.getD (s.2.getD k 0) 0 + 1 := by
      rw [getD_last9, hs, if_pos rfl]
    have hup : ∀ z, 0 ≤ s.1.getD z 0 → (s.1.set tt (s.1.getD (s.2.getD k 0) 0 + 1)).getD z 0 = s.1.getD z 0 := fun z hz => by
      rw [hs, if_neg (fun e => by subst e; omega)]
    refine ⟨⟨by rw [List.length_set]; exact hl, ?_, fun v hv => ?_, fun v hv => ?_, fun v hv => ?_, fun v hv => ?_, fun i j hi hj => ?_, fun j hj _ => ?_, fun i hi hil tt' hto => ?_, fun _ tt' hto => ?_, fun v hv hp => ?_⟩, by simp; omega, (hq k hk).1⟩
    · exact List.nodup_append.2 ⟨h.nd, by simp, fun a ha b hb e => by simp at hb; subst hb; exact hnm (e ▸ ha)⟩
    · rcases List.mem_append.1 hv with hv | hv
      · exact h.rng v hv
      · simp at hv; subst hv; exact ht
    · simp only
      rw [hs, List.mem_append, List.mem_singleton]
      split
      · rename_i e
        exact ⟨fun _ => by omega, fun _ => .inr e⟩
      · rename_i e
        rw [← h.mem v hv]
        exact ⟨fun hh => hh.elim id (fun hh => absurd hh e), .inl⟩
    · simp only
      rw [hs]; split
      · omega
      · exact h.neg v hv
    · simp only
      rw [hs]; split
      · rename_i e
        subst e
        have := (h.zero v hv).2
        constructor
        · intro hh; omega
        · intro hh; have := this hh; omega
      · exact h.zero v hv
    · simp only at hj ⊢
      rw [List.length_append, List.length_singleton] at hj
      rcases Nat.lt_or_ge j s.2.length with hj2 | hj2
      · rw [hsq i (by omega), hsq j hj2]; exact h.mono i j hi hj2
      · obtain rfl : j = s.2.length := by omega
        rw [hsl]
        rcases Nat.lt_or_ge i s.2.length with hi2 | hi2
        · rw [hsq i hi2]; exact h.near i hi2 hk
        · obtain rfl : i = s.2.length := by omega
          rw [hsl]; exact Int.le_refl _
    · simp only at hj ⊢
      rw [List.length_append, List.length_singleton] at hj
      rw [hsq k hk]
      rcases Nat.lt_or_ge j s.2.length with hj2 | hj2
      · rw [hsq j hj2]; exact h.near j hj2 hk
      · obtain rfl : j = s.2.length := by omega
        rw [hsl]; exact Int.le_refl _
    · simp only at hto ⊢
      rw [(hq i (by omega)).1] at hto
      obtain ⟨a, b⟩ := h.cl i hi (by omega) tt' hto
      rw [hsq i (by omega), hup _ a]
      exact ⟨a, b⟩
    · simp only
      rw [hsq k hk]
      rcases List.mem_append.1 hto with hto | hto
      · obtain ⟨a, b⟩ := h.clk hk tt' hto
        rw [hup _ a]
        exact ⟨a, b⟩
      · simp at hto; subst hto
        rw [hs, if_pos rfl]
        omega
    · simp only at hp ⊢
      rw [hs] at hp
      rw [hs]
      split at hp
      · rename_i e
        subst e
        rw [if_pos rfl]
        exact ⟨s.2.getD k 0, hkN, hr, by rw [hup _ hk0]; exact hk0, by rw [hup _ hk0]⟩
      · rename_i e
        rw [if_neg e]
        obtain ⟨u, u1, u2, u3, u4⟩ := h.par v hv hp
        exact ⟨u, u1, u2, by rw [hup _ u3]; exact u3, by rw [hup _ u3]; exact u4⟩
  · rw [if_neg hd]
    have hm : tt ∈ s.2 := (h.mem tt ht).2 (by omega)
    obtain ⟨j, hj, hjt⟩ := mem_getD9 0 hm
    refine ⟨⟨h.dl, h.nd, h.rng, h.mem, h.neg, h.zero, h.mono, h.near, h.cl, fun _ tt' hto => ?_, h.par⟩, hk, rfl⟩
    rcases List.mem_append.1 hto with hto | hto
    · exact h.clk hk tt' hto
    · simp at hto; subst hto
      have := h.near j hj hk
      rw [hjt] at this
      exact ⟨by omega, this⟩
theorem MbI.fold {k : Nat} (hN : ∀ v, v < N → ∀ tt ∈ row v, tt < N) : ∀ (ls done : List Nat) (s : MbS) (v : Nat), MbI src row N k done s → k < s.2.length → s.2.getD k 0 = v → (∀ tt ∈ ls, tt ∈ row v) → MbI src row N k (done ++ ls) (ls.foldl (mRel v) s) ∧ k < (ls.foldl (mRel v) s).2.length ∧ (ls.foldl (mRel v) s).2.getD k 0 = v
  | [], done, s, v, h, hk, hv, _ => by rw [List.append_nil]; exact ⟨h, hk, hv⟩
  | tt :: ls, done, s, v, h, hk, hv, hs => by
    have h1 := hs tt (by simp)
    have hvN : v < N := by rw [← hv]; exact h.rng _ (getD_mem9 hk)
    obtain ⟨a, b, c⟩ := h.rel hk (hN v hvN tt h1) (by rw [hv]; exact h1)
    rw [hv] at a b c
    have := MbI.fold hN ls (done ++ [tt]) _ v a b c (fun t ht => hs t (by simp [ht]))
    rw [List.append_assoc] at this
    exact this
theorem MbI.next {k : Nat} {s : MbS} {done : List Nat} (h : MbI src row N k done s) (hk : k < s.2.length) (hd : ∀ tt ∈ row (s.2.getD k 0), tt ∈ done) : MbI src row N (k + 1) [] s := by
  refine ⟨h.dl, h.nd, h.rng, h.mem, h.neg, h.zero, h.mono, fun j hj hk1 => ?_, fun i hi hil tt hto => ?_, fun _ tt hto => by simp at hto, h.par⟩
  · have a := h.near j hj hk
    have b := h.mono k (k + 1) (by omega) hk1
    omega
  · rcases Nat.lt_or_ge i k with h1 | h1
    · exact h.cl i h1 hil tt hto
    · obtain rfl : i = k := by omega
      exact h.clk hk tt (hd tt hto)
theorem MbI.len {k : Nat} {s : MbS} {done : List Nat} (h : MbI src row N k done s) : s.2.length ≤ N := by
  have := PM.nodup_sub_len (l2 := List.range N) h.nd fun v hv => List.mem_range.2 (h.rng v hv)
  rwa [List.length_range] at this
theorem MbI.run (hN : ∀ v, v < N → ∀ tt ∈ row v, tt < N) : ∀ (f k : Nat) (s : MbS), MbI src row N k [] s → N < f + k → ∃ k', MbI src row N k' [] (mRun row f k s) ∧ (mRun row f k s).2.length ≤ k'
  | 0, k, s, h, hf => ⟨k, h, by have := h.len; show s.2.length ≤ k; omega⟩
  | f + 1, k, s, h, hf => by
    by_cases hk : k < s.2.length
    · rw [mRun_go hk]
      obtain ⟨a, b, c⟩ := MbI.fold hN (row (s.2.getD k 0)) [] s _ h hk rfl (fun _ ht => ht)
      rw [List.nil_append] at a
      exact MbI.run hN f (k + 1) _ (a.next b (by rw [c]; exact fun _ ht => ht)) (by omega)
    · rw [mRun_end hk]
      exact ⟨k, h, by omega⟩
/-- what the distances are -/
structure MbF (src : Nat → Bool) (row : Nat → List Nat) (N : Nat) (D : List Int) : Prop where
  dl : D.length = N
  neg : ∀ v, v < N → -1 ≤ D.getD v 0
  zero : ∀ v, v < N → (D.getD v 0 = 0 ↔ src v = true)
  cl : ∀ v, v < N → 0 ≤ D.getD v 0 → ∀ tt ∈ row v, 0 ≤ D.getD tt 0 ∧ D.getD tt 0 ≤ D.getD v 0 + 1
  par : ∀ v, v < N → 0 < D.getD v 0 → ∃ u, u < N ∧ v ∈ row u ∧ 0 ≤ D.getD u 0 ∧ D.getD v 0 = D.getD u 0 + 1
theorem mDist_facts (hN : ∀ v, v < N → ∀ tt ∈ row v, tt < N) : MbF src row N (mDist src row N) := by
  obtain ⟨k, h, hk⟩ := MbI.run hN (N + 1) 0 (mSrc src N) MbI.start (by omega)
  refine ⟨h.dl, h.neg, h.zero, fun v hv h0 tt hto => ?_, h.par⟩
  obtain ⟨i, hi, e⟩ := mem_getD9 0 ((h.mem v hv).2 h0)
  have := h.cl i (by omega) hi tt (by rw [e]; exact hto)
  rw [e] at this
  exact this
/-- distances from above: a function that falls along neighbours bounds one that rises by at most one -/
theorem dist_le {D E : Nat → Int} (hD0 : ∀ v, v < N → src v = true → D v = 0) (hDc : ∀ v, v < N → 0 ≤ D v → ∀ tt ∈ row v, 0 ≤ D tt ∧ D tt ≤ D v + 1) (hE0 : ∀ v, v < N → E v = 0 → src v = true)
    (hEp : ∀ v, v < N → 0 < E v → ∃ u, u < N ∧ v ∈ row u ∧ 0 ≤ E u ∧ E v = E u + 1) : ∀ (m v : Nat), v < N → E v = m → 0 ≤ D v ∧ D v ≤ E v
  | 0, v, hv, he => by
    have := hD0 v hv (hE0 v hv (by omega))
    omega
  | m + 1, v, hv, he => by
    obtain ⟨u, u1, u2, u3, u4⟩ := hEp v hv (by omega)
    obtain ⟨a, b⟩ := dist_le hD0 hDc hE0 hEp m u u1 (by omega)
    obtain ⟨c, d⟩ := hDc u u1 a v u2
    omega
/-- the distances are told by three laws -/
theorem MbF.eq {D : List Int} (h : MbF src row N D) {E : Nat → Int} (hE0 : ∀ v, v < N → 0 ≤ E v) (hEz : ∀ v, v < N → (E v = 0 ↔ src v = true)) (hEc : ∀ v, v < N → ∀ tt ∈ row v, E tt ≤ E v + 1)
    (hEp : ∀ v, v < N → 0 < E v → ∃ u, u < N ∧ v ∈ row u ∧ E v = E u + 1) (hN : ∀ v, v < N → ∀ tt ∈ row v, tt < N) {v : Nat} (hv : v < N) : D.getD v 0 = E v := by
  have a := dist_le (D := fun v => D.getD v 0) (E := E) (fun v hv hs => (h.zero v hv).2 hs) h.cl (fun v hv he => (hEz v hv).1 he) (fun v hv hp => by
    obtain ⟨u, u1, u2, u3⟩ := hEp v hv hp
    exact ⟨u, u1, u2, hE0 u u1, u3⟩) (E v).toNat v hv (by have := hE0 v hv; omega)
  have b := dist_le (D := E) (E := fun v => D.getD v 0) (fun v hv hs => (hEz v hv).2 hs) (fun v hv _ tt ht => ⟨hE0 tt (hN v hv tt ht), hEc v hv tt ht⟩) (fun v hv he => (h.zero v hv).1 he) h.par (D.getD v 0).toNat v hv (by have := a.1; omega)
  omega
end
end Go.Proofs.YtclhblofchfglaaGreat

namespace Go.Proofs.YtclhblofchfglaaGreat
open Go.RowKit
set_option maxRecDepth 10000
end Go.Proofs.YtclhblofchfglaaGreat

namespace Go.Proofs.YtclhblofchfglaaGreat
open Go.RowKit Go.Shelf
set_option maxRecDepth 10000
/-- what a round of the loop leaves alone -/
def KeepB (n₀ m : Nat) (A B : World) : Prop := ∀ k, k < n₀ → k ≠ m → B.heap[k]? = A.heap[k]?
theorem KeepB.refl (n₀ m : Nat) (A : World) : KeepB n₀ m A A := fun _ _ _ => rfl
theorem KeepB.trans {n₀ m : Nat} {A B C : World} (h : KeepB n₀ m A B) (k : KeepB n₀ m B C) : KeepB n₀ m A C := fun i hi hn => (k i hi hn).trans (h i hi hn)
theorem KeepB.cell {n₀ m : Nat} {A B : World} (h : KeepB n₀ m A B) {b o : Nat} (hb : b < n₀) (hm : b ≠ m) {v : Value} (hc : A.cell? ⟨b, o, none⟩ = some v) : B.cell? ⟨b, o, none⟩ = some v :=
  (World.cell?_of_block (h b hb hm)).trans hc
end Go.Proofs.YtclhblofchfglaaGreat

namespace Go.Proofs.YtclhblofchfglaaGreat
open Go.RowKit
set_option maxRecDepth 10000
end Go.Proofs.YtclhblofchfglaaGreat

namespace Go.Proofs.YtclhblofchfglaaGreat
open Go.RowKit
set_option maxRecDepth 10000
end Go.Proofs.YtclhblofchfglaaGreat

namespace Go.Proofs.YtclhblofchfglaaGreat
open Go.RowKit
set_option maxRecDepth 10000

theorem snocInd {P : List Int → Prop} (h0 : P []) (h1 : ∀ l x, P l → P (l ++ [x])) (l : List Int) : P l := by
  have key : ∀ m : List Int, P m.reverse := by
    intro m
    induction m with
    | nil => exact h0
    | cons x m ih => rw [List.reverse_cons]; exact h1 _ _ ih
  have := key l.reverse
  rwa [List.reverse_reverse] at this
section
variable {n : Nat} {gens : List (List Int)}
/-- the group is closed under words -/
theorem Grp.words (h : ∀ g ∈ gens, PM.PN n g) {s : List Int} (hs : PM.Grp n gens s) : ∀ (l : List Int), (∀ x ∈ l, x ∈ ltrs gens.length) → PM.Grp n gens (PM.comp s (evW n gens l)) := by
  intro l
  refine snocInd (P := fun l => (∀ x ∈ l, x ∈ ltrs gens.length) → PM.Grp n gens (PM.comp s (evW n gens l))) ?_ ?_ l
  · intro _; rw [evW_nil, PM.comp_id (PM.Grp.pn h hs)]; exact hs
  · intro a x ih hl
    have ha : ∀ y ∈ a, y ∈ ltrs gens.length := fun y hy => hl y (by simp [hy])
    have hx : x ∈ ltrs gens.length := hl x (by simp)
    rw [evW_snoc, ← PM.comp_assoc (PM.Grp.pn h hs) (evW_pn h a ha)]
    obtain ⟨hx0, hx1, hx2⟩ := mem_ltrs.1 hx
    rcases Int.lt_or_gt_of_ne hx0 with hneg | hpos
    · obtain ⟨k, hk⟩ : ∃ k : Nat, x = -((k : Int) + 1) := ⟨(-x - 1).toNat, by omega⟩
      rw [mv_neg hk (by omega)]
      exact (ih ha).div (List.getElem_mem _)
    · obtain ⟨k, hk⟩ : ∃ k : Nat, x = (k : Int) + 1 := ⟨(x - 1).toNat, by omega⟩
      rw [mv_pos hk (by omega)]
      exact (ih ha).mul (List.getElem_mem _)
end
section
variable {x : Session} {l : List Int} (hx : validSe x = true) (hl : validW x.puzzle.moves.length l = true)
end
end Go.Proofs.YtclhblofchfglaaGreat

namespace Go.Proofs.YtclhblofchfglaaGreat
open Go.RowKit
set_option maxRecDepth 10000

theorem comp3 {tr p m : List Int} (hz : ∀ z ∈ tr, 0 ≤ z ∧ z < p.length) : PM.comp (PM.comp tr p) m = PM.comp tr (PM.comp p m) := by
  unfold PM.comp
  rw [List.map_map]
  refine List.map_congr_left fun z hm => ?_
  have := hz z hm
  exact (PM.at_comp this.1 this.2).symm
theorem appW_snoc {x : Puzzle} {s w : List Int} {l : Int} (hg : ∀ g ∈ x.moves, PM.PN x.points.toNat g) (hs : PM.PN x.points.toNat s) (hw : ∀ q ∈ w, q ∈ ltrs x.moves.length) : appW x s (w ++ [l]) = nxt x (appW x s w) l := by
  unfold appW nxt
  rw [evW_snoc]
  exact (PM.comp_assoc hs (evW_pn hg w hw)).symm
theorem appW_pn2 {x : Puzzle} {s w : List Int} (hg : ∀ g ∈ x.moves, PM.PN x.points.toNat g) (hs : PM.PN x.points.toNat s) (hw : ∀ q ∈ w, q ∈ ltrs x.moves.length) : PM.PN x.points.toNat (appW x s w) := hs.comp (evW_pn hg w hw)
theorem appW_nil {x : Puzzle} {s : List Int} (hs : PM.PN x.points.toNat s) : appW x s [] = s := PM.comp_id hs
section
variable {x : Puzzle} {t : Table}
theorem Built.trk (h : Built x t) {s : List Int} (hs : PM.PN x.points.toNat s) : ∀ z ∈ t.tracked, 0 ≤ z ∧ z < s.length := fun z hz => by
  have := (trackB_iff.1 h.tk).2.1 z hz
  rw [hs.1]
  omega
/-- the entries along a word -/
theorem Built.along (h : Built x t) (hg : ∀ g ∈ x.moves, PM.PN x.points.toNat g) {s : List Int} (hs : PM.PN x.points.toNat s) {j : Nat} (hj : j < t.patterns.length) (e : t.patterns.getD j [] = PM.comp t.tracked s) :
    ∀ (w : List Int), (∀ l ∈ w, l ∈ ltrs x.moves.length) → ∃ i : Nat, i < t.patterns.length ∧ t.patterns.getD i [] = PM.comp t.tracked (appW x s w) ∧ t.distances.getD j 0 ≤ t.distances.getD i 0 + w.length := by
  intro w
  induction w using snocInd with
  | h0 => intro _; exact ⟨j, hj, by rw [appW_nil hs]; exact e, by simp⟩
  | h1 w l ih =>
    intro hw
    have hw1 : ∀ q ∈ w, q ∈ ltrs x.moves.length := fun q hq => hw q (by simp [hq])
    obtain ⟨i, a1, a2, a3⟩ := ih hw1
    obtain ⟨k, b1, b2, b3, b4⟩ := h.step a1 (hw l (by simp))
    refine ⟨k, b1, ?_, ?_⟩
    · rw [b2, a2, appW_snoc hg hs hw1]
      exact comp3 (h.trk (appW_pn2 hg hs hw1))
    · rw [List.length_append, List.length_singleton]; omega
theorem Built.comp_pts (h : Built x t) : PM.comp t.tracked (PM.pts x.points.toNat) = t.tracked := by
  unfold PM.comp
  refine (List.map_congr_left fun z hz => ?_).trans (List.map_id _)
  have := (trackB_iff.1 h.tk).2.1 z hz
  exact PM.at_pts (by omega) (by omega)
/-- the distance of the solved state's entry -/
theorem Built.zero (h : Built x t) {i : Nat} (hi : i < t.patterns.length) (e : t.patterns.getD i [] = t.tracked) : t.distances.getD i 0 = 0 := by
  have h0 : t.patterns.getD 0 [] = t.tracked := h.bi.p0
  have hne : 0 < t.patterns.length := h.bi.ne
  have a := h.idx hi
  have b := h.idx hne
  rw [e] at a
  rw [h0, a] at b
  have : i = 0 := by omega
  subst this
  exact h.bi.d0
/-- a word that solves is no shorter than an entry's distance -/
theorem Built.low (h : Built x t) {s w : List Int} (hs : stateB x s = true) (hr : reachB x s = true) (hw : ∀ l ∈ w, l ∈ ltrs x.moves.length) (hsol : appW x s w = PM.pts x.points.toNat) : ∃ j : Nat, j < t.patterns.length ∧ t.patterns.getD j [] = PM.comp t.tracked s ∧ t.distances.getD j 0 ≤ w.length := by
  obtain ⟨-, -, hg, hp⟩ := stateB_pn hs
  obtain ⟨j, hj, e⟩ := List.getElem_of_mem (h.reach hr)
  have e2 : t.patterns.getD j [] = PM.comp t.tracked s := by rw [getD_get hj, e]
  obtain ⟨i, a1, a2, a3⟩ := h.along hg hp hj e2 w hw
  rw [hsol, h.comp_pts] at a2
  rw [h.zero a1 a2] at a3
  exact ⟨j, hj, e2, by omega⟩
end
end Go.Proofs.YtclhblofchfglaaGreat

namespace Go.Proofs.YtclhblofchfglaaGreat
open Go.RowKit
set_option maxRecDepth 10000

def mRow (x : Puzzle) (t : Table) (v : Nat) : List Nat := (ltrs x.moves.length).map fun l => (idxL t.patterns (nxt x (t.patterns.getD v []) l)).toNat
/-- the distances of the states to those that src tells -/
def mD (x : Puzzle) (t : Table) (src : List Int → Bool) : List Int := mDist (fun v => src (t.patterns.getD v [])) (mRow x t) t.patterns.length
/-- the states with these distances -/
def tD (x : Puzzle) (t : Table) (src : List Int → Bool) : Table := ⟨t.tracked, t.patterns, mD x t src⟩
/-- where a word leads -/
def wEnd (x : Puzzle) (s w : List Int) : List Int := w.foldl (nxt x) s
section
variable {x : Puzzle} {t : Table} {src : List Int → Bool} (hb : Built x t)
include hb
theorem mRow_mem {v : Nat} (hv : v < t.patterns.length) {tt : Nat} : tt ∈ mRow x t v ↔ ∃ l ∈ ltrs x.moves.length, tt < t.patterns.length ∧ t.patterns.getD tt [] = nxt x (t.patterns.getD v []) l := by
  unfold mRow
  rw [List.mem_map]
  constructor
  · rintro ⟨l, hl, rfl⟩
    obtain ⟨i, a, b, -, -⟩ := hb.step hv hl
    have := hb.idx a
    rw [b] at this
    rw [this, Int.toNat_natCast]
    exact ⟨l, hl, a, b⟩
  · rintro ⟨l, hl, a, b⟩
    refine ⟨l, hl, ?_⟩
    rw [← b, hb.idx a, Int.toNat_natCast]
theorem mRow_lt {v : Nat} (hv : v < t.patterns.length) : ∀ tt ∈ mRow x t v, tt < t.patterns.length := fun tt h => by
  obtain ⟨l, -, a, -⟩ := (mRow_mem hb hv).1 h
  exact a
theorem pat_of {v : Nat} (hv : v < t.patterns.length) : patB x.points t.tracked.length (t.patterns.getD v []) = true := hb.bi.pat _ (hb.mem_of hv)
theorem mRow_sym {v tt : Nat} (hv : v < t.patterns.length) (h : tt ∈ mRow x t v) : v ∈ mRow x t tt := by
  obtain ⟨l, hl, a, b⟩ := (mRow_mem hb hv).1 h
  refine (mRow_mem hb a).2 ⟨-l, ltrs_neg hl, hv, ?_⟩
  rw [b, nxt_back hb.v (pat_of hb hv) hl]
theorem mD_F : MbF (fun v => src (t.patterns.getD v [])) (mRow x t) t.patterns.length (mD x t src) := mDist_facts fun _ hv => mRow_lt hb hv
theorem mD_nonneg (h0 : src t.tracked = true) : ∀ v : Nat, v < t.patterns.length → 0 ≤ (mD x t src).getD v 0 := by
  intro v
  have hF := mD_F (src := src) hb
  induction v using Nat.strongRecOn with
  | ind v ih =>
    intro hv
    by_cases hz : v = 0
    · subst hz
      have e : t.patterns.getD 0 [] = t.tracked := hb.bi.p0
      have := (hF.zero 0 hv).2 (by rw [e]; exact h0)
      omega
    · obtain ⟨j, l, a1, a2, a3, -⟩ := hb.bi.par v (by omega) hv
      simp only at a3
      have hj : j < t.patterns.length := by omega
      exact (hF.cl j hj (ih j a1 hj) v ((mRow_mem hb hj).2 ⟨l, a2, hv, a3.symm⟩)).1
theorem mD_near (h0 : src t.tracked = true) {v tt : Nat} (hv : v < t.patterns.length) (ht : tt ∈ mRow x t v) : (mD x t src).getD tt 0 ≤ (mD x t src).getD v 0 + 1 ∧ (mD x t src).getD v 0 ≤ (mD x t src).getD tt 0 + 1 := by
  have hF := mD_F (src := src) hb
  have a := mRow_lt hb hv tt ht
  exact ⟨(hF.cl v hv (mD_nonneg hb h0 v hv) tt ht).2, (hF.cl tt a (mD_nonneg hb h0 tt a) v (mRow_sym hb hv ht)).2⟩
theorem mDown (h0 : src t.tracked = true) {i : Nat} (hi : i < t.patterns.length) {n : Nat} (hd : (mD x t src).getD i 0 = (n : Int) + 1) : ∃ k j, Down x (tD x t src) i n k j := by
  have hF := mD_F (src := src) hb
  have hnd : t.patterns.Nodup := hb.bi.nd
  have hne : descL x (tD x t src) ((tD x t src).patterns.getD i []) n ≠ 0 := by
    obtain ⟨u, u1, u2, u3, u4⟩ := hF.par i hi (by omega)
    obtain ⟨l, hl, a, b⟩ := (mRow_mem hb hi).1 (mRow_sym hb u1 u2)
    refine descL_ne hl (leads_iffD.2 ?_)
    have e : nextI x (tD x t src) ((tD x t src).patterns.getD i []) l = u := by
      show idxL t.patterns (nxt x (t.patterns.getD i []) l) = u
      rw [← b]; exact hb.idx a
    rw [e]
    refine ⟨by omega, ?_⟩
    rw [atD_nat]
    show (mD x t src).getD u 0 = n
    omega
  rcases @descL_of_dK x (tD x t src) ((tD x t src).patterns.getD i []) n with ⟨-, h1⟩ | ⟨k, hk, h1, h2⟩
  · exact absurd h1 hne
  · obtain ⟨-, hlead⟩ := descL_leads hne
    obtain ⟨a1, a2⟩ := leads_iffD.1 hlead
    rw [h2] at a1 a2
    have hkm : (ltrs x.moves.length)[k] ∈ ltrs x.moves.length := List.getElem_mem _
    obtain ⟨j, b1, b2, -, -⟩ := hb.step hi hkm
    have hj : nextI x (tD x t src) ((tD x t src).patterns.getD i []) (ltrs x.moves.length)[k] = j := by
      show idxL t.patterns (nxt x (t.patterns.getD i []) (ltrs x.moves.length)[k]) = j
      rw [← b2]; exact hb.idx b1
    rw [hj, atD_nat] at a2
    refine ⟨k, j, hk, h2, b1, b2, a2, ?_⟩
    intro m hm i' hi' e
    have hml : (ltrs x.moves.length)[m]'(Nat.lt_trans hm hk) ∈ ltrs x.moves.length := List.getElem_mem _
    have hx : nextI x (tD x t src) ((tD x t src).patterns.getD i []) ((ltrs x.moves.length)[m]'(Nat.lt_trans hm hk)) = i' := by
      show idxL t.patterns (nxt x (t.patterns.getD i []) _) = i'
      have e' : t.patterns.getD i' [] = nxt x (t.patterns.getD i []) ((ltrs x.moves.length)[m]'(Nat.lt_trans hm hk)) := e
      rw [← e']; exact hb.idx hi'
    have hne2 : (tD x t src).distances.getD i' 0 ≠ n := by
      intro e2
      have hl : leads x (tD x t src) ((tD x t src).patterns.getD i []) n ((ltrs x.moves.length)[m]'(Nat.lt_trans hm hk)) = true := by
        rw [leads_iffD, hx, atD_nat]
        exact ⟨by omega, e2⟩
      have hno : ∀ q ∈ (ltrs x.moves.length).take k, leads x (tD x t src) ((tD x t src).patterns.getD i []) n q = false := by
        have hf : dK x (tD x t src) ((tD x t src).patterns.getD i []) n = k := h1
        unfold dK idxF at hf
        cases hq : (ltrs x.moves.length).findIdx? (leads x (tD x t src) ((tD x t src).patterns.getD i []) n) with
        | none => rw [hq] at hf; simp at hf
        | some k' =>
          rw [hq] at hf
          have hf2 : (k' : Int) = k := hf
          have : k' = k := by omega
          subst this
          obtain ⟨_, _, hall⟩ := List.findIdx?_eq_some_iff_getElem.1 hq
          intro q hqm
          rw [List.mem_take_iff_getElem] at hqm
          obtain ⟨m', hm', rfl⟩ := hqm
          simpa using hall m' (by omega)
      have := hno _ (List.mem_take_iff_getElem.2 ⟨m, by omega, rfl⟩)
      rw [hl] at this; cases this
    refine ⟨hne2, fun hlt2 => hne2 ?_⟩
    have hmem : i' ∈ mRow x t i := (mRow_mem hb hi).2 ⟨_, hml, hi', e⟩
    have := mD_near (src := src) hb h0 hi hmem
    show (mD x t src).getD i' 0 = n
    have h9 : (mD x t src).getD i' 0 < (n : Int) + 1 := hlt2
    omega
/-- the word by the distances: its letters, and where it leads -/
theorem mW_end (h0 : src t.tracked = true) : ∀ (n i : Nat), i < t.patterns.length → (mD x t src).getD i 0 = n →
    (∀ l ∈ oW x (tD x t src) n (t.patterns.getD i []), l ∈ ltrs x.moves.length) ∧ ∃ j : Nat, j < t.patterns.length ∧ t.patterns.getD j [] = wEnd x (t.patterns.getD i []) (oW x (tD x t src) n (t.patterns.getD i [])) ∧ (mD x t src).getD j 0 = 0
  | 0, i, hi, hd => ⟨(fun l hl => by cases hl), i, hi, rfl, hd⟩
  | n + 1, i, hi, hd => by
    obtain ⟨k, j, hD⟩ := mDown (n := n) hb h0 hi hd
    obtain ⟨h1, j2, h2, h3, h4⟩ := mW_end h0 n j hD.hj hD.ds
    have e := hD.oW_
    have e2 : (tD x t src).patterns = t.patterns := rfl
    rw [e2] at e
    rw [e]
    refine ⟨fun l hl => ?_, j2, h2, ?_, h4⟩
    · rcases List.mem_cons.1 hl with rfl | hl
      · exact List.getElem_mem _
      · exact h1 l hl
    · rw [h3]
      have e3 : t.patterns.getD j [] = nxt x (t.patterns.getD i []) ((ltrs x.moves.length)[k]'hD.hk) := hD.nx
      unfold wEnd
      rw [List.foldl_cons, e3]
end
/-- a state meets a goal -/
def gS (goal s : List Int) : Bool := decide (PM.comp goal s = goal)
section
variable {x : Puzzle} {tr : List Int} {Z : List (List Int)}
theorem BI.in_ {k : Nat} {done : List Int} {s : Met16} (h : BI x tr k done s) (h0 : tr ∈ Z) (hc : ∀ q ∈ Z, ∀ l ∈ ltrs x.moves.length, nxt x q l ∈ Z) : ∀ i, i < s.1.length → s.1.getD i [] ∈ Z := by
  intro i
  induction i using Nat.strongRecOn with
  | ind i ih =>
    intro hi
    by_cases hz : i = 0
    · subst hz; rw [h.p0]; exact h0
    · obtain ⟨j, l, a1, a2, a3, -⟩ := h.par i (by omega) hi
      rw [← a3]
      exact hc _ (ih j a1 (Nat.lt_trans a1 hi)) l a2
theorem BI.full3 {k : Nat} {done : List Int} {s : Met16} (h : BI x tr k done s) (h0 : tr ∈ Z) (hc : ∀ q ∈ Z, ∀ l ∈ ltrs x.moves.length, nxt x q l ∈ Z) (hl3 : Z.length ≤ 3000) (hk : k < s.1.length) {l : Int} (hl : l ∈ ltrs x.moves.length) (hn : nxt x (s.1.getD k []) l ∉ s.1) : s.1.length ≠ 3000 := by
  intro h3
  have hg := h.in_ h0 hc
  have hall : ∀ p ∈ s.1 ++ [nxt x (s.1.getD k []) l], p ∈ Z := fun p hp => by
    rcases List.mem_append.1 hp with hp | hp
    · obtain ⟨i, hi, rfl⟩ := List.getElem_of_mem hp
      have := hg i hi
      rwa [getD_get hi] at this
    · simp at hp; subst hp
      exact hc _ (hg k hk) l hl
  have hnd : (s.1 ++ [nxt x (s.1.getD k []) l]).Nodup := by
    rw [List.nodup_append]
    exact ⟨h.nd, by simp, fun a ha b hb e => hn (by rw [← List.mem_singleton.1 hb, ← e]; exact ha)⟩
  have := PM.nodup_sub_len hnd hall
  simp only [List.length_append, List.length_singleton] at this
  omega
theorem BI.lets_some3 (hv : validPz x = true) (h0 : tr ∈ Z) (hc : ∀ q ∈ Z, ∀ l ∈ ltrs x.moves.length, nxt x q l ∈ Z) (hl3 : Z.length ≤ 3000) {k : Nat} : ∀ {ls done : List Int} {s : Met16}, BI x tr k done s → k < s.1.length → (∀ l ∈ ls, l ∈ ltrs x.moves.length) → (bLets x (s.1.getD k []) (s.2.getD k 0 + 1) ls s).isSome = true
  | [], done, s, h, hk, _ => rfl
  | l :: ls, done, s, h, hk, hl => by
    unfold bLets
    have h1 : ∃ s1, bMeet s (s.2.getD k 0 + 1) (nxt x (s.1.getD k []) l) = some s1 := by
      unfold bMeet
      split
      · exact ⟨_, rfl⟩
      · rename_i hn
        rw [if_neg (h.full3 h0 hc hl3 hk (hl l (by simp)) hn)]
        exact ⟨_, rfl⟩
    obtain ⟨s1, e1⟩ := h1
    obtain ⟨b1, b2, b3, b4⟩ := h.meet hv hk (hl l (by simp)) e1
    have := BI.lets_some3 (ls := ls) hv h0 hc hl3 b1 b4 (fun l hl2 => hl l (by simp [hl2]))
    rw [b2, b3] at this
    rw [e1]; exact this
theorem BI.from_some3 (hv : validPz x = true) (h0 : tr ∈ Z) (hc : ∀ q ∈ Z, ∀ l ∈ ltrs x.moves.length, nxt x q l ∈ Z) (hl3 : Z.length ≤ 3000) : ∀ {n k : Nat} {s : Met16}, BI x tr k [] s → (bFrom x n k s).isSome = true
  | 0, k, s, h => rfl
  | n + 1, k, s, h => by
    unfold bFrom
    split
    · rename_i hk
      obtain ⟨s1, e1⟩ := Option.isSome_iff_exists.1 (BI.lets_some3 hv h0 hc hl3 h hk (fun l hl => hl))
      obtain ⟨done', c1, c2, c3, -⟩ := h.lets hv hk (fun l hl => hl) e1
      rw [e1]
      exact BI.from_some3 hv h0 hc hl3 (c1.next c2 c3)
    · rfl
/-- a search within so few patterns ends -/
theorem bTab_sub (hv : validPz x = true) (ht : trackB x.points tr = true) (h0 : tr ∈ Z) (hc : ∀ q ∈ Z, ∀ l ∈ ltrs x.moves.length, nxt x q l ∈ Z) (hl3 : Z.length ≤ 3000) : ∃ t, bTab x tr = some t := by
  obtain ⟨s, e⟩ := Option.isSome_iff_exists.1 (BI.from_some3 (n := 3001) hv h0 hc hl3 (BI.start (trackB_pat ht)))
  exact ⟨⟨tr, s.1, s.2⟩, by unfold bTab; rw [bfs16_yes (by rw [hv, ht]; rfl), e]; rfl⟩
end
theorem find_congr {α : Type} {p q : α → Bool} : ∀ {l : List α}, (∀ a ∈ l, p a = q a) → l.find? p = l.find? q
  | [], _ => rfl
  | a :: l, h => by rw [List.find?_cons, List.find?_cons, h a (by simp), find_congr fun b hb => h b (by simp [hb])]
section
variable {x : Puzzle} {t tg : Table} {goal : List Int} (he : expl x = some t) (hg : trackB x.points goal = true)
include he hg
theorem goal_nxt {v : Nat} (hv : v < t.patterns.length) (l : Int) : nxt x (PM.comp goal (t.patterns.getD v [])) l = PM.comp goal (nxt x (t.patterns.getD v []) l) :=
  comp3 fun z hz => by
    have h1 := (trackB_iff.1 hg).2.1 z hz
    rw [expl_len1 he hv]; omega
theorem goal_id : PM.comp goal (t.patterns.getD 0 []) = goal := by
  obtain ⟨hb, ht⟩ := expl_built he
  have e : t.patterns.getD 0 [] = PM.pts x.points.toNat := hb.bi.p0.trans ht
  rw [e]
  unfold PM.comp
  refine (List.map_congr_left fun z hz => ?_).trans (List.map_id _)
  have := (trackB_iff.1 hg).2.1 z hz
  exact PM.at_pts (by omega) (by omega)
theorem goal_tab : ∃ tg, bTab x goal = some tg := by
  obtain ⟨hb, -⟩ := expl_built he
  refine bTab_sub (Z := t.patterns.map (PM.comp goal)) hb.v hg (List.mem_map.2 ⟨_, hb.mem_of hb.bi.ne, goal_id he hg⟩) (fun q hq l hl => ?_) (by rw [List.length_map]; exact hb.ll)
  obtain ⟨s, hs, rfl⟩ := List.mem_map.1 hq
  obtain ⟨v, hv, e⟩ := List.getElem_of_mem hs
  have e2 : t.patterns.getD v [] = s := by rw [getD_get hv, e]
  rw [← e2, goal_nxt he hg hv l]
  obtain ⟨i, a, b, -, -⟩ := hb.step hv hl
  exact List.mem_map.2 ⟨_, hb.mem_of a, by rw [b]⟩
theorem goal_src : gS goal t.tracked = true := by
  obtain ⟨hb, -⟩ := expl_built he
  have e : t.patterns.getD 0 [] = t.tracked := hb.bi.p0
  unfold gS
  rw [← e]
  exact decide_eq_true (goal_id he hg)
omit hg in
theorem goal_at (hb2 : bTab x goal = some tg) {v : Nat} (hv : v < t.patterns.length) : ∃ e : Nat, e < tg.patterns.length ∧ idxL tg.patterns (PM.comp goal (t.patterns.getD v [])) = e ∧ tg.patterns.getD e [] = PM.comp goal (t.patterns.getD v []) := by
  obtain ⟨hb, -⟩ := expl_built he
  obtain ⟨hbg, htg⟩ := bTab_built hb2
  have h1 := hbg.reach ((expl_reach he).1 (hb.mem_of hv))
  rw [htg] at h1
  obtain ⟨e, a, b⟩ := List.getElem_of_mem h1
  have c : tg.patterns.getD e [] = PM.comp goal (t.patterns.getD v []) := by rw [getD_get a, b]
  exact ⟨e, a, by rw [← c]; exact hbg.idx a, c⟩
theorem goal_E (hb2 : bTab x goal = some tg) {v : Nat} (hv : v < t.patterns.length) : (mD x t (gS goal)).getD v 0 = atD tg (idxL tg.patterns (PM.comp goal (t.patterns.getD v []))) := by
  obtain ⟨hb, -⟩ := expl_built he
  obtain ⟨hbg, htg⟩ := bTab_built hb2
  refine MbF.eq (E := fun v => atD tg (idxL tg.patterns (PM.comp goal (t.patterns.getD v [])))) (mD_F hb) (fun v hv => ?_) (fun v hv => ?_) (fun v hv tt ht => ?_) (fun v hv hp => ?_) (fun v hv => mRow_lt hb hv) hv
  · obtain ⟨e, a, b, -⟩ := goal_at he hb2 hv
    rw [b, atD_nat]; exact (hbg.dep e a).1
  · obtain ⟨e, a, b, c⟩ := goal_at he hb2 hv
    rw [b, atD_nat]
    unfold gS
    rw [decide_eq_true_iff, ← c]
    have h1 := hbg.root a
    rw [htg] at h1
    rw [h1]
    have hd := hbg.dep e a
    have h0 : tg.distances.getD 0 0 = 0 := hbg.bi.d0
    constructor
    · intro h
      rcases Nat.eq_zero_or_pos e with h2 | h2
      · exact h2
      · have := hd.2.2 h2; omega
    · intro h; rw [h]; exact h0
  · obtain ⟨l, hl, a, b⟩ := (mRow_mem hb hv).1 ht
    obtain ⟨e, c1, c2, c3⟩ := goal_at he hb2 hv
    rw [b, ← goal_nxt he hg hv l, c2, atD_nat]
    obtain ⟨i, d1, d2, d3, -⟩ := hbg.step c1 hl
    rw [c3] at d2
    rw [← d2, hbg.idx d1, atD_nat]
    exact d3
  · obtain ⟨e, c1, c2, c3⟩ := goal_at he hb2 hv
    rw [c2] at hp ⊢
    have hgd := ent_nil.1 (hbg.good e c1)
    have hne := hgd.2.2.2.2 hp
    obtain ⟨hl, hlead⟩ := descL_leads hne
    obtain ⟨a1, a2⟩ := leads_iffD.1 hlead
    obtain ⟨l, hle⟩ : ∃ l, l = descL x tg (atP tg e) (atD tg e - 1) := ⟨_, rfl⟩
    rw [← hle] at hl a1 a2
    obtain ⟨u, u1, u2, -, -⟩ := hb.step hv hl
    refine ⟨u, u1, mRow_sym hb hv ((mRow_mem hb hv).2 ⟨l, hl, u1, u2⟩), ?_⟩
    rw [u2, ← goal_nxt he hg hv l, ← c3]
    have : atD tg (nextI x tg (atP tg e) l) = atD tg (idxL tg.patterns (nxt x (tg.patterns.getD e []) l)) := rfl
    rw [← this]
    omega
/-- the goal's letters are those of its patterns -/
theorem goal_descL (hb2 : bTab x goal = some tg) {v : Nat} (hv : v < t.patterns.length) (n : Int) : descL x (tD x t (gS goal)) (t.patterns.getD v []) n = descL x tg (PM.comp goal (t.patterns.getD v [])) n := by
  obtain ⟨hb, -⟩ := expl_built he
  obtain ⟨hbg, htg⟩ := bTab_built hb2
  unfold descL
  rw [find_congr fun l hl => ?_]
  obtain ⟨i, a, b, -, -⟩ := hb.step hv hl
  obtain ⟨e, c1, c2, c3⟩ := goal_at he hb2 a
  have h1 : nextI x (tD x t (gS goal)) (t.patterns.getD v []) l = i := by
    show idxL t.patterns (nxt x (t.patterns.getD v []) l) = i
    rw [← b]; exact hb.idx a
  have h2 : nextI x tg (PM.comp goal (t.patterns.getD v [])) l = e := by
    unfold nextI
    rw [goal_nxt he hg hv l, ← b]; exact c2
  have h3 := goal_E he hg hb2 a
  rw [c2, atD_nat] at h3
  rw [Bool.eq_iff_iff, leads_iffD, leads_iffD, h1, h2, atD_nat, atD_nat]
  show 0 ≤ (i : Int) ∧ (mD x t (gS goal)).getD i 0 = n ↔ _
  rw [h3]
  constructor
  · exact fun h => ⟨by omega, h.2⟩
  · exact fun h => ⟨by omega, h.2⟩
theorem goal_oW (hb2 : bTab x goal = some tg) : ∀ (n v : Nat), v < t.patterns.length → (mD x t (gS goal)).getD v 0 = n → oW x tg n (PM.comp goal (t.patterns.getD v [])) = oW x (tD x t (gS goal)) n (t.patterns.getD v [])
  | 0, _, _, _ => rfl
  | n + 1, v, hv, hd => by
    obtain ⟨hb, -⟩ := expl_built he
    obtain ⟨k, j, hD⟩ := mDown (n := n) hb (goal_src he hg) hv hd
    have e3 : t.patterns.getD j [] = nxt x (t.patterns.getD v []) ((ltrs x.moves.length)[k]'hD.hk) := hD.nx
    have e4 : descL x (tD x t (gS goal)) (t.patterns.getD v []) n = (ltrs x.moves.length)[k]'hD.hk := hD.l
    have ih := goal_oW hb2 n j hD.hj hD.ds
    show descL x tg _ n :: oW x tg n (nxt x _ (descL x tg _ n)) = descL x _ _ n :: oW x _ n (nxt x _ (descL x _ _ n))
    rw [← goal_descL he hg hb2 hv n, e4, goal_nxt he hg hv, ← e3, ih]
end
end Go.Proofs.YtclhblofchfglaaGreat

namespace Go.Proofs.YtclhblofchfglaaGreat
open Go.RowKit
set_option maxRecDepth 10000

/-- how far a state is from a goal -/
def mN (x : Puzzle) (t : Table) (g s : List Int) : Nat := ((mD x t (gS g)).getD (idxL t.patterns s).toNat 0).toNat
/-- the stage word -/
def mW1 (x : Puzzle) (t : Table) (g s : List Int) : List Int := oW x (tD x t (gS g)) (mN x t g s) s
def mthS (x : Puzzle) (t : Table) : List (List Int) → List Int → List (List Int)
  | [], _ => []
  | g :: gs, s => mW1 x t g s :: mthS x t gs (wEnd x s (mW1 x t g s))
def mthW (x : Puzzle) (t : Table) : List (List Int) → List Int → Option (List (List Int))
  | [], _ => some []
  | g :: gs, s => if 200 < mN x t g s then none else (mthW x t gs (wEnd x s (mW1 x t g s))).map (mW1 x t g s :: ·)
theorem mW1_len (x : Puzzle) (t : Table) (g s : List Int) : (mW1 x t g s).length = mN x t g s := oW_len _ _ _ _
theorem mthW_eq (x : Puzzle) (t : Table) : ∀ (gs : List (List Int)) (s : List Int), mthW x t gs s = if (mthS x t gs s).all (fun w => decide (w.length ≤ 200)) = true then some (mthS x t gs s) else none
  | [], _ => rfl
  | g :: gs, s => by
    unfold mthW mthS
    rw [List.all_cons, mW1_len, mthW_eq x t gs]
    by_cases h : 200 < mN x t g s
    · rw [if_pos h, decide_eq_false (by omega), Bool.false_and, if_neg (by simp)]
    · rw [if_neg h, decide_eq_true (by omega), Bool.true_and]
      split <;> rfl
section
variable {x : Puzzle} {t : Table} (he : expl x = some t)
include he
theorem stage_facts {g : List Int} (hg : trackB x.points g = true) {v : Nat} (hv : v < t.patterns.length) :
    (mD x t (gS g)).getD v 0 = mN x t g (t.patterns.getD v []) ∧ (∀ l ∈ mW1 x t g (t.patterns.getD v []), l ∈ ltrs x.moves.length) ∧ ∃ j : Nat, j < t.patterns.length ∧ t.patterns.getD j [] = wEnd x (t.patterns.getD v []) (mW1 x t g (t.patterns.getD v [])) := by
  obtain ⟨hb, -⟩ := expl_built he
  have h0 := mD_nonneg hb (goal_src he hg) v hv
  have h1 : (mD x t (gS g)).getD v 0 = mN x t g (t.patterns.getD v []) := by
    unfold mN
    rw [hb.idx hv, Int.toNat_natCast]; omega
  obtain ⟨a, j, b, c, -⟩ := mW_end hb (goal_src he hg) (mN x t g (t.patterns.getD v [])) v hv h1
  exact ⟨h1, a, j, b, c⟩
theorem mthS_letters : ∀ (gs : List (List Int)), (∀ g ∈ gs, trackB x.points g = true) → ∀ (v : Nat), v < t.patterns.length → ∀ w ∈ mthS x t gs (t.patterns.getD v []), ∀ l ∈ w, l ∈ ltrs x.moves.length
  | [], _, _, _, w, hw => by cases hw
  | g :: gs, hg, v, hv, w, hw => by
    obtain ⟨-, a, j, b, c⟩ := stage_facts he (hg g (by simp)) hv
    unfold mthS at hw
    rcases List.mem_cons.1 hw with rfl | hw
    · exact a
    · rw [← c] at hw
      exact mthS_letters gs (fun g hg' => hg g (by simp [hg'])) j b w hw
end
/-- a method: its goals grow and end with all points -/
def growB : List (List Int) → Bool
  | a :: b :: l => decide (a.length < b.length) && a.all (fun z => decide (z ∈ b)) && growB (b :: l)
  | _ => true
def methB (x : Puzzle) (goals : List (List Int)) : Bool := validPz x && decide (1 ≤ goals.length ∧ goals.length ≤ 5) && goals.all (trackB x.points) && growB goals && decide (((goals.getD (goals.length - 1) []).length : Int) = x.points)
/-- the words of a method -/
noncomputable def mthX (x : Puzzle) (goals : List (List Int)) (s : List Int) : Option (List (List Int)) := match expl x with
  | some t => if (reachB x s && methB x goals) = true then mthW x t goals s else none
  | none => none
/-- the word of a method, if it is not too long -/
noncomputable def mthC (x : Puzzle) (goals : List (List Int)) (s : List Int) : Option (List Int) := (mthX x goals s).bind fun ws => if ws.flatten.length ≤ 200 then some ws.flatten else none
end Go.Proofs.YtclhblofchfglaaGreat

namespace Go.Proofs.YtclhblofchfglaaGreat
open Go.RowKit
set_option maxRecDepth 10000

/-- the names of a move subset -/
def subNm (s : ByteArray) (sub : List Int) : ByteArray := ⟨(sub.map fun k => s.data.getD k.toNat 0).toArray⟩
/-- the puzzle of a move subset -/
def subP (x : Puzzle) (sub : List Int) : Puzzle := ⟨x.points, subNm x.names sub, sub.map fun k => x.moves.getD k.toNat []⟩
section
variable {x : Puzzle} {sub : List Int} (hv : validPz x = true) (hs : trackB x.moves.length sub = true)
end
section
variable {x : Puzzle} {t ts : Table} {sub : List Int} (he : expl x = some t) (hs : trackB x.moves.length sub = true) (h2 : expl (subP x sub) = some ts)
end
end Go.Proofs.YtclhblofchfglaaGreat

namespace Go.Proofs.YtclhblofchfglaaGreat
open Go.RowKit
set_option maxRecDepth 10000
end Go.Proofs.YtclhblofchfglaaGreat

namespace Go.Proofs.YtclhblofchfglaaGreat
open Go.RowKit
set_option maxRecDepth 10000

theorem wEnd_snoc (x : Puzzle) (s w : List Int) (l : Int) : wEnd x s (w ++ [l]) = nxt x (wEnd x s w) l := by
  unfold wEnd
  rw [List.foldl_append]; rfl
end Go.Proofs.YtclhblofchfglaaGreat

namespace Go.Proofs.YtclhblofchfglaaGreat
open Go.RowKit
set_option maxRecDepth 10000
end Go.Proofs.YtclhblofchfglaaGreat

namespace Go.Proofs.YtclhblofchfglaaGreat
open Go.RowKit
set_option maxRecDepth 10000
section
variable {x : Puzzle} {t : Table} (he : expl x = some t)
end
theorem methB_parts {x : Puzzle} {goals : List (List Int)} (h : methB x goals = true) : validPz x = true ∧ (1 ≤ goals.length ∧ goals.length ≤ 5) ∧ (∀ g ∈ goals, trackB x.points g = true) ∧ growB goals = true ∧ ((goals.getD (goals.length - 1) []).length : Int) = x.points := by
  unfold methB at h
  rw [Bool.and_eq_true, Bool.and_eq_true, Bool.and_eq_true, Bool.and_eq_true, decide_eq_true_iff, decide_eq_true_iff, List.all_eq_true] at h
  exact ⟨h.1.1.1.1, h.1.1.1.2, h.1.1.2, h.1.2, h.2⟩
theorem mthX_parts {x : Puzzle} {goals : List (List Int)} {s : List Int} {ws : List (List Int)} (h : mthX x goals s = some ws) : ∃ t, expl x = some t ∧ reachB x s = true ∧ methB x goals = true ∧ ws = mthS x t goals s ∧ ∀ w ∈ ws, w.length ≤ 200 := by
  unfold mthX at h
  cases he : expl x with
  | none => rw [he] at h; cases h
  | some t =>
    rw [he] at h
    simp only at h
    split at h
    · rename_i hc
      rw [Bool.and_eq_true] at hc
      rw [mthW_eq] at h
      split at h
      · rename_i ha
        injection h with h
        rw [List.all_eq_true] at ha
        exact ⟨t, rfl, hc.1, hc.2, h.symm, fun w hw => by rw [← h] at hw; exact of_decide_eq_true (ha w hw)⟩
      · cases h
    · cases h
section
variable {x : Puzzle} {t ts : Table} {sub : List Int} (he : expl x = some t) (hs : trackB x.moves.length sub = true) (h2 : expl (subP x sub) = some ts)
end
end Go.Proofs.YtclhblofchfglaaGreat

namespace Go.Proofs.YtclhblofchfglaaGreat
open Go.RowKit
set_option maxRecDepth 10000
end Go.Proofs.YtclhblofchfglaaGreat

namespace Go.Proofs.YtclhblofchfglaaGreat
open Go.RowKit
set_option maxRecDepth 10000
/-- a table and the word whether there is one, behind the call of BuildTable: the variable's block g -/
def BT1 (W wx : World) (s8 s9 : Value) (t : Option Table) : Prop :=
  ∃ g A1 A2 A3 C1 C2 C3 f, s8 = .pointer (some ⟨g, 0, none⟩) ∧ s9 = .bool t.isSome ∧ Blk wx g [.slice A1 (t.getD noTab).tracked.length C1, .slice A2 (t.getD noTab).patterns.length C2, .slice A3 (t.getD noTab).distances.length C3] ∧
    Rp.rep wx [.slice A1 (t.getD noTab).tracked.length C1, .slice A2 (t.getD noTab).patterns.length C2, .slice A3 (t.getD noTab).distances.length C3] (t.getD noTab) f ∧ Fresh W.heap.size wx f ∧ Only [] W wx
theorem BT1.of {W w5 : World} {t : Option Table} {g : Nat} {A1 A2 A3 : Option Addr} {n1 n2 n3 C1 C2 C3 : Nat} {f : List Nat} {cs : List Value} (hz : Blk w5 g cs) (hcs : cs.length = 3) (hK : Only [] W w5) (e1 : n1 = (t.getD noTab).tracked.length) (e2 : n2 = (t.getD noTab).patterns.length) (e3 : n3 = (t.getD noTab).distances.length)
    (hr : Rp.rep w5 [.slice A1 n1 C1, .slice A2 n2 C2, .slice A3 n3 C3] (t.getD noTab) f) (hF : Fresh W.heap.size w5 f) (hg : g ∉ f) (hW : W.heap.size ≤ g) :
    BT1 W (((w5.setCell ⟨g, 0, none⟩ (.slice A1 n1 C1)).setCell ⟨g, 1, none⟩ (.slice A2 n2 C2)).setCell ⟨g, 2, none⟩ (.slice A3 n3 C3)) (.pointer (some ⟨g, 0, none⟩)) (.bool t.isSome) t := by
  subst e1; subst e2; subst e3
  have ho : Only [g] w5 (((w5.setCell ⟨g, 0, none⟩ (.slice A1 (t.getD noTab).tracked.length C1)).setCell ⟨g, 1, none⟩ (.slice A2 (t.getD noTab).patterns.length C2)).setCell ⟨g, 2, none⟩ (.slice A3 (t.getD noTab).distances.length C3)) := (((Only.refl _ _).setCell (by simp) _).setCell (by simp) _).setCell (by simp) _
  have hb := ((hz.set 0 (.slice A1 (t.getD noTab).tracked.length C1)).set 1 (.slice A2 (t.getD noTab).patterns.length C2)).set 2 (.slice A3 (t.getD noTab).distances.length C3)
  have hnf : ∀ b ∈ f, b ∉ [g] := fun b hm1 hm => by simp at hm; subst hm; exact hg hm1
  refine ⟨g, A1, A2, A3, C1, C2, C3, f, rfl, rfl, ?_, Rp.only hr ho hnf, hF.only ho hnf, hK.then_ ho (by intro b hm hl; simp at hm; omega)⟩
  obtain ⟨u0, u1, u2, rfl⟩ : ∃ u0 u1 u2, cs = [u0, u1, u2] := by
    match cs, hcs with
    | [u0, u1, u2], _ => exact ⟨u0, u1, u2, rfl⟩
  simpa only [List.set] using hb
theorem BT1.of2 {W w5 : World} {t : Option Table} {g : Nat} {A1 A2 A3 : Option Addr} {n1 n2 n3 C1 C2 C3 : Nat} {f : List Nat} {e : TypeId} (hK : Only [] W w5) (e1 : n1 = (t.getD noTab).tracked.length) (e2 : n2 = (t.getD noTab).patterns.length) (e3 : n3 = (t.getD noTab).distances.length)
    (hr : Rp.rep w5 [.slice A1 n1 C1, .slice A2 n2 C2, .slice A3 n3 C3] (t.getD noTab) f) (hF : Fresh W.heap.size w5 f) (hg : g = w5.heap.size) :
    BT1 W (w5.alloc (.cells #[.slice A1 n1 C1, .slice A2 n2 C2, .slice A3 n3 C3] e)) (.pointer (some ⟨g, 0, none⟩)) (.bool t.isSome) t := by
  subst e1; subst e2; subst e3; subst hg
  have ho : Only [] w5 (w5.alloc (.cells #[.slice A1 (t.getD noTab).tracked.length C1, .slice A2 (t.getD noTab).patterns.length C2, .slice A3 (t.getD noTab).distances.length C3] e)) := (Only.refl _ _).alloc _
  exact ⟨_, A1, A2, A3, C1, C2, C3, f, rfl, rfl, Blk.new w5 [.slice A1 (t.getD noTab).tracked.length C1, .slice A2 (t.getD noTab).patterns.length C2, .slice A3 (t.getD noTab).distances.length C3] e, Rp.keep hr ho, hF.keep ho, hK.trans ho⟩
end Go.Proofs.YtclhblofchfglaaGreat

namespace Go.Proofs.YtclhblofchfglaaGreat
open Go.RowKit
set_option maxRecDepth 10000
end Go.Proofs.YtclhblofchfglaaGreat

namespace Go.Proofs.YtclhblofchfglaaGreat
open Go.RowKit
set_option maxRecDepth 10000
end Go.Proofs.YtclhblofchfglaaGreat

namespace Go.Proofs.YtclhblofchfglaaGreat
open Go.RowKit
set_option maxRecDepth 10000
set_option maxHeartbeats 1000000 in
theorem projectState_any (u v : Value) (ix l : List Int) (f2 f1 : List Nat) (w : World) (h' : Rd w u ix f2) (h : Rd w v l f1) (hx : ∀ x ∈ ix, 0 ≤ x ∧ x < l.length) (hl : ix.length ≤ 1000) :
    Calls Tryz.prog 157 #[u, v] w fun e w' => ∃ v fp', e = .returned v ∧ Rd w' v (PM.comp ix l) fp' ∧ Fresh w.heap.size w' fp' ∧ Only [] w w' := by
  obtain ⟨a, cap, rfl, hI⟩ := h.ints
  obtain ⟨a', cap', rfl, hI'⟩ := h'.ints
  have hb := hI.bound
  obtain ⟨i0, hi, hz0, hz1, hz2⟩ := info_parts Tryz.info2
  go_enter Tryz.func157, Tryz.ntmps157
  go_wp2
  go_loopw [5, 6] (fun o i wr => ∃ (j : Nat) (fs : List (List Nat)), j ≤ ix.length ∧ i = .int .i64 j ∧ Acc w.heap.size 2 wr o (PM.comp (ix.take j) l) fs ∧ Fresh w.heap.size wr fs.flatten ∧ Only [] w wr)
    (fun _ i _ => ix.length - (intOf i).toNat)
  case atStart => exact ⟨0, [], Nat.zero_le _, rfl, Acc.made w w.heap.size _ rfl (Nat.le_refl _), Fresh.nil _ _, (Only.refl _ _).alloc _⟩
  case round =>
    obtain ⟨j, fs, hj, rfl, hA, hF, hK⟩ := hrel
    by_cases hlt : j < ix.length
    · obtain ⟨b, off, rfl, -, hc0⟩ := hI'.at_ j hlt
      obtain ⟨hr0, hr1⟩ := hx ix[j] (List.getElem_mem _)
      have hxl : ix[j].toNat < l.length := by omega
      obtain ⟨b2, off2, rfl, -, hd0⟩ := hI.at_ ix[j].toNat hxl
      have hc := hK.cell (by simp) hc0
      have hd := hK.cell (by simp) hd0
      have hsz := hK.size
      have hlj : (PM.comp (ix.take j) l).length + 1 ≤ 1073741824 := by rw [PM.comp_len, List.length_take]; omega
      have e1 : PM.at_ l ix[j] = l[ix[j].toNat] := by
        have := PM.at_nat l ix[j].toNat hxl
        rwa [show ((ix[j].toNat : Nat) : Int) = ix[j] by omega] at this
      have hst : PM.comp (ix.take (j + 1)) l = PM.comp (ix.take j) l ++ [l[ix[j].toNat]] := by
        rw [take_succ_get ix j hlt]
        simp only [PM.comp, List.map_append, List.map_cons, List.map_nil, e1]
      have Hst := Lib.hid hst
      have hI9 := hI.wf l[ix[j].toNat] (List.getElem_mem hxl)
      have HI := Lib.hid hI9
      clear hc0 hd0 hst e1 hI9
      go_wp2_with ((at_builtin; refine wpList_pushF rfl _ _ 25 rfl w.heap.size 2 i0 _ 8 Tryz.underlying25 hi hz0 hz1 hz2 rfl (by decide) (by decide) wr _ (PM.comp (ix.take j) l) fs rfl hA hF ((Only.refl _ _).alloc _) hsz wr.heap.size 1 [.int .i64 l[ix[j].toNat]] l[ix[j].toNat] [] rfl (lit_src wr [.int .i64 l[ix[j].toNat]] _ rfl) (by intro u hu; simp at hu; subst hu; rfl) (int_rd _ HI.out) (Fresh.nil _ _) hlj w (hK.alloc _) (Nat.le_refl _) ?_; intro v3 w3 hA3 hF3 hK3 _))
      go_roundw
      case rel => exact ⟨j + 1, _, by omega, by go_num, by rw [Hst.out]; exact hA3, hF3, hK3⟩
      case measure => simp [intOf]; omega
    · have hjl : j = ix.length := by omega
      rw [hjl, List.take_length] at hA
      have HA := Lib.hid hA
      clear hjl hA
      go_wp2
      go_ret
      exact ⟨_, _, rfl, HA.out.rd (by decide), HA.out.fresh hF, hK⟩
end Go.Proofs.YtclhblofchfglaaGreat
