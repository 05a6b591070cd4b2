/- Words for the memory that the laws read and make: values that read as plain data; what a call leaves alone. The laws' own helpers on slices of int64: held, eq, mark, to, sz: what each answers and leaves. The laws' own helpers on slices of slices of int64: held, eq, mark, to, sz. Laws on append and make over rows of the call's own, whatever the source (nil, empty or not). A slice that a loop appends to: its value, the elements so far, the memory they reach. A slice that a loop appends to, beside other memory of the call's own that stays as it is. Small values in memory: the empty slice, a literal of one element, a number; slices.Clone. Plain facts on permutations as lists of numbers. Plain facts on permutations: composition, inverse, the group that a list generates. -/
import Derived.Test.YtpkplmnpepkdaaaRows
import Derived.WalkKit
import Derived.WalkSpells
import Derived.WalkLawsBesides
import Derived.Lib.Hide
import Derived.Deep.Draws
import Derived.Deep.QuietTactic
import Derived.BigQuiet
import Derived.Maps.AppendAt
import Derived.Lib.SlBytesConst
namespace Go.Proofs.Ytpkplmnpepkdaaa
open Go.RowKit
set_option maxRecDepth 10000

/-- w' is w with new blocks, and with writes to the blocks of fp alone -/
structure Only (fp : List Nat) (w w' : World) : Prop where
  os : w'.os = w.os
  tape : w'.tape = w.tape
  output : w'.output = w.output
  size : w.heap.size ≤ w'.heap.size
  block : ∀ k, k < w.heap.size → k ∉ fp → w'.heap[k]? = w.heap[k]?

theorem Only.refl (fp : List Nat) (w : World) : Only fp w w := ⟨rfl, rfl, rfl, Nat.le_refl _, fun _ _ _ => rfl⟩
theorem Only.mono {fp fp' : List Nat} {w w' : World} (h : Only fp w w') (hs : ∀ b ∈ fp, b < w.heap.size → b ∈ fp') : Only fp' w w' :=
  ⟨h.os, h.tape, h.output, h.size, fun k hk hn => h.block k hk fun hm => hn (hs k hm hk)⟩
theorem Only.trans {fp : List Nat} {a b c : World} (h : Only fp a b) (k : Only fp b c) : Only fp a c :=
  ⟨k.os.trans h.os, k.tape.trans h.tape, k.output.trans h.output, Nat.le_trans h.size k.size,
   fun i hi hn => (k.block i (Nat.lt_of_lt_of_le hi h.size) hn).trans (h.block i hi hn)⟩
/-- what is written behind the first step is new, or was allowed -/
theorem Only.then_ {fp fp' : List Nat} {a b c : World} (h : Only fp a b) (k : Only fp' b c) (hs : ∀ x ∈ fp', x < a.heap.size → x ∈ fp) : Only fp a c :=
  ⟨k.os.trans h.os, k.tape.trans h.tape, k.output.trans h.output, Nat.le_trans h.size k.size,
   fun i hi hn => (k.block i (Nat.lt_of_lt_of_le hi h.size) fun hm => hn (hs i hm hi)).trans (h.block i hi hn)⟩
theorem Only.keepThen {fp : List Nat} {a b c : World} (h : Only fp a b) (k : Only [] b c) : Only fp a c := h.then_ k (by simp)
theorem Only.weaken {a b : World} (h : Only [] a b) (fp : List Nat) : Only fp a b := h.mono (by simp)
theorem Only.drew {fp : List Nat} {a w : World} (h : Only fp a w) : Only fp a w.drew := ⟨h.os, h.tape, h.output, h.size, h.block⟩
theorem Only.drewN {fp : List Nat} {a w : World} (h : Only fp a w) (n : Nat) : Only fp a (w.drewN n) := ⟨h.os, h.tape, h.output, h.size, h.block⟩
theorem Only.alloc {fp : List Nat} {a w : World} (h : Only fp a w) (o : Obj) : Only fp a (w.alloc o) :=
  h.trans ⟨rfl, rfl, rfl, by simp, fun k hk _ => Below.heap_alloc _ _ _ hk⟩
theorem Only.setCell {fp : List Nat} {a w : World} (h : Only fp a w) {p : Addr} (hp : p.block < a.heap.size → p.block ∈ fp) (u : Value) : Only fp a (w.setCell p u) :=
  h.then_ (fp' := [p.block]) ⟨rfl, rfl, rfl, by simp [World.setCell], fun k hk hn => Below.heap_setCell _ _ _ _ (by simpa using hn)⟩ (by simpa using hp)
theorem Only.grown {fp : List Nat} {a w w' : World} {row : Option Nat} (h : Only fp a w) (hg : w.grownBy w' row) (hr : ∀ k, row = some k → k < a.heap.size → k ∈ fp) : Only fp a w' :=
  h.then_ (fp' := row.toList) ⟨hg.os, hg.tape, hg.output, hg.size, fun k hk hn => hg.block k hk (fun e => hn (by simp [← e]))⟩ (by
    intro x hx; exact hr x (by simpa using hx))
theorem Only.below {fp : List Nat} {w w' : World} {B : Nat} (h : Only fp w w') (hB : B ≤ w.heap.size) (hf : ∀ b ∈ fp, B ≤ b) : Below B w w' :=
  ⟨h.os, h.tape, h.output, h.size, fun k hk => h.block k (Nat.lt_of_lt_of_le hk hB) fun hm => by have := hf k hm; omega⟩
theorem Only.ofDrewN (w : World) (n : Nat) (fp : List Nat) : Only fp w (w.drewN n) := (Only.refl fp w).drewN n
theorem Only.cell {fp : List Nat} {w w' : World} (h : Only fp w w') {p : Addr} (hn : p.block ∉ fp) {v : Value} (hc : w.cell? p = some v) : w'.cell? p = some v :=
  (World.cell?_of_block (h.block p.block (World.block_lt_of_cell? w p hc) hn)).trans hc

/-- only answers were drawn -/
def Drew (w w' : World) : Prop := ∃ n, w' = w.drewN n
theorem Drew.refl (w : World) : Drew w w := ⟨0, rfl⟩
theorem Drew.drewN {a w : World} (h : Drew a w) (n : Nat) : Drew a (w.drewN n) := by
  obtain ⟨m, rfl⟩ := h; exact ⟨m + n, by rw [World.drewN_drewN]⟩
theorem Drew.only {a b : World} (h : Drew a b) (fp : List Nat) : Only fp a b := by
  obtain ⟨m, rfl⟩ := h; exact Only.ofDrewN a m fp

/-- the blocks of fp are rows of cells, none frozen -/
def Own (w : World) (fp : List Nat) : Prop := ∀ b ∈ fp, ∃ c e, w.heap[b]? = some (.cells c e (0, 0))

theorem Own.nil (w : World) : Own w [] := by intro b hb; cases hb
theorem Own.lt {w : World} {fp : List Nat} (h : Own w fp) : ∀ b ∈ fp, b < w.heap.size := by
  intro b hb
  obtain ⟨c, e, he⟩ := h b hb
  exact (Array.getElem?_eq_some_iff.1 he).1
theorem Own.frame {w w' : World} {fp : List Nat} (h : Own w fp) (hf : ∀ b ∈ fp, w'.heap[b]? = w.heap[b]?) : Own w' fp := by
  intro b hb; rw [hf b hb]; exact h b hb
theorem Own.only {w w' : World} {fp fp' : List Nat} (h : Own w fp) (ho : Only fp' w w') (hd : ∀ b ∈ fp, b ∉ fp') : Own w' fp :=
  h.frame fun b hb => ho.block b (h.lt b hb) (hd b hb)
theorem Own.keep {w w' : World} {fp : List Nat} (h : Own w fp) (ho : Only [] w w') : Own w' fp := h.only ho (by simp)
theorem Own.append {w : World} {fp fp' : List Nat} (h : Own w fp) (h' : Own w fp') : Own w (fp ++ fp') := by
  intro b hb; rcases List.mem_append.1 hb with hb | hb
  · exact h b hb
  · exact h' b hb
theorem Own.sub {w : World} {fp fp' : List Nat} (h : Own w fp) (hs : ∀ b ∈ fp', b ∈ fp) : Own w fp' := fun b hb => h b (hs b hb)
theorem Own.left {w : World} {fp fp' : List Nat} (h : Own w (fp ++ fp')) : Own w fp := fun b hb => h b (List.mem_append_left _ hb)
theorem Own.right {w : World} {fp fp' : List Nat} (h : Own w (fp ++ fp')) : Own w fp' := fun b hb => h b (List.mem_append_right _ hb)
/-- memory of a call's own: all from block B on, all different, none frozen -/
structure Fresh (B : Nat) (w : World) (fp : List Nat) : Prop where
  nd : fp.Nodup
  ge : ∀ b ∈ fp, B ≤ b
  own : Own w fp
theorem Fresh.nil (B : Nat) (w : World) : Fresh B w [] := ⟨List.nodup_nil, by simp, Own.nil w⟩
theorem Fresh.keep {B : Nat} {w w' : World} {fp : List Nat} (h : Fresh B w fp) (ho : Only [] w w') : Fresh B w' fp := ⟨h.nd, h.ge, h.own.keep ho⟩
theorem Fresh.only {B : Nat} {w w' : World} {fp fp' : List Nat} (h : Fresh B w fp) (ho : Only fp' w w') (hd : ∀ b ∈ fp, b ∉ fp') : Fresh B w' fp := ⟨h.nd, h.ge, h.own.only ho hd⟩
theorem Fresh.mono {B B' : Nat} {w : World} {fp : List Nat} (h : Fresh B w fp) (hB : B' ≤ B) : Fresh B' w fp := ⟨h.nd, fun b hb => Nat.le_trans hB (h.ge b hb), h.own⟩
theorem Fresh.lt {B : Nat} {w : World} {fp : List Nat} (h : Fresh B w fp) : ∀ b ∈ fp, b < w.heap.size := h.own.lt
/-- the second was made behind the first -/
theorem Fresh.append {B B' : Nat} {w : World} {fp fp' : List Nat} (h : Fresh B w fp) (h' : Fresh B' w fp') (hB : B ≤ B') (hlt : ∀ b ∈ fp, b < B') : Fresh B w (fp ++ fp') :=
  ⟨List.nodup_append.2 ⟨h.nd, h'.nd, fun a ha b hb e => by have := hlt a ha; have := h'.ge b hb; omega⟩,
   fun b hb => (List.mem_append.1 hb).elim (h.ge b) fun hb => Nat.le_trans hB (h'.ge b hb), h.own.append h'.own⟩
theorem Fresh.left {B : Nat} {w : World} {fp fp' : List Nat} (h : Fresh B w (fp ++ fp')) : Fresh B w fp :=
  ⟨(List.nodup_append.1 h.nd).1, fun b hb => h.ge b (List.mem_append_left _ hb), h.own.left⟩
theorem Fresh.right {B : Nat} {w : World} {fp fp' : List Nat} (h : Fresh B w (fp ++ fp')) : Fresh B w fp' :=
  ⟨(List.nodup_append.1 h.nd).2.1, fun b hb => h.ge b (List.mem_append_right _ hb), h.own.right⟩

theorem ret_int {k : IntKind} {a b : Int} (h : a = b) : Ending.returned (.int k a) = .returned (.int k b) := by rw [h]
theorem ret_bool {a b : Bool} (h : a = b) : Ending.returned (.bool a) = .returned (.bool b) := by rw [h]

/-- an int64 -/
def I64 (n : Int) : Prop := -9223372036854775808 ≤ n ∧ n ≤ 9223372036854775807

/-- how plain data lies in memory: the cells of a variable, what they reach (fp) -/
class Rp (α : Type) where
  size : Nat
  rep : World → List Value → α → List Nat → Prop
  len : ∀ {w cs x fp}, rep w cs x fp → cs.length = size
  frame : ∀ {w w' : World} {cs x fp}, rep w cs x fp → (∀ b ∈ fp, w'.heap[b]? = w.heap[b]?) → rep w' cs x fp
  lt : ∀ {w cs x fp}, rep w cs x fp → ∀ b ∈ fp, b < w.heap.size

theorem Rp.only {α : Type} [Rp α] {w w' : World} {cs : List Value} {x : α} {fp fp' : List Nat} (h : Rp.rep w cs x fp) (ho : Only fp' w w') (hd : ∀ b ∈ fp, b ∉ fp') : Rp.rep w' cs x fp :=
  Rp.frame h fun b hb => ho.block b (Rp.lt h b hb) (hd b hb)
theorem Rp.keep {α : Type} [Rp α] {w w' : World} {cs : List Value} {x : α} {fp : List Nat} (h : Rp.rep w cs x fp) (ho : Only [] w w') : Rp.rep w' cs x fp := Rp.only h ho (by simp)

instance : Rp Int where
  size := 1
  rep _ cs n fp := cs = [.int .i64 n] ∧ I64 n ∧ fp = []
  len h := by rw [h.1]; rfl
  frame h _ := h
  lt h := by rw [h.2.2]; simp

/-- the slice of address a and capacity cap reads as xs; its cells, if any, lie in the block of ob; what they reach: fps -/
structure SeqA {α : Type} [Rp α] (w : World) (a : Option Addr) (cap : Nat) (xs : List α) (ob : List Nat) (fps : List (List Nat)) : Prop where
  len : xs.length ≤ cap
  cap : cap ≤ maxLen
  nf : fps.length = xs.length
  at_ : ∀ k (h : k < xs.length), ∃ b off cs, a = some ⟨b, off, none⟩ ∧ ob = [b] ∧ (∀ j u, cs[j]? = some u → w.cell? ⟨b, off + k * Rp.size α + j, none⟩ = some u) ∧ Rp.rep w cs (xs[k]) (fps[k]'(by omega))
  lt : ∀ b ∈ ob, b < w.heap.size
  one : ob.length ≤ 1

section
variable {α : Type} [Rp α] {w w' : World} {a : Option Addr} {cap : Nat} {xs : List α} {ob : List Nat} {fps : List (List Nat)}
theorem SeqA.nil (w : World) (a : Option Addr) {cap : Nat} (h : cap ≤ maxLen) : SeqA w a cap ([] : List α) [] [] := ⟨Nat.zero_le _, h, rfl, by simp, by simp, by simp⟩
theorem SeqA.bound (h : SeqA w a cap xs ob fps) : xs.length ≤ 9223372036854775807 := by
  have h1 := h.len; have h2 := h.cap; unfold maxLen at h2; omega
theorem SeqA.lt_all (h : SeqA w a cap xs ob fps) : ∀ b ∈ ob ++ fps.flatten, b < w.heap.size := by
  intro b hb
  rcases List.mem_append.1 hb with hb | hb
  · exact h.lt b hb
  · obtain ⟨f, hf, hb⟩ := List.mem_flatten.1 hb
    obtain ⟨k, hk, rfl⟩ := List.getElem_of_mem hf
    obtain ⟨_, _, _, _, _, _, hr⟩ := h.at_ k (by have := h.nf; omega)
    exact Rp.lt hr b hb
theorem SeqA.frame (h : SeqA w a cap xs ob fps) (hf : ∀ b ∈ ob ++ fps.flatten, w'.heap[b]? = w.heap[b]?) : SeqA w' a cap xs ob fps := by
  refine ⟨h.len, h.cap, h.nf, fun k hk => ?_, fun b hb => ?_, h.one⟩
  · obtain ⟨b, off, cs, ha, hob, hc, hr⟩ := h.at_ k hk
    refine ⟨b, off, cs, ha, hob, fun j u hu => ?_, Rp.frame hr fun b hb => hf b (List.mem_append_right _ (List.mem_flatten.2 ⟨_, List.getElem_mem _, hb⟩))⟩
    rw [World.cell?_of_block (w := w) (hf b (by simp [hob]))]
    exact hc j u hu
  · have := hf b (List.mem_append_left _ hb)
    rw [Array.getElem?_eq_getElem (h.lt b hb)] at this
    exact (Array.getElem?_eq_some_iff.1 this).1
end

instance {α : Type} [Rp α] : Rp (List α) where
  size := 1
  rep w cs xs fp := ∃ a cap ob fps, cs = [.slice a xs.length cap] ∧ fp = ob ++ fps.flatten ∧ SeqA w a cap xs ob fps
  len h := by obtain ⟨_, _, _, _, rfl, _⟩ := h; rfl
  frame h hf := by
    obtain ⟨a, cap, ob, fps, hcs, hfp, hs⟩ := h
    exact ⟨a, cap, ob, fps, hcs, hfp, hs.frame fun b hb => hf b (by rw [hfp]; exact hb)⟩
  lt h := by
    obtain ⟨a, cap, ob, fps, hcs, hfp, hs⟩ := h
    rw [hfp]; exact hs.lt_all

/-- the value v of a variable of one cell reads as x -/
abbrev Rd {α : Type} [Rp α] (w : World) (v : Value) (x : α) (fp : List Nat) : Prop := Rp.rep w [v] x fp

section
variable {α : Type} [Rp α] {w w' : World} {v : Value} {xs : List α} {fp : List Nat}
theorem Rd.open_ (h : Rd w v xs fp) : ∃ a cap ob fps, v = .slice a xs.length cap ∧ fp = ob ++ fps.flatten ∧ SeqA w a cap xs ob fps := by
  obtain ⟨a, cap, ob, fps, hcs, r⟩ := h
  exact ⟨a, cap, ob, fps, by simpa using hcs, r⟩
theorem SeqA.rd {a : Option Addr} {cap : Nat} {ob : List Nat} {fps : List (List Nat)} (h : SeqA w a cap xs ob fps) : Rd w (.slice a xs.length cap) xs (ob ++ fps.flatten) :=
  ⟨a, cap, ob, fps, rfl, rfl, h⟩
end

/-- slices of int64: the same in simpler words -/
structure IntsA (w : World) (a : Option Addr) (cap : Nat) (l : List Int) (fp : List Nat) : Prop where
  len : l.length ≤ cap
  cap : cap ≤ maxLen
  wf : ∀ x ∈ l, I64 x
  at_ : ∀ k (h : k < l.length), ∃ b off, a = some ⟨b, off, none⟩ ∧ fp = [b] ∧ w.cell? ⟨b, off + k, none⟩ = some (.int .i64 l[k])
  lt : ∀ b ∈ fp, b < w.heap.size
  one : fp.length ≤ 1

section
variable {w w' : World} {a : Option Addr} {cap : Nat} {l : List Int} {fp : List Nat}
theorem flatten_nil (n : Nat) : (List.replicate n ([] : List Nat)).flatten = [] := by
  induction n with
  | zero => rfl
  | succ n ih => simp [List.replicate_succ]
theorem SeqA.ints {ob : List Nat} {fps : List (List Nat)} (h : SeqA w a cap l ob fps) : IntsA w a cap l ob ∧ fps.flatten = [] := by
  have hE : ∀ k (hk : k < l.length), ∃ b off, a = some ⟨b, off, none⟩ ∧ ob = [b] ∧ w.cell? ⟨b, off + k, none⟩ = some (.int .i64 l[k]) ∧ I64 l[k] ∧ fps[k]'(by have := h.nf; omega) = [] := by
    intro k hk
    obtain ⟨b, off, cs, ha, hob, hc, rfl, hi, hf⟩ := h.at_ k hk
    have := hc 0 _ rfl
    exact ⟨b, off, ha, hob, by simpa [Rp.size] using this, hi, hf⟩
  refine ⟨⟨h.len, h.cap, fun x hx => ?_, fun k hk => ?_, h.lt, h.one⟩, ?_⟩
  · obtain ⟨k, hk, rfl⟩ := List.getElem_of_mem hx
    obtain ⟨_, _, _, _, _, hi, _⟩ := hE k hk
    exact hi
  · obtain ⟨b, off, ha, hob, hc, _⟩ := hE k hk
    exact ⟨b, off, ha, hob, hc⟩
  · have : fps = List.replicate fps.length [] := by
      apply List.ext_getElem (by simp)
      intro k h1 h2
      obtain ⟨_, _, _, _, _, _, hf⟩ := hE k (by have := h.nf; omega)
      simpa using hf
    rw [this]; exact flatten_nil _
theorem IntsA.seq (h : IntsA w a cap l fp) : SeqA w a cap l fp (List.replicate l.length []) := by
  refine ⟨h.len, h.cap, by simp, fun k hk => ?_, h.lt, h.one⟩
  obtain ⟨b, off, ha, hf, hc⟩ := h.at_ k hk
  refine ⟨b, off, [.int .i64 l[k]], ha, hf, fun j u hu => ?_, rfl, h.wf _ (List.getElem_mem _), by simp⟩
  cases j with
  | zero => simp at hu; subst hu; simpa [Rp.size] using hc
  | succ j => simp at hu
theorem IntsA.rd (h : IntsA w a cap l fp) : Rd w (.slice a l.length cap) l fp :=
  ⟨a, cap, fp, _, rfl, by rw [flatten_nil]; simp, h.seq⟩
theorem Rd.ints {v : Value} (h : Rd w v l fp) : ∃ a cap, v = .slice a l.length cap ∧ IntsA w a cap l fp := by
  obtain ⟨a, cap, ob, fps, rfl, rfl, hs⟩ := h.open_
  obtain ⟨h1, h2⟩ := hs.ints
  exact ⟨a, cap, rfl, by rw [h2]; simpa using h1⟩
theorem IntsA.nil (w : World) (a : Option Addr) {cap : Nat} (h : cap ≤ maxLen) : IntsA w a cap [] [] := ⟨Nat.zero_le _, h, by simp, by simp, by simp, by simp⟩
theorem IntsA.bound (h : IntsA w a cap l fp) : l.length ≤ 9223372036854775807 := by
  have h1 := h.len; have h2 := h.cap; unfold maxLen at h2; omega
theorem IntsA.frame (h : IntsA w a cap l fp) (hf : ∀ b ∈ fp, w'.heap[b]? = w.heap[b]?) : IntsA w' a cap l fp := by
  refine ⟨h.len, h.cap, h.wf, fun k hk => ?_, fun b hb => ?_, h.one⟩
  · obtain ⟨b, off, ha, hfp, hc⟩ := h.at_ k hk
    refine ⟨b, off, ha, hfp, ?_⟩
    rw [World.cell?_of_block (w := w) (hf b (by simp [hfp]))]
    exact hc
  · have := hf b hb
    rw [Array.getElem?_eq_getElem (h.lt b hb)] at this
    exact (Array.getElem?_eq_some_iff.1 this).1
theorem IntsA.only (h : IntsA w a cap l fp) {fp' : List Nat} (ho : Only fp' w w') (hd : ∀ b ∈ fp, b ∉ fp') : IntsA w' a cap l fp :=
  h.frame fun b hb => ho.block b (h.lt b hb) (hd b hb)
theorem IntsA.keep (h : IntsA w a cap l fp) (ho : Only [] w w') : IntsA w' a cap l fp := h.only ho (by simp)
end
open Classical in
/-- what the laws' 'eq' functions answer -/
noncomputable def eqV {α : Type} (x y : α) : Bool := decide (x = y)

theorem eqV_yes {α : Type} {x y : α} (h : x = y) : eqV x y = true := by unfold eqV; simp [h]
theorem eqV_no {α : Type} {x y : α} (h : x ≠ y) : eqV x y = false := by unfold eqV; simp [h]
theorem eqV_iff {α : Type} {x y : α} : eqV x y = true ↔ x = y := by unfold eqV; simp
theorem eqV_iff' {α : Type} {x y : α} : eqV x y = false ↔ x ≠ y := by unfold eqV; simp

section
theorem take_succ_get {β : Type} (l : List β) (j : Nat) (h : j < l.length) : l.take (j + 1) = l.take j ++ [l[j]] := by
  rw [List.take_succ_eq_append_getElem h]
end
end Go.Proofs.Ytpkplmnpepkdaaa

namespace Go.Proofs.Ytpkplmnpepkdaaa
open Go.RowKit
set_option maxRecDepth 10000
theorem eqL_len {α : Type} {l l' : List α} (h : ((l.length : Int) != (l'.length : Int)) = true) : eqV l l' = false := by
  apply eqV_no; rintro rfl; simp at h
theorem eqInts_no {l l' : List Int} {j : Nat} (h1 : j < l.length) (h2 : j < l'.length) (h : (l[j] != l'[j]) = true) : eqV l l' = false := by
  apply eqV_no; rintro rfl; simp at h
theorem eqL_yes {α : Type} {l l' : List α} {j : Nat} (hl : l.length = l'.length) (hj : ¬ j < l.length) (h : l.take j = l'.take j) : eqV l l' = true := by
  apply eqV_yes
  rw [List.take_of_length_le (by omega), List.take_of_length_le (by omega)] at h
  exact h
theorem eqInts_step {l l' : List Int} {j : Nat} (h1 : j < l.length) (h2 : j < l'.length) (h : (l[j] != l'[j]) = false) (hr : l.take j = l'.take j) : l.take (j + 1) = l'.take (j + 1) := by
  rw [take_succ_get l j h1, take_succ_get l' j h2, hr]
  simp at h; rw [h]
theorem Try.info2 : (Try.prog.info? 2).map (fun i => (i.zero, i.size, i.bytes)) = some (some (.int .i64 0), 1, 8) := by kernel_rfl
theorem madeInts (n : Nat) : (madeCells (Value.cells (.int .i64 0)) n).toList = List.replicate n (.int .i64 0) := by
  apply List.ext_getElem (by simp [madeCells])
  intro i h1 h2
  simp [madeCells, Value.cells, Nat.mod_one]
/-- a row of the call's own that holds int64s -/
theorem own_ints {w : World} {base : Nat} {e : TypeId} {v : Value} {n : Nat} {l : List Int} (h : w.ownsRow base e 1 v n (l.map (.int .i64))) (hl : ∀ x ∈ l, I64 x) :
    ∃ a cap, v = .slice a l.length cap ∧ n = l.length ∧ IntsA w a cap l v.ownBlock.toList ∧ Fresh base w v.ownBlock.toList := by
  obtain ⟨h1, h2⟩ := h
  have hn : n = l.length := by simpa using h1.symm
  subst hn
  rcases h2 with ⟨rfl, h0⟩ | ⟨g, cap, cur, rfl, hb, hg, hnc, hcm, hcs, htake⟩
  · have : l = [] := List.eq_nil_of_length_eq_zero h0
    subst this
    exact ⟨none, 0, rfl, rfl, IntsA.nil w none (by simp [maxLen]), Fresh.nil _ _⟩
  · refine ⟨some ⟨g, 0, none⟩, cap, rfl, rfl, ⟨hnc, hcm, hl, fun k hk => ⟨g, 0, rfl, rfl, ?_⟩, ?_, by simp [Value.ownBlock]⟩, ⟨by simp [Value.ownBlock], by simpa [Value.ownBlock] using hb, ?_⟩⟩
    · have hh : (l.map (Value.int .i64))[k]? = some (.int .i64 l[k]) := by simp [hk]
      rw [← htake, List.getElem?_take] at hh
      split at hh
      · rw [cell_of_row w g _ cur e (0, 0) hg]; simpa using hh
      · cases hh
    · intro b hb'
      simp [Value.ownBlock] at hb'; subst hb'
      exact (Array.getElem?_eq_some_iff.1 hg).1
    · intro b hb'
      simp [Value.ownBlock] at hb'; subst hb'
      exact ⟨_, _, hg⟩

end Go.Proofs.Ytpkplmnpepkdaaa


namespace Go.Proofs.Ytpkplmnpepkdaaa
open Go.RowKit
set_option maxRecDepth 10000
section
variable {α : Type} [Rp α] {w : World} {a : Option Addr} {cap : Nat} {xs : List (List α)} {ob : List Nat} {fps : List (List Nat)}
/-- an element of a slice of slices -/
theorem SeqA.atRow (h : SeqA w a cap xs ob fps) (k : Nat) (hk : k < xs.length) :
    ∃ b off v, a = some ⟨b, off, none⟩ ∧ ob = [b] ∧ w.cell? ⟨b, off + k, none⟩ = some v ∧ Rd w v xs[k] (fps[k]'(by rw [h.nf]; exact hk)) := by
  obtain ⟨b, off, cs, ha, hob, hc, hr⟩ := h.at_ k hk
  have hl := Rp.len hr
  match cs, hl with
  | [v], _ => exact ⟨b, off, v, ha, hob, by have := hc 0 v rfl; simpa [Rp.size] using this, hr⟩
end
theorem quiet_drewN {P : Program} {f : FuncId} {args : Array Value} {w : World} {a n : Nat} {v : Value}
    (h : Calls P f args (w.drewN (a + n)) fun e w' => e = .returned v ∧ Drew (w.drewN (a + n)) w') :
    Calls P f args (w.drewN (a + n)) fun e w'' => e = .returned v ∧ ∃ m, w'' = w.drewN (a + m) :=
  h.mono fun _ _ ⟨he, m, hm⟩ => ⟨he, n + m, by rw [hm, World.drewN_drewN, Nat.add_assoc]⟩



section
variable {α : Type} [Rp α] {w w' : World} {a : Option Addr} {cap : Nat} {xs : List α} {ob : List Nat} {fps : List (List Nat)}
theorem flatten_at {s : Nat} (css : List (List Value)) (h : ∀ c ∈ css, c.length = s) (k j : Nat) (hj : j < s) (hk : k < css.length) : css.flatten[k * s + j]? = (css[k])[j]? := by
  induction css generalizing k with
  | nil => simp at hk
  | cons c css ih =>
    have hc := h c (by simp)
    cases k with
    | zero => simp [List.getElem?_append, hc, hj]
    | succ k =>
      rw [List.flatten_cons, List.getElem?_append_right (by rw [hc, Nat.succ_mul]; omega)]
      have : (k + 1) * s + j - c.length = k * s + j := by rw [hc, Nat.succ_mul]; omega
      rw [this, ih (fun c' hc' => h c' (by simp [hc'])) k (by simpa using hk)]
      simp
/-- a row of the call's own whose elements read as xs -/
theorem own_seq {base : Nat} {e : TypeId} {v : Value} {n : Nat} {css : List (List Value)} (h : w.ownsRow base e (Rp.size α) v n css.flatten) (hs : 0 < Rp.size α)
    (hl : css.length = xs.length) (hf : fps.length = xs.length) (hr : ∀ k (h1 : k < css.length) (h2 : k < xs.length) (h3 : k < fps.length), Rp.rep w css[k] xs[k] fps[k]) :
    ∃ a cap, v = .slice a xs.length cap ∧ n = xs.length ∧ SeqA w a cap xs v.ownBlock.toList fps := by
  have hcl : ∀ c ∈ css, c.length = Rp.size α := by
    intro c hc
    obtain ⟨k, hk, rfl⟩ := List.getElem_of_mem hc
    exact Rp.len (hr k hk (by omega) (by omega))
  obtain ⟨h1, h2⟩ := h
  have hlen : css.flatten.length = css.length * Rp.size α := by
    clear h1 h2 hl hr
    induction css with
    | nil => simp
    | cons c css ih => rw [List.flatten_cons, List.length_append, hcl c (by simp), ih (fun c' hc' => hcl c' (by simp [hc'])), List.length_cons, Nat.succ_mul]; omega
  have hn : n = xs.length := by
    rw [hlen, hl] at h1
    exact (Nat.eq_of_mul_eq_mul_right hs h1).symm
  subst hn
  rcases h2 with ⟨rfl, h0⟩ | ⟨g, cp, cur, rfl, hb, hg, hnc, hcm, hcs, htake⟩
  · have : xs = [] := List.eq_nil_of_length_eq_zero h0
    subst this
    have : fps = [] := List.eq_nil_of_length_eq_zero hf
    subst this
    exact ⟨none, 0, rfl, rfl, SeqA.nil w none (by simp [maxLen])⟩
  · refine ⟨some ⟨g, 0, none⟩, cp, rfl, rfl, ⟨hnc, hcm, hf, fun k hk => ⟨g, 0, css[k], rfl, rfl, fun j u hu => ?_, hr k (by omega) hk (by omega)⟩, ?_, by simp [Value.ownBlock]⟩⟩
    · have hj : j < Rp.size α := by
        rw [← hcl _ (List.getElem_mem (by omega : k < css.length))]
        exact (List.getElem?_eq_some_iff.1 hu).1
      have hh := flatten_at css hcl k j hj (by omega)
      rw [hu, ← htake, List.getElem?_take] at hh
      split at hh
      · rw [cell_of_row w g _ cur e (0, 0) hg]
        simpa using hh
      · cases hh
    · intro b hb'
      simp [Value.ownBlock] at hb'; subst hb'
      exact (Array.getElem?_eq_some_iff.1 hg).1
theorem own_fresh {base : Nat} {e : TypeId} {size : Nat} {v : Value} {n : Nat} {cs : List Value} (h : w.ownsRow base e size v n cs) : Fresh base w v.ownBlock.toList := by
  rcases h.2 with ⟨rfl, h0⟩ | ⟨g, cp, cur, rfl, hb, hg, _⟩
  · exact Fresh.nil _ _
  · exact ⟨by simp [Value.ownBlock], by simpa [Value.ownBlock] using hb, by intro b hb'; simp [Value.ownBlock] at hb'; subst hb'; exact ⟨_, _, hg⟩⟩
end


theorem Try.info22 : (Try.prog.info? 27).map (fun i => (i.zero, i.size, i.bytes)) = some (some (.slice none 0 0), 1, 24) := by kernel_rfl
theorem owns_only {w w' : World} {base : Nat} {e : TypeId} {size : Nat} {v : Value} {n : Nat} {cs : List Value} {fp : List Nat} (h : w.ownsRow base e size v n cs) (ho : Only fp w w') (hn : ∀ g, v.ownBlock = some g → g ∉ fp) : w'.ownsRow base e size v n cs := by
  refine ⟨h.1, ?_⟩
  rcases h.2 with h0 | ⟨g, cp, cur, rfl, hb, hg, r⟩
  · exact .inl h0
  · exact .inr ⟨g, cp, cur, rfl, hb, by rw [ho.block g (Array.getElem?_eq_some_iff.1 hg).1 (hn g rfl)]; exact hg, r⟩
theorem owns_keep {w w' : World} {base : Nat} {e : TypeId} {size : Nat} {v : Value} {n : Nat} {cs : List Value} (h : w.ownsRow base e size v n cs) (ho : Only [] w w') : w'.ownsRow base e size v n cs :=
  owns_only h ho (by simp)

section
variable {α : Type} [Rp α] {w w' : World} {B : Nat} {vs : List Value} {xs : List α} {fps : List (List Nat)}
end
theorem Only.cells_eq {fp : List Nat} {w w' : World} (h : Only fp w w') (b : Nat) (hb : b < w.heap.size) (hn : b ∉ fp) : ∀ o, w'.cell? ⟨b, o, none⟩ = w.cell? ⟨b, o, none⟩ :=
  fun _ => World.cell?_of_block (h.block b hb hn)
end Go.Proofs.Ytpkplmnpepkdaaa


namespace Go.Proofs.Ytpkplmnpepkdaaa
open Go.RowKit
set_option maxRecDepth 10000

section
variable {P : Program} (w : World)
theorem run_app_none (base : Nat) (t ty e : TypeId) (i : TypeInfo) (size : Nat) (ht : P.underlying t = some (.slice e)) (hi : P.info? e = some i)
    (v : Value) (n : Nat) (xs : List Value) (hown : w.ownsRow base e size v n xs) (c : Nat) : (Builtin.append_ #[t, t] ty #[v, .slice none 0 c]).run P w = .ok v w := by
  rcases hown.2 with ⟨rfl, rfl⟩ | ⟨g, cap, cur, rfl, _, _, hnc, _⟩
  · simp [Builtin.append_, run_underlying ht, sizeOf, typeInfo, hi, Builtin.lenOf, Builtin.firstCells]
  · simp [Builtin.append_, run_underlying ht, sizeOf, typeInfo, hi, Builtin.lenOf, Builtin.firstCells, hnc, storeCells]

theorem run_app (base : Nat) (t ty e : TypeId) (i : TypeInfo) (z : Value) (size bytes : Nat) (ht : P.underlying t = some (.slice e)) (hi : P.info? e = some i) (hz : i.zero = some z)
    (hsize : i.size = size) (hby : i.bytes = bytes) (hzs : z.cells.size = size) (hsz : 0 < size)
    (v : Value) (n : Nat) (xs : List Value) (hown : w.ownsRow base e size v n xs)
    (A : Option Addr) (m c : Nat) (news : List Value) (hl : news.length = m * size) (hsrc : ∀ ad, A = some ad → ∀ j u, news[j]? = some u → w.cell? (ad.add j) = some u) (hA : A = none → m = 0) (h1 : ∀ u ∈ news, u.oneCell' = true)
    (h63 : n + m ≤ maxLen) (hbytes : (n + m) * bytes ≤ 140737488355328) (hbase : base ≤ w.heap.size) :
    ∃ v' w', (Builtin.append_ #[t, t] ty #[v, .slice A m c]).run P w = .ok v' w' ∧ w'.ownsRow base e size v' (n + m) (xs ++ news) ∧ w.grownBy w' v.ownBlock ∧
      (v'.ownBlock = v.ownBlock ∨ v'.ownBlock = some w.heap.size) := by
  rcases A with _ | ad
  · have hm := hA rfl
    subst hm
    have hn : news = [] := List.eq_nil_of_length_eq_zero (by simpa using hl)
    subst hn
    exact ⟨v, w, run_app_none w base t ty e i size ht hi v n xs hown c, by simpa using hown, ⟨rfl, rfl, rfl, Nat.le_refl _, fun _ _ _ => rfl⟩, .inl rfl⟩
  · obtain ⟨v', w', hrun, h2, h3, _, h5⟩ := run_append_own_at (P := P) w base t ty e i z size bytes ht hi hz hsize hby hzs hsz v n xs hown ad m c news hl (hsrc ad rfl) h1 h63 hbytes hbase
    exact ⟨v', w', hrun, h2, h3, h5⟩

theorem wp_app {o : Oper} {a : Act} {K : Act → World → Prop} {Q : Exit → Act → World → Prop} (s x : Operand) (t : TypeId)
    (ho : o.op = .call { callee := .builtin .append, args := #[s, x], argTypes := #[t, t] })
    (base : Nat) (e : TypeId) (i : TypeInfo) (z : Value) (size bytes : Nat) (ht : P.underlying t = some (.slice e)) (hi : P.info? e = some i) (hz : i.zero = some z)
    (hsize : i.size = size) (hby : i.bytes = bytes) (hzs : z.cells.size = size) (hsz : 0 < size)
    (v : Value) (n : Nat) (xs : List Value) (hs : a.eval s = v) (hown : w.ownsRow base e size v n xs)
    (A : Option Addr) (m c : Nat) (news : List Value) (hx : a.eval x = .slice A m c) (hl : news.length = m * size) (hsrc : ∀ ad, A = some ad → ∀ j u, news[j]? = some u → w.cell? (ad.add j) = some u) (hA : A = none → m = 0) (h1 : ∀ u ∈ news, u.oneCell' = true)
    (h63 : n + m ≤ maxLen) (hbytes : (n + m) * bytes ≤ 140737488355328) (hbase : base ≤ w.heap.size)
    (h : ∀ v' w', w'.ownsRow base e size v' (n + m) (xs ++ news) → w.grownBy w' v.ownBlock → (v'.ownBlock = v.ownBlock ∨ v'.ownBlock = some w.heap.size) → K (a.put o.dst v') w') : o.wp P a w K Q := by
  obtain ⟨v', w', hrun, h2, h3, h4⟩ := run_app (P := P) w base t o.type e i z size bytes ht hi hz hsize hby hzs hsz v n xs hown A m c news hl hsrc hA h1 h63 hbytes hbase
  unfold Oper.wp execOp
  simp only [ho, resolve, invoke, builtin, Sem.run_bind, Sem.run_pure, Result.andThen_ok, List.map_toArray, List.map_cons, List.map_nil, hs, hx, hrun]
  exact h v' w' h2 h3 h4

theorem wpList_app {ops : Array Oper} {rest : List Oper} {o : Oper} {a : Act} {Q : Exit → Act → World → Prop} (hgd : o.guard = none) (s x : Operand) (t : TypeId)
    (ho : o.op = .call { callee := .builtin .append, args := #[s, x], argTypes := #[t, t] })
    (base : Nat) (e : TypeId) (i : TypeInfo) (z : Value) (size bytes : Nat) (ht : P.underlying t = some (.slice e)) (hi : P.info? e = some i) (hz : i.zero = some z)
    (hsize : i.size = size) (hby : i.bytes = bytes) (hzs : z.cells.size = size) (hsz : 0 < size)
    (v : Value) (n : Nat) (xs : List Value) (hs : a.eval s = v) (hown : w.ownsRow base e size v n xs)
    (A : Option Addr) (m c : Nat) (news : List Value) (hx : a.eval x = .slice A m c) (hl : news.length = m * size) (hsrc : ∀ ad, A = some ad → ∀ j u, news[j]? = some u → w.cell? (ad.add j) = some u) (hA : A = none → m = 0) (h1 : ∀ u ∈ news, u.oneCell' = true)
    (h63 : n + m ≤ maxLen) (hbytes : (n + m) * bytes ≤ 140737488355328) (hbase : base ≤ w.heap.size)
    (h : ∀ v' w', w'.ownsRow base e size v' (n + m) (xs ++ news) → w.grownBy w' v.ownBlock → (v'.ownBlock = v.ownBlock ∨ v'.ownBlock = some w.heap.size) → wpList P ops Q rest (a.put o.dst v') w') : wpList P ops Q (o :: rest) a w :=
  wpList_plain hgd fun _ hK => wp_app w s x t ho base e i z size bytes ht hi hz hsize hby hzs hsz v n xs hs hown A m c news hx hl hsrc hA h1 h63 hbytes hbase fun v' w' h2 h3 h4 => hK _ _ (h v' w' h2 h3 h4)
end

/-- the source of an append: a slice of int64s -/
theorem ints_src {w : World} {a : Option Addr} {cap : Nat} {l : List Int} {fp : List Nat} (h : IntsA w a cap l fp) :
    (∀ ad, a = some ad → ∀ j u, (l.map (Value.int .i64))[j]? = some u → w.cell? (ad.add j) = some u) ∧ (a = none → l.length = 0) := by
  constructor
  · intro ad ha j u hu
    have hj : j < l.length := by
      have := (List.getElem?_eq_some_iff.1 hu).1; simpa using this
    obtain ⟨b, off, ha', -, hc⟩ := h.at_ j hj
    rw [ha] at ha'; injection ha' with ha'; subst ha'
    have hadd : (⟨b, off, none⟩ : Addr).add j = ⟨b, off + j, none⟩ := by unfold Addr.add; split <;> simp_all
    rw [hadd, hc]
    simpa [hj] using hu
  · intro ha
    rcases Nat.eq_zero_or_pos l.length with h0 | h0
    · exact h0
    · obtain ⟨b, off, ha', -, -⟩ := h.at_ 0 h0
      rw [ha] at ha'; cases ha'
theorem ints_one (l : List Int) : ∀ u ∈ l.map (Value.int .i64), u.oneCell' = true := by
  intro u hu
  obtain ⟨x, -, rfl⟩ := List.mem_map.1 hu
  rfl

set_option maxHeartbeats 400000 in
theorem copyInts_rd (v : Value) (l : List Int) (fp : List Nat) (w : World) (h : Rd w v l fp) (hl : l.length ≤ 1073741824) :
    Calls Try.prog 15 #[v] w fun e w' => ∃ v fp', e = .returned v ∧ Rd w' v l fp' ∧ Fresh w.heap.size w' fp' ∧ Only [] w w' := by
  obtain ⟨a, cap, rfl, hI⟩ := h.ints
  obtain ⟨i0, hi, hz0, hz1, hz2⟩ := info_parts Try.info2
  obtain ⟨q1, q2⟩ := ints_src (hI.keep ((Only.refl _ w).alloc (.cells #[] 2)))
  go_enter Try.func15, Try.ntmps15
  go_wp2_with (at_builtin; refine wpList_app _ rfl _ _ 27 rfl w.heap.size 2 i0 _ 1 8 Try.underlying27 hi hz0 hz1 hz2 rfl (by omega) (.slice (some ⟨w.heap.size, 0, none⟩) 0 0) 0 [] rfl (World.ownsRow_made w #[] 0 (Nat.le_refl _) (by unfold maxLen; omega) rfl) a l.length cap (l.map (Value.int .i64)) rfl (by simp) q1 q2 (ints_one l) (by unfold maxLen; omega) (by omega) (by simp) ?_; intro v1 w1 hO hg hb)
  rw [Nat.zero_add, List.nil_append] at hO
  obtain ⟨a', cap', hv, -, hI', hF⟩ := own_ints hO hI.wf
  have Hv := Lib.hid hv
  have hK : Only [] w w1 := ((Only.refl _ _).alloc _).grown hg (by simp [Value.ownBlock])
  clear hO hg hb hv q1 q2
  go_wp2
  go_ret
  refine ⟨_, _, rfl, ?_, hF, hK⟩
  have hr := hI'.rd
  rw [← Hv.out] at hr; exact hr

/-- the index of the first element that a function likes, -1 if there is none -/
def idxF {α : Type} (pr : α → Bool) (l : List α) : Int := match l.findIdx? pr with
  | some i => i
  | none => -1
theorem idxF_some {α : Type} {pr : α → Bool} {l : List α} {j : Nat} (hj : j < l.length) (h : ∀ x ∈ l.take j, pr x = false) (hp : pr l[j] = true) : idxF pr l = j := by
  have : l.findIdx? pr = some j := by
    rw [List.findIdx?_eq_some_iff_getElem]
    refine ⟨hj, hp, fun i hi => ?_⟩
    have := h l[i] (by rw [List.mem_take_iff_getElem]; exact ⟨i, by omega, rfl⟩)
    simp [this]
  unfold idxF; rw [this]
theorem idxF_none {α : Type} {pr : α → Bool} {l : List α} (h : ∀ x ∈ l, pr x = false) : idxF pr l = -1 := by
  have : l.findIdx? pr = none := by
    rw [List.findIdx?_eq_none_iff]; intro x hx; simp [h x hx]
  unfold idxF; rw [this]
theorem idxF_ge {α : Type} {pr : α → Bool} {l : List α} : decide (0 ≤ idxF pr l) = l.any pr := by
  unfold idxF
  cases h : l.findIdx? pr with
  | some i =>
    have hh := (List.findIdx?_eq_some_iff_getElem.1 h)
    obtain ⟨hi, hp, -⟩ := hh
    have : l.any pr = true := List.any_eq_true.2 ⟨_, List.getElem_mem hi, hp⟩
    rw [this]; simp
  | none =>
    rw [List.findIdx?_eq_none_iff] at h
    have : l.any pr = false := by rw [List.any_eq_false]; intro x hx; simp [h x hx]
    rw [this]; simp

end Go.Proofs.Ytpkplmnpepkdaaa


namespace Go.Proofs.Ytpkplmnpepkdaaa
open Go.RowKit
set_option maxRecDepth 10000

/-- v is a slice of the call's own (its block, if any, from B on); its elements read as l, what they reach is fs; the slice's own block is none of that -/
structure Acc {α : Type} [Rp α] (B : Nat) (e : TypeId) (w : World) (v : Value) (l : List α) (fs : List (List Nat)) : Prop where
  own : ∃ css : List (List Value), w.ownsRow B e (Rp.size α) v l.length css.flatten ∧ css.length = l.length ∧ ∀ k (h1 : k < css.length) (h2 : k < l.length) (h3 : k < fs.length), Rp.rep w css[k] l[k] fs[k]
  fl : fs.length = l.length
  apart : ∀ g, v.ownBlock = some g → g ∉ fs.flatten

section
variable {α : Type} [Rp α] {w w' : World} {B : Nat} {e : TypeId} {v : Value} {l : List α} {fs : List (List Nat)}
theorem Acc.nil (w : World) (B : Nat) (e : TypeId) : Acc B e w (.slice none 0 0) ([] : List α) [] :=
  ⟨⟨[], World.ownsRow_nil w B e _, rfl, by simp⟩, rfl, by simp⟩
theorem Acc.made (w : World) (B : Nat) (e : TypeId) {g : Nat} (hg : g = w.heap.size) (hB : B ≤ g) : Acc B e (w.alloc (.cells #[] e)) (.slice (some ⟨g, 0, none⟩) 0 0) ([] : List α) [] := by
  subst hg
  exact ⟨⟨[], World.ownsRow_made w #[] 0 hB (by unfold maxLen; omega) (by simp), rfl, by simp⟩, rfl, by simp⟩
theorem Acc.lt (h : Acc B e w v l fs) : ∀ b ∈ fs.flatten, b < w.heap.size := by
  intro b hb
  obtain ⟨f, hf, hb⟩ := List.mem_flatten.1 hb
  obtain ⟨k, hk, rfl⟩ := List.getElem_of_mem hf
  obtain ⟨css, -, hcl, hr⟩ := h.own
  have := h.fl
  exact Rp.lt (hr k (by omega) (by omega) hk) b hb
theorem Acc.ownlt (h : Acc B e w v l fs) : ∀ g, v.ownBlock = some g → B ≤ g ∧ g < w.heap.size := by
  obtain ⟨css, ho, -, -⟩ := h.own
  exact ho.lt
theorem Acc.only {fp : List Nat} (h : Acc B e w v l fs) (ho : Only fp w w') (hd : ∀ b ∈ fs.flatten, b ∉ fp) (hv : ∀ g, v.ownBlock = some g → g ∉ fp) : Acc B e w' v l fs := by
  obtain ⟨css, hr, hcl, hre⟩ := h.own
  refine ⟨⟨css, ?_, hcl, fun k h1 h2 h3 => Rp.only (hre k h1 h2 h3) ho fun b hb hm => hd b (List.mem_flatten.2 ⟨_, List.getElem_mem _, hb⟩) hm⟩, h.fl, h.apart⟩
  refine ⟨hr.1, ?_⟩
  rcases hr.2 with ⟨rfl, h0⟩ | ⟨g, cp, cur, rfl, hb, hg, hrest⟩
  · exact .inl ⟨rfl, h0⟩
  · exact .inr ⟨g, cp, cur, rfl, hb, by rw [ho.block g (Array.getElem?_eq_some_iff.1 hg).1 (hv g rfl)]; exact hg, hrest⟩
theorem Acc.keep (h : Acc B e w v l fs) (ho : Only [] w w') : Acc B e w' v l fs := h.only ho (by simp) (by simp)
theorem Acc.form (h : Acc B e w v l fs) : ∃ a c, v = .slice a l.length c := by
  obtain ⟨css, ho, -, -⟩ := h.own
  rcases ho.2 with ⟨rfl, h0⟩ | ⟨g, cp, cur, rfl, -⟩
  · exact ⟨none, 0, by rw [h0]⟩
  · exact ⟨_, _, rfl⟩
theorem Acc.rd (h : Acc B e w v l fs) (hs : 0 < Rp.size α) : Rd w v l (v.ownBlock.toList ++ fs.flatten) := by
  obtain ⟨css, ho, hcl, hr⟩ := h.own
  obtain ⟨a, c, hv, -, hI⟩ := own_seq (xs := l) (fps := fs) ho hs hcl h.fl hr
  have := hI.rd
  rw [← hv] at this; exact this
theorem Acc.fresh (h : Acc B e w v l fs) (hf : Fresh B w fs.flatten) : Fresh B w (v.ownBlock.toList ++ fs.flatten) := by
  obtain ⟨css, ho, -, -⟩ := h.own
  have h1 := own_fresh ho
  refine ⟨List.nodup_append.2 ⟨h1.nd, hf.nd, fun a ha b hb hab => ?_⟩, fun b hb => ?_, h1.own.append hf.own⟩
  · subst hab
    have : v.ownBlock = some a := by simpa using ha
    exact h.apart a this hb
  · rcases List.mem_append.1 hb with hb | hb
    · exact h1.ge b hb
    · exact hf.ge b hb
end

/-- the cells of a literal -/
theorem lit_src (w : World) (cs : List Value) (e : TypeId) {g : Nat} (hg : g = w.heap.size) : ∀ j u, cs[j]? = some u → (w.alloc (.cells cs.toArray e)).cell? ⟨g, j, none⟩ = some u := by
  subst hg
  intro j u hu
  rw [cell_of_row _ _ _ _ _ _ (heap_alloc_new w _)]
  simpa using hu

section
variable {P : Program} {α : Type} [Rp α] {ops : Array Oper} {rest : List Oper} {o : Oper} {a : Act} {w : World} {Q : Exit → Act → World → Prop} {K : Act → World → Prop}
/-- append(v, y), y one element -/
theorem wp_push (s x : Operand) (t : TypeId)
    (ho : o.op = .call { callee := .builtin .append, args := #[s, x], argTypes := #[t, t] })
    (B : Nat) (e : TypeId) (i : TypeInfo) (z : Value) (bytes : Nat) (ht : P.underlying t = some (.slice e)) (hi : P.info? e = some i) (hz : i.zero = some z)
    (hsize : i.size = Rp.size α) (hby : i.bytes = bytes) (hzs : z.cells.size = Rp.size α) (hsz : 0 < Rp.size α) (hbb : bytes ≤ 65536)
    (w0 : World) (v : Value) (l : List α) (fs : List (List Nat)) (hs : a.eval s = v) (hA : Acc B e w0 v l fs) (hK0 : Only [] w0 w) (hB : B ≤ w0.heap.size)
    (g c : Nat) (cs : List Value) (y : α) (fp : List Nat) (hx : a.eval x = .slice (some ⟨g, 0, none⟩) 1 c) (hsrc : ∀ j u, cs[j]? = some u → w.cell? ⟨g, j, none⟩ = some u) (hcs : ∀ u ∈ cs, u.oneCell' = true)
    (hy : Rp.rep w cs y fp) (hap : ∀ b ∈ fp, v.ownBlock ≠ some b) (hlen : l.length + 1 ≤ 1073741824)
    (h : ∀ v' w', Acc B e w' v' (l ++ [y]) (fs ++ [fp]) → Only v.ownBlock.toList w w' → (∀ wz, Only [] wz w → wz.heap.size ≤ B → Only [] wz w') →
      (Fresh B w0 fs.flatten → Fresh w0.heap.size w fp → Fresh B w' (fs ++ [fp]).flatten) → K (a.put o.dst v') w') : o.wp P a w K Q := by
  obtain ⟨css, hown, hcl, hre⟩ := (hA.keep hK0).own
  have hcsl : cs.length = 1 * Rp.size α := by rw [Nat.one_mul]; exact Rp.len hy
  have hfl := hA.fl
  have hbytes : (l.length + 1) * bytes ≤ 140737488355328 := by
    have := Nat.mul_le_mul hlen hbb; omega
  refine wp_app w s x t ho B e i z (Rp.size α) bytes ht hi hz hsize hby hzs hsz v l.length css.flatten hs hown (some ⟨g, 0, none⟩) 1 c cs hx hcsl ?_ (by simp) hcs (by unfold maxLen; omega) hbytes (Nat.le_trans hB hK0.size) ?_
  · intro ad had j u hu
    injection had with had; subst had
    have hadd : (⟨g, 0, none⟩ : Addr).add j = ⟨g, j, none⟩ := by unfold Addr.add; split <;> simp_all
    rw [hadd]; exact hsrc j u hu
  intro v' w' hO hg hb
  have hW : Only v.ownBlock.toList w w' := (Only.refl _ _).grown hg (by intro k hk _; simp [hk])
  have hlt := (hA.keep hK0).lt
  have hap' : ∀ b ∈ fp, b ∉ v.ownBlock.toList := fun b hb hm => hap b hb (by simpa using hm)
  have hfs : ∀ b ∈ fs.flatten, b ∉ v.ownBlock.toList := fun b hb hm => hA.apart b (by simpa using hm) hb
  refine h v' w' ⟨⟨css ++ [cs], ?_, by simp [hcl], fun k h1 h2 h3 => ?_⟩, by simp [hfl], ?_⟩ hW ?_ ?_
  · rw [List.length_append, List.flatten_append]; simpa using hO
  · by_cases hk : k < l.length
    · rw [List.getElem_append_left (by rw [hcl]; exact hk), List.getElem_append_left hk, List.getElem_append_left (by rw [hfl]; exact hk)]
      exact Rp.only (hre k (by omega) hk (by omega)) hW fun b hb => hfs b (List.mem_flatten.2 ⟨_, List.getElem_mem _, hb⟩)
    · have : k = l.length := by simp at h2; omega
      subst this
      rw [List.getElem_append_right (by rw [hcl]; omega), List.getElem_append_right (by omega), List.getElem_append_right (by rw [hfl]; omega)]
      simpa [hcl, hfl] using Rp.only hy hW hap'
  · intro g' hg' hm
    rw [List.flatten_append] at hm
    simp only [List.flatten_cons, List.flatten_nil, List.append_nil] at hm
    rcases hb with hb | hb
    · rw [hb] at hg'
      rcases List.mem_append.1 hm with hm | hm
      · exact hA.apart g' hg' hm
      · exact hap g' hm hg'
    · rw [hb] at hg'; injection hg' with hg'; subst hg'
      rcases List.mem_append.1 hm with hm | hm
      · exact absurd (hlt _ hm) (by omega)
      · exact absurd (Rp.lt hy _ hm) (by omega)
  · intro wz hz hzB
    refine hz.then_ hW fun b hm hb => ?_
    have hm' : v.ownBlock = some b := by simpa using hm
    have := (hA.ownlt b hm').1
    omega
  · intro hF hFy
    rw [List.flatten_append]
    simp only [List.flatten_cons, List.flatten_nil, List.append_nil]
    have hF' := (hF.keep hK0)
    refine ((Fresh.append hF' hFy hB fun b hb => hF.lt b hb)).only hW fun b hm => ?_
    rcases List.mem_append.1 hm with hm | hm
    · exact hfs b hm
    · exact hap' b hm
/-- the same where y was made behind w0 -/
theorem wp_pushF (s x : Operand) (t : TypeId)
    (ho : o.op = .call { callee := .builtin .append, args := #[s, x], argTypes := #[t, t] })
    (B : Nat) (e : TypeId) (i : TypeInfo) (z : Value) (bytes : Nat) (ht : P.underlying t = some (.slice e)) (hi : P.info? e = some i) (hz : i.zero = some z)
    (hsize : i.size = Rp.size α) (hby : i.bytes = bytes) (hzs : z.cells.size = Rp.size α) (hsz : 0 < Rp.size α) (hbb : bytes ≤ 65536)
    (w0 : World) (v : Value) (l : List α) (fs : List (List Nat)) (hs : a.eval s = v) (hA : Acc B e w0 v l fs) (hF : Fresh B w0 fs.flatten) (hK0 : Only [] w0 w) (hB : B ≤ w0.heap.size)
    (g c : Nat) (cs : List Value) (y : α) (fp : List Nat) (hx : a.eval x = .slice (some ⟨g, 0, none⟩) 1 c) (hsrc : ∀ j u, cs[j]? = some u → w.cell? ⟨g, j, none⟩ = some u) (hcs : ∀ u ∈ cs, u.oneCell' = true)
    (hy : Rp.rep w cs y fp) (hFy : Fresh w0.heap.size w fp) (hlen : l.length + 1 ≤ 1073741824) (wz : World) (hz0 : Only [] wz w) (hzB : wz.heap.size ≤ B)
    (h : ∀ v' w', Acc B e w' v' (l ++ [y]) (fs ++ [fp]) → Fresh B w' (fs ++ [fp]).flatten → Only [] wz w' → Only v.ownBlock.toList w w' → K (a.put o.dst v') w') : o.wp P a w K Q :=
  wp_push s x t ho B e i z bytes ht hi hz hsize hby hzs hsz hbb w0 v l fs hs hA hK0 hB g c cs y fp hx hsrc hcs hy
    (fun b hb hv => by have := (hA.ownlt b hv).2; have := hFy.ge b hb; omega) hlen fun v' w' h1 h2 h3 h4 => h v' w' h1 (h4 hF hFy) (h3 wz hz0 hzB) h2
theorem wpList_pushF (hgd : o.guard = none) (s x : Operand) (t : TypeId)
    (ho : o.op = .call { callee := .builtin .append, args := #[s, x], argTypes := #[t, t] })
    (B : Nat) (e : TypeId) (i : TypeInfo) (z : Value) (bytes : Nat) (ht : P.underlying t = some (.slice e)) (hi : P.info? e = some i) (hz : i.zero = some z)
    (hsize : i.size = Rp.size α) (hby : i.bytes = bytes) (hzs : z.cells.size = Rp.size α) (hsz : 0 < Rp.size α) (hbb : bytes ≤ 65536)
    (w0 : World) (v : Value) (l : List α) (fs : List (List Nat)) (hs : a.eval s = v) (hA : Acc B e w0 v l fs) (hF : Fresh B w0 fs.flatten) (hK0 : Only [] w0 w) (hB : B ≤ w0.heap.size)
    (g c : Nat) (cs : List Value) (y : α) (fp : List Nat) (hx : a.eval x = .slice (some ⟨g, 0, none⟩) 1 c) (hsrc : ∀ j u, cs[j]? = some u → w.cell? ⟨g, j, none⟩ = some u) (hcs : ∀ u ∈ cs, u.oneCell' = true)
    (hy : Rp.rep w cs y fp) (hFy : Fresh w0.heap.size w fp) (hlen : l.length + 1 ≤ 1073741824) (wz : World) (hz0 : Only [] wz w) (hzB : wz.heap.size ≤ B)
    (h : ∀ v' w', Acc B e w' v' (l ++ [y]) (fs ++ [fp]) → Fresh B w' (fs ++ [fp]).flatten → Only [] wz w' → Only v.ownBlock.toList w w' → wpList P ops Q rest (a.put o.dst v') w') : wpList P ops Q (o :: rest) a w :=
  wpList_plain hgd fun _ hK => wp_pushF s x t ho B e i z bytes ht hi hz hsize hby hzs hsz hbb w0 v l fs hs hA hF hK0 hB g c cs y fp hx hsrc hcs hy hFy hlen wz hz0 hzB fun v' w' h1 h2 h3 h4 => hK _ _ (h v' w' h1 h2 h3 h4)
end
end Go.Proofs.Ytpkplmnpepkdaaa

namespace Go.Proofs.Ytpkplmnpepkdaaa
open Go.RowKit
set_option maxRecDepth 10000

section
variable {P : Program} {α : Type} [Rp α] {ops : Array Oper} {rest : List Oper} {o : Oper} {a : Act} {w : World} {Q : Exit → Act → World → Prop} {K : Act → World → Prop}
/-- append(v, y), y one element -/
theorem wp_push2 (s x : Operand) (t : TypeId)
    (ho : o.op = .call { callee := .builtin .append, args := #[s, x], argTypes := #[t, t] })
    (B : Nat) (e : TypeId) (i : TypeInfo) (z : Value) (bytes : Nat) (ht : P.underlying t = some (.slice e)) (hi : P.info? e = some i) (hz : i.zero = some z)
    (hsize : i.size = Rp.size α) (hby : i.bytes = bytes) (hzs : z.cells.size = Rp.size α) (hsz : 0 < Rp.size α) (hbb : bytes ≤ 65536)
    (w0 : World) (v : Value) (l : List α) (fs : List (List Nat)) (hs : a.eval s = v) (hA : Acc B e w0 v l fs) (hK0 : Only [] w0 w) (hB : B ≤ w0.heap.size)
    (g c : Nat) (cs : List Value) (y : α) (fp : List Nat) (hx : a.eval x = .slice (some ⟨g, 0, none⟩) 1 c) (hsrc : ∀ j u, cs[j]? = some u → w.cell? ⟨g, j, none⟩ = some u) (hcs : ∀ u ∈ cs, u.oneCell' = true)
    (hy : Rp.rep w cs y fp) (hap : ∀ b ∈ fp, v.ownBlock ≠ some b) (hlen : l.length + 1 ≤ 1073741824)
    (h : ∀ v' w', Acc B e w' v' (l ++ [y]) (fs ++ [fp]) → Only v.ownBlock.toList w w' → (∀ wz, Only [] wz w → wz.heap.size ≤ B → Only [] wz w') →
      (Fresh B w0 fs.flatten → Fresh w0.heap.size w fp → Fresh B w' (fs ++ [fp]).flatten) → (v'.ownBlock = v.ownBlock ∨ v'.ownBlock = some w.heap.size) → K (a.put o.dst v') w') : o.wp P a w K Q := by
  obtain ⟨css, hown, hcl, hre⟩ := (hA.keep hK0).own
  have hcsl : cs.length = 1 * Rp.size α := by rw [Nat.one_mul]; exact Rp.len hy
  have hfl := hA.fl
  have hbytes : (l.length + 1) * bytes ≤ 140737488355328 := by
    have := Nat.mul_le_mul hlen hbb; omega
  refine wp_app w s x t ho B e i z (Rp.size α) bytes ht hi hz hsize hby hzs hsz v l.length css.flatten hs hown (some ⟨g, 0, none⟩) 1 c cs hx hcsl ?_ (by simp) hcs (by unfold maxLen; omega) hbytes (Nat.le_trans hB hK0.size) ?_
  · intro ad had j u hu
    injection had with had; subst had
    have hadd : (⟨g, 0, none⟩ : Addr).add j = ⟨g, j, none⟩ := by unfold Addr.add; split <;> simp_all
    rw [hadd]; exact hsrc j u hu
  intro v' w' hO hg hb
  have hW : Only v.ownBlock.toList w w' := (Only.refl _ _).grown hg (by intro k hk _; simp [hk])
  have hlt := (hA.keep hK0).lt
  have hap' : ∀ b ∈ fp, b ∉ v.ownBlock.toList := fun b hb hm => hap b hb (by simpa using hm)
  have hfs : ∀ b ∈ fs.flatten, b ∉ v.ownBlock.toList := fun b hb hm => hA.apart b (by simpa using hm) hb
  refine h v' w' ⟨⟨css ++ [cs], ?_, by simp [hcl], fun k h1 h2 h3 => ?_⟩, by simp [hfl], ?_⟩ hW ?_ ?_ hb
  · rw [List.length_append, List.flatten_append]; simpa using hO
  · by_cases hk : k < l.length
    · rw [List.getElem_append_left (by rw [hcl]; exact hk), List.getElem_append_left hk, List.getElem_append_left (by rw [hfl]; exact hk)]
      exact Rp.only (hre k (by omega) hk (by omega)) hW fun b hb => hfs b (List.mem_flatten.2 ⟨_, List.getElem_mem _, hb⟩)
    · have : k = l.length := by simp at h2; omega
      subst this
      rw [List.getElem_append_right (by rw [hcl]; omega), List.getElem_append_right (by omega), List.getElem_append_right (by rw [hfl]; omega)]
      simpa [hcl, hfl] using Rp.only hy hW hap'
  · intro g' hg' hm
    rw [List.flatten_append] at hm
    simp only [List.flatten_cons, List.flatten_nil, List.append_nil] at hm
    rcases hb with hb | hb
    · rw [hb] at hg'
      rcases List.mem_append.1 hm with hm | hm
      · exact hA.apart g' hg' hm
      · exact hap g' hm hg'
    · rw [hb] at hg'; injection hg' with hg'; subst hg'
      rcases List.mem_append.1 hm with hm | hm
      · exact absurd (hlt _ hm) (by omega)
      · exact absurd (Rp.lt hy _ hm) (by omega)
  · intro wz hz hzB
    refine hz.then_ hW fun b hm hb => ?_
    have hm' : v.ownBlock = some b := by simpa using hm
    have := (hA.ownlt b hm').1
    omega
  · intro hF hFy
    rw [List.flatten_append]
    simp only [List.flatten_cons, List.flatten_nil, List.append_nil]
    have hF' := (hF.keep hK0)
    refine ((Fresh.append hF' hFy hB fun b hb => hF.lt b hb)).only hW fun b hm => ?_
    rcases List.mem_append.1 hm with hm | hm
    · exact hfs b hm
    · exact hap' b hm
end

/-- the appended slice v reads as l; the blocks of G (of the call's own) are as in the world W; nothing older than w0 was written -/
def AccK {α : Type} [Rp α] (w0 : World) (B : Nat) (e : TypeId) (G : List Nat) (W wx : World) (v : Value) (l : List α) : Prop :=
  ∃ fs, Acc B e wx v l fs ∧ Fresh B wx fs.flatten ∧ Only [] w0 wx ∧ (∀ b ∈ G, wx.heap[b]? = W.heap[b]?) ∧ (∀ b ∈ G, b < wx.heap.size) ∧ (∀ b ∈ G, b ∉ v.ownBlock.toList)

section
variable {α : Type} [Rp α] {w0 W wx wy : World} {B : Nat} {e : TypeId} {G : List Nat} {v : Value} {l : List α}
theorem AccK.only (h : AccK w0 B e G W wx v l) : Only [] w0 wx := by
  obtain ⟨fs, a, b, c, d, f, g⟩ := h
  exact c
theorem AccK.rd (h : AccK w0 B e G W wx v l) (hs : 0 < Rp.size α) : ∃ fp, Rd wx v l fp ∧ Fresh B wx fp := by
  obtain ⟨fs, a, b, c, d, f, g⟩ := h
  exact ⟨_, a.rd hs, a.fresh b⟩
theorem AccK.form (h : AccK w0 B e G W wx v l) : ∃ a c, v = .slice a l.length c := by
  obtain ⟨fs, a, b, c, d, f, g⟩ := h
  exact a.form
end

section
variable {P : Program} {α : Type} [Rp α] {ops : Array Oper} {rest : List Oper} {o : Oper} {a : Act} {w : World} {Q : Exit → Act → World → Prop} {K : Act → World → Prop}
end
end Go.Proofs.Ytpkplmnpepkdaaa

namespace Go.Proofs.Ytpkplmnpepkdaaa
open Go.RowKit
set_option maxRecDepth 10000


theorem nil_rd {α : Type} [Rp α] (w : World) : Rd w (.slice none 0 0) ([] : List α) [] := ⟨none, 0, [], [], rfl, rfl, SeqA.nil w none (by simp [maxLen])⟩
theorem int_rd {n : Int} (w : World) (h : I64 n) : Rd w (.int .i64 n) n [] := ⟨rfl, h, rfl⟩
end Go.Proofs.Ytpkplmnpepkdaaa

namespace PM

section
variable {α : Type} [DecidableEq α]
theorem nodup_sub_len : ∀ {l1 l2 : List α}, l1.Nodup → l1 ⊆ l2 → l1.length ≤ l2.length := by
  intro l1
  induction l1 with
  | nil => intro l2 _ _; simp
  | cons a t ih =>
    intro l2 hn hs
    obtain ⟨ha, ht⟩ := List.nodup_cons.1 hn
    have ham : a ∈ l2 := hs (by simp)
    have h1 : t ⊆ l2.erase a := by
      intro x hx
      refine (List.mem_erase_of_ne ?_).2 (hs (by simp [hx]))
      intro e; subst e; exact ha hx
    have h2 := ih ht h1
    have h3 := List.length_erase_of_mem ham
    have h4 : 0 < l2.length := List.length_pos_of_mem ham
    simp only [List.length_cons]
    omega
/-- a list without repetitions that lies within a list no longer has all of it -/
theorem nodup_sub_all {l1 l2 : List α} (hn : l1.Nodup) (hs : l1 ⊆ l2) (hl : l2.length ≤ l1.length) : l2 ⊆ l1 := by
  intro x hx
  apply Classical.byContradiction
  intro hxn
  have h := nodup_sub_len (List.nodup_cons.2 ⟨hxn, hn⟩) (l2 := l2) (by
    intro y hy
    rcases List.mem_cons.1 hy with rfl | hy
    · exact hx
    · exact hs hy)
  simp at h
  omega
/-- a list that has all of a list without repetitions, and is no longer, has no repetition -/
theorem nodup_of_all : ∀ {l1 l2 : List α}, l1.Nodup → l1 ⊆ l2 → l2.length ≤ l1.length → l2.Nodup := by
  intro l1
  induction l1 with
  | nil =>
    intro l2 _ _ hl
    have : l2 = [] := List.eq_nil_of_length_eq_zero (by simpa using hl)
    subst this; exact List.nodup_nil
  | cons a t ih =>
    intro l2 hn hs hl
    obtain ⟨ha, ht⟩ := List.nodup_cons.1 hn
    have ham : a ∈ l2 := hs (by simp)
    have h1 : t ⊆ l2.erase a := by
      intro x hx
      refine (List.mem_erase_of_ne ?_).2 (hs (by simp [hx]))
      intro e; subst e; exact ha hx
    have h3 := List.length_erase_of_mem ham
    have h4 : 0 < l2.length := List.length_pos_of_mem ham
    simp only [List.length_cons] at hl
    have h5 := ih ht h1 (by omega)
    have h6 : a ∉ l2.erase a := by
      intro hm
      have := nodup_sub_len hn (l2 := l2.erase a) (by
        intro y hy
        rcases List.mem_cons.1 hy with rfl | hy
        · exact hm
        · exact h1 hy)
      simp at this
      omega
    exact (List.perm_cons_erase ham).nodup_iff.2 (List.nodup_cons.2 ⟨h6, h5⟩)
end

/-- the numbers 0, 1, .., n-1 -/
def pts (n : Nat) : List Int := (List.range n).map (fun k : Nat => (k : Int))
theorem pts_len (n : Nat) : (pts n).length = n := by simp [pts]
theorem mem_pts {n : Nat} {x : Int} : x ∈ pts n ↔ 0 ≤ x ∧ x < n := by
  simp only [pts, List.mem_map, List.mem_range]
  constructor
  · rintro ⟨k, hk, rfl⟩; omega
  · intro ⟨h1, h2⟩; exact ⟨x.toNat, by omega, by omega⟩
theorem pts_nodup (n : Nat) : (pts n).Nodup := by
  exact List.Pairwise.map _ (fun a b (h : a ≠ b) hab => h (by omega)) List.nodup_range
theorem pts_get (n k : Nat) (h : k < (pts n).length) : (pts n)[k] = (k : Int) := by simp [pts]

/-- p is a permutation of its indices -/
def IsP (p : List Int) : Prop := (∀ x ∈ p, 0 ≤ x ∧ x < p.length) ∧ p.Nodup
instance (p : List Int) : Decidable (IsP p) := by unfold IsP; exact inferInstance
theorem IsP.sub {p : List Int} (h : IsP p) : p ⊆ pts p.length := fun x hx => mem_pts.2 (h.1 x hx)
theorem IsP.all {p : List Int} (h : IsP p) : pts p.length ⊆ p := nodup_sub_all h.2 h.sub (by rw [pts_len]; exact Nat.le_refl _)
theorem isP_of_all {p : List Int} (h1 : ∀ x ∈ p, 0 ≤ x ∧ x < p.length) (h2 : pts p.length ⊆ p) : IsP p :=
  ⟨h1, nodup_of_all (pts_nodup _) h2 (by rw [pts_len]; exact Nat.le_refl _)⟩

/-- the numbers of a list as bits -/
def mask : List Int → Nat
  | [] => 0
  | x :: l => 2 ^ x.toNat ||| mask l
theorem mask_append (l : List Int) (x : Int) : mask (l ++ [x]) = mask l ||| 2 ^ x.toNat := by
  induction l with
  | nil => simp [mask]
  | cons y l ih => simp [mask, ih, Nat.or_assoc]
theorem mask_bit (l : List Int) (h : ∀ x ∈ l, 0 ≤ x) (k : Nat) : (mask l).testBit k = decide ((k : Int) ∈ l) := by
  induction l with
  | nil => simp [mask]
  | cons x l ih =>
    rw [mask, Nat.testBit_or, ih (fun y hy => h y (by simp [hy])), Nat.testBit_two_pow]
    have hx := h x (by simp)
    have : (x.toNat = k) ↔ ((k : Int) = x) := by omega
    simp [this]
theorem mask_lt (l : List Int) (n : Nat) (h : ∀ x ∈ l, 0 ≤ x ∧ x < n) : mask l < 2 ^ n := by
  induction l with
  | nil => simp [mask]; exact Nat.pow_pos (by decide)
  | cons x l ih =>
    have hx := h x (by simp)
    exact Nat.or_lt_two_pow (Nat.pow_lt_pow_right (by decide) (by omega)) (ih fun y hy => h y (by simp [hy]))
theorem mask_full (p : List Int) (h : ∀ x ∈ p, 0 ≤ x ∧ x < p.length) : mask p = 2 ^ p.length - 1 ↔ IsP p := by
  constructor
  · intro hm
    refine isP_of_all h fun x hx => ?_
    obtain ⟨h0, h1⟩ := mem_pts.1 hx
    have hb := mask_bit p (fun y hy => (h y hy).1) x.toNat
    rw [hm, Nat.testBit_two_pow_sub_one] at hb
    have : decide (x.toNat < p.length) = true := decide_eq_true (by omega)
    rw [this] at hb
    have := of_decide_eq_true hb.symm
    have e : (x.toNat : Int) = x := by omega
    rwa [e] at this
  · intro hp
    apply Nat.eq_of_testBit_eq
    intro k
    rw [mask_bit p (fun y hy => (h y hy).1), Nat.testBit_two_pow_sub_one]
    have : ((k : Int) ∈ p) ↔ k < p.length := by
      constructor
      · intro hk; have := h _ hk; omega
      · intro hk; exact hp.all (mem_pts.2 (by omega))
    simp [this]
end PM

namespace PM

/-- the entry of p at x -/
def at_ (p : List Int) (x : Int) : Int := p.getD x.toNat 0
/-- p first, q second -/
def comp (p q : List Int) : List Int := p.map (at_ q)
def inv (p : List Int) : List Int := (pts p.length).map fun y => (p.idxOf y : Int)

/-- a permutation of n points -/
def PN (n : Nat) (p : List Int) : Prop := p.length = n ∧ IsP p

theorem at_nat (p : List Int) (k : Nat) (h : k < p.length) : at_ p (k : Int) = p[k] := by
  simp [at_, h]
theorem at_mem {p : List Int} {x : Int} (h0 : 0 ≤ x) (h : x < p.length) : at_ p x ∈ p := by
  have hx : x.toNat < p.length := by omega
  have : at_ p x = p[x.toNat] := by simp [at_, hx]
  rw [this]; exact List.getElem_mem _
theorem comp_len (p q : List Int) : (comp p q).length = p.length := by simp [comp]
theorem inv_len (p : List Int) : (inv p).length = p.length := by simp [inv, pts_len]
theorem at_comp {p q : List Int} {x : Int} (h0 : 0 ≤ x) (h : x < p.length) : at_ (comp p q) x = at_ q (at_ p x) := by
  have hx : x.toNat < p.length := by omega
  simp [at_, comp, hx]
theorem at_pts {n : Nat} {x : Int} (h0 : 0 ≤ x) (h : x < n) : at_ (pts n) x = x := by
  have hx : x.toNat < (pts n).length := by rw [pts_len]; omega
  have : at_ (pts n) x = (pts n)[x.toNat] := by simp [at_, hx]
  rw [this, pts_get]; omega
/-- lists of one length with the same entries -/
theorem ext_at {p q : List Int} (hl : p.length = q.length) (h : ∀ x : Int, 0 ≤ x → x < p.length → at_ p x = at_ q x) : p = q := by
  apply List.ext_getElem hl
  intro k h1 h2
  have := h k (by omega) (by omega)
  rwa [at_nat p k h1, at_nat q k h2] at this

theorem PN.rng {n : Nat} {p : List Int} (h : PN n p) {x : Int} (h0 : 0 ≤ x) (h1 : x < n) : 0 ≤ at_ p x ∧ at_ p x < n := by
  have := h.2.1 _ (at_mem h0 (by rw [h.1]; exact h1))
  rw [h.1] at this; exact this
theorem nodup_inj {p : List Int} (h : p.Nodup) {i j : Nat} (hi : i < p.length) (hj : j < p.length) (e : p[i] = p[j]) : i = j := by
  have hp := List.pairwise_iff_getElem.1 h
  rcases Nat.lt_trichotomy i j with hl | hl | hl
  · exact absurd e (hp i j hi hj hl)
  · exact hl
  · exact absurd e.symm (hp j i hj hi hl)
theorem PN.inj {n : Nat} {p : List Int} (h : PN n p) {x y : Int} (hx0 : 0 ≤ x) (hx : x < n) (hy0 : 0 ≤ y) (hy : y < n) (he : at_ p x = at_ p y) : x = y := by
  have h1 : x.toNat < p.length := by rw [h.1]; omega
  have h2 : y.toNat < p.length := by rw [h.1]; omega
  have e1 : at_ p x = p[x.toNat] := by simp [at_, h1]
  have e2 : at_ p y = p[y.toNat] := by simp [at_, h2]
  rw [e1, e2] at he
  have := nodup_inj h.2.2 h1 h2 he
  omega
theorem PN.surj {n : Nat} {p : List Int} (h : PN n p) {y : Int} (hy0 : 0 ≤ y) (hy : y < n) : ∃ x : Int, 0 ≤ x ∧ x < n ∧ at_ p x = y := by
  have hm : y ∈ p := h.2.all (mem_pts.2 ⟨hy0, by rw [h.1]; exact hy⟩)
  obtain ⟨k, hk, hk2⟩ := List.getElem_of_mem hm
  refine ⟨k, by omega, by have := h.1; omega, ?_⟩
  rw [at_nat p k hk]; exact hk2
/-- what makes a list a permutation -/
theorem PN.mk' {n : Nat} {p : List Int} (hl : p.length = n) (hr : ∀ x : Int, 0 ≤ x → x < n → 0 ≤ at_ p x ∧ at_ p x < n) (hi : ∀ x y : Int, 0 ≤ x → x < n → 0 ≤ y → y < n → at_ p x = at_ p y → x = y) : PN n p := by
  refine ⟨hl, fun x hx => ?_, ?_⟩
  · obtain ⟨k, hk, rfl⟩ := List.getElem_of_mem hx
    have := hr k (by omega) (by omega)
    rw [at_nat p k hk] at this; rw [hl]; exact this
  · rw [List.nodup_iff_pairwise_ne, List.pairwise_iff_getElem]
    intro i j hi' hj' hij he
    have := hi i j (by omega) (by omega) (by omega) (by omega) (by rw [at_nat p i hi', at_nat p j hj']; exact he)
    omega
theorem PN.id (n : Nat) : PN n (pts n) := PN.mk' (pts_len n) (fun x h0 h1 => by rw [at_pts h0 h1]; exact ⟨h0, h1⟩) (fun x y a b c d e => by rwa [at_pts a b, at_pts c d] at e)
theorem PN.comp {n : Nat} {p q : List Int} (hp : PN n p) (hq : PN n q) : PN n (comp p q) := by
  refine PN.mk' (by rw [comp_len, hp.1]) (fun x h0 h1 => ?_) (fun x y a b c d e => ?_)
  · rw [at_comp h0 (by rw [hp.1]; exact h1)]
    have := hp.rng h0 h1
    exact hq.rng this.1 this.2
  · rw [at_comp a (by rw [hp.1]; exact b), at_comp c (by rw [hp.1]; exact d)] at e
    have h1 := hp.rng a b
    have h2 := hp.rng c d
    exact hp.inj a b c d (hq.inj h1.1 h1.2 h2.1 h2.2 e)
theorem at_inv {n : Nat} {p : List Int} (hp : PN n p) {x : Int} (h0 : 0 ≤ x) (h1 : x < n) : at_ (inv p) (at_ p x) = x := by
  have hr := hp.rng h0 h1
  have hk : x.toNat < p.length := by rw [hp.1]; omega
  have e1 : at_ p x = p[x.toNat] := by simp [at_, hk]
  have e2 : ∀ y : Int, 0 ≤ y → y < n → at_ (inv p) y = (p.idxOf y : Int) := by
    intro y hy0 hy1
    have hy : y.toNat < (pts p.length).length := by rw [pts_len, hp.1]; omega
    have he : (pts p.length)[y.toNat] = y := by rw [pts_get]; omega
    unfold at_ inv
    rw [List.getD_eq_getElem?_getD, List.getElem?_map, List.getElem?_eq_getElem hy, he]
    rfl
  rw [e2 _ hr.1 hr.2, e1]
  have hm : p[x.toNat] ∈ p := List.getElem_mem _
  have hi := List.idxOf_lt_length_of_mem hm
  have hg : p[p.idxOf p[x.toNat]] = p[x.toNat] := by simp
  have := nodup_inj hp.2.2 hi hk hg
  rw [this]; omega
theorem PN.inv {n : Nat} {p : List Int} (hp : PN n p) : PN n (inv p) := by
  refine PN.mk' (by rw [inv_len, hp.1]) (fun x h0 h1 => ?_) (fun x y a b c d e => ?_)
  · obtain ⟨z, hz0, hz1, rfl⟩ := hp.surj h0 h1
    rw [at_inv hp hz0 hz1]; exact ⟨hz0, hz1⟩
  · obtain ⟨z, hz0, hz1, rfl⟩ := hp.surj a b
    obtain ⟨z', hz0', hz1', rfl⟩ := hp.surj c d
    rw [at_inv hp hz0 hz1, at_inv hp hz0' hz1'] at e
    rw [e]
theorem comp_inv {n : Nat} {p : List Int} (hp : PN n p) : comp p (inv p) = pts n := by
  refine ext_at (by rw [comp_len, pts_len, hp.1]) fun x h0 h1 => ?_
  rw [comp_len, hp.1] at h1
  rw [at_comp h0 (by rw [hp.1]; exact h1), at_inv hp h0 h1, at_pts h0 h1]
theorem inv_comp {n : Nat} {p : List Int} (hp : PN n p) : comp (inv p) p = pts n := by
  refine ext_at (by rw [comp_len, pts_len, inv_len, hp.1]) fun x h0 h1 => ?_
  rw [comp_len, inv_len, hp.1] at h1
  obtain ⟨z, hz0, hz1, rfl⟩ := hp.surj h0 h1
  rw [at_comp h0 (by rw [inv_len, hp.1]; exact h1), at_inv hp hz0 hz1, at_pts h0 h1]
theorem comp_id {n : Nat} {p : List Int} (hp : PN n p) : comp p (pts n) = p := by
  refine ext_at (by rw [comp_len]) fun x h0 h1 => ?_
  rw [comp_len, hp.1] at h1
  have := hp.rng h0 h1
  rw [at_comp h0 (by rw [hp.1]; exact h1), at_pts this.1 this.2]
theorem id_comp {n : Nat} {p : List Int} (hp : PN n p) : comp (pts n) p = p := by
  refine ext_at (by rw [comp_len, pts_len, hp.1]) fun x h0 h1 => ?_
  rw [comp_len, pts_len] at h1
  rw [at_comp h0 (by rw [pts_len]; exact h1), at_pts h0 h1]
theorem comp_assoc {n : Nat} {p q r : List Int} (hp : PN n p) (hq : PN n q) : comp (comp p q) r = comp p (comp q r) := by
  refine ext_at (by simp [comp_len]) fun x h0 h1 => ?_
  rw [comp_len, comp_len, hp.1] at h1
  have := hp.rng h0 h1
  rw [at_comp h0 (by rw [comp_len, hp.1]; exact h1), at_comp h0 (by rw [hp.1]; exact h1), at_comp h0 (by rw [hp.1]; exact h1), at_comp this.1 (by rw [hq.1]; exact this.2)]
theorem comp_right_cancel {n : Nat} {p q g : List Int} (hp : PN n p) (hq : PN n q) (hg : PN n g) (h : comp p g = comp q g) : p = q := by
  have h2 : comp (comp p g) (inv g) = comp (comp q g) (inv g) := by rw [h]
  rwa [comp_assoc hp hg, comp_assoc hq hg, comp_inv hg, comp_id hp, comp_id hq] at h2

/-- the group that G generates -/
inductive Grp (n : Nat) (G : List (List Int)) : List Int → Prop
  | id : Grp n G (pts n)
  | mul {p g : List Int} : Grp n G p → g ∈ G → Grp n G (comp p g)
  | div {p g : List Int} : Grp n G p → g ∈ G → Grp n G (comp p (inv g))

section
variable {n : Nat} {G : List (List Int)} (hG : ∀ g ∈ G, PN n g)
include hG
theorem Grp.pn {p : List Int} (h : Grp n G p) : PN n p := by
  induction h with
  | id => exact PN.id n
  | mul _ hg ih => exact ih.comp (hG _ hg)
  | div _ hg ih => exact ih.comp (hG _ hg).inv
theorem Grp.comp {p q : List Int} (hp : Grp n G p) (hq : Grp n G q) : Grp n G (comp p q) := by
  have pp := hp.pn hG
  induction hq with
  | id => rw [comp_id pp]; exact hp
  | mul hq hg ih => rw [← comp_assoc pp (Grp.pn hG hq)]; exact ih.mul hg
  | div hq hg ih => rw [← comp_assoc pp (Grp.pn hG hq)]; exact ih.div hg
theorem Grp.gen {g : List Int} (h : g ∈ G) : Grp n G g := by
  have := (Grp.id (n := n) (G := G)).mul h
  rwa [id_comp (hG g h)] at this
theorem Grp.gen_inv {g : List Int} (h : g ∈ G) : Grp n G (PM.inv g) := by
  have := (Grp.id (n := n) (G := G)).div h
  rwa [id_comp (hG g h).inv] at this
end
theorem inv_of {n : Nat} {p q : List Int} (hp : PN n p) (hq : PN n q) (h : comp p q = pts n) : q = PM.inv p := by
  have : comp (PM.inv p) (comp p q) = comp (PM.inv p) (pts n) := by rw [h]
  rwa [← comp_assoc hp.inv hp, inv_comp hp, id_comp hq, comp_id hp.inv] at this
theorem inv_inv {n : Nat} {p : List Int} (hp : PN n p) : PM.inv (PM.inv p) = p := (inv_of hp.inv hp (inv_comp hp)).symm
/-- all lists of k entries out of a list -/
def allL (A : List Int) : Nat → List (List Int)
  | 0 => [[]]
  | k + 1 => (allL A k).flatMap fun l => A.map fun x => x :: l
theorem mem_allL {A : List Int} : ∀ (p : List Int), (∀ x ∈ p, x ∈ A) → p ∈ allL A p.length := by
  intro p
  induction p with
  | nil => intro _; simp [allL]
  | cons x p ih =>
    intro h
    have h1 := ih fun y hy => h y (by simp [hy])
    simp only [allL, List.length_cons, List.mem_flatMap, List.mem_map]
    exact ⟨p, h1, x, h x (by simp), rfl⟩
theorem nodup_exists {α : Type} (L : List α) (S : α → Prop) : ∃ L' : List α, L'.Nodup ∧ ∀ x, x ∈ L' ↔ x ∈ L ∧ S x := by
  classical
  induction L with
  | nil => exact ⟨[], List.nodup_nil, by simp⟩
  | cons a L ih =>
    obtain ⟨L', h1, h2⟩ := ih
    by_cases h : a ∈ L' ∨ ¬ S a
    · refine ⟨L', h1, fun x => ?_⟩
      rw [h2 x]
      constructor
      · rintro ⟨a1, a2⟩; exact ⟨by simp [a1], a2⟩
      · rintro ⟨a1, a2⟩
        rcases List.mem_cons.1 a1 with rfl | a1
        · rcases h with h | h
          · exact (h2 x).1 h
          · exact absurd a2 h
        · exact ⟨a1, a2⟩
    · have h' : a ∉ L' ∧ S a := ⟨fun e => h (.inl e), Classical.byContradiction fun e => h (.inr e)⟩
      refine ⟨a :: L', List.nodup_cons.2 ⟨h'.1, h1⟩, fun x => ?_⟩
      simp only [List.mem_cons, h2 x]
      constructor
      · rintro (rfl | ⟨a1, a2⟩)
        · exact ⟨.inl rfl, h'.2⟩
        · exact ⟨.inr a1, a2⟩
      · rintro ⟨rfl | a1, a2⟩
        · exact .inl rfl
        · exact .inr ⟨a1, a2⟩
/-- a set of permutations closed under a factor is closed under its inverse -/
theorem closed_div {n : Nat} {S : List Int → Prop} (hS : ∀ p, S p → PN n p) {g : List Int} (hg : PN n g) (hc : ∀ p, S p → S (comp p g)) : ∀ p, S p → S (comp p (PM.inv g)) := by
  intro p hp
  obtain ⟨L, h1, h2⟩ := nodup_exists (allL (pts n) n) S
  have hin : ∀ q, S q → q ∈ L := fun q hq => (h2 q).2 ⟨by
    have h3 := hS q hq
    have h4 := mem_allL (A := pts n) q (fun x hx => by have := h3.2.1 x hx; rw [h3.1] at this; exact mem_pts.2 this)
    rwa [h3.1] at h4, hq⟩
  have hsub : L.map (fun q => comp q g) ⊆ L := by
    intro x hx
    obtain ⟨q, hq, rfl⟩ := List.mem_map.1 hx
    exact hin _ (hc q ((h2 q).1 hq).2)
  have hnd : (L.map fun q => comp q g).Nodup := by
    refine List.pairwise_map.2 ?_
    refine List.Pairwise.imp_of_mem (R := fun a b => a ≠ b) ?_ h1
    intro a b ha hb hab he
    exact hab (comp_right_cancel (hS a ((h2 a).1 ha).2) (hS b ((h2 b).1 hb).2) hg he)
  have hall := nodup_sub_all hnd hsub (by simp)
  obtain ⟨q, hq, hqe⟩ := List.mem_map.1 (hall (hin p hp))
  have hqS := ((h2 q).1 hq).2
  rw [← hqe, comp_assoc (hS q hqS) hg, comp_inv hg, comp_id (hS q hqS)]
  exact hqS
/-- a set that has the identity and is closed under generators has the group -/
theorem grp_sub {n : Nat} {G : List (List Int)} (hG : ∀ g ∈ G, PN n g) {S : List Int → Prop} (hS : ∀ p, S p → PN n p) (h1 : S (pts n)) (hc : ∀ p g, S p → g ∈ G → S (comp p g)) {p : List Int} (hp : Grp n G p) : S p := by
  induction hp with
  | id => exact h1
  | mul _ hg ih => exact hc _ _ ih hg
  | div _ hg ih => exact closed_div hS (hG _ hg) (fun q hq => hc q _ hq hg) _ ih
end PM
