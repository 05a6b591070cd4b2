/- Words for the memory that the laws read and make: values that read as plain data; what a call leaves alone. -/
import Derived.Test.YtpfmkjcngknecaaRows
import Derived.WalkKit
import Derived.WalkSpells
import Derived.WalkLawsBesides
import Derived.Lib.Hide
import Derived.Deep.Draws
import Derived.Deep.QuietTactic
import Derived.BigQuiet
namespace Go.Proofs.Ytpfmkjcngknecaa
open Go.RowKit
set_option maxRecDepth 10000

/-- w' is w with new blocks, and with writes to the blocks of fp alone -/
structure Only (fp : List Nat) (w w' : World) : Prop where
  os : w'.os = w.os
  tape : w'.tape = w.tape
  output : w'.output = w.output
  size : w.heap.size ≤ w'.heap.size
  block : ∀ k, k < w.heap.size → k ∉ fp → w'.heap[k]? = w.heap[k]?

theorem Only.refl (fp : List Nat) (w : World) : Only fp w w := ⟨rfl, rfl, rfl, Nat.le_refl _, fun _ _ _ => rfl⟩
theorem Only.mono {fp fp' : List Nat} {w w' : World} (h : Only fp w w') (hs : ∀ b ∈ fp, b < w.heap.size → b ∈ fp') : Only fp' w w' :=
  ⟨h.os, h.tape, h.output, h.size, fun k hk hn => h.block k hk fun hm => hn (hs k hm hk)⟩
theorem Only.trans {fp : List Nat} {a b c : World} (h : Only fp a b) (k : Only fp b c) : Only fp a c :=
  ⟨k.os.trans h.os, k.tape.trans h.tape, k.output.trans h.output, Nat.le_trans h.size k.size,
   fun i hi hn => (k.block i (Nat.lt_of_lt_of_le hi h.size) hn).trans (h.block i hi hn)⟩
/-- what is written behind the first step is new, or was allowed -/
theorem Only.then_ {fp fp' : List Nat} {a b c : World} (h : Only fp a b) (k : Only fp' b c) (hs : ∀ x ∈ fp', x < a.heap.size → x ∈ fp) : Only fp a c :=
  ⟨k.os.trans h.os, k.tape.trans h.tape, k.output.trans h.output, Nat.le_trans h.size k.size,
   fun i hi hn => (k.block i (Nat.lt_of_lt_of_le hi h.size) fun hm => hn (hs i hm hi)).trans (h.block i hi hn)⟩
theorem Only.keepThen {fp : List Nat} {a b c : World} (h : Only fp a b) (k : Only [] b c) : Only fp a c := h.then_ k (by simp)
theorem Only.weaken {a b : World} (h : Only [] a b) (fp : List Nat) : Only fp a b := h.mono (by simp)
theorem Only.drew {fp : List Nat} {a w : World} (h : Only fp a w) : Only fp a w.drew := ⟨h.os, h.tape, h.output, h.size, h.block⟩
theorem Only.drewN {fp : List Nat} {a w : World} (h : Only fp a w) (n : Nat) : Only fp a (w.drewN n) := ⟨h.os, h.tape, h.output, h.size, h.block⟩
theorem Only.alloc {fp : List Nat} {a w : World} (h : Only fp a w) (o : Obj) : Only fp a (w.alloc o) :=
  h.trans ⟨rfl, rfl, rfl, by simp, fun k hk _ => Below.heap_alloc _ _ _ hk⟩
theorem Only.setCell {fp : List Nat} {a w : World} (h : Only fp a w) {p : Addr} (hp : p.block < a.heap.size → p.block ∈ fp) (u : Value) : Only fp a (w.setCell p u) :=
  h.then_ (fp' := [p.block]) ⟨rfl, rfl, rfl, by simp [World.setCell], fun k hk hn => Below.heap_setCell _ _ _ _ (by simpa using hn)⟩ (by simpa using hp)
theorem Only.grown {fp : List Nat} {a w w' : World} {row : Option Nat} (h : Only fp a w) (hg : w.grownBy w' row) (hr : ∀ k, row = some k → k < a.heap.size → k ∈ fp) : Only fp a w' :=
  h.then_ (fp' := row.toList) ⟨hg.os, hg.tape, hg.output, hg.size, fun k hk hn => hg.block k hk (fun e => hn (by simp [← e]))⟩ (by
    intro x hx; exact hr x (by simpa using hx))
theorem Only.below {fp : List Nat} {w w' : World} {B : Nat} (h : Only fp w w') (hB : B ≤ w.heap.size) (hf : ∀ b ∈ fp, B ≤ b) : Below B w w' :=
  ⟨h.os, h.tape, h.output, h.size, fun k hk => h.block k (Nat.lt_of_lt_of_le hk hB) fun hm => by have := hf k hm; omega⟩
theorem Only.ofBelow {w w' : World} (h : Below w.heap.size w w') (fp : List Nat) : Only fp w w' := ⟨h.os, h.tape, h.output, h.size, fun k hk _ => h.block k hk⟩
theorem Only.ofDrewN (w : World) (n : Nat) (fp : List Nat) : Only fp w (w.drewN n) := (Only.refl fp w).drewN n
theorem Only.cell {fp : List Nat} {w w' : World} (h : Only fp w w') {p : Addr} (hn : p.block ∉ fp) {v : Value} (hc : w.cell? p = some v) : w'.cell? p = some v :=
  (World.cell?_of_block (h.block p.block (World.block_lt_of_cell? w p hc) hn)).trans hc

/-- only answers were drawn -/
def Drew (w w' : World) : Prop := ∃ n, w' = w.drewN n
theorem Drew.refl (w : World) : Drew w w := ⟨0, rfl⟩
theorem Drew.drewN {a w : World} (h : Drew a w) (n : Nat) : Drew a (w.drewN n) := by
  obtain ⟨m, rfl⟩ := h; exact ⟨m + n, by rw [World.drewN_drewN]⟩
theorem Drew.drew {a w : World} (h : Drew a w) : Drew a w.drew := h.drewN 1
theorem Drew.trans {a b c : World} (h : Drew a b) (k : Drew b c) : Drew a c := by
  obtain ⟨m, rfl⟩ := k; exact h.drewN m
theorem Drew.only {a b : World} (h : Drew a b) (fp : List Nat) : Only fp a b := by
  obtain ⟨m, rfl⟩ := h; exact Only.ofDrewN a m fp

/-- the blocks of fp are rows of cells, none frozen -/
def Own (w : World) (fp : List Nat) : Prop := ∀ b ∈ fp, ∃ c e, w.heap[b]? = some (.cells c e (0, 0))

theorem Own.nil (w : World) : Own w [] := by intro b hb; cases hb
theorem Own.lt {w : World} {fp : List Nat} (h : Own w fp) : ∀ b ∈ fp, b < w.heap.size := by
  intro b hb
  obtain ⟨c, e, he⟩ := h b hb
  exact (Array.getElem?_eq_some_iff.1 he).1
theorem Own.frame {w w' : World} {fp : List Nat} (h : Own w fp) (hf : ∀ b ∈ fp, w'.heap[b]? = w.heap[b]?) : Own w' fp := by
  intro b hb; rw [hf b hb]; exact h b hb
theorem Own.only {w w' : World} {fp fp' : List Nat} (h : Own w fp) (ho : Only fp' w w') (hd : ∀ b ∈ fp, b ∉ fp') : Own w' fp :=
  h.frame fun b hb => ho.block b (h.lt b hb) (hd b hb)
theorem Own.keep {w w' : World} {fp : List Nat} (h : Own w fp) (ho : Only [] w w') : Own w' fp := h.only ho (by simp)
theorem Own.append {w : World} {fp fp' : List Nat} (h : Own w fp) (h' : Own w fp') : Own w (fp ++ fp') := by
  intro b hb; rcases List.mem_append.1 hb with hb | hb
  · exact h b hb
  · exact h' b hb
theorem Own.sub {w : World} {fp fp' : List Nat} (h : Own w fp) (hs : ∀ b ∈ fp', b ∈ fp) : Own w fp' := fun b hb => h b (hs b hb)
theorem Own.left {w : World} {fp fp' : List Nat} (h : Own w (fp ++ fp')) : Own w fp := fun b hb => h b (List.mem_append_left _ hb)
theorem Own.right {w : World} {fp fp' : List Nat} (h : Own w (fp ++ fp')) : Own w fp' := fun b hb => h b (List.mem_append_right _ hb)
theorem Own.frozen {w : World} {fp : List Nat} (h : Own w fp) {b off : Nat} (hb : b ∈ fp) : w.frozen? ⟨b, off, none⟩ = false := by
  obtain ⟨c, e, he⟩ := h b hb
  simp [World.frozen?, he]
theorem Own.setCell {w : World} {fp : List Nat} (h : Own w fp) (p : Addr) (u : Value) : Own (w.setCell p u) fp := by
  intro b hb
  obtain ⟨c, e, he⟩ := h b hb
  by_cases hp : p.block = b
  · subst hp
    exact ⟨if p.spot.isSome = true then c else c.setIfInBounds p.off u, e, by simp [World.setCell, Array.getElem?_modify, he]⟩
  · exact ⟨c, e, by rw [Below.heap_setCell _ _ _ _ (fun e => hp e.symm)]; exact he⟩

/-- memory of a call's own: all from block B on, all different, none frozen -/
structure Fresh (B : Nat) (w : World) (fp : List Nat) : Prop where
  nd : fp.Nodup
  ge : ∀ b ∈ fp, B ≤ b
  own : Own w fp
theorem Fresh.nil (B : Nat) (w : World) : Fresh B w [] := ⟨List.nodup_nil, by simp, Own.nil w⟩
theorem Fresh.keep {B : Nat} {w w' : World} {fp : List Nat} (h : Fresh B w fp) (ho : Only [] w w') : Fresh B w' fp := ⟨h.nd, h.ge, h.own.keep ho⟩
theorem Fresh.only {B : Nat} {w w' : World} {fp fp' : List Nat} (h : Fresh B w fp) (ho : Only fp' w w') (hd : ∀ b ∈ fp, b ∉ fp') : Fresh B w' fp := ⟨h.nd, h.ge, h.own.only ho hd⟩
theorem Fresh.mono {B B' : Nat} {w : World} {fp : List Nat} (h : Fresh B w fp) (hB : B' ≤ B) : Fresh B' w fp := ⟨h.nd, fun b hb => Nat.le_trans hB (h.ge b hb), h.own⟩
theorem Fresh.lt {B : Nat} {w : World} {fp : List Nat} (h : Fresh B w fp) : ∀ b ∈ fp, b < w.heap.size := h.own.lt
/-- the second was made behind the first -/
theorem Fresh.append {B B' : Nat} {w : World} {fp fp' : List Nat} (h : Fresh B w fp) (h' : Fresh B' w fp') (hB : B ≤ B') (hlt : ∀ b ∈ fp, b < B') : Fresh B w (fp ++ fp') :=
  ⟨List.nodup_append.2 ⟨h.nd, h'.nd, fun a ha b hb e => by have := hlt a ha; have := h'.ge b hb; omega⟩,
   fun b hb => by rcases List.mem_append.1 hb with hb | hb
                  · exact h.ge b hb
                  · exact Nat.le_trans hB (h'.ge b hb), h.own.append h'.own⟩
theorem Fresh.left {B : Nat} {w : World} {fp fp' : List Nat} (h : Fresh B w (fp ++ fp')) : Fresh B w fp :=
  ⟨(List.nodup_append.1 h.nd).1, fun b hb => h.ge b (List.mem_append_left _ hb), h.own.left⟩
theorem Fresh.right {B : Nat} {w : World} {fp fp' : List Nat} (h : Fresh B w (fp ++ fp')) : Fresh B w fp' :=
  ⟨(List.nodup_append.1 h.nd).2.1, fun b hb => h.ge b (List.mem_append_right _ hb), h.own.right⟩

theorem ret_int {k : IntKind} {a b : Int} (h : a = b) : Ending.returned (.int k a) = .returned (.int k b) := by rw [h]
theorem ret_bool {a b : Bool} (h : a = b) : Ending.returned (.bool a) = .returned (.bool b) := by rw [h]

/-- an int64 -/
def I64 (n : Int) : Prop := -9223372036854775808 ≤ n ∧ n ≤ 9223372036854775807

/-- how plain data lies in memory: the cells of a variable, what they reach (fp) -/
class Rp (α : Type) where
  size : Nat
  rep : World → List Value → α → List Nat → Prop
  len : ∀ {w cs x fp}, rep w cs x fp → cs.length = size
  frame : ∀ {w w' : World} {cs x fp}, rep w cs x fp → (∀ b ∈ fp, w'.heap[b]? = w.heap[b]?) → rep w' cs x fp
  lt : ∀ {w cs x fp}, rep w cs x fp → ∀ b ∈ fp, b < w.heap.size

theorem Rp.only {α : Type} [Rp α] {w w' : World} {cs : List Value} {x : α} {fp fp' : List Nat} (h : Rp.rep w cs x fp) (ho : Only fp' w w') (hd : ∀ b ∈ fp, b ∉ fp') : Rp.rep w' cs x fp :=
  Rp.frame h fun b hb => ho.block b (Rp.lt h b hb) (hd b hb)
theorem Rp.keep {α : Type} [Rp α] {w w' : World} {cs : List Value} {x : α} {fp : List Nat} (h : Rp.rep w cs x fp) (ho : Only [] w w') : Rp.rep w' cs x fp := Rp.only h ho (by simp)

instance : Rp Int where
  size := 1
  rep _ cs n fp := cs = [.int .i64 n] ∧ I64 n ∧ fp = []
  len h := by rw [h.1]; rfl
  frame h _ := h
  lt h := by rw [h.2.2]; simp

/-- the slice of address a and capacity cap reads as xs; its cells, if any, lie in the block of ob; what they reach: fps -/
structure SeqA {α : Type} [Rp α] (w : World) (a : Option Addr) (cap : Nat) (xs : List α) (ob : List Nat) (fps : List (List Nat)) : Prop where
  len : xs.length ≤ cap
  cap : cap ≤ maxLen
  nf : fps.length = xs.length
  at_ : ∀ k (h : k < xs.length), ∃ b off cs, a = some ⟨b, off, none⟩ ∧ ob = [b] ∧ (∀ j u, cs[j]? = some u → w.cell? ⟨b, off + k * Rp.size α + j, none⟩ = some u) ∧ Rp.rep w cs (xs[k]) (fps[k]'(by omega))
  lt : ∀ b ∈ ob, b < w.heap.size
  one : ob.length ≤ 1

section
variable {α : Type} [Rp α] {w w' : World} {a : Option Addr} {cap : Nat} {xs : List α} {ob : List Nat} {fps : List (List Nat)}
theorem SeqA.nil (w : World) (a : Option Addr) {cap : Nat} (h : cap ≤ maxLen) : SeqA w a cap ([] : List α) [] [] := ⟨Nat.zero_le _, h, rfl, by simp, by simp, by simp⟩
theorem SeqA.bound (h : SeqA w a cap xs ob fps) : xs.length ≤ 9223372036854775807 := by
  have h1 := h.len; have h2 := h.cap; unfold maxLen at h2; omega
theorem SeqA.lt_all (h : SeqA w a cap xs ob fps) : ∀ b ∈ ob ++ fps.flatten, b < w.heap.size := by
  intro b hb
  rcases List.mem_append.1 hb with hb | hb
  · exact h.lt b hb
  · obtain ⟨f, hf, hb⟩ := List.mem_flatten.1 hb
    obtain ⟨k, hk, rfl⟩ := List.getElem_of_mem hf
    obtain ⟨_, _, _, _, _, _, hr⟩ := h.at_ k (by have := h.nf; omega)
    exact Rp.lt hr b hb
theorem SeqA.frame (h : SeqA w a cap xs ob fps) (hf : ∀ b ∈ ob ++ fps.flatten, w'.heap[b]? = w.heap[b]?) : SeqA w' a cap xs ob fps := by
  refine ⟨h.len, h.cap, h.nf, fun k hk => ?_, fun b hb => ?_, h.one⟩
  · obtain ⟨b, off, cs, ha, hob, hc, hr⟩ := h.at_ k hk
    refine ⟨b, off, cs, ha, hob, fun j u hu => ?_, Rp.frame hr fun b hb => hf b (List.mem_append_right _ (List.mem_flatten.2 ⟨_, List.getElem_mem _, hb⟩))⟩
    rw [World.cell?_of_block (w := w) (hf b (by simp [hob]))]
    exact hc j u hu
  · have := hf b (List.mem_append_left _ hb)
    rw [Array.getElem?_eq_getElem (h.lt b hb)] at this
    exact (Array.getElem?_eq_some_iff.1 this).1
end

instance {α : Type} [Rp α] : Rp (List α) where
  size := 1
  rep w cs xs fp := ∃ a cap ob fps, cs = [.slice a xs.length cap] ∧ fp = ob ++ fps.flatten ∧ SeqA w a cap xs ob fps
  len h := by obtain ⟨_, _, _, _, rfl, _⟩ := h; rfl
  frame h hf := by
    obtain ⟨a, cap, ob, fps, hcs, hfp, hs⟩ := h
    exact ⟨a, cap, ob, fps, hcs, hfp, hs.frame fun b hb => hf b (by rw [hfp]; exact hb)⟩
  lt h := by
    obtain ⟨a, cap, ob, fps, hcs, hfp, hs⟩ := h
    rw [hfp]; exact hs.lt_all

/-- the value v of a variable of one cell reads as x -/
abbrev Rd {α : Type} [Rp α] (w : World) (v : Value) (x : α) (fp : List Nat) : Prop := Rp.rep w [v] x fp

section
variable {α : Type} [Rp α] {w w' : World} {v : Value} {xs : List α} {fp : List Nat}
theorem Rd.open_ (h : Rd w v xs fp) : ∃ a cap ob fps, v = .slice a xs.length cap ∧ fp = ob ++ fps.flatten ∧ SeqA w a cap xs ob fps := by
  obtain ⟨a, cap, ob, fps, hcs, r⟩ := h
  exact ⟨a, cap, ob, fps, by simpa using hcs, r⟩
theorem SeqA.rd {a : Option Addr} {cap : Nat} {ob : List Nat} {fps : List (List Nat)} (h : SeqA w a cap xs ob fps) : Rd w (.slice a xs.length cap) xs (ob ++ fps.flatten) :=
  ⟨a, cap, ob, fps, rfl, rfl, h⟩
end

/-- slices of int64: the same in simpler words -/
structure IntsA (w : World) (a : Option Addr) (cap : Nat) (l : List Int) (fp : List Nat) : Prop where
  len : l.length ≤ cap
  cap : cap ≤ maxLen
  wf : ∀ x ∈ l, I64 x
  at_ : ∀ k (h : k < l.length), ∃ b off, a = some ⟨b, off, none⟩ ∧ fp = [b] ∧ w.cell? ⟨b, off + k, none⟩ = some (.int .i64 l[k])
  lt : ∀ b ∈ fp, b < w.heap.size
  one : fp.length ≤ 1

section
variable {w w' : World} {a : Option Addr} {cap : Nat} {l : List Int} {fp : List Nat}
theorem flatten_nil (n : Nat) : (List.replicate n ([] : List Nat)).flatten = [] := by
  induction n with
  | zero => rfl
  | succ n ih => simp [List.replicate_succ]
theorem SeqA.ints {ob : List Nat} {fps : List (List Nat)} (h : SeqA w a cap l ob fps) : IntsA w a cap l ob ∧ fps.flatten = [] := by
  have hE : ∀ k (hk : k < l.length), ∃ b off, a = some ⟨b, off, none⟩ ∧ ob = [b] ∧ w.cell? ⟨b, off + k, none⟩ = some (.int .i64 l[k]) ∧ I64 l[k] ∧ fps[k]'(by have := h.nf; omega) = [] := by
    intro k hk
    obtain ⟨b, off, cs, ha, hob, hc, rfl, hi, hf⟩ := h.at_ k hk
    have := hc 0 _ rfl
    exact ⟨b, off, ha, hob, by simpa [Rp.size] using this, hi, hf⟩
  refine ⟨⟨h.len, h.cap, fun x hx => ?_, fun k hk => ?_, h.lt, h.one⟩, ?_⟩
  · obtain ⟨k, hk, rfl⟩ := List.getElem_of_mem hx
    obtain ⟨_, _, _, _, _, hi, _⟩ := hE k hk
    exact hi
  · obtain ⟨b, off, ha, hob, hc, _⟩ := hE k hk
    exact ⟨b, off, ha, hob, hc⟩
  · have : fps = List.replicate fps.length [] := by
      apply List.ext_getElem (by simp)
      intro k h1 h2
      obtain ⟨_, _, _, _, _, _, hf⟩ := hE k (by have := h.nf; omega)
      simpa using hf
    rw [this]; exact flatten_nil _
theorem IntsA.seq (h : IntsA w a cap l fp) : SeqA w a cap l fp (List.replicate l.length []) := by
  refine ⟨h.len, h.cap, by simp, fun k hk => ?_, h.lt, h.one⟩
  obtain ⟨b, off, ha, hf, hc⟩ := h.at_ k hk
  refine ⟨b, off, [.int .i64 l[k]], ha, hf, fun j u hu => ?_, rfl, h.wf _ (List.getElem_mem _), by simp⟩
  cases j with
  | zero => simp at hu; subst hu; simpa [Rp.size] using hc
  | succ j => simp at hu
theorem IntsA.rd (h : IntsA w a cap l fp) : Rd w (.slice a l.length cap) l fp :=
  ⟨a, cap, fp, _, rfl, by rw [flatten_nil]; simp, h.seq⟩
theorem Rd.ints {v : Value} (h : Rd w v l fp) : ∃ a cap, v = .slice a l.length cap ∧ IntsA w a cap l fp := by
  obtain ⟨a, cap, ob, fps, rfl, rfl, hs⟩ := h.open_
  obtain ⟨h1, h2⟩ := hs.ints
  exact ⟨a, cap, rfl, by rw [h2]; simpa using h1⟩
theorem IntsA.nil (w : World) (a : Option Addr) {cap : Nat} (h : cap ≤ maxLen) : IntsA w a cap [] [] := ⟨Nat.zero_le _, h, by simp, by simp, by simp, by simp⟩
theorem IntsA.bound (h : IntsA w a cap l fp) : l.length ≤ 9223372036854775807 := by
  have h1 := h.len; have h2 := h.cap; unfold maxLen at h2; omega
theorem IntsA.frame (h : IntsA w a cap l fp) (hf : ∀ b ∈ fp, w'.heap[b]? = w.heap[b]?) : IntsA w' a cap l fp := by
  refine ⟨h.len, h.cap, h.wf, fun k hk => ?_, fun b hb => ?_, h.one⟩
  · obtain ⟨b, off, ha, hfp, hc⟩ := h.at_ k hk
    refine ⟨b, off, ha, hfp, ?_⟩
    rw [World.cell?_of_block (w := w) (hf b (by simp [hfp]))]
    exact hc
  · have := hf b hb
    rw [Array.getElem?_eq_getElem (h.lt b hb)] at this
    exact (Array.getElem?_eq_some_iff.1 this).1
theorem IntsA.only (h : IntsA w a cap l fp) {fp' : List Nat} (ho : Only fp' w w') (hd : ∀ b ∈ fp, b ∉ fp') : IntsA w' a cap l fp :=
  h.frame fun b hb => ho.block b (h.lt b hb) (hd b hb)
theorem IntsA.keep (h : IntsA w a cap l fp) (ho : Only [] w w') : IntsA w' a cap l fp := h.only ho (by simp)
theorem IntsA.nodup (h : IntsA w a cap l fp) : fp.Nodup := by
  have := h.one
  match fp, this with
  | [], _ => exact List.nodup_nil
  | [b], _ => simp
theorem IntsA.set {b off j : Nat} {x : Int} (h : IntsA w (some ⟨b, off, none⟩) cap l fp) (hx : I64 x) :
    IntsA (w.setCell ⟨b, off + j, none⟩ (.int .i64 x)) (some ⟨b, off, none⟩) cap (l.set j x) fp := by
  refine ⟨by simpa using h.len, h.cap, ?_, ?_, fun b hb => by simpa [World.setCell] using h.lt b hb, h.one⟩
  · intro y hy
    rcases List.mem_or_eq_of_mem_set hy with hy | rfl
    · exact h.wf y hy
    · exact hx
  · intro k hk
    have hk' : k < l.length := by simpa using hk
    obtain ⟨b', off', ha, hf, hc⟩ := h.at_ k hk'
    injection ha with ha; injection ha with hb ho; subst hb; subst ho
    refine ⟨b, off, rfl, hf, ?_⟩
    by_cases hkj : j = k
    · subst hkj
      rw [World.cell?_setCell_same _ _ _ hc]; simp
    · rw [World.cell?_setCell_other _ _ _ _ (by simp), hc]
      simp [hkj]
end

/-- relabelling: all the numbers of a datum, from k on, in order; how many there are -/
class Mk (α : Type) where
  mark : Int → α → α
  cnt : α → Nat

instance : Mk Int := ⟨fun k _ => k, fun _ => 1⟩
def markL {α : Type} [Mk α] : Int → List α → List α
  | _, [] => []
  | k, x :: xs => Mk.mark k x :: markL (k + (Mk.cnt x : Nat)) xs
def cntL {α : Type} [Mk α] : List α → Nat
  | [] => 0
  | x :: xs => Mk.cnt x + cntL xs
instance {α : Type} [Mk α] : Mk (List α) := ⟨markL, cntL⟩

open Classical in
/-- what the laws' 'held' functions answer -/
noncomputable def heldV {α : Type} [Mk α] (k : Int) (x : α) : Int := if x = Mk.mark k x then k + (Mk.cnt x : Nat) else -1
open Classical in
/-- what the laws' 'eq' functions answer -/
noncomputable def eqV {α : Type} (x y : α) : Bool := decide (x = y)

theorem heldV_yes {α : Type} [Mk α] {k : Int} {x : α} (h : x = Mk.mark k x) : heldV k x = k + (Mk.cnt x : Nat) := by unfold heldV; rw [if_pos h]
theorem heldV_no {α : Type} [Mk α] {k : Int} {x : α} (h : x ≠ Mk.mark k x) : heldV k x = -1 := by unfold heldV; rw [if_neg h]
theorem eqV_yes {α : Type} {x y : α} (h : x = y) : eqV x y = true := by unfold eqV; simp [h]
theorem eqV_no {α : Type} {x y : α} (h : x ≠ y) : eqV x y = false := by unfold eqV; simp [h]
theorem eqV_iff {α : Type} {x y : α} : eqV x y = true ↔ x = y := by unfold eqV; simp
theorem eqV_iff' {α : Type} {x y : α} : eqV x y = false ↔ x ≠ y := by unfold eqV; simp

section
variable {α : Type} [Mk α]
theorem markL_append (k : Int) (xs ys : List α) : markL k (xs ++ ys) = markL k xs ++ markL (k + (cntL xs : Nat)) ys := by
  induction xs generalizing k with
  | nil => simp [markL, cntL]
  | cons x xs ih => simp [markL, cntL, ih, Int.add_assoc]
theorem cntL_append (xs ys : List α) : cntL (xs ++ ys) = cntL xs + cntL ys := by
  induction xs with
  | nil => simp [cntL]
  | cons x xs ih => simp [cntL, ih]; omega
theorem markL_length (k : Int) (xs : List α) : (markL k xs).length = xs.length := by
  induction xs generalizing k with
  | nil => rfl
  | cons x xs ih => simp [markL, ih]
theorem take_succ_get {β : Type} (l : List β) (j : Nat) (h : j < l.length) : l.take (j + 1) = l.take j ++ [l[j]] := by
  rw [List.take_succ_eq_append_getElem h]
theorem cntL_take_le (xs : List α) (j : Nat) : cntL (xs.take j) ≤ cntL xs := by
  have h : cntL (xs.take j ++ xs.drop j) = cntL (xs.take j) + cntL (xs.drop j) := cntL_append _ _
  rw [List.take_append_drop] at h
  omega
theorem cntL_take_succ (xs : List α) (j : Nat) (h : j < xs.length) : cntL (xs.take (j + 1)) = cntL (xs.take j) + Mk.cnt xs[j] := by
  rw [take_succ_get xs j h, cntL_append]; simp [cntL]
theorem markL_take_succ (k : Int) (xs : List α) (j : Nat) (h : j < xs.length) : markL k (xs.take (j + 1)) = markL k (xs.take j) ++ [Mk.mark (k + (cntL (xs.take j) : Nat)) xs[j]] := by
  rw [take_succ_get xs j h, markL_append]; simp [markL]
/-- one element more is marked -/
theorem markL_set (k : Int) (xs : List α) (j : Nat) (h : j < xs.length) :
    (markL k (xs.take j) ++ xs.drop j).set j (Mk.mark (k + (cntL (xs.take j) : Nat)) xs[j]) = markL k (xs.take (j + 1)) ++ xs.drop (j + 1) := by
  rw [markL_take_succ k xs j h, List.set_append_right _ _ (by simp [markL_length]; omega)]
  have : j - (markL k (xs.take j)).length = 0 := by simp [markL_length]; omega
  rw [this, List.drop_eq_getElem_cons h]
  simp [List.set]
/-- held so far -/
theorem held_step {k : Int} {xs : List α} {j : Nat} (h : j < xs.length) (hr : xs.take j = markL k (xs.take j)) (he : xs[j] = Mk.mark (k + (cntL (xs.take j) : Nat)) xs[j]) :
    xs.take (j + 1) = markL k (xs.take (j + 1)) := by
  rw [markL_take_succ k xs j h, ← hr, ← he, take_succ_get xs j h]
theorem held_not {k : Int} {xs : List α} {j : Nat} (h : j < xs.length) (he : xs[j] ≠ Mk.mark (k + (cntL (xs.take j) : Nat)) xs[j]) : xs ≠ markL k xs := by
  intro hx
  have h1 : xs.take j ++ xs.drop j = markL k (xs.take j) ++ markL (k + (cntL (xs.take j) : Nat)) (xs.drop j) := by
    rw [← markL_append, List.take_append_drop]; exact hx
  have h2 := List.append_inj_right h1 (by simp [markL_length])
  rw [List.drop_eq_getElem_cons h, markL] at h2
  injection h2 with h2 _
  exact he h2
end
theorem cntL_ints (l : List Int) : cntL l = l.length := by
  induction l with
  | nil => rfl
  | cons x l ih => simp [cntL, ih, Mk.cnt]; omega

end Go.Proofs.Ytpfmkjcngknecaa
