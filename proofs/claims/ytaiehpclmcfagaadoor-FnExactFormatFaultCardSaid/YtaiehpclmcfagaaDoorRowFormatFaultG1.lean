/- Words for the memory that the laws read and make: values that read as plain data; what a call leaves alone. The laws' own helpers on slices of int64: held, eq, mark, to, sz: what each answers and leaves. The laws' own helpers on slices of slices of int64: held, eq, mark, to, sz. What the exact laws share: marks are kept by marking again; a struct's block. Table: plain data, how it lies in memory, the laws' own helpers on it. (Printed by gen_struct.py.) The laws' own helpers on slices of tables: eq, mark, held, to, sz. Puzzle: plain data, how it lies in memory, the laws' own helpers on it. (Printed by gen_struct.py.) Claim: plain data, how it lies in memory, the law's own comparison. laws.toClaim: a claim of the laws' own turned to the program's; sizes of claims. The reference's formatInt (laws 2, 4): the decimal numeral. The reference's formatInt (laws 2, 4): its walk. The program's decimal (laws 2, 4): the library's FormatInt off the shelf. (The laying was printed on the bench by a scratch copy of the kit's own command; its numbers are this round's: s7.) Laws on append and make over rows of the call's own, whatever the source (nil, empty or not). Ranges, words: the program's and the reference's tests on them. -/
import Derived.Test.YtaiehpclmcfagaaDoorRows
import Derived.WalkKit
import Derived.WalkSpells
import Derived.WalkLawsBesides
import Derived.Lib.Hide
import Derived.Deep.Draws
import Derived.Deep.QuietTactic
import Derived.BigQuiet
import Derived.StillTailTactics
import Derived.Lib.ItoaMem
import Derived.Lib.Strings
import Derived.Lib.ItoaLen
import Derived.Shelf.Strconv.Itoa4
import Derived.Maps.AppendAt
import Derived.Lib.SlBytesConst
namespace Go.Proofs.YtaiehpclmcfagaaDoor
open Go.RowKit
set_option maxRecDepth 10000

/-- w' is w with new blocks, and with writes to the blocks of fp alone -/
structure Only (fp : List Nat) (w w' : World) : Prop where
  os : w'.os = w.os
  tape : w'.tape = w.tape
  output : w'.output = w.output
  size : w.heap.size ≤ w'.heap.size
  block : ∀ k, k < w.heap.size → k ∉ fp → w'.heap[k]? = w.heap[k]?

theorem Only.refl (fp : List Nat) (w : World) : Only fp w w := ⟨rfl, rfl, rfl, Nat.le_refl _, fun _ _ _ => rfl⟩
theorem Only.mono {fp fp' : List Nat} {w w' : World} (h : Only fp w w') (hs : ∀ b ∈ fp, b < w.heap.size → b ∈ fp') : Only fp' w w' :=
  ⟨h.os, h.tape, h.output, h.size, fun k hk hn => h.block k hk fun hm => hn (hs k hm hk)⟩
theorem Only.trans {fp : List Nat} {a b c : World} (h : Only fp a b) (k : Only fp b c) : Only fp a c :=
  ⟨k.os.trans h.os, k.tape.trans h.tape, k.output.trans h.output, Nat.le_trans h.size k.size,
   fun i hi hn => (k.block i (Nat.lt_of_lt_of_le hi h.size) hn).trans (h.block i hi hn)⟩
/-- what is written behind the first step is new, or was allowed -/
theorem Only.then_ {fp fp' : List Nat} {a b c : World} (h : Only fp a b) (k : Only fp' b c) (hs : ∀ x ∈ fp', x < a.heap.size → x ∈ fp) : Only fp a c :=
  ⟨k.os.trans h.os, k.tape.trans h.tape, k.output.trans h.output, Nat.le_trans h.size k.size,
   fun i hi hn => (k.block i (Nat.lt_of_lt_of_le hi h.size) fun hm => hn (hs i hm hi)).trans (h.block i hi hn)⟩
theorem Only.drew {fp : List Nat} {a w : World} (h : Only fp a w) : Only fp a w.drew := ⟨h.os, h.tape, h.output, h.size, h.block⟩
theorem Only.drewN {fp : List Nat} {a w : World} (h : Only fp a w) (n : Nat) : Only fp a (w.drewN n) := ⟨h.os, h.tape, h.output, h.size, h.block⟩
theorem Only.alloc {fp : List Nat} {a w : World} (h : Only fp a w) (o : Obj) : Only fp a (w.alloc o) :=
  h.trans ⟨rfl, rfl, rfl, by simp, fun k hk _ => Below.heap_alloc _ _ _ hk⟩
theorem Only.setCell {fp : List Nat} {a w : World} (h : Only fp a w) {p : Addr} (hp : p.block < a.heap.size → p.block ∈ fp) (u : Value) : Only fp a (w.setCell p u) :=
  h.then_ (fp' := [p.block]) ⟨rfl, rfl, rfl, by simp [World.setCell], fun k hk hn => Below.heap_setCell _ _ _ _ (by simpa using hn)⟩ (by simpa using hp)
theorem Only.below {fp : List Nat} {w w' : World} {B : Nat} (h : Only fp w w') (hB : B ≤ w.heap.size) (hf : ∀ b ∈ fp, B ≤ b) : Below B w w' :=
  ⟨h.os, h.tape, h.output, h.size, fun k hk => h.block k (Nat.lt_of_lt_of_le hk hB) fun hm => by have := hf k hm; omega⟩
theorem Only.ofDrewN (w : World) (n : Nat) (fp : List Nat) : Only fp w (w.drewN n) := (Only.refl fp w).drewN n
theorem Only.cell {fp : List Nat} {w w' : World} (h : Only fp w w') {p : Addr} (hn : p.block ∉ fp) {v : Value} (hc : w.cell? p = some v) : w'.cell? p = some v :=
  (World.cell?_of_block (h.block p.block (World.block_lt_of_cell? w p hc) hn)).trans hc

/-- only answers were drawn -/
def Drew (w w' : World) : Prop := ∃ n, w' = w.drewN n
theorem Drew.refl (w : World) : Drew w w := ⟨0, rfl⟩
theorem Drew.drewN {a w : World} (h : Drew a w) (n : Nat) : Drew a (w.drewN n) := by
  obtain ⟨m, rfl⟩ := h; exact ⟨m + n, by rw [World.drewN_drewN]⟩
theorem Drew.drew {a w : World} (h : Drew a w) : Drew a w.drew := h.drewN 1
theorem Drew.trans {a b c : World} (h : Drew a b) (k : Drew b c) : Drew a c := by
  obtain ⟨m, rfl⟩ := k; exact h.drewN m
theorem Drew.only {a b : World} (h : Drew a b) (fp : List Nat) : Only fp a b := by
  obtain ⟨m, rfl⟩ := h; exact Only.ofDrewN a m fp

/-- the blocks of fp are rows of cells, none frozen -/
def Own (w : World) (fp : List Nat) : Prop := ∀ b ∈ fp, ∃ c e, w.heap[b]? = some (.cells c e (0, 0))

theorem Own.nil (w : World) : Own w [] := by intro b hb; cases hb
theorem Own.lt {w : World} {fp : List Nat} (h : Own w fp) : ∀ b ∈ fp, b < w.heap.size := by
  intro b hb
  obtain ⟨c, e, he⟩ := h b hb
  exact (Array.getElem?_eq_some_iff.1 he).1
theorem Own.frame {w w' : World} {fp : List Nat} (h : Own w fp) (hf : ∀ b ∈ fp, w'.heap[b]? = w.heap[b]?) : Own w' fp := by
  intro b hb; rw [hf b hb]; exact h b hb
theorem Own.only {w w' : World} {fp fp' : List Nat} (h : Own w fp) (ho : Only fp' w w') (hd : ∀ b ∈ fp, b ∉ fp') : Own w' fp :=
  h.frame fun b hb => ho.block b (h.lt b hb) (hd b hb)
theorem Own.keep {w w' : World} {fp : List Nat} (h : Own w fp) (ho : Only [] w w') : Own w' fp := h.only ho (by simp)
theorem Own.append {w : World} {fp fp' : List Nat} (h : Own w fp) (h' : Own w fp') : Own w (fp ++ fp') := by
  intro b hb; rcases List.mem_append.1 hb with hb | hb
  · exact h b hb
  · exact h' b hb
theorem Own.left {w : World} {fp fp' : List Nat} (h : Own w (fp ++ fp')) : Own w fp := fun b hb => h b (List.mem_append_left _ hb)
theorem Own.frozen {w : World} {fp : List Nat} (h : Own w fp) {b off : Nat} (hb : b ∈ fp) : w.frozen? ⟨b, off, none⟩ = false := by
  obtain ⟨c, e, he⟩ := h b hb
  simp [World.frozen?, he]
theorem Own.setCell {w : World} {fp : List Nat} (h : Own w fp) (p : Addr) (u : Value) : Own (w.setCell p u) fp := by
  intro b hb
  obtain ⟨c, e, he⟩ := h b hb
  by_cases hp : p.block = b
  · subst hp
    exact ⟨if p.spot.isSome = true then c else c.setIfInBounds p.off u, e, by simp [World.setCell, Array.getElem?_modify, he]⟩
  · exact ⟨c, e, by rw [Below.heap_setCell _ _ _ _ (fun e => hp e.symm)]; exact he⟩

/-- memory of a call's own: all from block B on, all different, none frozen -/
structure Fresh (B : Nat) (w : World) (fp : List Nat) : Prop where
  nd : fp.Nodup
  ge : ∀ b ∈ fp, B ≤ b
  own : Own w fp
theorem Fresh.nil (B : Nat) (w : World) : Fresh B w [] := ⟨List.nodup_nil, by simp, Own.nil w⟩
theorem Fresh.keep {B : Nat} {w w' : World} {fp : List Nat} (h : Fresh B w fp) (ho : Only [] w w') : Fresh B w' fp := ⟨h.nd, h.ge, h.own.keep ho⟩
theorem Fresh.only {B : Nat} {w w' : World} {fp fp' : List Nat} (h : Fresh B w fp) (ho : Only fp' w w') (hd : ∀ b ∈ fp, b ∉ fp') : Fresh B w' fp := ⟨h.nd, h.ge, h.own.only ho hd⟩
theorem Fresh.mono {B B' : Nat} {w : World} {fp : List Nat} (h : Fresh B w fp) (hB : B' ≤ B) : Fresh B' w fp := ⟨h.nd, fun b hb => Nat.le_trans hB (h.ge b hb), h.own⟩
theorem Fresh.lt {B : Nat} {w : World} {fp : List Nat} (h : Fresh B w fp) : ∀ b ∈ fp, b < w.heap.size := h.own.lt
/-- the second was made behind the first -/
theorem Fresh.append {B B' : Nat} {w : World} {fp fp' : List Nat} (h : Fresh B w fp) (h' : Fresh B' w fp') (hB : B ≤ B') (hlt : ∀ b ∈ fp, b < B') : Fresh B w (fp ++ fp') :=
  ⟨List.nodup_append.2 ⟨h.nd, h'.nd, fun a ha b hb e => by have := hlt a ha; have := h'.ge b hb; omega⟩,
   fun b hb => by rcases List.mem_append.1 hb with hb | hb
                  · exact h.ge b hb
                  · exact Nat.le_trans hB (h'.ge b hb), h.own.append h'.own⟩
theorem Fresh.left {B : Nat} {w : World} {fp fp' : List Nat} (h : Fresh B w (fp ++ fp')) : Fresh B w fp :=
  ⟨(List.nodup_append.1 h.nd).1, fun b hb => h.ge b (List.mem_append_left _ hb), h.own.left⟩
theorem ret_bool {a b : Bool} (h : a = b) : Ending.returned (.bool a) = .returned (.bool b) := by rw [h]

/-- an int64 -/
def I64 (n : Int) : Prop := -9223372036854775808 ≤ n ∧ n ≤ 9223372036854775807

/-- how plain data lies in memory: the cells of a variable, what they reach (fp) -/
class Rp (α : Type) where
  size : Nat
  rep : World → List Value → α → List Nat → Prop
  len : ∀ {w cs x fp}, rep w cs x fp → cs.length = size
  frame : ∀ {w w' : World} {cs x fp}, rep w cs x fp → (∀ b ∈ fp, w'.heap[b]? = w.heap[b]?) → rep w' cs x fp
  lt : ∀ {w cs x fp}, rep w cs x fp → ∀ b ∈ fp, b < w.heap.size

theorem Rp.only {α : Type} [Rp α] {w w' : World} {cs : List Value} {x : α} {fp fp' : List Nat} (h : Rp.rep w cs x fp) (ho : Only fp' w w') (hd : ∀ b ∈ fp, b ∉ fp') : Rp.rep w' cs x fp :=
  Rp.frame h fun b hb => ho.block b (Rp.lt h b hb) (hd b hb)
theorem Rp.keep {α : Type} [Rp α] {w w' : World} {cs : List Value} {x : α} {fp : List Nat} (h : Rp.rep w cs x fp) (ho : Only [] w w') : Rp.rep w' cs x fp := Rp.only h ho (by simp)

instance : Rp Int where
  size := 1
  rep _ cs n fp := cs = [.int .i64 n] ∧ I64 n ∧ fp = []
  len h := by rw [h.1]; rfl
  frame h _ := h
  lt h := by rw [h.2.2]; simp

/-- the slice of address a and capacity cap reads as xs; its cells, if any, lie in the block of ob; what they reach: fps -/
structure SeqA {α : Type} [Rp α] (w : World) (a : Option Addr) (cap : Nat) (xs : List α) (ob : List Nat) (fps : List (List Nat)) : Prop where
  len : xs.length ≤ cap
  cap : cap ≤ maxLen
  nf : fps.length = xs.length
  at_ : ∀ k (h : k < xs.length), ∃ b off cs, a = some ⟨b, off, none⟩ ∧ ob = [b] ∧ (∀ j u, cs[j]? = some u → w.cell? ⟨b, off + k * Rp.size α + j, none⟩ = some u) ∧ Rp.rep w cs (xs[k]) (fps[k]'(by omega))
  lt : ∀ b ∈ ob, b < w.heap.size
  one : ob.length ≤ 1

section
variable {α : Type} [Rp α] {w w' : World} {a : Option Addr} {cap : Nat} {xs : List α} {ob : List Nat} {fps : List (List Nat)}
theorem SeqA.nil (w : World) (a : Option Addr) {cap : Nat} (h : cap ≤ maxLen) : SeqA w a cap ([] : List α) [] [] := ⟨Nat.zero_le _, h, rfl, by simp, by simp, by simp⟩
theorem SeqA.lt_all (h : SeqA w a cap xs ob fps) : ∀ b ∈ ob ++ fps.flatten, b < w.heap.size := by
  intro b hb
  rcases List.mem_append.1 hb with hb | hb
  · exact h.lt b hb
  · obtain ⟨f, hf, hb⟩ := List.mem_flatten.1 hb
    obtain ⟨k, hk, rfl⟩ := List.getElem_of_mem hf
    obtain ⟨_, _, _, _, _, _, hr⟩ := h.at_ k (by have := h.nf; omega)
    exact Rp.lt hr b hb
theorem SeqA.frame (h : SeqA w a cap xs ob fps) (hf : ∀ b ∈ ob ++ fps.flatten, w'.heap[b]? = w.heap[b]?) : SeqA w' a cap xs ob fps := by
  refine ⟨h.len, h.cap, h.nf, fun k hk => ?_, fun b hb => ?_, h.one⟩
  · obtain ⟨b, off, cs, ha, hob, hc, hr⟩ := h.at_ k hk
    refine ⟨b, off, cs, ha, hob, fun j u hu => ?_, Rp.frame hr fun b hb => hf b (List.mem_append_right _ (List.mem_flatten.2 ⟨_, List.getElem_mem _, hb⟩))⟩
    rw [World.cell?_of_block (w := w) (hf b (by simp [hob]))]
    exact hc j u hu
  · have := hf b (List.mem_append_left _ hb)
    rw [Array.getElem?_eq_getElem (h.lt b hb)] at this
    exact (Array.getElem?_eq_some_iff.1 this).1
end

instance {α : Type} [Rp α] : Rp (List α) where
  size := 1
  rep w cs xs fp := ∃ a cap ob fps, cs = [.slice a xs.length cap] ∧ fp = ob ++ fps.flatten ∧ SeqA w a cap xs ob fps
  len h := by obtain ⟨_, _, _, _, rfl, _⟩ := h; rfl
  frame h hf := by
    obtain ⟨a, cap, ob, fps, hcs, hfp, hs⟩ := h
    exact ⟨a, cap, ob, fps, hcs, hfp, hs.frame fun b hb => hf b (by rw [hfp]; exact hb)⟩
  lt h := by
    obtain ⟨a, cap, ob, fps, hcs, hfp, hs⟩ := h
    rw [hfp]; exact hs.lt_all

/-- the value v of a variable of one cell reads as x -/
abbrev Rd {α : Type} [Rp α] (w : World) (v : Value) (x : α) (fp : List Nat) : Prop := Rp.rep w [v] x fp

section
variable {α : Type} [Rp α] {w w' : World} {v : Value} {xs : List α} {fp : List Nat}
end

/-- slices of int64: the same in simpler words -/
structure IntsA (w : World) (a : Option Addr) (cap : Nat) (l : List Int) (fp : List Nat) : Prop where
  len : l.length ≤ cap
  cap : cap ≤ maxLen
  wf : ∀ x ∈ l, I64 x
  at_ : ∀ k (h : k < l.length), ∃ b off, a = some ⟨b, off, none⟩ ∧ fp = [b] ∧ w.cell? ⟨b, off + k, none⟩ = some (.int .i64 l[k])
  lt : ∀ b ∈ fp, b < w.heap.size
  one : fp.length ≤ 1

section
variable {w w' : World} {a : Option Addr} {cap : Nat} {l : List Int} {fp : List Nat}
theorem IntsA.nil (w : World) (a : Option Addr) {cap : Nat} (h : cap ≤ maxLen) : IntsA w a cap [] [] := ⟨Nat.zero_le _, h, by simp, by simp, by simp, by simp⟩
theorem IntsA.frame (h : IntsA w a cap l fp) (hf : ∀ b ∈ fp, w'.heap[b]? = w.heap[b]?) : IntsA w' a cap l fp := by
  refine ⟨h.len, h.cap, h.wf, fun k hk => ?_, fun b hb => ?_, h.one⟩
  · obtain ⟨b, off, ha, hfp, hc⟩ := h.at_ k hk
    refine ⟨b, off, ha, hfp, ?_⟩
    rw [World.cell?_of_block (w := w) (hf b (by simp [hfp]))]
    exact hc
  · have := hf b hb
    rw [Array.getElem?_eq_getElem (h.lt b hb)] at this
    exact (Array.getElem?_eq_some_iff.1 this).1
theorem IntsA.only (h : IntsA w a cap l fp) {fp' : List Nat} (ho : Only fp' w w') (hd : ∀ b ∈ fp, b ∉ fp') : IntsA w' a cap l fp :=
  h.frame fun b hb => ho.block b (h.lt b hb) (hd b hb)
theorem IntsA.keep (h : IntsA w a cap l fp) (ho : Only [] w w') : IntsA w' a cap l fp := h.only ho (by simp)
end

/-- relabelling: all the numbers of a datum, from k on, in order; how many there are -/
class Mk (α : Type) where
  mark : Int → α → α
  cnt : α → Nat

instance : Mk Int := ⟨fun k _ => k, fun _ => 1⟩
def markL {α : Type} [Mk α] : Int → List α → List α
  | _, [] => []
  | k, x :: xs => Mk.mark k x :: markL (k + (Mk.cnt x : Nat)) xs
def cntL {α : Type} [Mk α] : List α → Nat
  | [] => 0
  | x :: xs => Mk.cnt x + cntL xs
instance {α : Type} [Mk α] : Mk (List α) := ⟨markL, cntL⟩

section
variable {α : Type} [Mk α]
end
theorem cntL_ints (l : List Int) : cntL l = l.length := by
  induction l with
  | nil => rfl
  | cons x l ih => simp [cntL, ih, Mk.cnt]; omega

end Go.Proofs.YtaiehpclmcfagaaDoor

namespace Go.Proofs.YtaiehpclmcfagaaDoor
open Go.RowKit
set_option maxRecDepth 10000
end Go.Proofs.YtaiehpclmcfagaaDoor


namespace Go.Proofs.YtaiehpclmcfagaaDoor
open Go.RowKit
set_option maxRecDepth 10000





class Sz (α : Type) where
  sz : α → Nat
instance : Sz Int := ⟨fun _ => 0⟩
def szL {α : Type} [Sz α] : List α → Nat
  | [] => 0
  | x :: xs => Sz.sz x + szL xs
instance {α : Type} [Sz α] : Sz (List α) := ⟨fun l => l.length + szL l⟩
section
variable {α : Type} [Rp α] {w : World} {a : Option Addr} {cap : Nat} {xs : List (List α)} {ob : List Nat} {fps : List (List Nat)}
end
section
variable {α : Type} [Rp α] {w w' : World} {a : Option Addr} {cap : Nat} {xs : List α} {ob : List Nat} {fps : List (List Nat)}
theorem mem_flatten_get {fps : List (List Nat)} {j : Nat} (hj : j < fps.length) {b : Nat} (hb : b ∈ fps[j]) : b ∈ fps.flatten := List.mem_flatten.2 ⟨_, List.getElem_mem _, hb⟩
end
/-- the first elements of a list, read one by one -/
structure Reads {α : Type} [Rp α] (w : World) (B : Nat) (vs : List Value) (xs : List α) (fps : List (List Nat)) : Prop where
  vl : vs.length = xs.length
  fl : fps.length = xs.length
  at_ : ∀ k (h1 : k < vs.length) (h2 : k < xs.length) (h3 : k < fps.length), Rp.rep w [vs[k]] xs[k] fps[k]
  fresh : Fresh B w fps.flatten
section
variable {α : Type} [Rp α] {w w' : World} {B : Nat} {vs : List Value} {xs : List α} {fps : List (List Nat)}
theorem Reads.nil (w : World) (B : Nat) : Reads w B [] ([] : List α) [] := ⟨rfl, rfl, by simp, Fresh.nil _ _⟩
theorem Reads.only {fp : List Nat} (h : Reads w B vs xs fps) (ho : Only fp w w') (hd : ∀ b ∈ fp, b < B ∨ w.heap.size ≤ b) : Reads w' B vs xs fps :=
  ⟨h.vl, h.fl, fun k h1 h2 h3 => Rp.only (h.at_ k h1 h2 h3) ho (fun b hb hm => by
      have h4 := h.fresh.ge b (mem_flatten_get h3 hb); have h5 := h.fresh.lt b (mem_flatten_get h3 hb); have := hd b hm; omega),
    h.fresh.only ho (fun b hb hm => by have h4 := h.fresh.ge b hb; have h5 := h.fresh.lt b hb; have := hd b hm; omega)⟩
end
/-- no list in it is longer than 2^21 -/
class Sm (α : Type) where
  sm : α → Prop
instance : Sm Int := ⟨fun _ => True⟩
instance {α : Type} [Sm α] : Sm (List α) := ⟨fun l => l.length ≤ 2097152 ∧ ∀ x ∈ l, Sm.sm x⟩
theorem szL_mem {α : Type} [Sz α] {l : List α} {x : α} (h : x ∈ l) : Sz.sz x ≤ szL l := by
  induction l with
  | nil => cases h
  | cons y l ih =>
    simp only [szL]
    cases List.mem_cons.1 h with
    | inl e => subst e; omega
    | inr e => have := ih e; omega
class SzSm (α : Type) [Sz α] [Sm α] : Prop where
  of_ : ∀ x : α, Sz.sz x ≤ 2097152 → Sm.sm x
instance : SzSm Int := ⟨fun _ _ => trivial⟩
instance {α : Type} [Sz α] [Sm α] [SzSm α] : SzSm (List α) := ⟨fun l h => by
  have h' : l.length + szL l ≤ 2097152 := h
  exact ⟨by omega, fun x hx => SzSm.of_ x (by have := szL_mem hx; omega)⟩⟩


end Go.Proofs.YtaiehpclmcfagaaDoor


namespace Go.Proofs.YtaiehpclmcfagaaDoor
open Go.RowKit
set_option maxRecDepth 10000

class MkL (α : Type) [Mk α] : Prop where
  idem : ∀ (k : Int) (x : α), Mk.mark k (Mk.mark k x) = Mk.mark k x
  cnt : ∀ (k : Int) (x : α), Mk.cnt (Mk.mark k x) = Mk.cnt x
instance : MkL Int := ⟨fun _ _ => rfl, fun _ _ => rfl⟩
theorem markL_cnt {α : Type} [Mk α] [MkL α] (k : Int) (l : List α) : cntL (markL k l) = cntL l := by
  induction l generalizing k with
  | nil => rfl
  | cons x l ih => simp [markL, cntL, ih, MkL.cnt]
theorem markL_idem {α : Type} [Mk α] [MkL α] (k : Int) (l : List α) : markL k (markL k l) = markL k l := by
  induction l generalizing k with
  | nil => rfl
  | cons x l ih => simp [markL, ih, MkL.cnt, MkL.idem]
instance {α : Type} [Mk α] [MkL α] : MkL (List α) := ⟨markL_idem, markL_cnt⟩
/-- how many numbers there are, against the size that the laws reckon -/
class CntSz (α : Type) [Mk α] [Sz α] : Prop where
  le : ∀ x : α, Mk.cnt x ≤ Sz.sz x
instance : CntSz (List Int) := ⟨fun l => by simp [Mk.cnt, cntL_ints, Sz.sz]⟩
theorem cntL_szL {α : Type} [Mk α] [Sz α] [CntSz α] (l : List α) : cntL l ≤ szL l := by
  induction l with
  | nil => simp [cntL]
  | cons x l ih => have := CntSz.le x; simp only [cntL, szL]; omega
instance {α : Type} [Mk α] [Sz α] [CntSz α] : CntSz (List α) := ⟨fun l => by have := cntL_szL l; show cntL l ≤ l.length + szL l; omega⟩

theorem and_of {a b : Prop} (h : a) (k : a → b) : a ∧ b := ⟨h, k h⟩
/-- block g holds just the cells cs -/
def Blk (w : World) (g : Nat) (cs : List Value) : Prop := ∃ t, w.heap[g]? = some (.cells cs.toArray t (0, 0))
theorem Blk.lt {w : World} {g : Nat} {cs : List Value} (h : Blk w g cs) : g < w.heap.size := by
  obtain ⟨t, h⟩ := h; exact (Array.getElem?_eq_some_iff.1 h).1
theorem Blk.new (w : World) (cs : List Value) (t : TypeId) : Blk (w.alloc (.cells cs.toArray t)) w.heap.size cs := ⟨t, heap_alloc_new w _⟩
theorem Blk.new_at {w : World} {cs : List Value} {t : TypeId} {g : Nat} (h : g = w.heap.size) : Blk (w.alloc (.cells cs.toArray t)) g cs := by subst h; exact Blk.new _ _ _
theorem Blk.only {w w' : World} {g : Nat} {cs : List Value} {fp : List Nat} (h : Blk w g cs) (ho : Only fp w w') (hn : g ∉ fp) : Blk w' g cs := by
  have := h.lt
  obtain ⟨t, h⟩ := h; exact ⟨t, (ho.block g this hn).trans h⟩
theorem Blk.keep {w w' : World} {g : Nat} {cs : List Value} (h : Blk w g cs) (ho : Only [] w w') : Blk w' g cs := h.only ho (by simp)
theorem Blk.cell {w : World} {g : Nat} {cs : List Value} (h : Blk w g cs) (i : Nat) {v : Value} (hv : cs[i]? = some v) : w.cell? ⟨g, i, none⟩ = some v := by
  obtain ⟨t, h⟩ := h
  rw [cell_of_row w g i _ t (0, 0) h]; simpa using hv
end Go.Proofs.YtaiehpclmcfagaaDoor

namespace Go.Proofs.YtaiehpclmcfagaaDoor
open Go.RowKit
set_option maxRecDepth 10000

structure Table where
  tracked : List Int
  patterns : List (List Int)
  distances : List Int

instance : Rp Table where
  size := 3
  rep w cs x fp := ∃ v0 v1 v2 f0 f1 f2, cs = [v0] ++ [v1] ++ [v2] ∧ fp = f0 ++ (f1 ++ f2) ∧ Rd w v0 x.tracked f0 ∧ Rd w v1 x.patterns f1 ∧ Rd w v2 x.distances f2
  len h := by
    obtain ⟨v0, v1, v2, f0, f1, f2, rfl, -, h0, h1, h2⟩ := h
    rfl
  frame h hf := by
    obtain ⟨v0, v1, v2, f0, f1, f2, hcs, rfl, h0, h1, h2⟩ := h
    exact ⟨v0, v1, v2, f0, f1, f2, hcs, rfl, Rp.frame h0 fun b hb => hf b (by simp [hb]), Rp.frame h1 fun b hb => hf b (by simp [hb]), Rp.frame h2 fun b hb => hf b (by simp [hb])⟩
  lt h := by
    obtain ⟨v0, v1, v2, f0, f1, f2, hcs, rfl, h0, h1, h2⟩ := h
    intro b hb
    simp only [List.mem_append] at hb
    rcases hb with hb | hb | hb
    · exact Rp.lt h0 b hb
    · exact Rp.lt h1 b hb
    · exact Rp.lt h2 b hb

instance : Mk Table where
  mark k x := ⟨Mk.mark (k) x.tracked, Mk.mark (k + (Mk.cnt x.tracked : Nat)) x.patterns, Mk.mark (k + (Mk.cnt x.tracked : Nat) + (Mk.cnt x.patterns : Nat)) x.distances⟩
  cnt x := Mk.cnt x.tracked + Mk.cnt x.patterns + Mk.cnt x.distances
instance : Sz Table where
  sz x := Sz.sz x.tracked + Sz.sz x.patterns + Sz.sz x.distances
instance : Sm Table where
  sm x := Sm.sm x.tracked ∧ Sm.sm x.patterns ∧ Sm.sm x.distances
instance : SzSm Table := ⟨fun x h => by
  have h' : Sz.sz x.tracked + Sz.sz x.patterns + Sz.sz x.distances ≤ 2097152 := h
  exact ⟨SzSm.of_ _ (by omega), SzSm.of_ _ (by omega), SzSm.of_ _ (by omega)⟩⟩
instance : CntSz Table := ⟨fun x => by
  have h' : Mk.cnt x.tracked + Mk.cnt x.patterns + Mk.cnt x.distances ≤ Sz.sz x.tracked + Sz.sz x.patterns + Sz.sz x.distances := by have := CntSz.le x.tracked; have := CntSz.le x.patterns; have := CntSz.le x.distances; omega
  exact h'⟩
instance : MkL Table := ⟨fun k x => by simp [Mk.mark, Mk.cnt, markL_idem, markL_cnt], fun k x => by simp [Mk.mark, Mk.cnt, markL_cnt]⟩
end Go.Proofs.YtaiehpclmcfagaaDoor


namespace Go.Proofs.YtaiehpclmcfagaaDoor
open Go.RowKit
set_option maxRecDepth 10000
/-- the first elements of a list whose elements take several cells, read one by one -/
structure ReadsC {α : Type} [Rp α] (w : World) (B : Nat) (css : List (List Value)) (xs : List α) (fps : List (List Nat)) : Prop where
  vl : css.length = xs.length
  fl : fps.length = xs.length
  at_ : ∀ k (h1 : k < css.length) (h2 : k < xs.length) (h3 : k < fps.length), Rp.rep w css[k] xs[k] fps[k]
  fresh : Fresh B w fps.flatten
section
variable {α : Type} [Rp α] {w w' : World} {B : Nat} {css : List (List Value)} {xs : List α} {fps : List (List Nat)}
theorem ReadsC.nil (w : World) (B : Nat) : ReadsC w B [] ([] : List α) [] := ⟨rfl, rfl, by simp, Fresh.nil _ _⟩
theorem ReadsC.only {fp : List Nat} (h : ReadsC w B css xs fps) (ho : Only fp w w') (hd : ∀ b ∈ fp, b < B ∨ w.heap.size ≤ b) : ReadsC w' B css xs fps :=
  ⟨h.vl, h.fl, fun k h1 h2 h3 => Rp.only (h.at_ k h1 h2 h3) ho (fun b hb hm => by
      have h4 := h.fresh.ge b (mem_flatten_get h3 hb); have h5 := h.fresh.lt b (mem_flatten_get h3 hb); have := hd b hm; omega),
    h.fresh.only ho (fun b hb hm => by have h4 := h.fresh.ge b hb; have h5 := h.fresh.lt b hb; have := hd b hm; omega)⟩
end
end Go.Proofs.YtaiehpclmcfagaaDoor


namespace Go.Proofs.YtaiehpclmcfagaaDoor
open Go.RowKit
set_option maxRecDepth 10000

structure Puzzle where
  points : Int
  names : ByteArray
  moves : List (List Int)

instance : Rp Puzzle where
  size := 3
  rep w cs x fp := ∃ v2, cs = [Value.int .i64 x.points] ++ [Value.string x.names] ++ [v2] ∧ I64 x.points ∧ x.names.size ≤ maxLen ∧ Rd w v2 x.moves fp
  len h := by
    obtain ⟨v2, rfl, p0, p1, h2⟩ := h
    rfl
  frame h hf := by
    obtain ⟨v2, hcs, p0, p1, h2⟩ := h
    exact ⟨v2, hcs, p0, p1, Rp.frame h2 fun b hb => hf b (by simp [hb])⟩
  lt h := by
    obtain ⟨v2, hcs, p0, p1, h2⟩ := h
    intro b hb
    exact Rp.lt h2 b hb

instance : Mk Puzzle where
  mark k x := ⟨x.points, x.names, Mk.mark (k) x.moves⟩
  cnt x := Mk.cnt x.moves
instance : Sz Puzzle where
  sz x := x.names.size + Sz.sz x.moves
instance : Sm Puzzle where
  sm x := Sm.sm x.moves
instance : SzSm Puzzle := ⟨fun x h => by
  have h' : x.names.size + Sz.sz x.moves ≤ 2097152 := h
  exact SzSm.of_ x.moves (by omega)⟩
instance : CntSz Puzzle := ⟨fun x => by
  have h' : Mk.cnt x.moves ≤ x.names.size + Sz.sz x.moves := by have := CntSz.le x.moves; omega
  exact h'⟩
instance : MkL Puzzle := ⟨fun k x => by simp [Mk.mark, markL_idem], fun k x => by simp [Mk.mark, Mk.cnt, markL_cnt]⟩
end Go.Proofs.YtaiehpclmcfagaaDoor


namespace Go.Proofs.YtaiehpclmcfagaaDoor
open Go.RowKit
set_option maxRecDepth 10000

structure Claim where
  kind : Int
  value : Int
instance : Rp Claim where
  size := 2
  rep _ cs x fp := cs = [Value.int .i64 x.kind, Value.int .i64 x.value] ∧ I64 x.kind ∧ I64 x.value ∧ fp = []
  len h := by rw [h.1]; rfl
  frame h _ := h
  lt h := by rw [h.2.2.2]; simp
end Go.Proofs.YtaiehpclmcfagaaDoor

namespace Go.Proofs.YtaiehpclmcfagaaDoor
open Go.RowKit
set_option maxRecDepth 10000

instance : Mk Claim where
  mark _ x := x
  cnt _ := 0
instance : Sz Claim where
  sz _ := 0
instance : Sm Claim where
  sm _ := True

end Go.Proofs.YtaiehpclmcfagaaDoor

namespace Go.Proofs.YtaiehpclmcfagaaDoor
open Go.RowKit
set_option maxRecDepth 10000

def bA (l : List UInt8) : ByteArray := ⟨l.toArray⟩
theorem bA_add (a b : List UInt8) : bA a ++ bA b = bA (a ++ b) := by
  unfold bA
  apply ByteArray.ext
  simp [ByteArray.data_append]
/-- what is left of a numeral, and what is written -/
def FmS (N u : Nat) (tl : List UInt8) : Prop := if u = 0 ∧ tl ≠ [] then tl = Lib.decDigits N else Lib.decDigits N = Lib.decDigits u ++ tl
theorem FmS.start (N : Nat) : FmS N N [] := by unfold FmS; rw [if_neg (by simp)]; simp
theorem FmS.step {N u : Nat} {tl : List UInt8} (h : FmS N u tl) (hg : tl = [] ∨ u ≠ 0) : FmS N (u / 10) (UInt8.ofNat (48 + u % 10) :: tl) := by
  have h1 : Lib.decDigits N = Lib.decDigits u ++ tl := by
    unfold FmS at h
    rw [if_neg (by rintro ⟨a, b⟩; rcases hg with e | e; exact b e; exact e a)] at h
    exact h
  unfold FmS
  by_cases hu : u < 10
  · have e1 : u / 10 = 0 := by omega
    rw [e1, if_pos ⟨rfl, by simp⟩, h1, Lib.decDigits, dif_pos hu, show u % 10 = u by omega]
    rfl
  · rw [if_neg (by rintro ⟨a, b⟩; omega), h1]
    conv => lhs; rw [Lib.decDigits, dif_neg hu]
    simp
theorem FmS.fin {N u : Nat} {tl : List UInt8} (h : FmS N u tl) (h0 : u = 0) (h1 : tl ≠ []) : tl = Lib.decDigits N := by
  unfold FmS at h
  rwa [if_pos ⟨h0, h1⟩] at h
end Go.Proofs.YtaiehpclmcfagaaDoor

namespace Go.Proofs.YtaiehpclmcfagaaDoor
open Go.RowKit
set_option maxRecDepth 10000

def lenOf : Value → Nat
  | .string s => s.size
  | _ => 0
theorem bA_size (l : List UInt8) : (bA l).size = l.length := by unfold bA; simp [ByteArray.size]
theorem bA_list (l : List UInt8) : (bA l).toList = l := by
  rw [Go.Lib.toList_data]
  unfold bA
  simp
theorem str1 (d : Nat) : strOfNums [48 + (d : Int)] = bA [UInt8.ofNat (48 + d)] := by
  unfold strOfNums bA
  have : (48 + (d : Int)).toNat = 48 + d := by omega
  simp [this]
theorem FmS.len {N u : Nat} {tl : List UInt8} (h : FmS N u tl) (hN : N ≤ 9223372036854775808) : tl.length ≤ 20 := by
  have h1 : (Lib.decDigits N).length ≤ 20 := by rw [Lib.decDigits_length]; exact Lib.nDigits_le20 N (by omega)
  unfold FmS at h
  split at h
  · rw [h]; exact h1
  · rw [h, List.length_append] at h1; omega
set_option maxHeartbeats 1000000 in
theorem formatInt_pos (N : Nat) (hN : N ≤ 9223372036854775807) (w : World) :
    Calls Tryd.prog 12 #[.int .i64 (N : Int)] w fun e w' => e = .returned (.string (bA (Lib.decDigits N))) ∧ Only [] w w' := by
  go_enter Tryd.func12, Tryd.ntmps12
  go_wp2
  go_loopw [0, 3] (fun nv sv wr => ∃ (u : Nat) (tl : List UInt8), nv = .int .i64 (u : Int) ∧ sv = .string (bA tl) ∧ Hid (FmS N u tl) ∧ u ≤ 9223372036854775807 ∧ Only [] w wr)
    (fun nv sv _ => (intOf nv).toNat + (1 - lenOf sv))
  case atStart => exact ⟨N, [], rfl, rfl, Lib.hid (FmS.start N), hN, Only.refl _ _⟩
  case round =>
    obtain ⟨W2, hnew⟩ : ∃ W, W = wr := ⟨_, rfl⟩
    subst hnew
    obtain ⟨u, tl, rfl, rfl, hF, hu, hO⟩ := hrel
    have hN0 : ¬ ((N : Int) < 0) := by omega
    obtain ⟨em, hem⟩ : ∃ em, em = tl.isEmpty := ⟨_, rfl⟩
    have hE : (bA tl).toList.isEmpty = em := by rw [bA_list, hem]
    by_cases hgo : tl = [] ∨ u ≠ 0
    · obtain ⟨d, hd⟩ : ∃ d, d = u % 10 := ⟨_, rfl⟩
      have hd10 : d < 10 := by omega
      have hmd : (u : Int) % 10 = (d : Int) := by omega
      obtain ⟨q, hqd⟩ : ∃ q, q = u / 10 := ⟨_, rfl⟩
      have hq : (u : Int) / 10 = (q : Int) := by omega
      have hst := hF.out.step hgo
      rw [← hd, ← hqd] at hst
      have Hd := Lib.hid hd
      have Hqd := Lib.hid hqd
      have hg2 : (em || (u : Int) != 0) = true := by
        rcases hgo with e | e
        · subst e; rw [hem]; simp
        · simp [e]
      have Hme : Hid (q + (1 - (tl.length + 1)) < u + (1 - tl.length)) := Lib.hid (by
        rcases hgo with e | e
        · subst e; simp; omega
        · omega)
      have hcv := run_convert_bytes_arg (P := Tryd.prog) (W2.alloc (.cells #[.int .u8 (48 + (d : Int))] 5)) 38 5 Tryd.underlying38 Tryd.underlying5 W2.heap.size 0 1 1 [48 + (d : Int)] (by simp) (fun i hi => by
        match i, hi with
        | 0, _ => simp) 9 Tryd.underlying9
      rw [str1] at hcv
      obtain ⟨ch, hch⟩ : ∃ ch, ch = UInt8.ofNat (48 + d) := ⟨_, rfl⟩
      rw [← hch] at hcv hst
      have Hst := Lib.hid hst
      have hsz : ¬ 9223372036854775807 < (bA [ch]).size + (bA tl).size := by have := hF.out.len (by omega); rw [bA_size, bA_size, List.length_singleton]; omega
      clear hst hd hqd hF hem hgo hch
      rcases em with _ | _
      · have hu1 : ((u : Int) != 0) = true := by simpa using hg2
        go_wp2
        go_roundw
        case rel => exact ⟨q, ch :: tl, rfl, by rw [bA_add]; rfl, Hst, by have := Hqd.out; omega, hO.trans ((Only.refl _ _).alloc _)⟩
        case measure =>
          have := Hme.out
          simp only [intOf, lenOf, bA_add, bA_size, List.length_append, List.length_singleton]
          omega
      · go_wp2
        go_roundw
        case rel => exact ⟨q, ch :: tl, rfl, by rw [bA_add]; rfl, Hst, by have := Hqd.out; omega, hO.trans ((Only.refl _ _).alloc _)⟩
        case measure =>
          have := Hme.out
          simp only [intOf, lenOf, bA_add, bA_size, List.length_append, List.length_singleton]
          omega
    · have ht : tl ≠ [] := fun e => hgo (.inl e)
      have hu0 : u = 0 := by
        rcases Nat.eq_zero_or_pos u with e | e
        · exact e
        · exact absurd (.inr (by omega)) hgo
      have hfin := Lib.hid (hF.out.fin hu0 ht)
      have hem2 : em = false := by rw [hem]; cases tl with
        | nil => exact absurd rfl ht
        | cons => rfl
      subst hem2
      subst hu0
      clear hF hem hgo ht
      go_wp2
      go_ret
      exact ⟨by rw [hfin.out]; rfl, hO⟩
set_option maxHeartbeats 1000000 in
theorem formatInt_neg (N : Nat) (hN1 : 1 ≤ N) (hN : N ≤ 9223372036854775808) (w : World) :
    Calls Tryd.prog 12 #[.int .i64 (-(N : Int))] w fun e w' => e = .returned (.string (bA (45 :: Lib.decDigits N))) ∧ Only [] w w' := by
  have hNneg : -(N : Int) < 0 := by omega
  obtain ⟨y, hy⟩ : ∃ y, y = -(N : Int) := ⟨_, rfl⟩
  rw [← hy] at hNneg ⊢
  have Hy := Lib.hid hy
  clear hy
  go_enter Tryd.func12, Tryd.ntmps12
  go_wp2
  go_loopw [0, 3] (fun nv sv wr => ∃ (u : Nat) (x : Int) (tl : List UInt8), Hid (x = -(u : Int)) ∧ nv = .int .i64 x ∧ sv = .string (bA tl) ∧ Hid (FmS N u tl) ∧ u ≤ 9223372036854775808 ∧ Only [] w wr)
    (fun nv sv _ => (intOf nv).natAbs + (1 - lenOf sv))
  case atStart => exact ⟨N, y, [], Hy, rfl, rfl, Lib.hid (FmS.start N), hN, Only.refl _ _⟩
  case round =>
    obtain ⟨W2, hnew⟩ : ∃ W, W = wr := ⟨_, rfl⟩
    subst hnew
    obtain ⟨u, x, tl, hx, rfl, rfl, hF, hu, hO⟩ := hrel
    have hN0 : decide (y < 0) = true := by simpa using hNneg
    obtain ⟨em, hem⟩ : ∃ em, em = tl.isEmpty := ⟨_, rfl⟩
    have hE : (bA tl).toList.isEmpty = em := by rw [bA_list, hem]
    by_cases hgo : tl = [] ∨ u ≠ 0
    · obtain ⟨d, hd⟩ : ∃ d, d = u % 10 := ⟨_, rfl⟩
      have hd10 : d < 10 := by omega
      have hmd : Int.tmod x 10 = -(d : Int) := by rw [hx.out, Int.neg_tmod, Int.tmod_eq_emod_of_nonneg (by omega)]; omega
      obtain ⟨q, hqd⟩ : ∃ q, q = u / 10 := ⟨_, rfl⟩
      have hq : Int.tdiv x 10 = -(q : Int) := by rw [hx.out, Int.neg_tdiv, Int.tdiv_eq_ediv_of_nonneg (by omega)]; omega
      obtain ⟨x', hx'⟩ : ∃ x', x' = -(q : Int) := ⟨_, rfl⟩
      rw [← hx'] at hq
      have Hx' := Lib.hid hx'
      have hxI : IntKind.i64.wrap x' = x' := by rw [IntKind.wrap_i64]; omega
      have hst := hF.out.step hgo
      rw [← hd, ← hqd] at hst
      have Hd := Lib.hid hd
      have Hqd := Lib.hid hqd
      have hg2 : (em || x != 0) = true := by
        rcases hgo with e | e
        · subst e; rw [hem]; simp
        · have : x ≠ 0 := by rw [hx.out]; omega
          simp [this]
      have Hme : Hid (q + (1 - (tl.length + 1)) < u + (1 - tl.length)) := Lib.hid (by
        rcases hgo with e | e
        · subst e; simp; omega
        · omega)
      have hcv := run_convert_bytes_arg (P := Tryd.prog) (W2.alloc (.cells #[.int .u8 (48 + (d : Int))] 5)) 38 5 Tryd.underlying38 Tryd.underlying5 W2.heap.size 0 1 1 [48 + (d : Int)] (by simp) (fun i hi => by
        match i, hi with
        | 0, _ => simp) 9 Tryd.underlying9
      rw [str1] at hcv
      obtain ⟨ch, hch⟩ : ∃ ch, ch = UInt8.ofNat (48 + d) := ⟨_, rfl⟩
      rw [← hch] at hcv hst
      have Hst := Lib.hid hst
      have hsz : ¬ 9223372036854775807 < (bA [ch]).size + (bA tl).size := by have := hF.out.len (by omega); rw [bA_size, bA_size, List.length_singleton]; omega
      clear hst hd hqd hF hem hgo hch hx'
      by_cases hd0 : d = 0
      · subst hd0
        have hmd0 : Int.tmod x 10 = 0 := by simpa using hmd
        simp only [Int.ofNat_zero, Int.add_zero] at hcv
        clear hmd
        rcases em with _ | _
        · have hu1 : (x != 0) = true := by simpa using hg2
          go_wp2
          go_roundw
          case rel => exact ⟨q, x', ch :: tl, Hx', rfl, by rw [bA_add]; rfl, Hst, by have := Hqd.out; omega, hO.trans ((Only.refl _ _).alloc _)⟩
          case measure =>
            have := Hme.out
            have e1 : x'.natAbs = q := by rw [Hx'.out]; omega
            have e2 : x.natAbs = u := by rw [hx.out]; omega
            simp only [intOf, lenOf, bA_add, bA_size, List.length_append, List.length_singleton, e1, e2]
            omega
        · go_wp2
          go_roundw
          case rel => exact ⟨q, x', ch :: tl, Hx', rfl, by rw [bA_add]; rfl, Hst, by have := Hqd.out; omega, hO.trans ((Only.refl _ _).alloc _)⟩
          case measure =>
            have := Hme.out
            have e1 : x'.natAbs = q := by rw [Hx'.out]; omega
            have e2 : x.natAbs = u := by rw [hx.out]; omega
            simp only [intOf, lenOf, bA_add, bA_size, List.length_append, List.length_singleton, e1, e2]
            omega
      · have hd1 : 0 < d := by omega
        clear hd0
        rcases em with _ | _
        · have hu1 : (x != 0) = true := by simpa using hg2
          go_wp2
          go_roundw
          case rel => exact ⟨q, x', ch :: tl, Hx', rfl, by rw [bA_add]; rfl, Hst, by have := Hqd.out; omega, hO.trans ((Only.refl _ _).alloc _)⟩
          case measure =>
            have := Hme.out
            have e1 : x'.natAbs = q := by rw [Hx'.out]; omega
            have e2 : x.natAbs = u := by rw [hx.out]; omega
            simp only [intOf, lenOf, bA_add, bA_size, List.length_append, List.length_singleton, e1, e2]
            omega
        · go_wp2
          go_roundw
          case rel => exact ⟨q, x', ch :: tl, Hx', rfl, by rw [bA_add]; rfl, Hst, by have := Hqd.out; omega, hO.trans ((Only.refl _ _).alloc _)⟩
          case measure =>
            have := Hme.out
            have e1 : x'.natAbs = q := by rw [Hx'.out]; omega
            have e2 : x.natAbs = u := by rw [hx.out]; omega
            simp only [intOf, lenOf, bA_add, bA_size, List.length_append, List.length_singleton, e1, e2]
            omega
    · have ht : tl ≠ [] := fun e => hgo (.inl e)
      have hu0 : u = 0 := by
        rcases Nat.eq_zero_or_pos u with e | e
        · exact e
        · exact absurd (.inr (by omega)) hgo
      have hfin := Lib.hid (hF.out.fin hu0 ht)
      have hem2 : em = false := by rw [hem]; cases tl with
        | nil => exact absurd rfl ht
        | cons => rfl
      subst hem2
      have hx0 : x = 0 := by rw [hx.out, hu0]; rfl
      have hbn : ¬ 9223372036854775807 < (⟨#[45]⟩ : ByteArray).size + (bA tl).size := by
        have h1 := hF.out.len (by omega)
        have h2 : (⟨#[45]⟩ : ByteArray).size = 1 := rfl
        rw [h2, bA_size]; omega
      subst hx0
      subst hu0
      clear hF hem hgo ht hx
      go_wp2
      go_ret
      exact ⟨by
        show Ending.returned (Value.string ((⟨#[45]⟩ : ByteArray) ++ bA tl)) = _
        rw [hfin.out, show (⟨#[45]⟩ : ByteArray) = bA [45] from rfl, bA_add]
        rfl, hO⟩
theorem formatInt_any (n : Int) (hn : I64 n) (w : World) :
    Calls Tryd.prog 12 #[.int .i64 n] w fun e w' => e = .returned (.string (bA (Lib.itoa n))) ∧ Only [] w w' := by
  unfold I64 at hn
  by_cases h : n < 0
  · obtain ⟨N, rfl⟩ : ∃ N : Nat, n = -(N : Int) := ⟨n.natAbs, by omega⟩
    rw [Lib.itoa_neg N (by omega)]
    exact formatInt_neg N (by omega) (by omega) w
  · obtain ⟨N, rfl⟩ := Int.eq_ofNat_of_zero_le (show 0 ≤ n by omega)
    rw [Lib.itoa_nonneg N]
    exact formatInt_pos N (by omega) w
end Go.Proofs.YtaiehpclmcfagaaDoor

namespace Go.Proofs.YtaiehpclmcfagaaDoor
open Go.RowKit Go.Shelf Go.Sort Go.Proofs
set_option maxRecDepth 10000

def Tryd.fmtI_ren : Go.Shelf.Ren := ⟨fun | 173 => 15 | 246 => 16 | 283 => 17 | 284 => 18 | 285 => 19 | 286 => 20 | 129 => 22 | 317 => 21 | 318 => 23 | 319 => 24 | 320 => 25 | 337 => 26 | 338 => 27 | n => n, fun | 2 => 2 | 3 => 3 | 9 => 9 | 4 => 4 | 171 => 41 | 0 => 0 | 53 => 42 | 37 => 38 | 5 => 5 | 173 => 45 | 212 => 49 | 51 => 50 | 20 => 20 | 213 => 51 | 46 => 53 | 232 => 56 | 233 => 57 | n => n, fun | 17 => 1 | 18 => 2 | 19 => 3 | n => n⟩
theorem Tryd.fmtI : LaysM.n173 Tryd.prog Tryd.fmtI_ren where
  mixed := by kernel_rfl
  f129 := Tryd.func22.trans (congrArg some (by kernel_rfl))
  f173 := Tryd.func15.trans (congrArg some (by kernel_rfl))
  f246 := Tryd.func16.trans (congrArg some (by kernel_rfl))
  f283 := Tryd.func17.trans (congrArg some (by kernel_rfl))
  f284 := Tryd.func18.trans (congrArg some (by kernel_rfl))
  f285 := Tryd.func19.trans (congrArg some (by kernel_rfl))
  f286 := Tryd.func20.trans (congrArg some (by kernel_rfl))
  f317 := Tryd.func21.trans (congrArg some (by kernel_rfl))
  f318 := Tryd.func23.trans (congrArg some (by kernel_rfl))
  f319 := Tryd.func24.trans (congrArg some (by kernel_rfl))
  f320 := Tryd.func25.trans (congrArg some (by kernel_rfl))
  f337 := Tryd.func26.trans (congrArg some (by kernel_rfl))
  f338 := Tryd.func27.trans (congrArg some (by kernel_rfl))
  t0 := Tryd.underlying0
  a0 := Tryd.isAgg0
  z0 := Tryd.sizeOf0
  v0 := Tryd.zeroValue0
  t2 := Tryd.underlying2
  a2 := Tryd.isAgg2
  z2 := Tryd.sizeOf2
  v2 := Tryd.zeroValue2
  t3 := Tryd.underlying3
  a3 := Tryd.isAgg3
  z3 := Tryd.sizeOf3
  v3 := Tryd.zeroValue3
  t4 := Tryd.underlying4
  a4 := Tryd.isAgg4
  z4 := Tryd.sizeOf4
  v4 := Tryd.zeroValue4
  t5 := Tryd.underlying5
  a5 := Tryd.isAgg5
  z5 := Tryd.sizeOf5
  v5 := Tryd.zeroValue5
  t9 := Tryd.underlying9
  a9 := Tryd.isAgg9
  z9 := Tryd.sizeOf9
  v9 := Tryd.zeroValue9
  t20 := Tryd.underlying20
  a20 := Tryd.isAgg20
  z20 := Tryd.sizeOf20
  v20 := Tryd.zeroValue20
  t37 := Tryd.underlying38
  a37 := Tryd.isAgg38
  z37 := Tryd.sizeOf38
  v37 := Tryd.zeroValue38
  t46 := Tryd.underlying53
  a46 := Tryd.isAgg53
  z46 := Tryd.sizeOf53
  v46 := Tryd.zeroValue53
  t51 := Tryd.underlying50
  a51 := Tryd.isAgg50
  z51 := Tryd.sizeOf50
  v51 := Tryd.zeroValue50
  t53 := Tryd.underlying42
  a53 := Tryd.isAgg42
  z53 := Tryd.sizeOf42
  v53 := Tryd.zeroValue42
  t171 := Tryd.underlying41
  a171 := Tryd.isAgg41
  z171 := Tryd.sizeOf41
  v171 := Tryd.zeroValue41
  t173 := Tryd.underlying45
  a173 := Tryd.isAgg45
  z173 := Tryd.sizeOf45
  v173 := Tryd.zeroValue45
  t212 := Tryd.underlying49
  a212 := Tryd.isAgg49
  z212 := Tryd.sizeOf49
  v212 := Tryd.zeroValue49
  t213 := Tryd.underlying51
  a213 := Tryd.isAgg51
  z213 := Tryd.sizeOf51
  t232 := Tryd.underlying56
  a232 := Tryd.isAgg56
  z232 := Tryd.sizeOf56
  v232 := Tryd.zeroValue56
  t233 := Tryd.underlying57
  a233 := Tryd.isAgg57
  z233 := Tryd.sizeOf57
  v233 := Tryd.zeroValue57
  g17 := by kernel_rfl
  g18 := by kernel_rfl
  g19 := by kernel_rfl
  i0 := by kernel_rfl
  i2 := by kernel_rfl
  i3 := by kernel_rfl
  i4 := by kernel_rfl
  i5 := by kernel_rfl
  i9 := by kernel_rfl
  i20 := by kernel_rfl
  i37 := by kernel_rfl
  i46 := by kernel_rfl
  i51 := by kernel_rfl
  i53 := by kernel_rfl
  i171 := by kernel_rfl
  i173 := by kernel_rfl
  i212 := by kernel_rfl
  i232 := by kernel_rfl
  i233 := by kernel_rfl
  m17 := by kernel_rfl
  m18 := by kernel_rfl
  m19 := by kernel_rfl
theorem Only.grewN (w : World) (k : Nat) (os : Array Obj) : Only [] w (grow (w.drewN k) os) := by
  refine (Only.ofDrewN w k []).trans ⟨rfl, rfl, rfl, by simp, fun j hj _ => heap_grow_old _ _ hj⟩
/-- the table of the powers of ten -/
abbrev Pow10 (w : World) : Prop := Lib.TabIs Tryd.prog w "internal/strconv.uint64pow10" .u64 Lib.pow10Tab
theorem Pow10.keep {w w' : World} (h : Pow10 w) (k : Only [] w w') : Pow10 w' := by
  unfold Pow10 Lib.TabIs World.var? at *
  cases hg : Tryd.prog.globalNamed "internal/strconv.uint64pow10" with
  | none => rw [hg] at h; simp at h
  | some g =>
    rw [hg] at h
    simp only [Option.bind_some] at h ⊢
    have hlt : g < w.heap.size := by
      rcases Nat.lt_or_ge g w.heap.size with h1 | h1
      · exact h1
      · rw [Array.getElem?_eq_none h1] at h; cases h
    rw [k.block g hlt (by simp)]
    exact h
set_option maxHeartbeats 1000000 in
theorem decimal_any (n : Int) (hn : I64 n) (w : World) (ht : Pow10 w) :
    Calls Tryd.prog 14 #[.int .i64 n] w fun e w' => e = .returned (.string (bA (Lib.itoa n))) ∧ Only [] w w' := by
  have Hc : Hid (Calls Tryd.prog 15 #[.int .i64 n, .int .i64 10] w fun e w' => e = .returned (.string (bA (Lib.itoa n))) ∧ Only [] w w') := Lib.hid (by
    unfold I64 at hn
    refine (Any.strconv_FormatInt_10 Tryd.fmtI n (by omega) (by omega) w ht).mono ?_
    rintro e w' ⟨he, k, os, rfl⟩
    exact ⟨he, Only.grewN w k os⟩)
  clear hn ht
  go_enter Tryd.func14, Tryd.ntmps14
  go_wp2_with (first
    | (go_at_call 15; (with_reducible refine (Hc.out).mono ?_); rintro e w1 ⟨rfl, t1⟩)
    | fail "no arm")
  go_ret
  exact ⟨rfl, t1⟩
end Go.Proofs.YtaiehpclmcfagaaDoor

namespace Go.Proofs.YtaiehpclmcfagaaDoor
open Go.RowKit
set_option maxRecDepth 10000

section
variable {P : Program} (w : World)
end
end Go.Proofs.YtaiehpclmcfagaaDoor


namespace Go.Proofs.YtaiehpclmcfagaaDoor
open Go.RowKit
set_option maxRecDepth 10000

def inR (x lo hi : Int) : Bool := decide (lo ≤ x) && decide (x ≤ hi)
theorem inR_iff {x lo hi : Int} : inR x lo hi = true ↔ lo ≤ x ∧ x ≤ hi := by simp [inR]
theorem inRange_any (x lo hi : Int) (w : World) :
    Calls Tryd.prog 11 #[.int .i64 x, .int .i64 lo, .int .i64 hi] w fun e w' => e = .returned (.bool (inR x lo hi)) ∧ w' = w := by
  by_cases h1 : lo ≤ x
  · by_cases h2 : x ≤ hi
    · go_enter Tryd.func11, Tryd.ntmps11
      go_wp2
      go_ret
      exact ⟨ret_bool (by simp [inR, h1, h2]), rfl⟩
    · go_enter Tryd.func11, Tryd.ntmps11
      go_wp2
      go_ret
      exact ⟨ret_bool (by simp [inR, h2]), rfl⟩
  · go_enter Tryd.func11, Tryd.ntmps11
    go_wp2
    go_ret
    exact ⟨ret_bool (by simp [inR]; omega), rfl⟩
theorem within_any (x lo hi : Int) (w : World) :
    Calls Tryd.prog 13 #[.int .i64 x, .int .i64 lo, .int .i64 hi] w fun e w' => e = .returned (.bool (inR x lo hi)) ∧ w' = w := by
  by_cases h1 : lo ≤ x
  · by_cases h2 : x ≤ hi
    · go_enter Tryd.func13, Tryd.ntmps13
      go_wp2
      go_ret
      exact ⟨ret_bool (by simp [inR, h1, h2]), rfl⟩
    · go_enter Tryd.func13, Tryd.ntmps13
      go_wp2
      go_ret
      exact ⟨ret_bool (by simp [inR, h2]), rfl⟩
  · go_enter Tryd.func13, Tryd.ntmps13
    go_wp2
    go_ret
    exact ⟨ret_bool (by simp [inR]; omega), rfl⟩

end Go.Proofs.YtaiehpclmcfagaaDoor

