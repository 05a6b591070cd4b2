/- The program's search of patterns: its state (law 16). A slice of numbers that a loop appends to, in fewer words. The library's sort of a slice of int64 (slices.Sort), laid at this program; the sorted slice is the call's own. (Printed by mksortlay.py.) The reference's way down a chain: insertSorted, choicesAt, withEntry (laws 33, 47). The generators of random numbers, of the program and of the reference (laws 33, 47). The selection that a seed's generator makes (laws 35, 47). The reference's choicesAt, withEntry, RandomMember (laws 33, 35, 47). -/
import Derived.Test.YtndcifpbbnebmaaGreatRowRandomStatesG11
import Derived.Test.YtndcifpbbnebmaaGreatRowRandomStatesG1
import Derived.Deep.RegionLaw
import Derived.Test.YtndcifpbbnebmaaGreatRowRandomStatesG9
import Derived.Shelf.SortM.Plain
import Derived.Sort.OwnSortedInts
import Derived.Test.YtndcifpbbnebmaaGreatRowRandomStatesG3
import Derived.Test.YtndcifpbbnebmaaGreatRowRandomStatesG6
import Derived.Test.YtndcifpbbnebmaaGreatRowRandomStatesG8
import Derived.Test.YtndcifpbbnebmaaGreatRowRandomStatesG4
import Derived.Test.YtndcifpbbnebmaaGreatRowRandomStatesG10
namespace Go.Proofs.YtndcifpbbnebmaaGreat
open Go.RowKit
set_option maxRecDepth 10000

/-- a literal of one element, to which a loop appends -/
theorem Acc.one {α : Type} [Rp α] {w : World} (B : Nat) (e : TypeId) {cs : List Value} {x : α} {fp : List Nat} (h : Rp.rep w cs x fp) {g : Nat} (hg : g = w.heap.size) (hB : B ≤ g) : Acc B e (w.alloc (.cells cs.toArray e)) (.slice (some ⟨g, 0, none⟩) 1 1) [x] [fp] := by
  subst hg
  have hk : Only [] w (w.alloc (.cells cs.toArray e)) := (Only.refl _ _).alloc _
  refine ⟨⟨[cs], ⟨by simp [Rp.len h], .inr ⟨w.heap.size, 1, cs.toArray, rfl, hB, heap_alloc_new w _, Nat.le_refl _, by unfold maxLen; omega, by simp [Rp.len h], by simpa using List.take_of_length_le (Nat.le_of_eq (Rp.len h))⟩⟩, rfl, fun k h1 h2 h3 => ?_⟩, rfl, ?_⟩
  · have : k = 0 := by simpa using h1
    subst this
    exact Rp.keep h hk
  · intro g hg hm
    simp only [Value.ownBlock, Option.some.injEq] at hg
    subst hg
    have := Rp.lt h _ (by simpa using hm)
    omega
section
variable {P : Program} {α : Type} [Rp α] {ops : Array Oper} {rest : List Oper} {o : Oper} {a : Act} {w : World} {Q : Exit → Act → World → Prop}
theorem wpList_push2w (hgd : o.guard = none) (s x : Operand) (t : TypeId)
    (ho : o.op = .call { callee := .builtin .append, args := #[s, x], argTypes := #[t, t] })
    (B : Nat) (e : TypeId) (i : TypeInfo) (z : Value) (bytes : Nat) (ht : P.underlying t = some (.slice e)) (hi : P.info? e = some i) (hz : i.zero = some z)
    (hsize : i.size = Rp.size α) (hby : i.bytes = bytes) (hzs : z.cells.size = Rp.size α) (hsz : 0 < Rp.size α) (hbb : bytes ≤ 65536)
    (w0 : World) (v : Value) (l : List α) (fs : List (List Nat)) (hs : a.eval s = v) (hA : Acc B e w0 v l fs) (hK0 : Only [] w0 w) (hB : B ≤ w0.heap.size)
    (g c : Nat) (cs : List Value) (y : α) (fp : List Nat) (hx : a.eval x = .slice (some ⟨g, 0, none⟩) 1 c) (hsrc : ∀ j u, cs[j]? = some u → w.cell? ⟨g, j, none⟩ = some u) (hcs : ∀ u ∈ cs, u.oneCell' = true)
    (hy : Rp.rep w cs y fp) (hap : ∀ b ∈ fp, v.ownBlock ≠ some b) (hlen : l.length + 1 ≤ 1073741824)
    (h : ∀ v' w', Acc B e w' v' (l ++ [y]) (fs ++ [fp]) → Only v.ownBlock.toList w w' → (∀ wz, Only [] wz w → wz.heap.size ≤ B → Only [] wz w') →
      (Fresh B w0 fs.flatten → Fresh w0.heap.size w fp → Fresh B w' (fs ++ [fp]).flatten) → (v'.ownBlock = v.ownBlock ∨ v'.ownBlock = some w.heap.size) → wpList P ops Q rest (a.put o.dst v') w') : wpList P ops Q (o :: rest) a w :=
  wpList_plain hgd fun _ hK => wp_push2 s x t ho B e i z bytes ht hi hz hsize hby hzs hsz hbb w0 v l fs hs hA hK0 hB g c cs y fp hx hsrc hcs hy hap hlen fun v' w' h1 h2 h3 h4 h5 => hK _ _ (h v' w' h1 h2 h3 h4 h5)
end
/-- which keys are met -/
def metB (L : List (List Int)) (s : ByteArray) : Bool := L.any fun q => decide (kB q = s)
/-- the program's search under way: lo: the call's begin; m1, W: begin and end of the making of the moves -/
structure PBf (x : Puzzle) (m : Nat) (w : World) (m1 : Nat) (W : World) (M : Nat) (L : List (List Int)) (D : List Int) (wr : World) (v1 v2 : Value) (fs fd : List (List Nat)) : Prop where
  acc : Acc w.heap.size 32 wr v1 L fs
  dep : Acc w.heap.size 2 wr v2 D fd
  fr : Fresh w.heap.size wr fs.flatten
  mp : MpB wr M L.length (metB L)
  dl : D.length = L.length
  ll : L.length ≤ 3000
  pat : ∀ q ∈ L, patB x.points m q = true
  rng : ∀ d ∈ D, 0 ≤ d ∧ d ≤ D.length
  a2 : ∀ g, v2.ownBlock = some g → v1.ownBlock ≠ some g ∧ g ∉ fs.flatten ∧ g ≠ M
  a1 : v1.ownBlock ≠ some M ∧ M ∉ fs.flatten
  zone : ∀ g, (g = M ∨ v1.ownBlock = some g ∨ v2.ownBlock = some g) → (w.heap.size ≤ g ∧ g < m1) ∨ W.heap.size ≤ g
  keep : ∀ g, (g < w.heap.size ∨ (m1 ≤ g ∧ g < W.heap.size)) → wr.heap[g]? = W.heap[g]?
  on : Only [] w wr
  sz : W.heap.size ≤ wr.heap.size
  mw : w.heap.size ≤ m1 ∧ m1 ≤ W.heap.size
section
variable {x : Puzzle} {m : Nat} {w : World} {m1 : Nat} {W : World} {M : Nat} {L : List (List Int)} {D : List Int} {wr : World} {v1 v2 : Value} {fs fd : List (List Nat)}
theorem PBf.only {wr' : World} (h : PBf x m w m1 W M L D wr v1 v2 fs fd) (ho : Only [] wr wr') : PBf x m w m1 W M L D wr' v1 v2 fs fd :=
  ⟨h.acc.keep ho, h.dep.keep ho, h.fr.keep ho, h.mp.keep ho, h.dl, h.ll, h.pat, h.rng, h.a2, h.a1, h.zone, fun g hg => by
    have hz := h.sz; have hw := h.mw
    rw [ho.block g (by omega) (by simp)]; exact h.keep g hg, h.on.trans ho, Nat.le_trans h.sz ho.size, h.mw⟩
/-- from a world on, in which all the search's memory lies already -/
theorem PBf.start {W5 : World} (h : PBf x m w m1 W M L D wr v1 v2 fs fd) (ho : Only [] wr W5) : PBf x m w wr.heap.size W5 M L D W5 v1 v2 fs fd := by
  have hw := h.mw; have hz := h.sz
  refine ⟨h.acc.keep ho, h.dep.keep ho, h.fr.keep ho, h.mp.keep ho, h.dl, h.ll, h.pat, h.rng, h.a2, h.a1, fun g hg => .inl ?_, fun g _ => rfl, h.on.trans ho, Nat.le_refl _, by omega, ho.size⟩
  have h1 := h.zone g hg
  refine ⟨by omega, ?_⟩
  rcases hg with rfl | hg | hg
  · exact h.mp.lt
  · exact (h.acc.ownlt g hg).2
  · exact (h.dep.ownlt g hg).2
theorem PBf.fd0 (h : PBf x m w m1 W M L D wr v1 v2 fs fd) : fd.flatten = [] := by
  obtain ⟨css, ho, hcl, hr⟩ := h.dep.own
  have hl := h.dep.fl
  have : fd = List.replicate fd.length [] := by
    apply List.ext_getElem (by simp)
    intro k h1 h2
    have := (hr k (by omega) (by omega) h1).2.2
    simpa using this
  rw [this]; exact flatten_nil _
/-- a new pattern is met: the map, the list, the depths -/
theorem PBf.step {wp wa wb wc wd : World} {v1' v2' : Value} {s : List Int} {d : Int} {f : List Nat}
    (h : PBf x m w m1 W M L D wr v1 v2 fs fd) (hL : L.length < 3000) (hp : patB x.points m s = true) (hd : 0 ≤ d ∧ d ≤ D.length + 1)
    (hm : MpB wp M (L.length + 1) (metB (L ++ [s]))) (ho : Only [M] wr wp)
    (ka : Only [] wp wa) (hA : Acc w.heap.size 32 wb v1' (L ++ [s]) (fs ++ [f])) (oA : Only v1.ownBlock.toList wa wb) (nA : v1'.ownBlock = v1.ownBlock ∨ v1'.ownBlock = some wa.heap.size) (hF : Fresh w.heap.size wb (fs ++ [f]).flatten) (hfM : M ∉ f) (hf2 : ∀ g ∈ f, wr.heap.size ≤ g ∨ v2.ownBlock ≠ some g)
    (kc : Only [] wb wc) (hD : Acc w.heap.size 2 wd v2' (D ++ [d]) (fd ++ [[]])) (oD : Only v2.ownBlock.toList wc wd) (nD : v2'.ownBlock = v2.ownBlock ∨ v2'.ownBlock = some wc.heap.size) :
    PBf x m w m1 W M (L ++ [s]) (D ++ [d]) wd v1' v2' (fs ++ [f]) (fd ++ [[]]) := by
  have s1 := ho.size; have s2 := ka.size; have s3 := oA.size; have s4 := kc.size; have s5 := oD.size
  have hz := h.sz; have hw := h.mw
  have hMl := h.mp.lt
  have l1 := h.acc.ownlt
  have l2 := h.dep.ownlt
  have hfl := h.fr.lt
  have hff : (fs ++ [f]).flatten = fs.flatten ++ f := by simp
  have hfs : ∀ g, v2.ownBlock = some g → g ∉ (fs ++ [f]).flatten := fun g hg hm => by
    rw [hff] at hm
    rcases List.mem_append.1 hm with hm | hm
    · exact (h.a2 g hg).2.1 hm
    · have := l2 g hg
      rcases hf2 g hm with h3 | h3
      · omega
      · exact h3 hg
  have hv12 : ∀ g, v2.ownBlock = some g → v1'.ownBlock ≠ some g := fun g hg he => by
    rcases nA with h3 | h3
    · exact (h.a2 g hg).1 (by rw [← h3]; exact he)
    · rw [h3] at he; injection he with he; have := l2 g hg; omega
  have hmM : ∀ g, v1.ownBlock = some g → g ≠ M := fun g hg e => h.a1.1 (by rw [hg, e])
  have hM1 : v1'.ownBlock ≠ some M := fun he => by
    rcases nA with h3 | h3
    · exact h.a1.1 (by rw [← h3]; exact he)
    · rw [h3] at he; injection he with he; omega
  have hM1' : M ∉ v1.ownBlock.toList := by simpa using h.a1.1
  have hM2' : M ∉ v2.ownBlock.toList := by simp; intro he; exact (h.a2 M he).2.2 rfl
  have hN : ∀ g, v1'.ownBlock = some g → v1.ownBlock = some g ∨ W.heap.size ≤ g := fun g hg => by
    rcases nA with h3 | h3
    · exact .inl (by rw [← h3]; exact hg)
    · rw [h3] at hg; injection hg with hg; right; omega
  have hN2 : ∀ g, v2'.ownBlock = some g → v2.ownBlock = some g ∨ wb.heap.size ≤ g := fun g hg => by
    rcases nD with h3 | h3
    · exact .inl (by rw [← h3]; exact hg)
    · rw [h3] at hg; injection hg with hg; right; omega
  have hko : Only (M :: (v1.ownBlock.toList ++ v2.ownBlock.toList)) wr wd :=
    ((((ho.mono (by simp)).keepThen ka).then_ oA (by intro b hb _; simp at hb ⊢; simp [hb])).keepThen kc).then_ oD (by intro b hb _; simp at hb ⊢; simp [hb])
  refine ⟨hA.only (kc.weaken _ |>.trans oD) (fun b hb hm => hfs b (by simpa using hm) hb) (fun g hg hm => hv12 g (by simpa using hm) hg), hD,
    hF.only (kc.weaken _ |>.trans oD) (fun b hb hm => hfs b (by simpa using hm) hb),
    by simpa using ((((hm.keep ka).only oA hM1').keep kc).only oD hM2'), by simp [h.dl], by simp; omega, ?_, ?_, ?_, ⟨hM1, ?_⟩, ?_, fun g hg => ?_, ?_, by omega, h.mw⟩
  · intro q hq
    rcases List.mem_append.1 hq with hq | hq
    · exact h.pat q hq
    · simp at hq; subst hq; exact hp
  · intro q hq
    rw [List.length_append, List.length_singleton]
    rcases List.mem_append.1 hq with hq | hq
    · have := h.rng q hq; omega
    · simp at hq; subst hq; omega
  · intro g hg
    rcases hN2 g hg with h3 | h3
    · exact ⟨hv12 g h3, hfs g h3, (h.a2 g h3).2.2⟩
    · refine ⟨fun he => ?_, fun hm => ?_, by omega⟩
      · have := (hA.ownlt g he).2; omega
      · have := hF.lt g hm; omega
  · rw [hff]; intro hm
    rcases List.mem_append.1 hm with hm | hm
    · exact h.a1.2 hm
    · exact hfM hm
  · rintro g (rfl | hg | hg)
    · exact h.zone _ (.inl rfl)
    · rcases hN g hg with h3 | h3
      · exact h.zone g (.inr (.inl h3))
      · exact .inr h3
    · rcases hN2 g hg with h3 | h3
      · exact h.zone g (.inr (.inr h3))
      · right; omega
  · rw [hko.block g (by omega) (fun hm => ?_)]
    · exact h.keep g hg
    · simp only [List.mem_cons, List.mem_append, Option.mem_toList] at hm
      have := h.zone g (by rcases hm with hm | hm | hm; exact .inl hm; exact .inr (.inl hm); exact .inr (.inr hm))
      omega
  · refine h.on.then_ hko (fun g hm hg => ?_)
    simp only [List.mem_cons, List.mem_append, Option.mem_toList] at hm
    have := h.zone g (by rcases hm with hm | hm | hm; exact .inl hm; exact .inr (.inl hm); exact .inr (.inr hm))
    omega
/-- what the search hands back -/
theorem PBf.out (h : PBf x m w m1 W M L D wr v1 v2 fs fd) : Rd wr v1 L (v1.ownBlock.toList ++ fs.flatten) ∧ Rd wr v2 D v2.ownBlock.toList ∧ Fresh w.heap.size wr ((v1.ownBlock.toList ++ fs.flatten) ++ v2.ownBlock.toList) := by
  have h0 := h.fd0
  have h2 := h.dep.rd (by decide)
  rw [h0, List.append_nil] at h2
  have hf1 := h.acc.fresh h.fr
  have hf2 := h.dep.fresh (by rw [h0]; exact Fresh.nil _ _)
  rw [h0, List.append_nil] at hf2
  refine ⟨h.acc.rd (by decide), h2, List.nodup_append.2 ⟨hf1.nd, hf2.nd, fun a ha b hb e => ?_⟩, fun b hb => ?_, hf1.own.append hf2.own⟩
  · subst e
    have hb' : v2.ownBlock = some a := by simpa using hb
    rcases List.mem_append.1 ha with ha | ha
    · exact (h.a2 a hb').1 (by simpa using ha)
    · exact (h.a2 a hb').2.1 ha
  · rcases List.mem_append.1 hb with hb | hb
    · exact hf1.ge b hb
    · exact hf2.ge b hb
theorem PBf.old (h : PBf x m w m1 W M L D wr v1 v2 fs fd) {β : Type} [Rp β] {cs : List Value} {y : β} {fp : List Nat} (hr : Rp.rep W cs y fp) (hf : ∀ g ∈ fp, g < w.heap.size ∨ (m1 ≤ g ∧ g < W.heap.size)) : Rp.rep wr cs y fp :=
  Rp.frame hr fun g hg => h.keep g (hf g hg)
end
end Go.Proofs.YtndcifpbbnebmaaGreat

namespace Go.Proofs.YtndcifpbbnebmaaGreat
open Go.RowKit
set_option maxRecDepth 10000

theorem step_push2w {P : Program} {α : Type} [Rp α] {ops : Array Oper} {o : Oper} {a : Act} {w : World} {Q : Exit → Act → World → Prop} {K : Act → World → Prop} {E : Prop} (hgd : o.guard = none) (s x : Operand) (t : TypeId)
    (ho : o.op = .call { callee := .builtin .append, args := #[s, x], argTypes := #[t, t] })
    (B : Nat) (e : TypeId) (i : TypeInfo) (z : Value) (bytes : Nat) (ht : P.underlying t = some (.slice e)) (hi : P.info? e = some i) (hz : i.zero = some z)
    (hsize : i.size = Rp.size α) (hby : i.bytes = bytes) (hzs : z.cells.size = Rp.size α) (hsz : 0 < Rp.size α) (hbb : bytes ≤ 65536)
    (w0 : World) (v : Value) (l : List α) (fs : List (List Nat)) (hs : a.eval s = v) (hA : Acc B e w0 v l fs) (hK0 : Only [] w0 w) (hB : B ≤ w0.heap.size)
    (g c : Nat) (cs : List Value) (y : α) (fp : List Nat) (hx : a.eval x = .slice (some ⟨g, 0, none⟩) 1 c) (hsrc : ∀ j u, cs[j]? = some u → w.cell? ⟨g, j, none⟩ = some u) (hcs : ∀ u ∈ cs, u.oneCell' = true)
    (hy : Rp.rep w cs y fp) (hap : ∀ b ∈ fp, v.ownBlock ≠ some b) (hlen : l.length + 1 ≤ 1073741824)
    (h : ∀ v' w', Acc B e w' v' (l ++ [y]) (fs ++ [fp]) → Only v.ownBlock.toList w w' → (v'.ownBlock = v.ownBlock ∨ v'.ownBlock = some w.heap.size) → K (a.put o.dst v') w') : if Region.wanted o (yielded ops a.tmps) = true then Oper.wp P o a w K Q else E := by
  rw [if_pos (by simp [Region.wanted, hgd])]
  exact wp_push2 s x t ho B e i z bytes ht hi hz hsize hby hzs hsz hbb w0 v l fs hs hA hK0 hB g c cs y fp hx hsrc hcs hy hap hlen fun v' w' h1 h2 _ _ h5 => h v' w' h1 h2 h5
theorem Acc.flat0 {B : Nat} {e : TypeId} {w : World} {v : Value} {l : List Int} {fs : List (List Nat)} (h : Acc B e w v l fs) : fs.flatten = [] := by
  obtain ⟨css, ho, hcl, hr⟩ := h.own
  have hl := h.fl
  have : fs = List.replicate fs.length [] := by
    apply List.ext_getElem (by simp)
    intro k h1 h2
    have := (hr k (by omega) (by omega) h1).2.2
    simpa using this
  rw [this]; exact flatten_nil _
/-- v is a slice of numbers of the call's own -/
def AccI (B : Nat) (e : TypeId) (w : World) (v : Value) (l : List Int) : Prop := ∃ fs, Acc B e w v l fs
section
variable {w w' : World} {B : Nat} {e : TypeId} {v : Value} {l : List Int}
theorem AccI.only {fp : List Nat} (h : AccI B e w v l) (ho : Only fp w w') (hv : ∀ g, v.ownBlock = some g → g ∉ fp) : AccI B e w' v l := by
  obtain ⟨fs, h⟩ := h
  exact ⟨fs, h.only ho (by rw [h.flat0]; simp) hv⟩
theorem AccI.keep (h : AccI B e w v l) (ho : Only [] w w') : AccI B e w' v l := h.only ho (by simp)
theorem AccI.form (h : AccI B e w v l) : ∃ a c, v = .slice a l.length c := by
  obtain ⟨fs, h⟩ := h; exact h.form
theorem AccI.rd (h : AccI B e w v l) : Rd w v l v.ownBlock.toList := by
  obtain ⟨fs, h⟩ := h
  have := h.rd (by decide)
  rwa [h.flat0, List.append_nil] at this
theorem AccI.fresh (h : AccI B e w v l) : Fresh B w v.ownBlock.toList := by
  obtain ⟨fs, h⟩ := h
  have := h.fresh (by rw [h.flat0]; exact Fresh.nil _ _)
  rwa [h.flat0, List.append_nil] at this
theorem AccI.ownlt (h : AccI B e w v l) : ∀ g, v.ownBlock = some g → B ≤ g ∧ g < w.heap.size := by
  obtain ⟨fs, h⟩ := h; exact h.ownlt
theorem AccI.nil (w : World) (B : Nat) (e : TypeId) : AccI B e w (.slice none 0 0) [] := ⟨[], Acc.nil w B e⟩
theorem AccI.made (w : World) (B : Nat) (e : TypeId) {g : Nat} (hg : g = w.heap.size) (hB : B ≤ g) : AccI B e (w.alloc (.cells #[] e)) (.slice (some ⟨g, 0, none⟩) 0 0) [] := ⟨[], Acc.made w B e hg hB⟩
theorem AccI.one {n : Int} (hn : I64 n) (w : World) (B : Nat) (e : TypeId) {g : Nat} (hg : g = w.heap.size) (hB : B ≤ g) : AccI B e (w.alloc (.cells #[.int .i64 n] e)) (.slice (some ⟨g, 0, none⟩) 1 1) [n] :=
  ⟨[[]], Acc.one (cs := [.int .i64 n]) B e (int_rd w hn) hg hB⟩
end
section
variable {P : Program} {ops : Array Oper} {rest : List Oper} {o : Oper} {a : Act} {w : World} {Q : Exit → Act → World → Prop} {K : Act → World → Prop}
theorem wpList_pushI (hgd : o.guard = none) (s x : Operand) (t : TypeId)
    (ho : o.op = .call { callee := .builtin .append, args := #[s, x], argTypes := #[t, t] })
    (B : Nat) (e : TypeId) (i : TypeInfo) (z : Value) (ht : P.underlying t = some (.slice e)) (hi : P.info? e = some i) (hz : i.zero = some z)
    (hsize : i.size = 1) (hby : i.bytes = 8) (hzs : z.cells.size = 1)
    (w0 : World) (v : Value) (l : List Int) (hs : a.eval s = v) (hA : AccI B e w0 v l) (hK0 : Only [] w0 w) (hB : B ≤ w0.heap.size)
    (g c : Nat) (n : Int) (hx : a.eval x = .slice (some ⟨g, 0, none⟩) 1 c) (hsrc : w.cell? ⟨g, 0, none⟩ = some (.int .i64 n)) (hn : I64 n) (hlen : l.length + 1 ≤ 1073741824)
    (h : ∀ v' w', AccI B e w' v' (l ++ [n]) → Only v.ownBlock.toList w w' → (∀ wz, Only [] wz w → wz.heap.size ≤ B → Only [] wz w') → (v'.ownBlock = v.ownBlock ∨ v'.ownBlock = some w.heap.size) → wpList P ops Q rest (a.put o.dst v') w') : wpList P ops Q (o :: rest) a w := by
  obtain ⟨fs, hA⟩ := hA
  refine wpList_push2w (α := Int) hgd s x t ho B e i z 8 ht hi hz hsize hby hzs (by decide) (by decide) w0 v l fs hs hA hK0 hB g c [.int .i64 n] n [] hx ?_ (by intro u hu; simp at hu; subst hu; rfl) (int_rd w hn) (by simp) hlen fun v' w' h1 h2 h3 _ h5 => h v' w' ⟨_, h1⟩ h2 h3 h5
  intro j u hu
  cases j with
  | zero => simp at hu; subst hu; exact hsrc
  | succ j => simp at hu
theorem step_pushI {E : Prop} (hgd : o.guard = none) (s x : Operand) (t : TypeId)
    (ho : o.op = .call { callee := .builtin .append, args := #[s, x], argTypes := #[t, t] })
    (B : Nat) (e : TypeId) (i : TypeInfo) (z : Value) (ht : P.underlying t = some (.slice e)) (hi : P.info? e = some i) (hz : i.zero = some z)
    (hsize : i.size = 1) (hby : i.bytes = 8) (hzs : z.cells.size = 1)
    (w0 : World) (v : Value) (l : List Int) (hs : a.eval s = v) (hA : AccI B e w0 v l) (hK0 : Only [] w0 w) (hB : B ≤ w0.heap.size)
    (g c : Nat) (n : Int) (hx : a.eval x = .slice (some ⟨g, 0, none⟩) 1 c) (hsrc : w.cell? ⟨g, 0, none⟩ = some (.int .i64 n)) (hn : I64 n) (hlen : l.length + 1 ≤ 1073741824)
    (h : ∀ v' w', AccI B e w' v' (l ++ [n]) → Only v.ownBlock.toList w w' → (v'.ownBlock = v.ownBlock ∨ v'.ownBlock = some w.heap.size) → K (a.put o.dst v') w') : if Region.wanted o (yielded ops a.tmps) = true then Oper.wp P o a w K Q else E := by
  obtain ⟨fs, hA⟩ := hA
  refine step_push2w (α := Int) hgd s x t ho B e i z 8 ht hi hz hsize hby hzs (by decide) (by decide) w0 v l fs hs hA hK0 hB g c [.int .i64 n] n [] hx ?_ (by intro u hu; simp at hu; subst hu; rfl) (int_rd w hn) (by simp) hlen fun v' w' h1 h2 h5 => h v' w' ⟨_, h1⟩ h2 h5
  intro j u hu
  cases j with
  | zero => simp at hu; subst hu; exact hsrc
  | succ j => simp at hu
end
/-- the one cell of a literal -/
theorem lit1 (w : World) (u : Value) (e : TypeId) {g : Nat} (hg : g = w.heap.size) : (w.alloc (.cells #[u] e)).cell? ⟨g, 0, none⟩ = some u := lit_src w [u] e hg 0 u rfl
theorem own_after {v' v : Value} {w : World} {b : Nat} (hN : v'.ownBlock = v.ownBlock ∨ v'.ownBlock = some w.heap.size) (h1 : v.ownBlock ≠ some b) (h2 : b < w.heap.size) : v'.ownBlock ≠ some b := by
  rcases hN with e | e
  · rw [e]; exact h1
  · rw [e]; intro h; injection h with h; omega
/-- a slice of numbers under way, beside memory (G) that stays as it is in W -/
structure AccG (w W : World) (G : List Nat) (e : TypeId) (wr : World) (o : Value) (l : List Int) : Prop where
  acc : AccI w.heap.size e wr o l
  on : Only [] w wr
  kp : ∀ b ∈ G, wr.heap[b]? = W.heap[b]?
  ga : ∀ b ∈ G, o.ownBlock ≠ some b
  gl : ∀ b ∈ G, b < wr.heap.size
section
variable {w W wr w' wa wb : World} {G : List Nat} {e : TypeId} {o o' : Value} {l : List Int} {n : Int}
theorem AccG.keep (h : AccG w W G e wr o l) (ho : Only [] wr w') : AccG w W G e w' o l :=
  ⟨h.acc.keep ho, h.on.trans ho, fun b hb => (ho.block b (h.gl b hb) (by simp)).trans (h.kp b hb), h.ga, fun b hb => Nat.lt_of_lt_of_le (h.gl b hb) ho.size⟩
theorem AccG.held (h : AccG w W G e wr o l) {α : Type} [Rp α] {cs : List Value} {y : α} {fp : List Nat} (hr : Rp.rep W cs y fp) (hf : ∀ b ∈ fp, b ∈ G) : Rp.rep wr cs y fp := Rp.frame hr fun b hb => h.kp b (hf b hb)
theorem AccG.ints (h : AccG w W G e wr o l) {a : Option Addr} {c : Nat} {y : List Int} {fp : List Nat} (hr : IntsA W a c y fp) (hf : ∀ b ∈ fp, b ∈ G) : IntsA wr a c y fp := hr.frame fun b hb => h.kp b (hf b hb)
end
end Go.Proofs.YtndcifpbbnebmaaGreat

namespace Go.Proofs.YtndcifpbbnebmaaGreat
open Go.RowKit Go.Shelf Go.Sort Go.Proofs
set_option maxRecDepth 10000

def Tryz.sortI_ren : Go.Shelf.Ren := ⟨fun | 5 => 73 | 8 => 87 | 7 => 86 | 19 => 107 | 20 => 108 | 10 => 98 | 11 => 99 | 12 => 100 | 13 => 101 | 14 => 102 | 15 => 103 | 16 => 104 | 17 => 105 | 18 => 106 | 30 => 114 | 31 => 115 | 32 => 116 | 33 => 117 | 34 => 118 | 35 => 119 | 40 => 121 | n => n, fun | 23 => 32 | 25 => 2 | 3 => 3 | 32 => 45 | 22 => 32 | 0 => 0 | 44 => 136 | 46 => 26 | 4 => 4 | 36 => 128 | 35 => 127 | 41 => 133 | 5 => 5 | 9 => 9 | 53 => 140 | 57 => 144 | 63 => 146 | 64 => 147 | n => n, fun | n => n⟩
theorem Tryz.sortI : SlLaysM.n5 Tryz.prog Tryz.sortI_ren where
  mixed := by kernel_rfl
  f5 := ⟨ "slices.Sort[[]int64,int64]", by decide, Tryz.func73.trans (congrArg some (by kernel_rfl))⟩
  f7 := ⟨ "slices.pdqsortOrdered[int64]", by decide, Tryz.func86.trans (congrArg some (by kernel_rfl))⟩
  f8 := Tryz.func87.trans (congrArg some (by kernel_rfl))
  f10 := ⟨ "slices.insertionSortOrdered[int64]", by decide, Tryz.func98.trans (congrArg some (by kernel_rfl))⟩
  f11 := ⟨ "slices.heapSortOrdered[int64]", by decide, Tryz.func99.trans (congrArg some (by kernel_rfl))⟩
  f12 := ⟨ "slices.breakPatternsOrdered[int64]", by decide, Tryz.func100.trans (congrArg some (by kernel_rfl))⟩
  f13 := ⟨ "slices.choosePivotOrdered[int64]", by decide, Tryz.func101.trans (congrArg some (by kernel_rfl))⟩
  f14 := ⟨ "slices.reverseRangeOrdered[int64]", by decide, Tryz.func102.trans (congrArg some (by kernel_rfl))⟩
  f15 := ⟨ "slices.partialInsertionSortOrdered[int64]", by decide, Tryz.func103.trans (congrArg some (by kernel_rfl))⟩
  f16 := ⟨ "cmp.Less[int64]", by decide, Tryz.func104.trans (congrArg some (by kernel_rfl))⟩
  f17 := ⟨ "slices.partitionEqualOrdered[int64]", by decide, Tryz.func105.trans (congrArg some (by kernel_rfl))⟩
  f18 := ⟨ "slices.partitionOrdered[int64]", by decide, Tryz.func106.trans (congrArg some (by kernel_rfl))⟩
  f19 := Tryz.func107.trans (congrArg some (by kernel_rfl))
  f20 := Tryz.func108.trans (congrArg some (by kernel_rfl))
  f30 := ⟨ "slices.siftDownOrdered[int64]", by decide, Tryz.func114.trans (congrArg some (by kernel_rfl))⟩
  f31 := Tryz.func115.trans (congrArg some (by kernel_rfl))
  f32 := Tryz.func116.trans (congrArg some (by kernel_rfl))
  f33 := ⟨ "slices.medianAdjacentOrdered[int64]", by decide, Tryz.func117.trans (congrArg some (by kernel_rfl))⟩
  f34 := ⟨ "slices.medianOrdered[int64]", by decide, Tryz.func118.trans (congrArg some (by kernel_rfl))⟩
  f35 := ⟨ "cmp.isNaN[int64]", by decide, Tryz.func119.trans (congrArg some (by kernel_rfl))⟩
  f40 := ⟨ "slices.order2Ordered[int64]", by decide, Tryz.func121.trans (congrArg some (by kernel_rfl))⟩
  t0 := Tryz.underlying0
  a0 := Tryz.isAgg0
  z0 := Tryz.sizeOf0
  v0 := Tryz.zeroValue0
  t3 := Tryz.underlying3
  a3 := Tryz.isAgg3
  z3 := Tryz.sizeOf3
  v3 := Tryz.zeroValue3
  t4 := Tryz.underlying4
  a4 := Tryz.isAgg4
  z4 := Tryz.sizeOf4
  v4 := Tryz.zeroValue4
  t5 := Tryz.underlying5
  a5 := Tryz.isAgg5
  z5 := Tryz.sizeOf5
  v5 := Tryz.zeroValue5
  t9 := Tryz.underlying9
  a9 := Tryz.isAgg9
  z9 := Tryz.sizeOf9
  v9 := Tryz.zeroValue9
  t22 := Tryz.underlying32
  a22 := Tryz.isAgg32
  z22 := Tryz.sizeOf32
  v22 := Tryz.zeroValue32
  t23 := Tryz.underlying32
  a23 := Tryz.isAgg32
  z23 := Tryz.sizeOf32
  v23 := Tryz.zeroValue32
  t25 := Tryz.underlying2
  a25 := Tryz.isAgg2
  z25 := Tryz.sizeOf2
  v25 := Tryz.zeroValue2
  t32 := Tryz.underlying45
  a32 := Tryz.isAgg45
  z32 := Tryz.sizeOf45
  v32 := Tryz.zeroValue45
  t35 := Tryz.underlying127
  a35 := Tryz.isAgg127
  z35 := Tryz.sizeOf127
  v35 := Tryz.zeroValue127
  t36 := Tryz.underlying128
  a36 := Tryz.isAgg128
  z36 := Tryz.sizeOf128
  v36 := Tryz.zeroValue128
  t41 := Tryz.underlying133
  a41 := Tryz.isAgg133
  z41 := Tryz.sizeOf133
  v41 := Tryz.zeroValue133
  t44 := Tryz.underlying136
  a44 := Tryz.isAgg136
  z44 := Tryz.sizeOf136
  v44 := Tryz.zeroValue136
  t46 := Tryz.underlying26
  a46 := Tryz.isAgg26
  z46 := Tryz.sizeOf26
  v46 := Tryz.zeroValue26
  t53 := Tryz.underlying140
  a53 := Tryz.isAgg140
  z53 := Tryz.sizeOf140
  v53 := Tryz.zeroValue140
  t57 := Tryz.underlying144
  a57 := Tryz.isAgg144
  z57 := Tryz.sizeOf144
  v57 := Tryz.zeroValue144
  t63 := Tryz.underlying146
  a63 := Tryz.isAgg146
  z63 := Tryz.sizeOf146
  v63 := Tryz.zeroValue146
  t64 := Tryz.underlying147
  a64 := Tryz.isAgg147
  z64 := Tryz.sizeOf147
  v64 := Tryz.zeroValue147
theorem map_one_flatten (l : List Int) : (l.map fun x => [Value.int .i64 x]).flatten = l.map (Value.int .i64) := by
  induction l with
  | nil => rfl
  | cons x l ih => simp only [List.map_cons, List.flatten_cons, ih, List.cons_append, List.nil_append]
theorem AccI.row {B : Nat} {e : TypeId} {w : World} {v : Value} {l : List Int} (h : AccI B e w v l) : w.ownsRow B e 1 v l.length (l.map (Value.int .i64)) ∧ ∀ x ∈ l, I64 x := by
  obtain ⟨fs, h⟩ := h
  obtain ⟨css, ho, hcl, hr⟩ := h.own
  have hfl := h.fl
  have hc : css = l.map fun x => [Value.int .i64 x] := by
    apply List.ext_getElem (by simp [hcl])
    intro k h1 h2
    have hk : k < l.length := by omega
    have := (hr k h1 hk (by omega)).1
    rw [this]; simp
  refine ⟨?_, fun x hx => ?_⟩
  · rw [hc, map_one_flatten] at ho; exact ho
  · obtain ⟨k, hk, rfl⟩ := List.getElem_of_mem hx
    exact (hr k (by omega) hk (by omega)).2.1
theorem AccI.ofRow {B : Nat} {e : TypeId} {w : World} {v : Value} {l : List Int} (h : w.ownsRow B e 1 v l.length (l.map (Value.int .i64))) (hI : ∀ x ∈ l, I64 x) : AccI B e w v l := by
  have hf : ∀ n : Nat, (List.replicate n ([] : List Nat)).flatten = [] := fun n => by induction n with | zero => rfl | succ n ih => simp [List.replicate_succ, ih]
  refine ⟨List.replicate l.length [], ⟨l.map fun x => [Value.int .i64 x], ?_, by simp, fun k h1 h2 h3 => ?_⟩, by simp, fun g _ => by rw [hf]; simp⟩
  · rw [map_one_flatten]; exact h
  · exact ⟨by simp, hI _ (List.getElem_mem h2), by simp⟩
theorem sorted_asc {l : List Int} (hn : l.Nodup) : PM.Asc (l.mergeSort fun x y => decide (x ≤ y)) := by
  have h1 : (l.mergeSort fun x y => decide (x ≤ y)).Pairwise (fun a b => decide (a ≤ b) = true) := List.pairwise_mergeSort (by intro a b c h1 h2; simp at *; omega) (by intro a b; simp; omega) l
  have h2 : (l.mergeSort fun x y => decide (x ≤ y)).Nodup := (List.mergeSort_perm l _).nodup_iff.2 hn
  unfold PM.Asc
  refine List.Pairwise.imp_of_mem (fun {a b} _ _ h => ?_) (List.Pairwise.and h1 h2)
  obtain ⟨h3, h4⟩ := h
  simp at h3
  omega
theorem sorted_mem {l : List Int} {x : Int} : x ∈ (l.mergeSort fun x y => decide (x ≤ y)) ↔ x ∈ l := (List.mergeSort_perm l _).mem_iff
theorem sort_accI {B : Nat} (w : World) (v : Value) (l : List Int) (h : AccI B 2 w v l) (hl : l ≠ []) (hsz : l.length ≤ 1000) :
    Calls Tryz.prog 73 #[v] w fun e w' => e = .returned (.tuple #[]) ∧ AccI B 2 w' v (l.mergeSort fun x y => decide (x ≤ y)) ∧ Only v.ownBlock.toList w w' := by
  obtain ⟨ho, hI⟩ := h.row
  rcases ho.2 with ⟨-, h0⟩ | ⟨g, cap, cur, rfl, hb, hg, h1, h2, h3, h4⟩
  · exact absurd (List.length_eq_zero_iff.1 h0) hl
  · rw [Nat.mul_one] at h4
    refine (AnyM.slices_Sort_int Tryz.sortI g 0 cap l w (holds_of_blockI hg h4) (Array.getElem?_eq_some_iff.1 hg).1 (by omega)).mono ?_
    rintro e w' ⟨he, n, os, rfl⟩
    have hlen : (l.mergeSort fun x y => decide (x ≤ y)).length = l.length := List.length_mergeSort l
    have hr := ownsRow_sortedI (n := n) (os := os) (ts := l.mergeSort fun x y => decide (x ≤ y)) (ss := l) hlen hb hg h1 h2 h3
    refine ⟨he, AccI.ofRow ?_ (fun x hx => hI x (sorted_mem.1 hx)), (Only.refl _ _).grown (grownBy_sortedI _) (by intro j hj _; injection hj with hj; subst hj; simp [Value.ownBlock])⟩
    rw [hlen]; exact hr
end Go.Proofs.YtndcifpbbnebmaaGreat

namespace Go.Proofs.YtndcifpbbnebmaaGreat
open Go.RowKit
set_option maxRecDepth 10000

/-- how many are less -/
def below (v : Int) : List Int → Nat
  | [] => 0
  | x :: l => if x < v then below v l + 1 else 0
theorem below_le (v : Int) : ∀ l : List Int, below v l ≤ l.length
  | [] => Nat.le_refl _
  | x :: l => by unfold below; split; exact Nat.succ_le_succ (below_le v l); exact Nat.zero_le _
theorem below_lt (v : Int) : ∀ (l : List Int) (j : Nat) (h : j < l.length), j < below v l → l[j] < v
  | x :: l, j, h, hj => by
    unfold below at hj
    by_cases hx : x < v
    · rw [if_pos hx] at hj
      cases j with
      | zero => exact hx
      | succ j => exact below_lt v l j (by simpa using h) (by omega)
    · rw [if_neg hx] at hj; omega
theorem below_at (v : Int) : ∀ (l : List Int) (h : below v l < l.length), ¬ l[below v l] < v
  | x :: l, h => by
    by_cases hx : x < v
    · have e : below v (x :: l) = below v l + 1 := by show (if x < v then _ else _) = _; rw [if_pos hx]
      have h2 : below v l < l.length := by rw [e] at h; simpa using h
      have := below_at v l h2
      simp only [e, List.getElem_cons_succ]
      exact this
    · have e : below v (x :: l) = 0 := by show (if x < v then _ else _) = _; rw [if_neg hx]
      simp only [e, List.getElem_cons_zero]
      exact hx
theorem insU_there {v : Int} : ∀ {l : List Int} (h : below v l < l.length), l[below v l] = v → PM.insU v l = l
  | x :: l, h, he => by
    by_cases hx : x < v
    · have e : below v (x :: l) = below v l + 1 := by show (if x < v then _ else _) = _; rw [if_pos hx]
      have h2 : below v l < l.length := by rw [e] at h; simpa using h
      simp only [e, List.getElem_cons_succ] at he
      show (if x < v then x :: PM.insU v l else _) = _
      rw [if_pos hx, insU_there h2 he]
    · have e : below v (x :: l) = 0 := by show (if x < v then _ else _) = _; rw [if_neg hx]
      simp only [e, List.getElem_cons_zero] at he
      show (if x < v then _ else if x = v then x :: l else _) = _
      rw [if_neg hx, if_pos he]
theorem insU_new {v : Int} : ∀ {l : List Int}, (∀ h : below v l < l.length, l[below v l] ≠ v) → PM.insU v l = (l.take (below v l) ++ [v]) ++ l.drop (below v l)
  | [], _ => rfl
  | x :: l, hn => by
    by_cases hx : x < v
    · have e : below v (x :: l) = below v l + 1 := by show (if x < v then _ else _) = _; rw [if_pos hx]
      show (if x < v then x :: PM.insU v l else _) = _
      rw [if_pos hx, e, insU_new (l := l) (fun h => by
        have h1 := hn (by rw [e]; simpa using h)
        simp only [e, List.getElem_cons_succ] at h1
        exact h1)]
      simp
    · have e : below v (x :: l) = 0 := by show (if x < v then _ else _) = _; rw [if_neg hx]
      have h1 := hn (by rw [e]; simp)
      simp only [e, List.getElem_cons_zero] at h1
      show (if x < v then _ else if x = v then _ else v :: x :: l) = _
      rw [if_neg hx, if_neg h1, e]
      simp
theorem IntsA.drp {w : World} {b off cap : Nat} {l : List Int} {fp : List Nat} (h : IntsA w (some ⟨b, off, none⟩) cap l fp) {k : Nat} (hk : k ≤ l.length) : IntsA w (some ⟨b, off + k, none⟩) (cap - k) (l.drop k) fp := by
  have hl := h.len
  have hc := h.cap
  refine ⟨by rw [List.length_drop]; omega, by omega, fun x hx => h.wf x (List.mem_of_mem_drop hx), fun i hi => ?_, h.lt, h.one⟩
  rw [List.length_drop] at hi
  obtain ⟨b', off', ha, hf, hcell⟩ := h.at_ (k + i) (by omega)
  injection ha with ha; injection ha with e1 e2; subst e1; subst e2
  refine ⟨b, off + k, rfl, hf, ?_⟩
  rw [Nat.add_assoc, List.getElem_drop]
  exact hcell
theorem copyInts_aI (v : Value) (l : List Int) (fp : List Nat) (w : World) (h : Rd w v l fp) (hl : l.length ≤ 1073741824) :
    Calls Tryz.prog 58 #[v] w fun e w' => ∃ v, e = .returned v ∧ AccI w.heap.size 2 w' v l ∧ Only [] w w' := by
  obtain ⟨a, cap, rfl, hI⟩ := h.ints
  obtain ⟨i0, hi, hz0, hz1, hz2⟩ := info_parts Tryz.info2
  obtain ⟨q1, q2⟩ := ints_src (hI.keep ((Only.refl _ w).alloc (.cells #[] 2)))
  go_enter Tryz.func58, Tryz.ntmps58
  go_wp2_with (at_builtin; refine wpList_app _ rfl _ _ 32 rfl w.heap.size 2 i0 _ 1 8 Tryz.underlying32 hi hz0 hz1 hz2 rfl (by omega) (.slice (some ⟨w.heap.size, 0, none⟩) 0 0) 0 [] rfl (World.ownsRow_made w #[] 0 (Nat.le_refl _) (by unfold maxLen; omega) rfl) a l.length cap (l.map (Value.int .i64)) rfl (by simp) q1 q2 (ints_one l) (by unfold maxLen; omega) (by omega) (by simp) ?_; intro v1 w1 hO hg hb)
  rw [Nat.zero_add, List.nil_append] at hO
  have hK : Only [] w w1 := ((Only.refl _ _).alloc _).grown hg (by simp [Value.ownBlock])
  have hA : AccI w.heap.size 2 w1 v1 l := AccI.ofRow hO hI.wf
  have HA := Lib.hid hA
  clear hO hg hb q1 q2 hA
  go_wp2
  go_ret
  exact ⟨_, rfl, HA.out, hK⟩
set_option maxHeartbeats 4000000 in
theorem insertSorted_any (b off c : Nat) (l : List Int) (fp : List Nat) (k : Int) (w : World) (I : IntsA w (some ⟨b, off, none⟩) c l fp) (hl : l.length ≤ 1000) (hk : I64 k) :
    Calls Tryz.prog 76 #[.slice (some ⟨b, off, none⟩) l.length c, .int .i64 k] w fun e w' => ∃ b' o' c' fp', e = .returned (.slice (some ⟨b', o', none⟩) (PM.insU k l).length c') ∧ IntsA w' (some ⟨b', o', none⟩) c' (PM.insU k l) fp' ∧ (fp' = fp ∨ Fresh w.heap.size w' fp') ∧ Only [] w w' := by
  obtain ⟨i0, hi, hz0, hz1, hz2⟩ := info_parts Tryz.info2
  have hbl := below_le k l
  have hIH := Lib.hid I
  have HI := Lib.hid hk
  have hcap := I.len
  clear I hk
  obtain ⟨R, hR⟩ : ∃ R, R = PM.insU k l := ⟨_, rfl⟩
  rw [← hR]
  have HR := Lib.hid hR
  clear hR
  go_enter Tryz.func76, Tryz.ntmps76
  go_wp2
  go_loopw [5] (fun i wr => ∃ (j : Nat), j ≤ below k l ∧ i = .int .i64 j ∧ Only [] w wr)
    (fun i _ => l.length + 1 - (intOf i).toNat)
  case atStart => exact ⟨0, Nat.zero_le _, rfl, Only.refl _ _⟩
  case round =>
    obtain ⟨w3, hnew⟩ : ∃ W, W = wr := ⟨_, rfl⟩
    subst hnew
    obtain ⟨j, hj, rfl, hK⟩ := hrel
    have I3 := hIH.out.keep hK
    by_cases hlt : j < below k l
    · have hjl : j < l.length := by omega
      obtain ⟨b2, o2, e2, -, c2⟩ := I3.at_ j hjl
      injection e2 with e2; injection e2 with e3 e4; subst e3; subst e4
      have hv := below_lt k l j hjl hlt
      obtain ⟨x, hx⟩ : ∃ x, x = l[j] := ⟨_, rfl⟩
      rw [← hx] at c2 hv
      clear hx
      have hji : (j : Int) < (l.length : Int) := by omega
      go_wp2
      go_roundw
      case rel => exact ⟨j + 1, by omega, by go_num, hK⟩
      case measure => simp [intOf]; omega
    · have hje : j = below k l := by omega
      have hjl : j ≤ l.length := by omega
      have hkc : j ≤ c := by omega
      have hjl' : (j : Int) ≤ (l.length : Int) := by omega
      have hkc' : (j : Int) ≤ (c : Int) := by omega
      have hc0 : (l.length : Int) ≤ (c : Int) := by omega
      have hj0 : (0 : Int) ≤ (j : Int) := by omega
      have hsz3 := hK.size
      have hlk : (l.take j).length = j := by rw [List.length_take]; omega
      have hTk : Rd w3 (.slice (some ⟨b, off, none⟩) j c) (l.take j) fp := by
        have := (I3.take j).rd
        rwa [hlk] at this
      have hTl : (l.take j).length ≤ 1073741824 := by omega
      have HK := Lib.hid hlk
      have hnewR : (∀ h : below k l < l.length, l[below k l] ≠ k) → ∀ v6 w6, w6.ownsRow w3.heap.size 2 1 v6 (j + 1 + (l.length - j)) (((l.take j).map (Value.int .i64) ++ [.int .i64 k]) ++ (l.drop j).map (Value.int .i64)) → Only [] w3 w6 →
          ∃ b' o' c' fp', v6 = .slice (some ⟨b', o', none⟩) R.length c' ∧ IntsA w6 (some ⟨b', o', none⟩) c' R fp' ∧ Fresh w.heap.size w6 fp' ∧ Only [] w w6 := fun hn v6 w6 hO ho => by
        have hRe : R = (l.take j ++ [k]) ++ l.drop j := by rw [HR.out, insU_new hn, ← hje]
        have hcells : ((l.take j).map (Value.int .i64) ++ [Value.int .i64 k]) ++ (l.drop j).map (Value.int .i64) = R.map (Value.int .i64) := by
          rw [hRe]; simp
        have hlen : R.length = j + 1 + (l.length - j) := by rw [hRe, List.length_append, List.length_append, HK.out, List.length_drop]; rfl
        rw [hcells, ← hlen] at hO
        obtain ⟨a6, c6, hv6, -, I6, F6⟩ := own_ints hO (fun x hx => by
          rw [hRe] at hx
          rcases List.mem_append.1 hx with hx | hx
          · rcases List.mem_append.1 hx with hx | hx
            · exact hIH.out.wf x (List.mem_of_mem_take hx)
            · simp at hx; subst hx; exact HI.out
          · exact hIH.out.wf x (List.mem_of_mem_drop hx))
        obtain ⟨b6, o6, ha6, -, -⟩ := I6.at_ 0 (by rw [hlen]; omega)
        subst ha6
        exact ⟨b6, o6, c6, _, hv6, I6, F6.mono hsz3, hK.trans ho⟩
      have HN := Lib.hid hnewR
      clear hlk hnewR
      by_cases hin : j < l.length
      · obtain ⟨b2, o2, e2, -, c2⟩ := I3.at_ j hin
        injection e2 with e2; injection e2 with e3 e4; subst e3; subst e4
        have hnl : ¬ l[j] < k := by subst hje; exact below_at k l hin
        have hji : (j : Int) < (l.length : Int) := by omega
        by_cases heq : l[j] = k
        · have hRl : R = l := by rw [HR.out]; subst hje; exact insU_there hin heq
          have HRl := Lib.hid hRl
          rw [heq] at c2 hnl
          clear heq hRl hje hlt
          go_wp2
          go_ret
          rw [HRl.out]
          exact ⟨_, _, c, rfl, fp, I3, .inl rfl, hK⟩
        · have hend := HN.out (fun h => by subst hje; exact heq)
          have hcj : ¬ (c = j) := by omega
          obtain ⟨x, hx⟩ : ∃ x, x = l[j] := ⟨_, rfl⟩
          rw [← hx] at c2 hnl heq
          clear hx hje hlt
          go_wp2_with (first
            | (go_at_call 58; (with_reducible refine (copyInts_aI (.slice (some ⟨b, off, none⟩) j c) (l.take j) fp w3 hTk hTl).mono ?_); rintro en w4 ⟨v4, rfl, hA4, o4⟩; have hO4 := hA4.row.1; rw [HK.out] at hO4; obtain ⟨a4, q4, e4⟩ := hA4.form; rw [HK.out] at e4; subst e4; have m4 := lit_srcA w4 [.int .i64 k] 2 rfl)
            | (at_builtin; refine wpList_app _ rfl _ _ 32 rfl w3.heap.size 2 i0 _ 1 8 Tryz.underlying32 hi hz0 hz1 hz2 rfl (by omega) (.slice a4 j q4) j ((l.take j).map (Value.int .i64)) rfl (hO4.alloc _) (some ⟨w4.heap.size, 0, none⟩) 1 1 [.int .i64 k] rfl rfl m4 (by intro hh; cases hh) (by intro u hu; simp at hu; subst hu; rfl) (by unfold maxLen; omega) (by omega) (Nat.le_trans o4.size ((Only.refl [] w4).alloc _).size) ?_; intro v5 w5 hO5 hg5 hb5; have o5 : Only [] w3 w5 := (o4.alloc _).grown hg5 (by intro z hz hzl; have := (hO4.lt z hz).1; omega); have ID := (I3.keep o5).drp hjl; have s5 := ints_src ID; have hdl : ((l.drop j).map (Value.int .i64)).length = (l.length - j) * 1 := (by simp); have Hdl := Lib.hid hdl; clear hdl)
            | (at_builtin; refine wpList_app _ rfl _ _ 32 rfl w3.heap.size 2 i0 _ 1 8 Tryz.underlying32 hi hz0 hz1 hz2 rfl (by omega) v5 (j + 1) ((l.take j).map (Value.int .i64) ++ [.int .i64 k]) rfl hO5 (some ⟨b, off + j, none⟩) (l.length - j) (c - j) ((l.drop j).map (Value.int .i64)) rfl Hdl.out s5.1 (by intro hh; cases hh) (ints_one _) (by unfold maxLen; omega) (by omega) o5.size ?_; intro v6 w6 hO6 hg6 hb6)
            | fail "no arm")
          have hfin := hend v6 w6 hO6 (o5.grown hg6 (by intro z hz hzl; have := (hO5.lt z hz).1; omega))
          obtain ⟨b', o', c', fp', rfl, h1, h2, h3⟩ := hfin
          go_ret
          exact ⟨b', o', c', fp', rfl, h1, .inr h2, h3⟩
      · have hend := HN.out (fun h => absurd h (by omega))
        have hji : ¬ ((j : Int) < (l.length : Int)) := by omega
        by_cases hcj : c = j
        · subst hcj
          have hd0 : l.drop c = [] := List.drop_eq_nil_of_le (by omega)
          have Hd0 := Lib.hid hd0
          clear hd0 hje hlt
          go_wp2_with (first
            | (go_at_call 58; (with_reducible refine (copyInts_aI (.slice (some ⟨b, off, none⟩) c c) (l.take c) fp w3 hTk hTl).mono ?_); rintro en w4 ⟨v4, rfl, hA4, o4⟩; have hO4 := hA4.row.1; rw [HK.out] at hO4; obtain ⟨a4, q4, e4⟩ := hA4.form; rw [HK.out] at e4; subst e4; have m4 := lit_srcA w4 [.int .i64 k] 2 rfl)
            | (at_builtin; refine wpList_app _ rfl _ _ 32 rfl w3.heap.size 2 i0 _ 1 8 Tryz.underlying32 hi hz0 hz1 hz2 rfl (by omega) (.slice a4 c q4) c ((l.take c).map (Value.int .i64)) rfl (hO4.alloc _) (some ⟨w4.heap.size, 0, none⟩) 1 1 [.int .i64 k] rfl rfl m4 (by intro hh; cases hh) (by intro u hu; simp at hu; subst hu; rfl) (by unfold maxLen; omega) (by omega) (Nat.le_trans o4.size ((Only.refl [] w4).alloc _).size) ?_; intro v5 w5 hO5 hg5 hb5; have o5 : Only [] w3 w5 := (o4.alloc _).grown hg5 (by intro z hz hzl; have := (hO4.lt z hz).1; omega))
            | (at_builtin; refine wpList_app _ rfl _ _ 32 rfl w3.heap.size 2 i0 _ 1 8 Tryz.underlying32 hi hz0 hz1 hz2 rfl (by omega) v5 (c + 1) ((l.take c).map (Value.int .i64) ++ [.int .i64 k]) rfl hO5 (some ⟨b, off, none⟩) 0 0 [] rfl rfl (by intro ad hh j1 u hu; simp at hu) (by intro hh; cases hh) (by intro u hu; simp at hu) (by unfold maxLen; omega) (by omega) o5.size ?_; intro v6 w6 hO6 hg6 hb6)
            | fail "no arm")
          have hfin := hend v6 w6 (by have e : l.length - c = 0 := (by omega); rw [e, Hd0.out]; simpa using hO6) (o5.grown hg6 (by intro z hz hzl; have := (hO5.lt z hz).1; omega))
          obtain ⟨b', o', c', fp', rfl, h1, h2, h3⟩ := hfin
          go_ret
          exact ⟨b', o', c', fp', rfl, h1, .inr h2, h3⟩
        · clear hje hlt
          go_wp2_with (first
            | (go_at_call 58; (with_reducible refine (copyInts_aI (.slice (some ⟨b, off, none⟩) j c) (l.take j) fp w3 hTk hTl).mono ?_); rintro en w4 ⟨v4, rfl, hA4, o4⟩; have hO4 := hA4.row.1; rw [HK.out] at hO4; obtain ⟨a4, q4, e4⟩ := hA4.form; rw [HK.out] at e4; subst e4; have m4 := lit_srcA w4 [.int .i64 k] 2 rfl)
            | (at_builtin; refine wpList_app _ rfl _ _ 32 rfl w3.heap.size 2 i0 _ 1 8 Tryz.underlying32 hi hz0 hz1 hz2 rfl (by omega) (.slice a4 j q4) j ((l.take j).map (Value.int .i64)) rfl (hO4.alloc _) (some ⟨w4.heap.size, 0, none⟩) 1 1 [.int .i64 k] rfl rfl m4 (by intro hh; cases hh) (by intro u hu; simp at hu; subst hu; rfl) (by unfold maxLen; omega) (by omega) (Nat.le_trans o4.size ((Only.refl [] w4).alloc _).size) ?_; intro v5 w5 hO5 hg5 hb5; have o5 : Only [] w3 w5 := (o4.alloc _).grown hg5 (by intro z hz hzl; have := (hO4.lt z hz).1; omega); have ID := (I3.keep o5).drp hjl; have s5 := ints_src ID; have hdl : ((l.drop j).map (Value.int .i64)).length = (l.length - j) * 1 := (by simp); have Hdl := Lib.hid hdl; clear hdl)
            | (at_builtin; refine wpList_app _ rfl _ _ 32 rfl w3.heap.size 2 i0 _ 1 8 Tryz.underlying32 hi hz0 hz1 hz2 rfl (by omega) v5 (j + 1) ((l.take j).map (Value.int .i64) ++ [.int .i64 k]) rfl hO5 (some ⟨b, off + j, none⟩) (l.length - j) (c - j) ((l.drop j).map (Value.int .i64)) rfl Hdl.out s5.1 (by intro hh; cases hh) (ints_one _) (by unfold maxLen; omega) (by omega) o5.size ?_; intro v6 w6 hO6 hg6 hb6)
            | fail "no arm")
          have hfin := hend v6 w6 hO6 (o5.grown hg6 (by intro z hz hzl; have := (hO5.lt z hz).1; omega))
          obtain ⟨b', o', c', fp', rfl, h1, h2, h3⟩ := hfin
          go_ret
          exact ⟨b', o', c', fp', rfl, h1, .inr h2, h3⟩
end Go.Proofs.YtndcifpbbnebmaaGreat

namespace Go.Proofs.YtndcifpbbnebmaaGreat
open Go.RowKit
set_option maxRecDepth 10000
end Go.Proofs.YtndcifpbbnebmaaGreat

namespace Go.Proofs.YtndcifpbbnebmaaGreat
open Go.RowKit
set_option maxRecDepth 10000
end Go.Proofs.YtndcifpbbnebmaaGreat

namespace Go.Proofs.YtndcifpbbnebmaaGreat
open Go.RowKit
set_option maxRecDepth 10000

theorem choTo_succ (m : List Int) (j : Nat) (T : PM.Rows) (k : Nat) : PM.choO m (orbTo (j + 1) T k) = if PM.tr T k (j : Int) = [] then PM.choO m (orbTo j T k) else PM.insU (PM.at_ m (j : Int)) (PM.choO m (orbTo j T k)) := by
  rw [orbTo_succ]
  by_cases h : PM.tr T k (j : Int) = []
  · rw [if_pos h, if_pos h]
  · rw [if_neg h, if_neg h, PM.choO_snoc]
theorem choO_len {n : Nat} {m : List Int} (hm : PM.PN n m) {ys : List Int} (hy : ∀ y ∈ ys, 0 ≤ y ∧ y < n) : (PM.choO m ys).length ≤ n := by
  have h1 : (PM.choO m ys).length ≤ (PM.pts n).length := PM.nodup_sub_len (PM.choO_asc m ys).nodup fun v hv => by
    obtain ⟨y, hy1, rfl⟩ := PM.mem_choO.1 hv
    obtain ⟨h0, h1⟩ := hy y hy1
    exact PM.mem_pts.2 (hm.rng h0 h1)
  rwa [PM.pts_len] at h1
theorem orbTo_rng {j n : Nat} (hj : j ≤ n) {T : PM.Rows} {k : Nat} : ∀ y ∈ orbTo j T k, 0 ≤ y ∧ y < (n : Int) := fun y hy => by
  unfold orbTo at hy
  have := PM.mem_pts.1 (List.mem_filter.1 hy).1
  omega
set_option maxHeartbeats 2000000 in
theorem choicesAt_any {e : TypeId} {B : Nat} {L : Lay} {gv : Nat → Value} {n : Nat} {G : PM.Gens} {T : PM.Rows} {M F : List Nat} (w : World) (hC : Ch e B w L gv n G T M F) (hT : L.oT = 1) (i : Nat) (hi : i < n) (v : Value) (m : List Int) (fm : List Nat)
    (hv : Rd w v m fm) (hm : PM.PN n m) :
    Calls Tryz.prog 53 #[.pointer (some ⟨L.g, 0, none⟩), .int .i64 i, v] w fun e w' => ∃ b o c f, e = .returned (.slice (some ⟨b, o, none⟩) (PM.cho n T i m).length c) ∧ IntsA w' (some ⟨b, o, none⟩) c (PM.cho n T i m) f ∧ Fresh w.heap.size w' f ∧ Only [] w w' := by
  obtain ⟨A, C, rfl, IM⟩ := hv.ints
  have hn20 := hC.le
  have hml := hm.1
  have cn := hC.cn
  have ct := hC.ct
  rw [hT] at ct
  have cr := hC.row i hi
  obtain ⟨R, hR⟩ : ∃ R, R = PM.cho n T i m := ⟨_, rfl⟩
  rw [← hR]
  have HR := Lib.hid hR
  have HC := Lib.hid hC
  have Hm := Lib.hid hm
  have HIM := Lib.hid IM
  have Hml := Lib.hid hml
  clear hC hm IM hml hR
  go_enter Tryz.func53, Tryz.ntmps53
  go_wp2
  go_loopw [7, 8] (fun o y wr => ∃ (j : Nat) (l : List Int) (b o' c : Nat) (f : List Nat), j ≤ n ∧ y = .int .i64 j ∧ Hid (l = PM.choO m (orbTo j T i)) ∧ o = .slice (some ⟨b, o', none⟩) l.length c ∧ IntsA wr (some ⟨b, o', none⟩) c l f ∧ Fresh w.heap.size wr f ∧ Only [] w wr)
    (fun _ y _ => n - (intOf y).toNat)
  case atStart => exact ⟨0, [], w.heap.size, 0, 0, [], Nat.zero_le _, rfl, Lib.hid rfl, rfl, IntsA.nil _ _ (by simp [maxLen]), Fresh.nil _ _, (Only.refl _ _).alloc _⟩
  case round =>
    obtain ⟨W2, hnew⟩ : ∃ W, W = wr := ⟨_, rfl⟩
    subst hnew
    obtain ⟨j, l, b, o', c, f, hj, rfl, hl, rfl, hI, hF, hO⟩ := hrel
    have y0 := hO.cell (by simp) cn
    by_cases hlt : j < n
    · have yt := hO.cell (by simp) ct
      have yr := hO.cell (by simp) cr
      have hC2 := HC.out.keep hO
      have hsu := choTo_succ m j T i
      rw [← hl.out] at hsu
      have Hsu := Lib.hid hsu
      have hll : l.length ≤ 1000 := by
        rw [hl.out]
        have := choO_len Hm.out (orbTo_rng (j := j) (n := n) (by omega) (T := T) (k := i))
        omega
      have hltI : (j : Int) < (n : Int) := by omega
      clear hsu
      by_cases ht : PM.tr T i (j : Int) = []
      · have c4 := hC2.at_nil hi (y := (j : Int)) (by omega) (by omega) ht
        simp only [Int.toNat_natCast] at c4
        have Ht := Lib.hid ht
        clear ht hC2
        go_wp2
        go_roundw
        case rel => exact ⟨j + 1, l, b, o', c, f, by omega, by go_num, Lib.hid (by rw [Hsu.out, if_pos Ht.out]), rfl, hI, hF, hO⟩
        case measure => simp [intOf]; omega
      · obtain ⟨b4, off4, cap4, f4, c4, -, -⟩ := hC2.at_some hi (y := (j : Int)) (by omega) (by omega) ht
        simp only [Int.toNat_natCast] at c4
        obtain ⟨b3, o3, rfl, -, c3⟩ := (HIM.out.keep hO).at_pm (x := (j : Int)) (by omega) (by rw [Hml.out]; omega)
        simp only [Int.toNat_natCast] at c3
        have hpos : (0 : Int) < ((PM.tr T i (j : Int)).length : Int) := by have := List.length_pos_iff.2 ht; omega
        have hjm : (j : Int) < (m.length : Int) := by rw [Hml.out]; omega
        have hmr := Hm.out.rng (x := (j : Int)) (by omega) (by omega)
        have HmI := Lib.hid (show I64 (PM.at_ m (j : Int)) by unfold I64; omega)
        have Ht := Lib.hid ht
        have hsz := hO.size
        clear ht hC2 hmr
        go_wp2_with (first
          | (go_at_call 76; (with_reducible refine (insertSorted_any b o' c l f (PM.at_ m (j : Int)) W2 hI hll HmI.out).mono ?_); rintro en w3 ⟨b5, o5, c5, f5, rfl, hI5, hf5, t5⟩)
          | fail "no arm")
        have hF5 : Fresh w.heap.size w3 f5 := by
          rcases hf5 with h | h
          · rw [h]; exact hF.keep t5
          · exact h.mono hsz
        go_roundw
        case rel => exact ⟨j + 1, _, b5, o5, c5, f5, by omega, by go_num, Lib.hid (by rw [Hsu.out, if_neg Ht.out]), rfl, hI5, hF5, hO.trans t5⟩
        case measure => simp [intOf]; omega
    · obtain rfl : j = n := by omega
      have hRl : R = l := by rw [HR.out, hl.out]; rfl
      have HRl := Lib.hid hRl
      have hge : ¬ ((j : Int) < (j : Int)) := by omega
      clear hRl hl
      go_wp2
      go_ret
      rw [HRl.out]
      exact ⟨b, o', c, rfl, f, hI, hF, hO⟩
set_option maxHeartbeats 4000000 in
theorem withEntry_any {e : TypeId} {B : Nat} {L : Lay} {gv : Nat → Value} {n : Nat} {G : PM.Gens} {T : PM.Rows} {M F : List Nat} (w : World) (hC : Ch e B w L gv n G T M F) (hw : PM.WF n T) (hT : L.oT = 1) (i : Nat) (hi : i < n) (v : Value) (m : List Int) (fm : List Nat)
    (hv : Rd w v m fm) (hm : PM.PN n m) (vv : Int) (hvv : vv ∈ PM.cho n T i m) :
    Calls Tryz.prog 55 #[.pointer (some ⟨L.g, 0, none⟩), .int .i64 i, v, .int .i64 vv] w fun e w' => ∃ v' f', e = .returned v' ∧ Rd w' v' (PM.putV T i m vv) f' ∧ Fresh w.heap.size w' f' ∧ Only [] w w' := by
  have hn20 := hC.le
  obtain ⟨hv0, hv1, hp0, hp1, hp2, hp3⟩ := PM.cho_pre hm hvv
  obtain ⟨A, C, rfl, IM⟩ := hv.ints
  obtain ⟨y, hy⟩ : ∃ y, y = PM.at_ (PM.inv m) vv := ⟨_, rfl⟩
  rw [← hy] at hp0 hp1 hp2 hp3
  have hput : PM.putV T i m vv = PM.comp (PM.tr T i y) m := by unfold PM.putV; rw [← hy]
  have ct := hC.ct
  rw [hT] at ct
  have cr := hC.row i hi
  obtain ⟨bt, ot, capt, ft, crt, hrt, -⟩ := hC.at_some hi hp0 hp1 hp2
  have htp := hw.pn i y hi hp2
  have hil : ((PM.inv m).length : Int) = (n : Int) := by rw [hm.inv.1]
  have Hm := Lib.hid hm
  have Hp := Lib.hid hput
  have Htp := Lib.hid htp
  have Hy := Lib.hid hy
  have Hil := Lib.hid hil
  have hvl : vv < ((PM.inv m).length : Int) := by rw [hil]; exact hv1
  clear hC hm hvv hy hput hp2 hp3 htp IM hil
  go_enter Tryz.func55, Tryz.ntmps55
  go_wp2_with fail
  have kd : Only [] w w.drew := (Only.refl _ _).drew
  have dt := kd.cell (by simp) ct
  have dr := kd.cell (by simp) cr
  have dy := kd.cell (by simp) crt
  have HcI := Lib.hid (fun (W : World) (hW : Only [] w W) => specInv_rd n _ m _ W (Rp.keep hv hW) Hm.out (by omega))
  have HcC := Lib.hid (fun (W : World) (hW : Only [] w W) => specCompose_rd n _ _ (PM.tr T i y) m _ _ W (Rp.keep hrt hW) (Rp.keep hv hW) Htp.out Hm.out (by omega))
  clear kd
  go_region_law (first
    | (go_simp; go_at_call 77; (with_reducible refine (HcI.out _ (by with_reducible repeat (first | exact Only.refl _ _ | refine Only.drew ?_))).mono ?_); rintro e w3 ⟨v3, f3, rfl, r3, F3, t3⟩; have k3 : Only [] w w3 := Only.trans (by with_reducible repeat (first | exact Only.refl _ _ | refine Only.drew ?_)) t3; obtain ⟨a3, c3, rfl, I3⟩ := r3.ints; obtain ⟨b3, o3, rfl, -, x3⟩ := I3.at_pm (x := vv) hv0 hvl; rw [← Hy.out] at x3; have et := k3.cell (by simp) ct; have er := k3.cell (by simp) cr; have ey := k3.cell (by simp) crt)
    | (go_simp; go_at_call 36; (with_reducible refine (HcC.out _ (by with_reducible first | exact k3 | exact k3.drew)).mono ?_); rintro e w5 ⟨v5, f5, rfl, r5, F5, t5⟩; have k5 : Only [] w w5 := Only.trans (by with_reducible first | exact k3 | exact k3.drew) t5)
    | fail "no arm")
  all_goals have hF5 : Fresh w.heap.size w5 f5 := F5.mono (by have := k3.size; (try simp); omega)
  all_goals go_wp2
  all_goals go_ret
  all_goals exact ⟨v5, f5, rfl, by rw [Hp.out]; exact r5, hF5, k5⟩


end Go.Proofs.YtndcifpbbnebmaaGreat
