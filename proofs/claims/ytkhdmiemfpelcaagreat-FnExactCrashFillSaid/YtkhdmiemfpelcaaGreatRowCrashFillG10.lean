/- The program's search of patterns: its state (law 16). A slice of numbers that a loop appends to, in fewer words. A slice of bytes that a loop appends to; it turned to a string. The record of an expansion: the reference's. The reference's search from a list on (law 16). The reference's BuildTable (law 16). -/
import Derived.Test.YtkhdmiemfpelcaaGreatRowCrashFillG9
import Derived.Test.YtkhdmiemfpelcaaGreatRowCrashFillG6
import Derived.Deep.RegionLaw
import Derived.Test.YtkhdmiemfpelcaaGreatRowCrashFillG5
namespace Go.Proofs.YtkhdmiemfpelcaaGreat
open Go.RowKit
set_option maxRecDepth 10000

/-- a literal of one element, to which a loop appends -/
theorem Acc.one {α : Type} [Rp α] {w : World} (B : Nat) (e : TypeId) {cs : List Value} {x : α} {fp : List Nat} (h : Rp.rep w cs x fp) {g : Nat} (hg : g = w.heap.size) (hB : B ≤ g) : Acc B e (w.alloc (.cells cs.toArray e)) (.slice (some ⟨g, 0, none⟩) 1 1) [x] [fp] := by
  subst hg
  have hk : Only [] w (w.alloc (.cells cs.toArray e)) := (Only.refl _ _).alloc _
  refine ⟨⟨[cs], ⟨by simp [Rp.len h], .inr ⟨w.heap.size, 1, cs.toArray, rfl, hB, heap_alloc_new w _, Nat.le_refl _, by unfold maxLen; omega, by simp [Rp.len h], by simpa using List.take_of_length_le (Nat.le_of_eq (Rp.len h))⟩⟩, rfl, fun k h1 h2 h3 => ?_⟩, rfl, ?_⟩
  · have : k = 0 := by simpa using h1
    subst this
    exact Rp.keep h hk
  · intro g hg hm
    simp only [Value.ownBlock, Option.some.injEq] at hg
    subst hg
    have := Rp.lt h _ (by simpa using hm)
    omega
section
variable {P : Program} {α : Type} [Rp α] {ops : Array Oper} {rest : List Oper} {o : Oper} {a : Act} {w : World} {Q : Exit → Act → World → Prop}
theorem wpList_push2w (hgd : o.guard = none) (s x : Operand) (t : TypeId)
    (ho : o.op = .call { callee := .builtin .append, args := #[s, x], argTypes := #[t, t] })
    (B : Nat) (e : TypeId) (i : TypeInfo) (z : Value) (bytes : Nat) (ht : P.underlying t = some (.slice e)) (hi : P.info? e = some i) (hz : i.zero = some z)
    (hsize : i.size = Rp.size α) (hby : i.bytes = bytes) (hzs : z.cells.size = Rp.size α) (hsz : 0 < Rp.size α) (hbb : bytes ≤ 65536)
    (w0 : World) (v : Value) (l : List α) (fs : List (List Nat)) (hs : a.eval s = v) (hA : Acc B e w0 v l fs) (hK0 : Only [] w0 w) (hB : B ≤ w0.heap.size)
    (g c : Nat) (cs : List Value) (y : α) (fp : List Nat) (hx : a.eval x = .slice (some ⟨g, 0, none⟩) 1 c) (hsrc : ∀ j u, cs[j]? = some u → w.cell? ⟨g, j, none⟩ = some u) (hcs : ∀ u ∈ cs, u.oneCell' = true)
    (hy : Rp.rep w cs y fp) (hap : ∀ b ∈ fp, v.ownBlock ≠ some b) (hlen : l.length + 1 ≤ 1073741824)
    (h : ∀ v' w', Acc B e w' v' (l ++ [y]) (fs ++ [fp]) → Only v.ownBlock.toList w w' → (∀ wz, Only [] wz w → wz.heap.size ≤ B → Only [] wz w') →
      (Fresh B w0 fs.flatten → Fresh w0.heap.size w fp → Fresh B w' (fs ++ [fp]).flatten) → (v'.ownBlock = v.ownBlock ∨ v'.ownBlock = some w.heap.size) → wpList P ops Q rest (a.put o.dst v') w') : wpList P ops Q (o :: rest) a w :=
  wpList_plain hgd fun _ hK => wp_push2 s x t ho B e i z bytes ht hi hz hsize hby hzs hsz hbb w0 v l fs hs hA hK0 hB g c cs y fp hx hsrc hcs hy hap hlen fun v' w' h1 h2 h3 h4 h5 => hK _ _ (h v' w' h1 h2 h3 h4 h5)
end
theorem kB_inj_pat {n : Int} {m : Nat} {p q : List Int} (hn : n ≤ 256) (hp : patB n m p = true) (hq : patB n m q = true) : kB p = kB q ↔ p = q :=
  kB_eq (fun x hx => by have := (patB_iff.1 hp).2.1 x hx; omega) (fun x hx => by have := (patB_iff.1 hq).2.1 x hx; omega)
/-- which keys are met -/
def metB (L : List (List Int)) (s : ByteArray) : Bool := L.any fun q => decide (kB q = s)
theorem metB_snoc (L : List (List Int)) (q : List Int) (s : ByteArray) : (if s = kB q then true else metB L s) = metB (L ++ [q]) s := by
  unfold metB
  rw [List.any_append]
  by_cases h : s = kB q
  · subst h; simp
  · have h' : ¬ kB q = s := fun e => h e.symm
    simp [h, h']
theorem metB_mem {n : Int} {m : Nat} {L : List (List Int)} {q : List Int} (hn : n ≤ 256) (hL : ∀ p ∈ L, patB n m p = true) (hq : patB n m q = true) : metB L (kB q) = decide (q ∈ L) := by
  unfold metB
  rw [Bool.eq_iff_iff, List.any_eq_true]
  simp only [decide_eq_true_eq]
  constructor
  · rintro ⟨p, h1, h2⟩
    rw [(kB_inj_pat hn (hL p h1) hq).1 h2] at h1
    exact h1
  · intro h; exact ⟨q, h, rfl⟩
/-- the program's search under way: lo: the call's begin; m1, W: begin and end of the making of the moves -/
structure PBf (x : Puzzle) (m : Nat) (w : World) (m1 : Nat) (W : World) (M : Nat) (L : List (List Int)) (D : List Int) (wr : World) (v1 v2 : Value) (fs fd : List (List Nat)) : Prop where
  acc : Acc w.heap.size 25 wr v1 L fs
  dep : Acc w.heap.size 2 wr v2 D fd
  fr : Fresh w.heap.size wr fs.flatten
  mp : MpB wr M L.length (metB L)
  dl : D.length = L.length
  ll : L.length ≤ 3000
  pat : ∀ q ∈ L, patB x.points m q = true
  rng : ∀ d ∈ D, 0 ≤ d ∧ d ≤ D.length
  a2 : ∀ g, v2.ownBlock = some g → v1.ownBlock ≠ some g ∧ g ∉ fs.flatten ∧ g ≠ M
  a1 : v1.ownBlock ≠ some M ∧ M ∉ fs.flatten
  zone : ∀ g, (g = M ∨ v1.ownBlock = some g ∨ v2.ownBlock = some g) → (w.heap.size ≤ g ∧ g < m1) ∨ W.heap.size ≤ g
  keep : ∀ g, (g < w.heap.size ∨ (m1 ≤ g ∧ g < W.heap.size)) → wr.heap[g]? = W.heap[g]?
  on : Only [] w wr
  sz : W.heap.size ≤ wr.heap.size
  mw : w.heap.size ≤ m1 ∧ m1 ≤ W.heap.size
section
variable {x : Puzzle} {m : Nat} {w : World} {m1 : Nat} {W : World} {M : Nat} {L : List (List Int)} {D : List Int} {wr : World} {v1 v2 : Value} {fs fd : List (List Nat)}
theorem PBf.only {wr' : World} (h : PBf x m w m1 W M L D wr v1 v2 fs fd) (ho : Only [] wr wr') : PBf x m w m1 W M L D wr' v1 v2 fs fd :=
  ⟨h.acc.keep ho, h.dep.keep ho, h.fr.keep ho, h.mp.keep ho, h.dl, h.ll, h.pat, h.rng, h.a2, h.a1, h.zone, fun g hg => by
    have hz := h.sz; have hw := h.mw
    rw [ho.block g (by omega) (by simp)]; exact h.keep g hg, h.on.trans ho, Nat.le_trans h.sz ho.size, h.mw⟩
/-- from a world on, in which all the search's memory lies already -/
theorem PBf.start {W5 : World} (h : PBf x m w m1 W M L D wr v1 v2 fs fd) (ho : Only [] wr W5) : PBf x m w wr.heap.size W5 M L D W5 v1 v2 fs fd := by
  have hw := h.mw; have hz := h.sz
  refine ⟨h.acc.keep ho, h.dep.keep ho, h.fr.keep ho, h.mp.keep ho, h.dl, h.ll, h.pat, h.rng, h.a2, h.a1, fun g hg => .inl ?_, fun g _ => rfl, h.on.trans ho, Nat.le_refl _, by omega, ho.size⟩
  have h1 := h.zone g hg
  refine ⟨by omega, ?_⟩
  rcases hg with rfl | hg | hg
  · exact h.mp.lt
  · exact (h.acc.ownlt g hg).2
  · exact (h.dep.ownlt g hg).2
theorem PBf.fd0 (h : PBf x m w m1 W M L D wr v1 v2 fs fd) : fd.flatten = [] := by
  obtain ⟨css, ho, hcl, hr⟩ := h.dep.own
  have hl := h.dep.fl
  have : fd = List.replicate fd.length [] := by
    apply List.ext_getElem (by simp)
    intro k h1 h2
    have := (hr k (by omega) (by omega) h1).2.2
    simpa using this
  rw [this]; exact flatten_nil _
/-- a new pattern is met: the map, the list, the depths -/
theorem PBf.step {wp wa wb wc wd : World} {v1' v2' : Value} {s : List Int} {d : Int} {f : List Nat}
    (h : PBf x m w m1 W M L D wr v1 v2 fs fd) (hL : L.length < 3000) (hp : patB x.points m s = true) (hd : 0 ≤ d ∧ d ≤ D.length + 1)
    (hm : MpB wp M (L.length + 1) (metB (L ++ [s]))) (ho : Only [M] wr wp)
    (ka : Only [] wp wa) (hA : Acc w.heap.size 25 wb v1' (L ++ [s]) (fs ++ [f])) (oA : Only v1.ownBlock.toList wa wb) (nA : v1'.ownBlock = v1.ownBlock ∨ v1'.ownBlock = some wa.heap.size) (hF : Fresh w.heap.size wb (fs ++ [f]).flatten) (hfM : M ∉ f) (hf2 : ∀ g ∈ f, wr.heap.size ≤ g ∨ v2.ownBlock ≠ some g)
    (kc : Only [] wb wc) (hD : Acc w.heap.size 2 wd v2' (D ++ [d]) (fd ++ [[]])) (oD : Only v2.ownBlock.toList wc wd) (nD : v2'.ownBlock = v2.ownBlock ∨ v2'.ownBlock = some wc.heap.size) :
    PBf x m w m1 W M (L ++ [s]) (D ++ [d]) wd v1' v2' (fs ++ [f]) (fd ++ [[]]) := by
  have s1 := ho.size; have s2 := ka.size; have s3 := oA.size; have s4 := kc.size; have s5 := oD.size
  have hz := h.sz; have hw := h.mw
  have hMl := h.mp.lt
  have l1 := h.acc.ownlt
  have l2 := h.dep.ownlt
  have hfl := h.fr.lt
  have hff : (fs ++ [f]).flatten = fs.flatten ++ f := by simp
  have hfs : ∀ g, v2.ownBlock = some g → g ∉ (fs ++ [f]).flatten := fun g hg hm => by
    rw [hff] at hm
    rcases List.mem_append.1 hm with hm | hm
    · exact (h.a2 g hg).2.1 hm
    · have := l2 g hg
      rcases hf2 g hm with h3 | h3
      · omega
      · exact h3 hg
  have hv12 : ∀ g, v2.ownBlock = some g → v1'.ownBlock ≠ some g := fun g hg he => by
    rcases nA with h3 | h3
    · exact (h.a2 g hg).1 (by rw [← h3]; exact he)
    · rw [h3] at he; injection he with he; have := l2 g hg; omega
  have hmM : ∀ g, v1.ownBlock = some g → g ≠ M := fun g hg e => h.a1.1 (by rw [hg, e])
  have hM1 : v1'.ownBlock ≠ some M := fun he => by
    rcases nA with h3 | h3
    · exact h.a1.1 (by rw [← h3]; exact he)
    · rw [h3] at he; injection he with he; omega
  have hM1' : M ∉ v1.ownBlock.toList := by simpa using h.a1.1
  have hM2' : M ∉ v2.ownBlock.toList := by simp; intro he; exact (h.a2 M he).2.2 rfl
  have hN : ∀ g, v1'.ownBlock = some g → v1.ownBlock = some g ∨ W.heap.size ≤ g := fun g hg => by
    rcases nA with h3 | h3
    · exact .inl (by rw [← h3]; exact hg)
    · rw [h3] at hg; injection hg with hg; right; omega
  have hN2 : ∀ g, v2'.ownBlock = some g → v2.ownBlock = some g ∨ wb.heap.size ≤ g := fun g hg => by
    rcases nD with h3 | h3
    · exact .inl (by rw [← h3]; exact hg)
    · rw [h3] at hg; injection hg with hg; right; omega
  have hko : Only (M :: (v1.ownBlock.toList ++ v2.ownBlock.toList)) wr wd :=
    ((((ho.mono (by simp)).keepThen ka).then_ oA (by intro b hb _; simp at hb ⊢; simp [hb])).keepThen kc).then_ oD (by intro b hb _; simp at hb ⊢; simp [hb])
  refine ⟨hA.only (kc.weaken _ |>.trans oD) (fun b hb hm => hfs b (by simpa using hm) hb) (fun g hg hm => hv12 g (by simpa using hm) hg), hD,
    hF.only (kc.weaken _ |>.trans oD) (fun b hb hm => hfs b (by simpa using hm) hb),
    by simpa using ((((hm.keep ka).only oA hM1').keep kc).only oD hM2'), by simp [h.dl], by simp; omega, ?_, ?_, ?_, ⟨hM1, ?_⟩, ?_, fun g hg => ?_, ?_, by omega, h.mw⟩
  · intro q hq
    rcases List.mem_append.1 hq with hq | hq
    · exact h.pat q hq
    · simp at hq; subst hq; exact hp
  · intro q hq
    rw [List.length_append, List.length_singleton]
    rcases List.mem_append.1 hq with hq | hq
    · have := h.rng q hq; omega
    · simp at hq; subst hq; omega
  · intro g hg
    rcases hN2 g hg with h3 | h3
    · exact ⟨hv12 g h3, hfs g h3, (h.a2 g h3).2.2⟩
    · refine ⟨fun he => ?_, fun hm => ?_, by omega⟩
      · have := (hA.ownlt g he).2; omega
      · have := hF.lt g hm; omega
  · rw [hff]; intro hm
    rcases List.mem_append.1 hm with hm | hm
    · exact h.a1.2 hm
    · exact hfM hm
  · rintro g (rfl | hg | hg)
    · exact h.zone _ (.inl rfl)
    · rcases hN g hg with h3 | h3
      · exact h.zone g (.inr (.inl h3))
      · exact .inr h3
    · rcases hN2 g hg with h3 | h3
      · exact h.zone g (.inr (.inr h3))
      · right; omega
  · rw [hko.block g (by omega) (fun hm => ?_)]
    · exact h.keep g hg
    · simp only [List.mem_cons, List.mem_append, Option.mem_toList] at hm
      have := h.zone g (by rcases hm with hm | hm | hm; exact .inl hm; exact .inr (.inl hm); exact .inr (.inr hm))
      omega
  · refine h.on.then_ hko (fun g hm hg => ?_)
    simp only [List.mem_cons, List.mem_append, Option.mem_toList] at hm
    have := h.zone g (by rcases hm with hm | hm | hm; exact .inl hm; exact .inr (.inl hm); exact .inr (.inr hm))
    omega
/-- what the search hands back -/
theorem PBf.out (h : PBf x m w m1 W M L D wr v1 v2 fs fd) : Rd wr v1 L (v1.ownBlock.toList ++ fs.flatten) ∧ Rd wr v2 D v2.ownBlock.toList ∧ Fresh w.heap.size wr ((v1.ownBlock.toList ++ fs.flatten) ++ v2.ownBlock.toList) := by
  have h0 := h.fd0
  have h2 := h.dep.rd (by decide)
  rw [h0, List.append_nil] at h2
  have hf1 := h.acc.fresh h.fr
  have hf2 := h.dep.fresh (by rw [h0]; exact Fresh.nil _ _)
  rw [h0, List.append_nil] at hf2
  refine ⟨h.acc.rd (by decide), h2, List.nodup_append.2 ⟨hf1.nd, hf2.nd, fun a ha b hb e => ?_⟩, fun b hb => ?_, hf1.own.append hf2.own⟩
  · subst e
    have hb' : v2.ownBlock = some a := by simpa using hb
    rcases List.mem_append.1 ha with ha | ha
    · exact (h.a2 a hb').1 (by simpa using ha)
    · exact (h.a2 a hb').2.1 ha
  · rcases List.mem_append.1 hb with hb | hb
    · exact hf1.ge b hb
    · exact hf2.ge b hb
theorem PBf.old (h : PBf x m w m1 W M L D wr v1 v2 fs fd) {β : Type} [Rp β] {cs : List Value} {y : β} {fp : List Nat} (hr : Rp.rep W cs y fp) (hf : ∀ g ∈ fp, g < w.heap.size ∨ (m1 ≤ g ∧ g < W.heap.size)) : Rp.rep wr cs y fp :=
  Rp.frame hr fun g hg => h.keep g (hf g hg)
end
end Go.Proofs.YtkhdmiemfpelcaaGreat

namespace Go.Proofs.YtkhdmiemfpelcaaGreat
open Go.RowKit
set_option maxRecDepth 10000

theorem step_push2w {P : Program} {α : Type} [Rp α] {ops : Array Oper} {o : Oper} {a : Act} {w : World} {Q : Exit → Act → World → Prop} {K : Act → World → Prop} {E : Prop} (hgd : o.guard = none) (s x : Operand) (t : TypeId)
    (ho : o.op = .call { callee := .builtin .append, args := #[s, x], argTypes := #[t, t] })
    (B : Nat) (e : TypeId) (i : TypeInfo) (z : Value) (bytes : Nat) (ht : P.underlying t = some (.slice e)) (hi : P.info? e = some i) (hz : i.zero = some z)
    (hsize : i.size = Rp.size α) (hby : i.bytes = bytes) (hzs : z.cells.size = Rp.size α) (hsz : 0 < Rp.size α) (hbb : bytes ≤ 65536)
    (w0 : World) (v : Value) (l : List α) (fs : List (List Nat)) (hs : a.eval s = v) (hA : Acc B e w0 v l fs) (hK0 : Only [] w0 w) (hB : B ≤ w0.heap.size)
    (g c : Nat) (cs : List Value) (y : α) (fp : List Nat) (hx : a.eval x = .slice (some ⟨g, 0, none⟩) 1 c) (hsrc : ∀ j u, cs[j]? = some u → w.cell? ⟨g, j, none⟩ = some u) (hcs : ∀ u ∈ cs, u.oneCell' = true)
    (hy : Rp.rep w cs y fp) (hap : ∀ b ∈ fp, v.ownBlock ≠ some b) (hlen : l.length + 1 ≤ 1073741824)
    (h : ∀ v' w', Acc B e w' v' (l ++ [y]) (fs ++ [fp]) → Only v.ownBlock.toList w w' → (v'.ownBlock = v.ownBlock ∨ v'.ownBlock = some w.heap.size) → K (a.put o.dst v') w') : if Region.wanted o (yielded ops a.tmps) = true then Oper.wp P o a w K Q else E := by
  rw [if_pos (by simp [Region.wanted, hgd])]
  exact wp_push2 s x t ho B e i z bytes ht hi hz hsize hby hzs hsz hbb w0 v l fs hs hA hK0 hB g c cs y fp hx hsrc hcs hy hap hlen fun v' w' h1 h2 _ _ h5 => h v' w' h1 h2 h5
theorem Acc.flat0 {B : Nat} {e : TypeId} {w : World} {v : Value} {l : List Int} {fs : List (List Nat)} (h : Acc B e w v l fs) : fs.flatten = [] := by
  obtain ⟨css, ho, hcl, hr⟩ := h.own
  have hl := h.fl
  have : fs = List.replicate fs.length [] := by
    apply List.ext_getElem (by simp)
    intro k h1 h2
    have := (hr k (by omega) (by omega) h1).2.2
    simpa using this
  rw [this]; exact flatten_nil _
/-- v is a slice of numbers of the call's own -/
def AccI (B : Nat) (e : TypeId) (w : World) (v : Value) (l : List Int) : Prop := ∃ fs, Acc B e w v l fs
section
variable {w w' : World} {B : Nat} {e : TypeId} {v : Value} {l : List Int}
theorem AccI.only {fp : List Nat} (h : AccI B e w v l) (ho : Only fp w w') (hv : ∀ g, v.ownBlock = some g → g ∉ fp) : AccI B e w' v l := by
  obtain ⟨fs, h⟩ := h
  exact ⟨fs, h.only ho (by rw [h.flat0]; simp) hv⟩
theorem AccI.keep (h : AccI B e w v l) (ho : Only [] w w') : AccI B e w' v l := h.only ho (by simp)
theorem AccI.form (h : AccI B e w v l) : ∃ a c, v = .slice a l.length c := by
  obtain ⟨fs, h⟩ := h; exact h.form
theorem AccI.rd (h : AccI B e w v l) : Rd w v l v.ownBlock.toList := by
  obtain ⟨fs, h⟩ := h
  have := h.rd (by decide)
  rwa [h.flat0, List.append_nil] at this
theorem AccI.fresh (h : AccI B e w v l) : Fresh B w v.ownBlock.toList := by
  obtain ⟨fs, h⟩ := h
  have := h.fresh (by rw [h.flat0]; exact Fresh.nil _ _)
  rwa [h.flat0, List.append_nil] at this
theorem AccI.ownlt (h : AccI B e w v l) : ∀ g, v.ownBlock = some g → B ≤ g ∧ g < w.heap.size := by
  obtain ⟨fs, h⟩ := h; exact h.ownlt
theorem AccI.nil (w : World) (B : Nat) (e : TypeId) : AccI B e w (.slice none 0 0) [] := ⟨[], Acc.nil w B e⟩
theorem AccI.made (w : World) (B : Nat) (e : TypeId) {g : Nat} (hg : g = w.heap.size) (hB : B ≤ g) : AccI B e (w.alloc (.cells #[] e)) (.slice (some ⟨g, 0, none⟩) 0 0) [] := ⟨[], Acc.made w B e hg hB⟩
theorem AccI.one {n : Int} (hn : I64 n) (w : World) (B : Nat) (e : TypeId) {g : Nat} (hg : g = w.heap.size) (hB : B ≤ g) : AccI B e (w.alloc (.cells #[.int .i64 n] e)) (.slice (some ⟨g, 0, none⟩) 1 1) [n] :=
  ⟨[[]], Acc.one (cs := [.int .i64 n]) B e (int_rd w hn) hg hB⟩
end
section
variable {P : Program} {ops : Array Oper} {rest : List Oper} {o : Oper} {a : Act} {w : World} {Q : Exit → Act → World → Prop} {K : Act → World → Prop}
theorem wpList_pushI (hgd : o.guard = none) (s x : Operand) (t : TypeId)
    (ho : o.op = .call { callee := .builtin .append, args := #[s, x], argTypes := #[t, t] })
    (B : Nat) (e : TypeId) (i : TypeInfo) (z : Value) (ht : P.underlying t = some (.slice e)) (hi : P.info? e = some i) (hz : i.zero = some z)
    (hsize : i.size = 1) (hby : i.bytes = 8) (hzs : z.cells.size = 1)
    (w0 : World) (v : Value) (l : List Int) (hs : a.eval s = v) (hA : AccI B e w0 v l) (hK0 : Only [] w0 w) (hB : B ≤ w0.heap.size)
    (g c : Nat) (n : Int) (hx : a.eval x = .slice (some ⟨g, 0, none⟩) 1 c) (hsrc : w.cell? ⟨g, 0, none⟩ = some (.int .i64 n)) (hn : I64 n) (hlen : l.length + 1 ≤ 1073741824)
    (h : ∀ v' w', AccI B e w' v' (l ++ [n]) → Only v.ownBlock.toList w w' → (∀ wz, Only [] wz w → wz.heap.size ≤ B → Only [] wz w') → (v'.ownBlock = v.ownBlock ∨ v'.ownBlock = some w.heap.size) → wpList P ops Q rest (a.put o.dst v') w') : wpList P ops Q (o :: rest) a w := by
  obtain ⟨fs, hA⟩ := hA
  refine wpList_push2w (α := Int) hgd s x t ho B e i z 8 ht hi hz hsize hby hzs (by decide) (by decide) w0 v l fs hs hA hK0 hB g c [.int .i64 n] n [] hx ?_ (by intro u hu; simp at hu; subst hu; rfl) (int_rd w hn) (by simp) hlen fun v' w' h1 h2 h3 _ h5 => h v' w' ⟨_, h1⟩ h2 h3 h5
  intro j u hu
  cases j with
  | zero => simp at hu; subst hu; exact hsrc
  | succ j => simp at hu
theorem step_pushI {E : Prop} (hgd : o.guard = none) (s x : Operand) (t : TypeId)
    (ho : o.op = .call { callee := .builtin .append, args := #[s, x], argTypes := #[t, t] })
    (B : Nat) (e : TypeId) (i : TypeInfo) (z : Value) (ht : P.underlying t = some (.slice e)) (hi : P.info? e = some i) (hz : i.zero = some z)
    (hsize : i.size = 1) (hby : i.bytes = 8) (hzs : z.cells.size = 1)
    (w0 : World) (v : Value) (l : List Int) (hs : a.eval s = v) (hA : AccI B e w0 v l) (hK0 : Only [] w0 w) (hB : B ≤ w0.heap.size)
    (g c : Nat) (n : Int) (hx : a.eval x = .slice (some ⟨g, 0, none⟩) 1 c) (hsrc : w.cell? ⟨g, 0, none⟩ = some (.int .i64 n)) (hn : I64 n) (hlen : l.length + 1 ≤ 1073741824)
    (h : ∀ v' w', AccI B e w' v' (l ++ [n]) → Only v.ownBlock.toList w w' → (v'.ownBlock = v.ownBlock ∨ v'.ownBlock = some w.heap.size) → K (a.put o.dst v') w') : if Region.wanted o (yielded ops a.tmps) = true then Oper.wp P o a w K Q else E := by
  obtain ⟨fs, hA⟩ := hA
  refine step_push2w (α := Int) hgd s x t ho B e i z 8 ht hi hz hsize hby hzs (by decide) (by decide) w0 v l fs hs hA hK0 hB g c [.int .i64 n] n [] hx ?_ (by intro u hu; simp at hu; subst hu; rfl) (int_rd w hn) (by simp) hlen fun v' w' h1 h2 h5 => h v' w' ⟨_, h1⟩ h2 h5
  intro j u hu
  cases j with
  | zero => simp at hu; subst hu; exact hsrc
  | succ j => simp at hu
end
/-- the one cell of a literal -/
theorem lit1 (w : World) (u : Value) (e : TypeId) {g : Nat} (hg : g = w.heap.size) : (w.alloc (.cells #[u] e)).cell? ⟨g, 0, none⟩ = some u := lit_src w [u] e hg 0 u rfl
/-- a slice of numbers under way, beside memory (G) that stays as it is in W -/
structure AccG (w W : World) (G : List Nat) (e : TypeId) (wr : World) (o : Value) (l : List Int) : Prop where
  acc : AccI w.heap.size e wr o l
  on : Only [] w wr
  kp : ∀ b ∈ G, wr.heap[b]? = W.heap[b]?
  ga : ∀ b ∈ G, o.ownBlock ≠ some b
  gl : ∀ b ∈ G, b < wr.heap.size
section
variable {w W wr w' wa wb : World} {G : List Nat} {e : TypeId} {o o' : Value} {l : List Int} {n : Int}
theorem AccG.keep (h : AccG w W G e wr o l) (ho : Only [] wr w') : AccG w W G e w' o l :=
  ⟨h.acc.keep ho, h.on.trans ho, fun b hb => (ho.block b (h.gl b hb) (by simp)).trans (h.kp b hb), h.ga, fun b hb => Nat.lt_of_lt_of_le (h.gl b hb) ho.size⟩
theorem AccG.held (h : AccG w W G e wr o l) {α : Type} [Rp α] {cs : List Value} {y : α} {fp : List Nat} (hr : Rp.rep W cs y fp) (hf : ∀ b ∈ fp, b ∈ G) : Rp.rep wr cs y fp := Rp.frame hr fun b hb => h.kp b (hf b hb)
theorem AccG.ints (h : AccG w W G e wr o l) {a : Option Addr} {c : Nat} {y : List Int} {fp : List Nat} (hr : IntsA W a c y fp) (hf : ∀ b ∈ fp, b ∈ G) : IntsA wr a c y fp := hr.frame fun b hb => h.kp b (hf b hb)
end
end Go.Proofs.YtkhdmiemfpelcaaGreat

namespace Go.Proofs.YtkhdmiemfpelcaaGreat
open Go.RowKit
set_option maxRecDepth 10000

/-- v is a slice of bytes of the call's own; the numbers stand for their bytes -/
def AccU (B : Nat) (e : TypeId) (w : World) (v : Value) (l : List Int) : Prop := w.ownsRow B e 1 v l.length (l.map fun x => Value.int .u8 (x % 256))
section
variable {w w' : World} {B : Nat} {e : TypeId} {v : Value} {l : List Int}
theorem AccU.ownlt (h : AccU B e w v l) : ∀ g, v.ownBlock = some g → B ≤ g ∧ g < w.heap.size := World.ownsRow.lt h
theorem AccU.only {fp : List Nat} (h : AccU B e w v l) (ho : Only fp w w') (hv : ∀ g, v.ownBlock = some g → g ∉ fp) : AccU B e w' v l := by
  refine ⟨h.1, ?_⟩
  rcases h.2 with h' | ⟨g', cp, cur, h', hb, hgg, hrest⟩
  · exact .inl h'
  · exact .inr ⟨g', cp, cur, h', hb, by rw [ho.block g' (Array.getElem?_eq_some_iff.1 hgg).1 (hv g' (by rw [h']; rfl))]; exact hgg, hrest⟩
theorem AccU.keep (h : AccU B e w v l) (ho : Only [] w w') : AccU B e w' v l := h.only ho (by simp)
theorem AccU.form (h : AccU B e w v l) : ∃ a c, v = .slice a l.length c := by
  rcases h.2 with ⟨h1, h2⟩ | ⟨g', cp, cur, h', -⟩
  · exact ⟨none, 0, by rw [h1, h2]⟩
  · exact ⟨_, _, h'⟩
theorem AccU.lit (w : World) (B : Nat) (e : TypeId) (l : List Int) (cs : Array Value) (hc : cs = (l.map fun x => Value.int .u8 (x % 256)).toArray) {g : Nat} (hg : g = w.heap.size) (hB : B ≤ g) (hl : l.length ≤ maxLen) : AccU B e (w.alloc (.cells cs e)) (.slice (some ⟨g, 0, none⟩) l.length l.length) l := by
  subst hg; subst hc
  exact ⟨by simp, .inr ⟨_, _, _, rfl, hB, heap_alloc_new w _, Nat.le_refl _, hl, by simp, by rw [Nat.mul_one, List.take_of_length_le (by simp)]⟩⟩
theorem AccU.cell (h : AccU B e w v l) : ∃ a c, v = .slice a l.length c ∧ (∀ g, v.ownBlock = some g → a = some ⟨g, 0, none⟩) ∧ (v.ownBlock = none → l = []) ∧ ∀ ad, a = some ad → ∃ g, ad = ⟨g, 0, none⟩ ∧ ∀ i, i < l.length → w.cell? ⟨g, i, none⟩ = some (.int .u8 (l.getD i 0 % 256)) := by
  rcases h.2 with ⟨h1, h2⟩ | ⟨g', cp, cur, h', hb, hgg, hrest⟩
  · exact ⟨none, 0, by rw [h1, h2], by rw [h1]; simp [Value.ownBlock], fun _ => List.length_eq_zero_iff.1 h2, by simp⟩
  · refine ⟨_, _, h', by rw [h']; simp [Value.ownBlock], by rw [h']; simp [Value.ownBlock], fun ad hd => ?_⟩
    injection hd with hd
    refine ⟨g', hd.symm, fun i hi => ?_⟩
    have := World.ownsRow.cells h (g := g') (by rw [h']; rfl) i (.int .u8 (l.getD i 0 % 256)) (by
      rw [List.getElem?_map, List.getElem?_eq_getElem hi, List.getD_eq_getElem?_getD, List.getElem?_eq_getElem hi]; rfl)
    have hadd : (⟨g', 0, none⟩ : Addr).add i = ⟨g', i, none⟩ := by unfold Addr.add; split <;> simp_all
    rwa [hadd] at this
end
section
variable {P : Program} {ops : Array Oper} {rest : List Oper} {o : Oper} {a : Act} {w : World} {Q : Exit → Act → World → Prop}
/-- the bytes as a string -/
theorem AccU.str {B : Nat} {e : TypeId} {v : Value} {l : List Int} (h : AccU B e w v l) (src : TypeId) (hs : P.underlying src = some (.slice e)) (he : P.underlying e = some (.int .u8)) (dst : TypeId) (hd : P.underlying dst = some .string) :
    (convert src dst v).run P w = .ok (.string (kB l)) w := by
  obtain ⟨a, c, rfl, h1, h2, h3⟩ := h.cell
  cases a with
  | none =>
    have hl : l = [] := h2 rfl
    subst hl
    exact run_convert_bytes_nil (w := w) src e hs he _ _ dst hd
  | some ad =>
    obtain ⟨g, rfl, hc⟩ := h3 ad rfl
    exact run_convert_bytes_arg (P := P) w src e hs he g 0 l.length c (l.map fun x => x % 256) (by simp) (fun i hi => by
      rw [Nat.zero_add, hc i hi]
      simp [List.getD_eq_getElem?_getD, List.getElem?_map, List.getElem?_eq_getElem hi]) dst hd
theorem wpList_pushU (hgd : o.guard = none) (s x : Operand) (t : TypeId)
    (ho : o.op = .call { callee := .builtin .append, args := #[s, x], argTypes := #[t, t] })
    (B : Nat) (e : TypeId) (i : TypeInfo) (z : Value) (ht : P.underlying t = some (.slice e)) (hi : P.info? e = some i) (hz : i.zero = some z)
    (hsize : i.size = 1) (hby : i.bytes = 1) (hzs : z.cells.size = 1)
    (v : Value) (l : List Int) (hs : a.eval s = v) (hA : AccU B e w v l) (hB : B ≤ w.heap.size)
    (g c : Nat) (n : Int) (hx : a.eval x = .slice (some ⟨g, 0, none⟩) 1 c) (hsrc : w.cell? ⟨g, 0, none⟩ = some (.int .u8 (n % 256))) (hlen : l.length + 1 ≤ 1073741824)
    (h : ∀ v' w', AccU B e w' v' (l ++ [n]) → Only v.ownBlock.toList w w' → (∀ wz, Only [] wz w → wz.heap.size ≤ B → Only [] wz w') → (v'.ownBlock = v.ownBlock ∨ v'.ownBlock = some w.heap.size) → wpList P ops Q rest (a.put o.dst v') w') : wpList P ops Q (o :: rest) a w := by
  refine wpList_app w hgd s x t ho B e i z 1 1 ht hi hz hsize hby hzs (by decide) v l.length _ hs hA (some ⟨g, 0, none⟩) 1 c [.int .u8 (n % 256)] hx rfl ?_ (by simp) (by intro u hu; simp at hu; subst hu; rfl) (by unfold maxLen; omega) (by omega) hB fun v' w' h1 h2 h3 => ?_
  · intro ad hd j u hu
    injection hd with hd; subst hd
    cases j with
    | zero => simp at hu; subst hu; exact hsrc
    | succ j => simp at hu
  · refine h v' w' ?_ ?_ ?_ h3
    · unfold AccU
      rw [List.length_append, List.map_append]
      exact h1
    · exact ((Only.refl _ _).grown h2 (by intro k hk _; simp [hk]))
    · intro wz hz hzB
      exact hz.grown h2 (fun k hk hkl => by have := (hA.ownlt k hk).1; omega)
end
end Go.Proofs.YtkhdmiemfpelcaaGreat

namespace Go.Proofs.YtkhdmiemfpelcaaGreat
open Go.RowKit
set_option maxRecDepth 10000

/-- the numbers of a record without its checksum -/
def recL (k : Int) (ps : List (List Int)) : List Int := [k / 256, k % 256, (ps.length : Int)] ++ ps.flatten
def recB (k : Int) (ps : List (List Int)) : ByteArray := kB (recL k ps)
theorem flatten_len {m : Nat} : ∀ {ps : List (List Int)}, (∀ q ∈ ps, q.length ≤ m) → ps.flatten.length ≤ ps.length * m
  | [], _ => by simp
  | q :: ps, h => by
    have h1 := flatten_len (m := m) (ps := ps) fun x hx => h x (List.mem_cons_of_mem _ hx)
    have h2 := h q (by simp)
    simp only [List.flatten_cons, List.length_append, List.length_cons, Nat.add_mul]
    omega
theorem flatten_take_snoc (ps : List (List Int)) (j : Nat) (h : j < ps.length) : (ps.take (j + 1)).flatten = (ps.take j).flatten ++ ps[j] := by
  rw [take_succ_get ps j h, List.flatten_append]; simp

set_option maxHeartbeats 4000000 in
theorem l28Record_any (k : Int) (v : Value) (ps : List (List Int)) (fp : List Nat) (w : World) (h : Rd w v ps fp) (hk0 : 0 ≤ k) (hk1 : k ≤ 1000000) (hps : ps.length ≤ 10000) (hrow : ∀ q ∈ ps, q.length ≤ 100) :
    Calls Tryz.prog 52 #[.int .i64 k, v] w fun e w' => e = .returned (.string (recB k ps)) ∧ Only [] w w' := by
  obtain ⟨a, cap, ob, fps, rfl, -, hs⟩ := h.open_
  obtain ⟨i0, hi, hz0, hz1, hz2⟩ := info_parts Tryz.infoByte
  have e1 : Int.tdiv k 256 = k / 256 := Int.tdiv_eq_ediv_of_nonneg hk0
  have e2 : Int.tmod k 256 = k % 256 := tmod_pos hk0
  have A0 : AccU w.heap.size 5 (w.alloc (.cells #[.int .u8 (k / 256 % 256), .int .u8 (k % 256), .int .u8 ((ps.length : Int) % 256)] 5)) (.slice (some ⟨w.heap.size, 0, none⟩) 3 3) ([k / 256, k % 256, (ps.length : Int)] ++ (ps.take 0).flatten) :=
    AccU.lit w w.heap.size 5 [k / 256, k % 256, (ps.length : Int)] _ (by simp) rfl (Nat.le_refl _) (by unfold maxLen; simp)
  have HA0 := Lib.hid A0; clear A0
  have hfin : recB k ps = kB ([k / 256, k % 256, (ps.length : Int)] ++ (ps.take ps.length).flatten) := by rw [List.take_length]; rfl
  have Hfin := Lib.hid hfin; clear hfin
  have Hrow := Lib.hid hrow; clear hrow
  go_enter Tryz.func52, Tryz.ntmps52
  go_wp2
  go_loopw [5, 6] (fun o t wr => ∃ i : Nat, i ≤ ps.length ∧ t = .int .i64 i ∧ AccU w.heap.size 5 wr o ([k / 256, k % 256, (ps.length : Int)] ++ (ps.take i).flatten) ∧ Only [] w wr)
    (fun _ t _ => ps.length - (intOf t).toNat)
  case atStart => exact ⟨0, Nat.zero_le _, rfl, HA0.out, (Only.refl _ _).alloc _⟩
  case round =>
    obtain ⟨i, hi', rfl, hA, hK⟩ := hrel
    by_cases hlt : i < ps.length
    · obtain ⟨b, off, u, rfl, -, hc, hu⟩ := hs.atRow i hlt
      obtain ⟨a2, c2, rfl, I2⟩ := hu.ints
      have hc' := hK.cell (by simp) hc
      have hql : ps[i].length ≤ 100 := Hrow.out _ (List.getElem_mem hlt)
      have hfl : (ps.take i).flatten.length ≤ 1000000 := by
        have := flatten_len (m := 100) (ps := ps.take i) fun q hq => Hrow.out q (List.mem_of_mem_take hq)
        have h2 := List.length_take_le i ps
        omega
      have hst := flatten_take_snoc ps i hlt
      have Hst := Lib.hid hst; clear hst
      generalize hQ : ps[i] = q at *
      clear hu
      go_wp2
      go_loopw [5, 7] (fun o t wr' => ∃ j : Nat, j ≤ q.length ∧ t = .int .i64 j ∧ AccU w.heap.size 5 wr' o ([k / 256, k % 256, (ps.length : Int)] ++ (ps.take i).flatten ++ q.take j) ∧ Only [] w wr')
        (fun _ t _ => q.length - (intOf t).toNat)
      case atStart => exact ⟨0, Nat.zero_le _, rfl, by simpa using hA, hK⟩
      case round =>
        obtain ⟨j, hj, rfl, hA2, hK2⟩ := hrel
        by_cases hlj : j < q.length
        · obtain ⟨b3, off3, rfl, -, hc3⟩ := I2.at_ j hlj
          have hc4 := hK2.cell (by simp) hc3
          have hc5 := hK2.cell (by simp) hc
          have hsz := hK2.size
          have hlen : ([k / 256, k % 256, (ps.length : Int)] ++ (ps.take i).flatten ++ q.take j).length + 1 ≤ 1073741824 := by
            have h2 := List.length_take_le j q
            simp only [List.length_append, List.length_cons, List.length_nil]
            omega
          have hsn : [k / 256, k % 256, (ps.length : Int)] ++ (ps.take i).flatten ++ q.take (j + 1) = [k / 256, k % 256, (ps.length : Int)] ++ (ps.take i).flatten ++ q.take j ++ [q[j]] := by
            rw [take_succ_get q j hlj]; simp only [List.append_assoc]
          have Hsn := Lib.hid hsn; clear hsn
          go_wp2_with (at_builtin; refine wpList_pushU rfl _ _ 100 rfl w.heap.size 5 i0 _ Tryz.underlying100 hi hz0 hz1 hz2 rfl _ _ (by rfl) (hA2.keep ((Only.refl _ _).alloc (.cells #[.int .u8 (q[j] % 256)] 5))) (by simp; omega) wr.heap.size 1 q[j] rfl (lit1 wr _ _ rfl) hlen ?_; intro v3 w3 hA3 hO3 hP3 hN3)
          have hK3 := hP3 w (hK2.alloc _) (Nat.le_refl _)
          go_roundw
          case rel => exact ⟨j + 1, by omega, by go_num, by rw [Hsn.out]; exact hA3, hK3⟩
          case measure => simp [intOf]; omega
        · have hc5 := hK2.cell (by simp) hc
          have hjl : j = q.length := by omega
          rw [hjl, List.take_length, List.append_assoc, ← Hst.out] at hA2
          clear hjl
          go_wp2
          go_roundw
          case rel => exact ⟨i + 1, by omega, by go_num, hA2, hK2⟩
          case measure => simp [intOf]; omega
    · have hil : i = ps.length := by omega
      rw [hil] at hA
      have hcv := hA.str 100 Tryz.underlying100 Tryz.underlying5 9 Tryz.underlying9
      rw [← Hfin.out] at hcv
      clear hil
      go_wp2
      go_ret
      exact ⟨rfl, hK⟩
end Go.Proofs.YtkhdmiemfpelcaaGreat

namespace Go.Proofs.YtkhdmiemfpelcaaGreat
open Go.RowKit
set_option maxRecDepth 10000

theorem searchAdd_nil (B m : Nat) (v : Value) (s : List Int) (f : List Nat) (d : Int) (w : World) (hv : Rd w v s f) (hs : s.length = m) (hB : B ≤ w.heap.size) (hF : Fresh B w f) :
    Calls Tryz.prog 96 #[.agg #[.slice none 0 0, .slice none 0 0, .slice none 0 0, .bool false], v, .int .i64 d] w fun e w' => ∃ A1' A2' A3' C1' C2' C3' so', e = .returned (.agg #[.slice A1' 1 C1', .slice A2' 1 C2', .slice A3' 1 C3', .bool false]) ∧
      SrO B w' (.slice A1' 1 C1') (.slice A2' 1 C2') (.slice A3' 1 C3') [s] [d] (soI so') [f] [] ∧ Srt m [s] so' ∧ so'.length = 1 ∧ Only [] w w' := by
  have h0 : SrO B w (.slice none ([] : List (List Int)).length 0) (.slice none ([] : List Int).length 0) (.slice none ([] : List Nat).length 0) [] [] (soI []) [] f :=
    ⟨Acc.nil _ _ _, ⟨by simp, .inl ⟨rfl, rfl⟩⟩, ⟨by simp [soI], .inl ⟨rfl, rfl⟩⟩, by simpa [Value.ownBlock] using hF⟩
  refine (searchAdd_any B none none none 0 0 0 false [] [] [] [] m v s f d w h0 (Srt.nil m) hv hs (by simp) (by simp) rfl (by simp) hB).mono ?_
  rintro e w' ⟨A1', A2', A3', C1', C2', C3', so', rfl, h1, h2, h3, h4, -⟩
  exact ⟨A1', A2', A3', C1', C2', C3', so', rfl, h1, h2, h3, by simpa [Value.ownBlock] using h4⟩
set_option maxHeartbeats 8000000 in
theorem searchFrom_srt (cs : List Value) (x : Puzzle) (fp : List Nat) (v : Value) (tr : List Int) (ft : List Nat) (w : World) (h : Rp.rep w cs x fp) (hv : Rd w v tr ft) (hx : validPz x = true) (hp : patB x.points tr.length tr = true) (htl : tr.length ≤ 1000) :
    Calls Tryz.prog 84 #[.agg cs.toArray, v] w fun e w' => ∃ A1 A2 A3 C1 C2 C3 n3 wh L D fL fD, e = .returned (.agg #[.slice A1 (List.length L) C1, .slice A2 (List.length D) C2, .slice A3 n3 C3, .bool wh]) ∧
      Rd w' (.slice A1 L.length C1) L fL ∧ Rd w' (.slice A2 D.length C2) D fD ∧ (bFrom x 3001 0 ([tr], [0]) = if wh = true then some (L, D) else none) ∧ Only [] w w' ∧ (∀ g ∈ fL ++ fD, w.heap.size ≤ g) ∧ L.length ≤ 3000 ∧ D.length ≤ 3000 ∧ (∀ q ∈ L, q.length ≤ 1000) ∧ ∃ so ob fps fd fz, n3 = List.length so ∧ SrR w' A1 A2 A3 C1 C2 C3 L D so ob fps fd fz ∧ Srt tr.length L so ∧ ∀ g ∈ (ob ++ fps.flatten) ++ (fd ++ fz), w.heap.size ≤ g := by
  have h0 := h
  obtain ⟨v2, rfl, p0, p1, h2⟩ := h
  obtain ⟨A2, C2, _, _, rfl, -, -⟩ := h2.open_
  obtain ⟨a, cap, rfl, Iv⟩ := hv.ints
  have hxm := (validPz_facts hx).2.2.1
  clear Iv h2 p0 p1
  have Hp := Lib.hid hp
  have Hx := Lib.hid hx
  clear hp hx
  have X0 : Blk ((w.alloc (.cells #[.int .i64 x.points, .string x.names, .slice A2 x.moves.length C2] 37)).alloc (.cells #[.slice none 0 0, .slice none 0 0, .slice none 0 0, .bool false] 92)) w.heap.size [.int .i64 x.points, .string x.names, .slice A2 x.moves.length C2] := (Blk.new w [.int .i64 x.points, .string x.names, .slice A2 x.moves.length C2] 37).keep ((Only.refl _ _).alloc _)
  have Y0 : Blk ((w.alloc (.cells #[.int .i64 x.points, .string x.names, .slice A2 x.moves.length C2] 37)).alloc (.cells #[.slice none 0 0, .slice none 0 0, .slice none 0 0, .bool false] 92)) (w.heap.size + 1) [.slice none 0 0, .slice none 0 0, .slice none 0 0, .bool false] := Blk.new_at (by simp)
  go_enter Tryz.func84, Tryz.ntmps84
  go_wp2_with (first
    | (go_at_call 36; (with_reducible refine (copyInts_rd _ tr _ _ (Rp.keep hv (by with_reducible repeat (first | exact Only.refl _ _ | assumption | refine Only.drewN ?_ _ | refine Only.drew ?_ | refine Only.alloc ?_ _ | refine Only.setCell ?_ (by intro hh; exfalso; simp at hh; try omega) _ | refine Only.trans ?_ (by assumption)))) (by omega)).mono ?_); rintro e w1 ⟨v1, f1, rfl, r1, F1, t1⟩; obtain ⟨a1, c1, rfl, I1⟩ := r1.ints; clear I1; have F1' : Fresh (w.heap.size + 2) w1 f1 := F1.mono (by simp); have z1 : w.heap.size + 2 ≤ w1.heap.size := (by have := t1.size; simp at this; omega))
    | (go_at_call 96; (with_reducible refine (searchAdd_nil (w.heap.size + 2) tr.length _ tr f1 0 _ (Rp.keep r1 (by with_reducible repeat (first | exact Only.refl _ _ | assumption | refine Only.drewN ?_ _ | refine Only.drew ?_ | refine Only.alloc ?_ _ | refine Only.setCell ?_ (by intro hh; exfalso; simp at hh; try omega) _ | refine Only.trans ?_ (by assumption)))) rfl z1 F1').mono ?_); rintro e w2 ⟨B1, B2, B3, D1, D2, D3, so1, rfl, S2, T2, l2, t2⟩; have XB := (((X0.keep t1).keep t2).keep ((Only.refl [] w2).alloc (.cells #[.slice B1 1 D1, .slice B2 1 D2, .slice B3 1 D3, .bool false] 92))); have y0 := XB.cell 0 rfl; have y1 := XB.cell 1 rfl; have y2 := XB.cell 2 rfl)
    | (go_at_call 70; (with_reducible refine (lettersOf_any [.int .i64 x.points, .string x.names, .slice A2 x.moves.length C2] x _ _ (Rp.keep h0 (by with_reducible repeat (first | exact Only.refl _ _ | assumption | refine Only.drewN ?_ _ | refine Only.drew ?_ | refine Only.alloc ?_ _ | refine Only.setCell ?_ (by intro hh; exfalso; simp at hh; try omega) _ | refine Only.trans ?_ (by assumption)))) (by omega)).mono ?_); rintro e w3 ⟨v3, f3, rfl, r3, F3, t3⟩; obtain ⟨a3, c3, rfl, I3⟩ := r3.ints)
    | fail "no arm")
  have K3 : Only [] w w3 := (by with_reducible repeat (first | exact Only.refl _ _ | assumption | refine Only.drewN ?_ _ | refine Only.drew ?_ | refine Only.alloc ?_ _ | refine Only.setCell ?_ (by intro hh; exfalso; simp at hh; try omega) _ | refine Only.trans ?_ (by assumption)))
  have z2 := t2.size
  have z3 : w2.heap.size + 1 ≤ w3.heap.size := by have := t3.size; simp at this; omega
  have X3 := XB.keep t3
  have Y3 := (((Y0.keep t1).keep t2).keep ((Only.refl [] w2).alloc (.cells #[.slice B1 1 D1, .slice B2 1 D2, .slice B3 1 D3, .bool false] 92))).keep t3
  have hS : SFi x tr.length w w3 w2.heap.size [tr] [0] w3 B1 B2 B3 D1 D2 D3 so1 [f1] := by
    refine ⟨?_, ?_, T2, rfl, by simp, by simpa using Hp.out, by simp, fun g hg => .inl ?_, fun g hg => .inl ?_, fun _ _ => rfl, K3, Nat.le_refl _, by omega, by omega⟩
    · have := ((Blk.new w2 [.slice B1 1 D1, .slice B2 1 D2, .slice B3 1 D3, .bool false] 92).keep t3)
      simpa [l2] using this
    · have := (S2.keep ((Only.refl [] w2).alloc (.cells #[.slice B1 1 D1, .slice B2 1 D2, .slice B3 1 D3, .bool false] 92))).keep t3
      simpa [l2] using this
    · refine S2.fr.lt g ?_
      simp only [List.mem_append] at hg ⊢
      rw [l2] at hg
      rcases hg with hg | hg | hg
      · exact .inl hg
      · exact .inr (.inr (.inl hg))
      · exact .inr (.inr (.inr hg))
    · refine S2.fr.lt g ?_
      simp only [List.mem_append]
      exact .inr (.inl (.inl hg))
  have hf3 : ∀ g ∈ f3, w2.heap.size < g ∧ g < w3.heap.size := fun g hg => ⟨by have := F3.ge g hg; simp at this; omega, F3.lt g hg⟩
  clear F3
  clear S2 T2 l2 XB y0 y1 y2 X0 Y0 r1 F1 F1' t1 t2 t3 z1 z2 z3
  obtain ⟨b5, hb5⟩ : ∃ b5, b5 = w2.heap.size := ⟨_, rfl⟩
  rw [← hb5] at hS hf3 ⊢
  clear hb5
  obtain ⟨R, hR⟩ : ∃ R, R = bFrom x 3001 0 ([tr], [0]) := ⟨_, rfl⟩
  have HR := Lib.hid hR
  have hll : (ltrs x.moves.length).length ≤ 1000 := by rw [ltrs_len]; omega
  obtain ⟨ls, hls⟩ : ∃ ls, ls = ltrs x.moves.length := ⟨_, rfl⟩
  rw [← hls] at r3 I3 hll
  rw [← hls]
  have Hls := Lib.hid hls
  clear hR hls
  go_loopw [7] (fun s7 wr => ∃ (k : Nat) (L : List (List Int)) (D : List Int), s7 = .int .i64 k ∧ k ≤ L.length ∧ (∃ A1 A2 A3 C1 C2 C3 so fs, SFi x tr.length w w3 b5 L D wr A1 A2 A3 C1 C2 C3 so fs) ∧ R = bFrom x (3001 - k) k (L, D))
    (fun s7 _ => 3001 - (intOf s7).toNat)
  case atStart => exact ⟨0, [tr], [0], rfl, by simp, ⟨_, _, _, _, _, _, _, _, hS⟩, HR.out⟩
  case round =>
    obtain ⟨W2, hnew⟩ : ∃ W, W = wr := ⟨_, rfl⟩
    subst hnew
    obtain ⟨k, L, D, rfl, hk, ⟨A1, A2', A3, C1, C2', C3, so, fs, hF⟩, hRk⟩ := hrel
    have HRk := Lib.hid hRk
    have hL3 := hF.ll
    have y0 := hF.blk.cell 0 rfl
    clear hRk
    by_cases hlt : k < L.length
    · have hst := HRk.out.trans (bFrom_step hlt hL3)
      rw [← Hls.out] at hst
      have Hst := Lib.hid hst
      clear hst
      obtain ⟨q, hq⟩ : ∃ q, q = L.getD k [] := ⟨_, rfl⟩
      obtain ⟨d1, hd1⟩ : ∃ d, d = D.getD k 0 + 1 := ⟨_, rfl⟩
      rw [← hq, ← hd1] at Hst
      have Hq := Lib.hid hq.symm
      have Hd := Lib.hid hd1.symm
      clear hq hd1
      go_wp2
      go_loopw [8] (fun s8 wr => ∃ (i : Nat) (L : List (List Int)) (D : List Int), s8 = .int .i64 i ∧ i ≤ ls.length ∧ (∃ A1 A2 A3 C1 C2 C3 so fs, SFi x tr.length w w3 b5 L D wr A1 A2 A3 C1 C2 C3 so fs) ∧ k < L.length ∧ L.getD k [] = q ∧ D.getD k 0 + 1 = d1 ∧ R = (bLets x q d1 (ls.drop i) (L, D)).bind (bFrom x (3001 - (k + 1)) (k + 1)))
        (fun s8 _ => ls.length - (intOf s8).toNat)
      case atStart => exact ⟨0, L, D, rfl, Nat.zero_le _, ⟨_, _, _, _, _, _, _, _, hF⟩, hlt, Hq.out, Hd.out, by rw [List.drop_zero]; exact Hst.out⟩
      case round =>
        clear y0 hL3 hF HRk Hst Hq Hd hlt hk
        obtain ⟨W3, hnew⟩ : ∃ W, W = wr := ⟨_, rfl⟩
        subst hnew
        obtain ⟨i, L, D, rfl, hi, ⟨A1, A2', A3, C1, C2', C3, so, fs, hF⟩, hlt, hq, hd, hRi⟩ := hrel
        have Hq := Lib.hid hq
        have Hd := Lib.hid hd
        have HRi := Lib.hid hRi
        have hL3 := hF.ll
        have hDl := hF.dl
        have HDl := Lib.hid hDl
        clear hq hd hRi hDl
        have hXx := hF.oldBlk X3 (by omega)
        have x0 := hXx.cell 0 rfl
        have x1 := hXx.cell 1 rfl
        have x2 := hXx.cell 2 rfl
        have y0 := hF.blk.cell 0 rfl
        have K := hF.on
        have IL := I3.frame (fun g hg => hF.keep g (.inr (hf3 g hg)))
        by_cases hil : i < ls.length
        · obtain ⟨b3, off3, rfl, -, hc3⟩ := IL.at_ i hil
          have hla : ls[i] ∈ ltrs x.moves.length := by rw [← Hls.out]; exact List.getElem_mem hil
          have hacc := (hF.sro.acc.rd (by decide)).open_
          obtain ⟨a1', c1', ob, fps, hv1, -, hS1⟩ := hacc
          injection hv1 with e1 _ e2
          subst e1
          subst e2
          obtain ⟨b1, off1, u, rfl, -, hc1, hu⟩ := hS1.atRow k hlt
          have hqk : L[k] = q := by have := Hq.out; rw [List.getD_eq_getElem?_getD, List.getElem?_eq_getElem hlt] at this; exact this
          have hpat := hF.pat L[k] (List.getElem_mem hlt)
          rw [hqk] at hu hpat
          have Hpat := Lib.hid hpat
          have Hla := Lib.hid hla
          have hql : q.length ≤ 1000 := by rw [(patB_iff.1 hpat).1]; exact htl
          have Hrng := Lib.hid (patB_iff.1 hpat).2.1
          clear hqk hpat hla
          have Hc := Lib.hid (fun (W : World) (hh : Only [] W3 W) => applyLetter_any [.int .i64 x.points, .string x.names, .slice A2 x.moves.length C2] x _ _ q _ ls[i] W (Rp.keep h0 (K.trans hh)) (Rp.keep hu hh) Hx.out Hla.out Hrng.out hql)
          go_wp2
          go_region_held3 (fun w' => Only [] W3 w' ∧ w'.cell? ⟨w.heap.size, 0, none⟩ = some (.int .i64 x.points) ∧ w'.cell? ⟨w.heap.size, 1, none⟩ = some (.string x.names) ∧ w'.cell? ⟨w.heap.size, 2, none⟩ = some (.slice A2 x.moves.length C2) ∧ w'.cell? ⟨b5, 0, none⟩ = some (.slice (some ⟨b1, off1, none⟩) L.length C1) ∧ w'.cell? ⟨b1, off1 + k, none⟩ = some (u) ∧ w'.cell? ⟨b3, off3 + i, none⟩ = some (.int .i64 ls[i])) (((refine and_of ?_ (fun h__ => ⟨h__.cell (by simp) x0, h__.cell (by simp) x1, h__.cell (by simp) x2, h__.cell (by simp) y0, h__.cell (by simp) hc1, h__.cell (by simp) hc3⟩)); first | exact (Only.refl _ _).drew | exact ((Only.refl _ _).drewN _).drew | exact Only.trans (And.left (by assumption)) (by assumption) | exact Only.alloc (And.left (by assumption)) _ | assumption)) (first | (go_at_call 89; (with_reducible refine (Hc.out _ (And.left (by assumption))).mono ?_); rintro e w4 ⟨u4, f4, rfl, r4, F4, t4⟩; have F4' := F4.mono (((Only.refl [] W3).trans (And.left (by assumption))).size)) | fail "no arm")
          have k4 : Only [] W3 w4 := (Only.refl [] W3).trans (And.left (by assumption))
          obtain ⟨s, hs⟩ : ∃ s, s = nxt x q ls[i] := ⟨_, rfl⟩
          rw [← hs] at r4
          have hps : patB x.points tr.length s = true := by rw [hs]; exact nxt_pat Hx.out Hpat.out Hla.out
          have hsl : s.length = tr.length := (patB_iff.1 hps).1
          have hdr : ls.drop i = ls[i] :: ls.drop (i + 1) := List.drop_eq_getElem_cons hil
          have HRi2 := Lib.hid hdr
          have Hs := Lib.hid hs
          have Hps := Lib.hid hps
          have Hsl := Lib.hid hsl
          have hF4 := hF.only k4
          obtain ⟨ob4, fps4, fd4, fz4, hR4⟩ := hF4.sro.srR (fun z hz => by have := hF4.dep z hz; have := HDl.out; unfold I64; omega) (fun j hj => by have := hF4.srt.in_ j hj; omega)
          have q0 := hF4.blk.cell 0 rfl
          have q1 := hF4.blk.cell 1 rfl
          have q2 := hF4.blk.cell 2 rfl
          have q3 := hF4.blk.cell 3 rfl
          have hS4 := Lib.hid hF4.srt
          clear hs hps hsl hdr x0 x1 x2 y0 hc1 hc3 hu hS1 Hc
          by_cases hmem : s ∈ L
          · have Hmem := Lib.hid hmem
            clear hmem
            go_wp2_with (first
              | (go_at_call 97; (with_reducible refine (searchIndex_any (some ⟨b1, off1, none⟩) A2' A3 C1 C2' C3 false L D so ob4 fps4 fd4 fz4 tr.length _ s f4 _ (hR4.keep (by with_reducible repeat (first | exact Only.refl _ _ | assumption | refine Only.drewN ?_ _ | refine Only.drew ?_ | refine Only.alloc ?_ _ | refine Only.setCell ?_ (by intro hh; exfalso; simp at hh; try omega) _ | refine Only.trans ?_ (by assumption)))) hS4.out (Rp.keep r4 (by with_reducible repeat (first | exact Only.refl _ _ | assumption | refine Only.drewN ?_ _ | refine Only.drew ?_ | refine Only.alloc ?_ _ | refine Only.setCell ?_ (by intro hh; exfalso; simp at hh; try omega) _ | refine Only.trans ?_ (by assumption)))) Hsl.out hL3).mono ?_); rintro e w5 ⟨r, rfl, hr, t5⟩; have hr2 := hr.2 Hmem.out; clear hr)
              | fail "no arm")
            go_roundw
            case rel => exact ⟨i + 1, L, D, by go_num, by omega, ⟨_, _, _, _, _, _, _, _, hF4.only t5⟩, hlt, Hq.out, Hd.out, by rw [HRi.out, HRi2.out, bLets_old (by rw [← Hs.out]; exact Hmem.out)]⟩
            case measure => simp [intOf]; omega
          · have Hmem := Lib.hid hmem
            clear hmem
            by_cases hfull : L.length = 3000
            · have Hfull := Lib.hid hfull
              have hfb : ((L.length : Int) == 3000) = true := by simp [hfull]
              clear hfull
              go_wp2_with (first
                | (go_at_call 97; (with_reducible refine (searchIndex_any (some ⟨b1, off1, none⟩) A2' A3 C1 C2' C3 false L D so ob4 fps4 fd4 fz4 tr.length _ s f4 _ (hR4.keep (by with_reducible repeat (first | exact Only.refl _ _ | assumption | refine Only.drewN ?_ _ | refine Only.drew ?_ | refine Only.alloc ?_ _ | refine Only.setCell ?_ (by intro hh; exfalso; simp at hh; try omega) _ | refine Only.trans ?_ (by assumption)))) hS4.out (Rp.keep r4 (by with_reducible repeat (first | exact Only.refl _ _ | assumption | refine Only.drewN ?_ _ | refine Only.drew ?_ | refine Only.alloc ?_ _ | refine Only.setCell ?_ (by intro hh; exfalso; simp at hh; try omega) _ | refine Only.trans ?_ (by assumption)))) Hsl.out hL3).mono ?_); rintro e w5 ⟨r, rfl, hr, t5⟩; have hr2 : ¬ 0 ≤ r := (fun hh => Hmem.out (hr.1 hh)); clear hr; have hF5 := hF4.only t5; clear q0 q1 q2 q3; have q0 := hF5.blk.cell 0 rfl; have q1 := hF5.blk.cell 1 rfl; have q2 := hF5.blk.cell 2 rfl; have q3 := hF5.blk.cell 3 rfl; have hY5 := hF5.oldBlk Y3 (by omega); have g0 := hY5.cell 0 rfl; have g1 := hY5.cell 1 rfl; have g2 := hY5.cell 2 rfl; have g3 := hY5.cell 3 rfl; have p0 := hY5.frozen 0; have p1 := hY5.frozen 1; have p2 := hY5.frozen 2; have p3 := hY5.frozen 3)
                | fail "no arm")
              have Yf := ((((hY5).set 0 (.slice (some ⟨b1, off1, none⟩) L.length C1)).set 1 (.slice A2' D.length C2')).set 2 (.slice A3 so.length C3)).set 3 (.bool false)
              have kf : Only [w.heap.size + 1] w5 ((((w5.setCell ⟨w.heap.size + 1, 0, none⟩ (.slice (some ⟨b1, off1, none⟩) L.length C1)).setCell ⟨w.heap.size + 1, 1, none⟩ (.slice A2' D.length C2')).setCell ⟨w.heap.size + 1, 2, none⟩ (.slice A3 so.length C3)).setCell ⟨w.heap.size + 1, 3, none⟩ (.bool false)) := ((((Only.refl _ _).setCell (by simp) _).setCell (by simp) _).setCell (by simp) _).setCell (by simp) _
              have o9 := hF5.srt
              obtain ⟨fL, fD, o1, o2, o3, o4, o5, o6⟩ := hF5.out kf (by simp) htl
              obtain ⟨ob9, fps9, fd9, fz9, o8, o10⟩ := hF5.out2 kf (by simp)
              obtain ⟨wf, hwf⟩ : ∃ wf, wf = ((((w5.setCell ⟨w.heap.size + 1, 0, none⟩ (.slice (some ⟨b1, off1, none⟩) L.length C1)).setCell ⟨w.heap.size + 1, 1, none⟩ (.slice A2' D.length C2')).setCell ⟨w.heap.size + 1, 2, none⟩ (.slice A3 so.length C3)).setCell ⟨w.heap.size + 1, 3, none⟩ (.bool false)) := ⟨_, rfl⟩
              rw [← hwf] at Yf o1 o2 o3 o8 ⊢
              simp only [List.set] at Yf
              clear hwf kf q0 q1 q2 q3 g0 g1 g2 g3 p0 p1 p2 p3
              have r0 := Yf.cell 0 rfl
              have r1 := Yf.cell 1 rfl
              have r2 := Yf.cell 2 rfl
              have r3 := Yf.cell 3 rfl
              refine bodyPost_ret (v := .agg #[.slice (some ⟨b1, off1, none⟩) L.length C1, .slice A2' D.length C2', .slice A3 so.length C3, .bool false]) (by simp [results, Tryz.results84, go_sem, r0, r1, r2, r3]) rfl ⟨_, _, _, _, _, _, _, false, L, D, fL, fD, rfl, o1, o2, ?_, o3, o4, o5, o6.1, o6.2, so, ob9, fps9, fd9, fz9, rfl, o8, o9, o10⟩
              rw [← HR.out, HRi.out, HRi2.out, bLets_full (by rw [← Hs.out]; exact Hmem.out) Hfull.out]
              rfl
            · have hfb : ((L.length : Int) == 3000) = false := by simp; omega
              have hL4 : L.length < 3000 := by omega
              clear hfull
              obtain ⟨b2, off2, rfl, -, hcd⟩ := hR4.dp.at_ k (by have := HDl.out; omega)
              have hdk := hF4.dep (D[k]'(by have := HDl.out; omega)) (List.getElem_mem _)
              obtain ⟨dk, hdk0⟩ : ∃ dk, dk = D[k]'(by have := HDl.out; omega) := ⟨_, rfl⟩
              rw [← hdk0] at hcd hdk
              have hdd : dk + 1 = d1 := by
                have := Hd.out
                rw [List.getD_eq_getElem?_getD, List.getElem?_eq_getElem (show k < D.length by have := HDl.out; omega)] at this
                rw [hdk0]; exact this
              have Hdd := Lib.hid hdd
              have hdk1 : 0 ≤ dk := hdk.1
              have hdk2 : dk ≤ 3000 := by have := hdk.2; have := HDl.out; omega
              have hdk3 := hdk.2
              have Hdk3 := Lib.hid hdk3
              have hkD : k < D.length := by have := HDl.out; omega
              have hw1 : IntKind.i64.wrap (dk + 1) = dk + 1 := by rw [IntKind.wrap_i64]; omega
              clear hdk hdk0 hdd hdk3
              go_wp2_with (first
                | (go_at_call 97; (with_reducible refine (searchIndex_any (some ⟨b1, off1, none⟩) (some ⟨b2, off2, none⟩) A3 C1 C2' C3 false L D so ob4 fps4 fd4 fz4 tr.length _ s f4 _ (hR4.keep (by with_reducible repeat (first | exact Only.refl _ _ | assumption | refine Only.drewN ?_ _ | refine Only.drew ?_ | refine Only.alloc ?_ _ | refine Only.setCell ?_ (by intro hh; exfalso; simp at hh; try omega) _ | refine Only.trans ?_ (by assumption)))) hS4.out (Rp.keep r4 (by with_reducible repeat (first | exact Only.refl _ _ | assumption | refine Only.drewN ?_ _ | refine Only.drew ?_ | refine Only.alloc ?_ _ | refine Only.setCell ?_ (by intro hh; exfalso; simp at hh; try omega) _ | refine Only.trans ?_ (by assumption)))) Hsl.out hL3).mono ?_); rintro e w5 ⟨r, rfl, hr, t5⟩; have hr2 : ¬ 0 ≤ r := (fun hh => Hmem.out (hr.1 hh)); clear hr; have hF5 := hF4.only t5; clear q0 q1 q2 q3; have q0 := hF5.blk.cell 0 rfl; have q1 := hF5.blk.cell 1 rfl; have q2 := hF5.blk.cell 2 rfl; have q3 := hF5.blk.cell 3 rfl; have hcd5 := t5.cell (by simp) hcd)
                | fail "no arm")
              have hb5s := hF5.sz
              have hBW : w.heap.size + 2 ≤ W3.heap.size := by have := hF.sz; have := hF.bW; have := hF.wb; omega
              have hDI : ∀ z ∈ D, I64 z := fun z hz => by have := hF5.dep z hz; have := HDl.out; unfold I64; omega
              have Hc6 := Lib.hid (fun (W : World) (hh : Only [] w5 W) => searchAdd_any (w.heap.size + 2) (some ⟨b1, off1, none⟩) (some ⟨b2, off2, none⟩) A3 C1 C2' C3 false L D so fs tr.length u4 s f4 (dk + 1) W (hF.sro.pend ((k4.trans t5).trans hh) hBW (F4'.keep (t5.trans hh))) hS4.out (Rp.keep r4 (t5.trans hh)) Hsl.out Hmem.out hL4 HDl.out hDI (Nat.le_trans hBW ((k4.trans t5).trans hh).size))
              clear hDI
              go_region_law (first
                | (go_simp; go_at_call 96; (with_reducible refine (Hc6.out _ (by with_reducible repeat (first | exact Only.refl _ _ | assumption | refine Only.drewN ?_ _ | refine Only.drew ?_ | refine Only.alloc ?_ _ | refine Only.setCell ?_ (by intro hh; exfalso; simp at hh; try omega) _ | refine Only.trans ?_ (by assumption)))).mono ?_); rintro e w6 ⟨A1n, A2n, A3n, C1n, C2n, C3n, son, rfl, S6, T6, l6, t6, v6⟩; have B6 := (hF5.only (by with_reducible repeat (first | exact Only.refl _ _ | assumption | refine Only.drewN ?_ _ | refine Only.drew ?_ | refine Only.alloc ?_ _ | refine Only.setCell ?_ (by intro hh; exfalso; simp at hh; try omega) _ | refine Only.trans ?_ (by assumption)))).blk.only t6 (fun hm => by have := hF5.ap b5 hm; have := hF5.bW; omega); have g0 := B6.cell 0 rfl; have g1 := B6.cell 1 rfl; have g2 := B6.cell 2 rfl; have g3 := B6.cell 3 rfl; have p0 := B6.frozen 0; have p1 := B6.frozen 1; have p2 := B6.frozen 2; have p3 := B6.frozen 3; rw [Hdd.out] at S6)
                | fail "no arm")
              all_goals go_wp2_with fail
              all_goals go_roundw
              all_goals first
                | (simp [intOf]; omega)
                | exact ⟨i + 1, L ++ [s], D ++ [d1], by go_num, by omega, ⟨_, _, _, _, _, _, _, _, SFi.step (hF5.only (by with_reducible repeat (first | exact Only.refl _ _ | assumption | refine Only.drewN ?_ _ | refine Only.drew ?_ | refine Only.alloc ?_ _ | refine Only.setCell ?_ (by intro hh; exfalso; simp at hh; try omega) _ | refine Only.trans ?_ (by assumption)))) (fun g hg => by have := F4'.ge g hg; have := hF.sz; omega) hL4 Hps.out (by have := Hdd.out; have := Hdk3.out; omega) S6 T6 l6 t6 v6 (fpw := [b5]) (by with_reducible repeat (first | exact Only.refl _ _ | refine Only.drew ?_ | refine Only.setCell ?_ (by simp) _)) (by simp) ((((B6.set 0 _).set 1 _).set 2 _).set 3 _)⟩, by simp; omega, by rw [getD_snoc hlt]; exact Hq.out, by rw [getD_snoc hkD]; exact Hd.out, by rw [HRi.out, HRi2.out, bLets_new (by rw [← Hs.out]; exact Hmem.out) (by omega), ← Hs.out]⟩
        · obtain rfl : i = ls.length := by omega
          go_wp2
          exact ⟨⟨k + 1, L, D, by go_num, by omega, ⟨_, _, _, _, _, _, _, _, hF⟩, by rw [HRi.out, List.drop_length]; rfl⟩, by simp [intOf]; omega⟩
    · obtain rfl : k = L.length := by omega
      have hY5 := hF.oldBlk Y3 (by omega)
      have hb5 := hF.wb
      have q3 := hF.blk.cell 3 rfl
      have z3 := hF.blk.frozen 3
      have hB6 := hF.blk.set 3 (.bool true)
      have hY6 := hY5.only ((Only.refl [b5] W2).setCell (p := ⟨b5, 3, none⟩) (by simp) (.bool true)) (by simp; omega)
      have q0 := hB6.cell 0 rfl
      have q1 := hB6.cell 1 rfl
      have q2 := hB6.cell 2 rfl
      have q4 := hB6.cell 3 rfl
      have g0 := hY6.cell 0 rfl
      have g1 := hY6.cell 1 rfl
      have g2 := hY6.cell 2 rfl
      have g3 := hY6.cell 3 rfl
      have p0 := hY6.frozen 0
      have p1 := hY6.frozen 1
      have p2 := hY6.frozen 2
      have p3 := hY6.frozen 3
      go_wp2
      have Yf := ((((hY6).set 0 (.slice A1 L.length C1)).set 1 (.slice A2' D.length C2')).set 2 (.slice A3 so.length C3)).set 3 (.bool true)
      have kf : Only [b5, w.heap.size + 1] W2 (((((W2.setCell ⟨b5, 3, none⟩ (.bool true)).setCell ⟨w.heap.size + 1, 0, none⟩ (.slice A1 L.length C1)).setCell ⟨w.heap.size + 1, 1, none⟩ (.slice A2' D.length C2')).setCell ⟨w.heap.size + 1, 2, none⟩ (.slice A3 so.length C3)).setCell ⟨w.heap.size + 1, 3, none⟩ (.bool true)) := ((((((Only.refl [b5, w.heap.size + 1] W2).setCell (by simp) _)).setCell (by simp) _).setCell (by simp) _).setCell (by simp) _).setCell (by simp) _
      have o9 := hF.srt
      obtain ⟨fL, fD, o1, o2, o3, o4, o5, o6⟩ := hF.out kf (by simp) htl
      obtain ⟨ob9, fps9, fd9, fz9, o8, o10⟩ := hF.out2 kf (by simp)
      obtain ⟨wf, hwf⟩ : ∃ wf, wf = (((((W2.setCell ⟨b5, 3, none⟩ (.bool true)).setCell ⟨w.heap.size + 1, 0, none⟩ (.slice A1 L.length C1)).setCell ⟨w.heap.size + 1, 1, none⟩ (.slice A2' D.length C2')).setCell ⟨w.heap.size + 1, 2, none⟩ (.slice A3 so.length C3)).setCell ⟨w.heap.size + 1, 3, none⟩ (.bool true)) := ⟨_, rfl⟩
      rw [← hwf] at Yf o1 o2 o3 o8 ⊢
      simp only [List.set] at Yf
      clear hwf kf hB6 hY6 q4 z3 q0 q1 q2 q3 g0 g1 g2 g3 p0 p1 p2 p3
      have r0 := Yf.cell 0 rfl
      have r1 := Yf.cell 1 rfl
      have r2 := Yf.cell 2 rfl
      have r3 := Yf.cell 3 rfl
      refine bodyPost_ret (v := .agg #[.slice A1 L.length C1, .slice A2' D.length C2', .slice A3 so.length C3, .bool true]) (by simp [results, Tryz.results84, go_sem, r0, r1, r2, r3]) rfl ⟨_, _, _, _, _, _, _, true, L, D, fL, fD, rfl, o1, o2, ?_, o3, o4, o5, o6.1, o6.2, so, ob9, fps9, fd9, fz9, rfl, o8, o9, o10⟩
      rw [← HR.out, HRk.out, bFrom_end hlt hL3]
      rfl
theorem searchFrom_any (cs : List Value) (x : Puzzle) (fp : List Nat) (v : Value) (tr : List Int) (ft : List Nat) (w : World) (h : Rp.rep w cs x fp) (hv : Rd w v tr ft) (hx : validPz x = true) (hp : patB x.points tr.length tr = true) (htl : tr.length ≤ 1000) :
    Calls Tryz.prog 84 #[.agg cs.toArray, v] w fun e w' => ∃ A1 A2 A3 C1 C2 C3 n3 wh L D fL fD, e = .returned (.agg #[.slice A1 (List.length L) C1, .slice A2 (List.length D) C2, .slice A3 n3 C3, .bool wh]) ∧
      Rd w' (.slice A1 L.length C1) L fL ∧ Rd w' (.slice A2 D.length C2) D fD ∧ (bFrom x 3001 0 ([tr], [0]) = if wh = true then some (L, D) else none) ∧ Only [] w w' ∧ (∀ g ∈ fL ++ fD, w.heap.size ≤ g) ∧ L.length ≤ 3000 ∧ D.length ≤ 3000 ∧ ∀ q ∈ L, q.length ≤ 1000 := by
  refine (searchFrom_srt cs x fp v tr ft w h hv hx hp htl).mono ?_
  rintro e w' ⟨A1, A2, A3, C1, C2, C3, n3, wh, L, D, fL, fD, e1, o1, o2, o3, o4, o5, o6, o7, o8, -⟩
  exact ⟨A1, A2, A3, C1, C2, C3, n3, wh, L, D, fL, fD, e1, o1, o2, o3, o4, o5, o6, o7, o8⟩
end Go.Proofs.YtkhdmiemfpelcaaGreat

namespace Go.Proofs.YtkhdmiemfpelcaaGreat
open Go.RowKit
set_option maxRecDepth 10000

/-- the table of a tracked set -/
def bTab (x : Puzzle) (tr : List Int) : Option Table := (bfs16 x tr).map fun s => ⟨tr, s.1, s.2⟩
theorem bfs16_no {x : Puzzle} {tr : List Int} (h : (validPz x && trackB x.points tr) = false) : bfs16 x tr = none := by unfold bfs16; rw [h]; rfl
theorem bfs16_yes {x : Puzzle} {tr : List Int} (h : (validPz x && trackB x.points tr) = true) : bfs16 x tr = bFrom x 3001 0 ([tr], [0]) := by unfold bfs16; rw [if_pos h]
set_option maxHeartbeats 4000000 in
theorem searchPatterns_any (cs : List Value) (x : Puzzle) (fp : List Nat) (v : Value) (tr : List Int) (ft : List Nat) (w : World) (h : Rp.rep w cs x fp) (hv : Rd w v tr ft) :
    Calls Tryz.prog 66 #[.agg cs.toArray, v] w fun e w' => ∃ A1 A2 A3 C1 C2 C3 n3 wh L D fL fD, e = .returned (.tuple #[.agg #[.slice A1 (List.length L) C1, .slice A2 (List.length D) C2, .slice A3 n3 C3, .bool wh], .bool wh]) ∧
      Rd w' (.slice A1 L.length C1) L fL ∧ Rd w' (.slice A2 D.length C2) D fD ∧ (bfs16 x tr = if wh = true then some (L, D) else none) ∧ Only [] w w' ∧ (∀ g ∈ fL ++ fD, w.heap.size ≤ g) ∧ L.length ≤ 3000 ∧ D.length ≤ 3000 ∧ ∀ q ∈ L, q.length ≤ 1000 := by
  have h0 := h
  obtain ⟨v2, rfl, p0, p1, h2⟩ := h
  obtain ⟨A2, C2, _, _, rfl, -, -⟩ := h2.open_
  obtain ⟨a, cap, rfl, Iv⟩ := hv.ints
  clear Iv h2 p0 p1
  have X0 : Blk ((w.alloc (.cells #[.int .i64 x.points, .string x.names, .slice A2 x.moves.length C2] 37)).alloc (.cells #[.slice none 0 0, .slice none 0 0, .slice none 0 0, .bool false] 92)) w.heap.size [.int .i64 x.points, .string x.names, .slice A2 x.moves.length C2] := (Blk.new w [.int .i64 x.points, .string x.names, .slice A2 x.moves.length C2] 37).keep ((Only.refl _ _).alloc _)
  have Y0 : Blk ((w.alloc (.cells #[.int .i64 x.points, .string x.names, .slice A2 x.moves.length C2] 37)).alloc (.cells #[.slice none 0 0, .slice none 0 0, .slice none 0 0, .bool false] 92)) (w.heap.size + 1) [.slice none 0 0, .slice none 0 0, .slice none 0 0, .bool false] := Blk.new_at (by simp)
  rcases hq : validPz x && trackB x.points tr
  · have Hn := Lib.hid (bfs16_no hq)
    have Hq := Lib.hid hq
    clear hq
    go_enter Tryz.func66, Tryz.ntmps66
    go_wp2_with (first
      | (go_at_call 83; (with_reducible refine (specIsTrackedSet_any [.int .i64 x.points, .string x.names, .slice A2 x.moves.length C2] x _ _ tr _ _ (Rp.keep h0 (by with_reducible repeat (first | exact Only.refl _ _ | assumption | refine Only.drewN ?_ _ | refine Only.drew ?_ | refine Only.alloc ?_ _ | refine Only.setCell ?_ (by intro hh; exfalso; simp at hh; try omega) _ | refine Only.trans ?_ (by assumption)))) (Rp.keep hv (by with_reducible repeat (first | exact Only.refl _ _ | assumption | refine Only.drewN ?_ _ | refine Only.drew ?_ | refine Only.alloc ?_ _ | refine Only.setCell ?_ (by intro hh; exfalso; simp at hh; try omega) _ | refine Only.trans ?_ (by assumption))))).mono ?_); rintro e w1 ⟨he, t1⟩; rw [Hq.out] at he; subst he; have Y1 := Y0.keep t1; have g0 := Y1.cell 0 rfl; have g1 := Y1.cell 1 rfl; have g2 := Y1.cell 2 rfl; have g3 := Y1.cell 3 rfl; have p0 := Y1.frozen 0; have p1 := Y1.frozen 1; have p2 := Y1.frozen 2; have p3 := Y1.frozen 3)
      | fail "no arm")
    have K1 : Only [] w w1 := (by with_reducible repeat (first | exact Only.refl _ _ | assumption | refine Only.drewN ?_ _ | refine Only.drew ?_ | refine Only.alloc ?_ _ | refine Only.setCell ?_ (by intro hh; exfalso; simp at hh; try omega) _ | refine Only.trans ?_ (by assumption)))
    have Yf := (((Y1.set 0 (.slice none 0 0)).set 1 (.slice none 0 0)).set 2 (.slice none 0 0)).set 3 (.bool false)
    have kf : Only [] w ((((w1.setCell ⟨w.heap.size + 1, 0, none⟩ (.slice none 0 0)).setCell ⟨w.heap.size + 1, 1, none⟩ (.slice none 0 0)).setCell ⟨w.heap.size + 1, 2, none⟩ (.slice none 0 0)).setCell ⟨w.heap.size + 1, 3, none⟩ (.bool false)) := K1.then_ (((((Only.refl [w.heap.size + 1] w1).setCell (by simp) _).setCell (by simp) _).setCell (by simp) _).setCell (by simp) _) (by simp)
    obtain ⟨wf, hwf⟩ : ∃ wf, wf = ((((w1.setCell ⟨w.heap.size + 1, 0, none⟩ (.slice none 0 0)).setCell ⟨w.heap.size + 1, 1, none⟩ (.slice none 0 0)).setCell ⟨w.heap.size + 1, 2, none⟩ (.slice none 0 0)).setCell ⟨w.heap.size + 1, 3, none⟩ (.bool false)) := ⟨_, rfl⟩
    rw [← hwf] at Yf kf ⊢
    simp only [List.set] at Yf
    clear hwf g0 g1 g2 g3 p0 p1 p2 p3
    have r0 := Yf.cell 0 rfl
    have r1 := Yf.cell 1 rfl
    have r2 := Yf.cell 2 rfl
    have r3 := Yf.cell 3 rfl
    refine bodyPost_ret (v := .tuple #[.agg #[.slice none 0 0, .slice none 0 0, .slice none 0 0, .bool false], .bool false]) (by simp [results, Tryz.results66, go_sem, r0, r1, r2, r3]) rfl ⟨none, none, none, 0, 0, 0, 0, false, [], [], [], [], rfl, nil_rd _, nil_rd _, ?_, kf, by simp, by simp, by simp, by simp⟩
    rw [Hn.out]; rfl
  · have Hn := Lib.hid (bfs16_yes hq)
    obtain ⟨q1, q2⟩ := (Bool.and_eq_true _ _).mp hq
    have Hq := Lib.hid hq
    have Hv := Lib.hid q1
    have Hp := Lib.hid (trackB_pat q2)
    have htl : tr.length ≤ 1000 := by
      have h3 := (trackB_iff.1 q2).2.len
      have := (validPz_facts q1).2.1
      omega
    clear hq q1 q2
    go_enter Tryz.func66, Tryz.ntmps66
    go_wp2_with (first
      | (go_at_call 83; (with_reducible refine (specIsTrackedSet_any [.int .i64 x.points, .string x.names, .slice A2 x.moves.length C2] x _ _ tr _ _ (Rp.keep h0 (by with_reducible repeat (first | exact Only.refl _ _ | assumption | refine Only.drewN ?_ _ | refine Only.drew ?_ | refine Only.alloc ?_ _ | refine Only.setCell ?_ (by intro hh; exfalso; simp at hh; try omega) _ | refine Only.trans ?_ (by assumption)))) (Rp.keep hv (by with_reducible repeat (first | exact Only.refl _ _ | assumption | refine Only.drewN ?_ _ | refine Only.drew ?_ | refine Only.alloc ?_ _ | refine Only.setCell ?_ (by intro hh; exfalso; simp at hh; try omega) _ | refine Only.trans ?_ (by assumption))))).mono ?_); rintro e w1 ⟨he, t1⟩; rw [Hq.out] at he; subst he; have X1 := X0.keep t1; have g0 := X1.cell 0 rfl; have g1 := X1.cell 1 rfl; have g2 := X1.cell 2 rfl)
      | (go_at_call 84; (with_reducible refine (searchFrom_any [.int .i64 x.points, .string x.names, .slice A2 x.moves.length C2] x _ _ tr _ _ (Rp.keep h0 (by with_reducible repeat (first | exact Only.refl _ _ | assumption | refine Only.drewN ?_ _ | refine Only.drew ?_ | refine Only.alloc ?_ _ | refine Only.setCell ?_ (by intro hh; exfalso; simp at hh; try omega) _ | refine Only.trans ?_ (by assumption)))) (Rp.keep hv (by with_reducible repeat (first | exact Only.refl _ _ | assumption | refine Only.drewN ?_ _ | refine Only.drew ?_ | refine Only.alloc ?_ _ | refine Only.setCell ?_ (by intro hh; exfalso; simp at hh; try omega) _ | refine Only.trans ?_ (by assumption)))) Hv.out Hp.out htl).mono ?_); rintro e w2 ⟨B1, B2, B3, D1, D2, D3, n3, wh, L, D, fL, fD, rfl, o1, o2, o3, t2, o4, o5⟩; have O3 := Lib.hid o3; clear o3)
      | fail "no arm")
    have K2 : Only [] w w2 := (by with_reducible repeat (first | exact Only.refl _ _ | assumption | refine Only.drewN ?_ _ | refine Only.drew ?_ | refine Only.alloc ?_ _ | refine Only.setCell ?_ (by intro hh; exfalso; simp at hh; try omega) _ | refine Only.trans ?_ (by assumption)))
    have Y1 := (((Y0.keep t1).keep t2).keep ((Only.refl [] w2).alloc (.cells #[.slice B1 L.length D1, .slice B2 D.length D2, .slice B3 n3 D3, .bool wh] 92)))
    have B4 := Blk.new w2 [.slice B1 L.length D1, .slice B2 D.length D2, .slice B3 n3 D3, .bool wh] 92
    have hsz : w.heap.size + 2 ≤ w2.heap.size := by have h5 := t1.size; have h6 := t2.size; simp at h5; omega
    have h1s : w.heap.size + 2 ≤ w1.heap.size := by have h5 := t1.size; simp at h5; omega
    have o1' := Rp.keep o1 ((Only.refl [] w2).alloc (.cells #[.slice B1 L.length D1, .slice B2 D.length D2, .slice B3 n3 D3, .bool wh] 92))
    have o2' := Rp.keep o2 ((Only.refl [] w2).alloc (.cells #[.slice B1 L.length D1, .slice B2 D.length D2, .slice B3 n3 D3, .bool wh] 92))
    have K3 := K2.alloc (.cells #[.slice B1 L.length D1, .slice B2 D.length D2, .slice B3 n3 D3, .bool wh] 92)
    obtain ⟨b, hb⟩ : ∃ b, b = w2.heap.size := ⟨_, rfl⟩
    obtain ⟨w3, hw3⟩ : ∃ w3, w3 = w2.alloc (.cells #[.slice B1 L.length D1, .slice B2 D.length D2, .slice B3 n3 D3, .bool wh] 92) := ⟨_, rfl⟩
    rw [← hb] at B4 hsz ⊢
    rw [← hw3] at Y1 B4 o1' o2' K3 ⊢
    clear hb hw3 g0 g1 g2 X1 X0 Y0 t1 t2 o1 o2 K2
    have hne : b ≠ w.heap.size + 1 := by omega
    have c0 := B4.cell 0 rfl
    have c1 := B4.cell 1 rfl
    have c2 := B4.cell 2 rfl
    have c3 := B4.cell 3 rfl
    have g0 := Y1.cell 0 rfl
    have g1 := Y1.cell 1 rfl
    have g2 := Y1.cell 2 rfl
    have g3 := Y1.cell 3 rfl
    have p0 := Y1.frozen 0
    have p1 := Y1.frozen 1
    have p2 := Y1.frozen 2
    have p3 := Y1.frozen 3
    have Yf := (((Y1.set 0 (.slice B1 L.length D1)).set 1 (.slice B2 D.length D2)).set 2 (.slice B3 n3 D3)).set 3 (.bool wh)
    simp only [List.set] at Yf
    have r0 := Yf.cell 0 rfl
    have r1 := Yf.cell 1 rfl
    have r2 := Yf.cell 2 rfl
    have r3 := Yf.cell 3 rfl
    have hno1 : ∀ g ∈ fL, g ∉ [w.heap.size + 1] := fun g hg hm => by have := o4 g (by simp [hg]); simp at hm; omega
    have hno2 : ∀ g ∈ fD, g ∉ [w.heap.size + 1] := fun g hg hm => by have := o4 g (by simp [hg]); simp at hm; omega
    have hno3 : ∀ g ∈ fL ++ fD, w.heap.size ≤ g := fun g hg => by have := o4 g hg; omega
    go_region
    all_goals go_wp2
    all_goals refine bodyPost_ret (v := .tuple #[.agg #[.slice B1 L.length D1, .slice B2 D.length D2, .slice B3 n3 D3, .bool wh], .bool wh]) (by simp [results, Tryz.results66, go_sem, r0, r1, r2, r3]) rfl ⟨B1, B2, B3, D1, D2, D3, n3, wh, L, D, fL, fD, rfl, Rp.only o1' (fp' := [w.heap.size + 1]) (by with_reducible repeat (first | exact Only.refl _ _ | refine Only.drew ?_ | refine Only.setCell ?_ (by simp) _)) hno1, Rp.only o2' (fp' := [w.heap.size + 1]) (by with_reducible repeat (first | exact Only.refl _ _ | refine Only.drew ?_ | refine Only.setCell ?_ (by simp) _)) hno2, by rw [Hn.out]; exact O3.out, K3.then_ (fp' := [w.heap.size + 1]) (by with_reducible repeat (first | exact Only.refl _ _ | refine Only.drew ?_ | refine Only.setCell ?_ (by simp) _)) (by simp), hno3, o5⟩
end Go.Proofs.YtkhdmiemfpelcaaGreat
