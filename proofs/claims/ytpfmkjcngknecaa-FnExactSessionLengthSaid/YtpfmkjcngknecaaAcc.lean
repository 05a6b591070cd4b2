/- A slice that a loop appends to: its value, the elements so far, the memory they reach. -/
import Derived.Test.YtpfmkjcngknecaaOps
namespace Go.Proofs.Ytpfmkjcngknecaa
open Go.RowKit
set_option maxRecDepth 10000

/-- v is a slice of the call's own (its block, if any, from B on); its elements read as l, what they reach is fs; the slice's own block is none of that -/
structure Acc {α : Type} [Rp α] (B : Nat) (e : TypeId) (w : World) (v : Value) (l : List α) (fs : List (List Nat)) : Prop where
  own : ∃ css : List (List Value), w.ownsRow B e (Rp.size α) v l.length css.flatten ∧ css.length = l.length ∧ ∀ k (h1 : k < css.length) (h2 : k < l.length) (h3 : k < fs.length), Rp.rep w css[k] l[k] fs[k]
  fl : fs.length = l.length
  apart : ∀ g, v.ownBlock = some g → g ∉ fs.flatten

section
variable {α : Type} [Rp α] {w w' : World} {B : Nat} {e : TypeId} {v : Value} {l : List α} {fs : List (List Nat)}
theorem Acc.own_ne {g : Nat} (h : Acc B e w v l fs) (hg : w.heap.size ≤ g) : g ∉ v.ownBlock.toList := by
  intro hm
  have : v.ownBlock = some g := by simpa using hm
  obtain ⟨css, ho, -, -⟩ := h.own
  have := (ho.lt g this).2
  omega
theorem Acc.nil (w : World) (B : Nat) (e : TypeId) : Acc B e w (.slice none 0 0) ([] : List α) [] :=
  ⟨⟨[], World.ownsRow_nil w B e _, rfl, by simp⟩, rfl, by simp⟩
theorem Acc.made (w : World) (B : Nat) (e : TypeId) {g : Nat} (hg : g = w.heap.size) (hB : B ≤ g) : Acc B e (w.alloc (.cells #[] e)) (.slice (some ⟨g, 0, none⟩) 0 0) ([] : List α) [] := by
  subst hg
  exact ⟨⟨[], World.ownsRow_made w #[] 0 hB (by unfold maxLen; omega) (by simp), rfl, by simp⟩, rfl, by simp⟩
theorem Acc.lt (h : Acc B e w v l fs) : ∀ b ∈ fs.flatten, b < w.heap.size := by
  intro b hb
  obtain ⟨f, hf, hb⟩ := List.mem_flatten.1 hb
  obtain ⟨k, hk, rfl⟩ := List.getElem_of_mem hf
  obtain ⟨css, -, hcl, hr⟩ := h.own
  have := h.fl
  exact Rp.lt (hr k (by omega) (by omega) hk) b hb
theorem Acc.ownlt (h : Acc B e w v l fs) : ∀ g, v.ownBlock = some g → B ≤ g ∧ g < w.heap.size := by
  obtain ⟨css, ho, -, -⟩ := h.own
  exact ho.lt
theorem Acc.only {fp : List Nat} (h : Acc B e w v l fs) (ho : Only fp w w') (hd : ∀ b ∈ fs.flatten, b ∉ fp) (hv : ∀ g, v.ownBlock = some g → g ∉ fp) : Acc B e w' v l fs := by
  obtain ⟨css, hr, hcl, hre⟩ := h.own
  refine ⟨⟨css, ?_, hcl, fun k h1 h2 h3 => Rp.only (hre k h1 h2 h3) ho fun b hb hm => hd b (List.mem_flatten.2 ⟨_, List.getElem_mem _, hb⟩) hm⟩, h.fl, h.apart⟩
  refine ⟨hr.1, ?_⟩
  rcases hr.2 with ⟨rfl, h0⟩ | ⟨g, cp, cur, rfl, hb, hg, hrest⟩
  · exact .inl ⟨rfl, h0⟩
  · exact .inr ⟨g, cp, cur, rfl, hb, by rw [ho.block g (Array.getElem?_eq_some_iff.1 hg).1 (hv g rfl)]; exact hg, hrest⟩
theorem Acc.keep (h : Acc B e w v l fs) (ho : Only [] w w') : Acc B e w' v l fs := h.only ho (by simp) (by simp)
theorem Acc.form (h : Acc B e w v l fs) : ∃ a c, v = .slice a l.length c := by
  obtain ⟨css, ho, -, -⟩ := h.own
  rcases ho.2 with ⟨rfl, h0⟩ | ⟨g, cp, cur, rfl, -⟩
  · exact ⟨none, 0, by rw [h0]⟩
  · exact ⟨_, _, rfl⟩
theorem Acc.rd (h : Acc B e w v l fs) (hs : 0 < Rp.size α) : Rd w v l (v.ownBlock.toList ++ fs.flatten) := by
  obtain ⟨css, ho, hcl, hr⟩ := h.own
  obtain ⟨a, c, hv, -, hI⟩ := own_seq (xs := l) (fps := fs) ho hs hcl h.fl hr
  have := hI.rd
  rw [← hv] at this; exact this
theorem Acc.fresh (h : Acc B e w v l fs) (hf : Fresh B w fs.flatten) : Fresh B w (v.ownBlock.toList ++ fs.flatten) := by
  obtain ⟨css, ho, -, -⟩ := h.own
  have h1 := own_fresh ho
  refine ⟨List.nodup_append.2 ⟨h1.nd, hf.nd, fun a ha b hb hab => ?_⟩, fun b hb => ?_, h1.own.append hf.own⟩
  · subst hab
    have : v.ownBlock = some a := by simpa using ha
    exact h.apart a this hb
  · rcases List.mem_append.1 hb with hb | hb
    · exact h1.ge b hb
    · exact hf.ge b hb
theorem Acc.fl_flat (h : Acc B e w v l fs) : ∃ css : List (List Value), css.flatten.length = l.length * Rp.size α ∧ w.ownsRow B e (Rp.size α) v l.length css.flatten := by
  obtain ⟨css, ho, -, -⟩ := h.own
  exact ⟨css, ho.1, ho⟩
end

/-- the cells of a literal -/
theorem lit_src (w : World) (cs : List Value) (e : TypeId) {g : Nat} (hg : g = w.heap.size) : ∀ j u, cs[j]? = some u → (w.alloc (.cells cs.toArray e)).cell? ⟨g, j, none⟩ = some u := by
  subst hg
  intro j u hu
  rw [cell_of_row _ _ _ _ _ _ (heap_alloc_new w _)]
  simpa using hu

section
variable {P : Program} {α : Type} [Rp α] {ops : Array Oper} {rest : List Oper} {o : Oper} {a : Act} {w : World} {Q : Exit → Act → World → Prop} {K : Act → World → Prop}
/-- append(v, y), y one element -/
theorem wp_push (s x : Operand) (t : TypeId)
    (ho : o.op = .call { callee := .builtin .append, args := #[s, x], argTypes := #[t, t] })
    (B : Nat) (e : TypeId) (i : TypeInfo) (z : Value) (bytes : Nat) (ht : P.underlying t = some (.slice e)) (hi : P.info? e = some i) (hz : i.zero = some z)
    (hsize : i.size = Rp.size α) (hby : i.bytes = bytes) (hzs : z.cells.size = Rp.size α) (hsz : 0 < Rp.size α) (hbb : bytes ≤ 65536)
    (w0 : World) (v : Value) (l : List α) (fs : List (List Nat)) (hs : a.eval s = v) (hA : Acc B e w0 v l fs) (hK0 : Only [] w0 w) (hB : B ≤ w0.heap.size)
    (g c : Nat) (cs : List Value) (y : α) (fp : List Nat) (hx : a.eval x = .slice (some ⟨g, 0, none⟩) 1 c) (hsrc : ∀ j u, cs[j]? = some u → w.cell? ⟨g, j, none⟩ = some u) (hcs : ∀ u ∈ cs, u.oneCell' = true)
    (hy : Rp.rep w cs y fp) (hap : ∀ b ∈ fp, v.ownBlock ≠ some b) (hlen : l.length + 1 ≤ 1073741824)
    (h : ∀ v' w', Acc B e w' v' (l ++ [y]) (fs ++ [fp]) → Only v.ownBlock.toList w w' → (∀ wz, Only [] wz w → wz.heap.size ≤ B → Only [] wz w') →
      (Fresh B w0 fs.flatten → Fresh w0.heap.size w fp → Fresh B w' (fs ++ [fp]).flatten) → K (a.put o.dst v') w') : o.wp P a w K Q := by
  obtain ⟨css, hown, hcl, hre⟩ := (hA.keep hK0).own
  have hcsl : cs.length = 1 * Rp.size α := by rw [Nat.one_mul]; exact Rp.len hy
  have hfl := hA.fl
  have hbytes : (l.length + 1) * bytes ≤ 140737488355328 := by
    have := Nat.mul_le_mul hlen hbb; omega
  refine wp_app w s x t ho B e i z (Rp.size α) bytes ht hi hz hsize hby hzs hsz v l.length css.flatten hs hown (some ⟨g, 0, none⟩) 1 c cs hx hcsl ?_ (by simp) hcs (by unfold maxLen; omega) hbytes (Nat.le_trans hB hK0.size) ?_
  · intro ad had j u hu
    injection had with had; subst had
    have hadd : (⟨g, 0, none⟩ : Addr).add j = ⟨g, j, none⟩ := by unfold Addr.add; split <;> simp_all
    rw [hadd]; exact hsrc j u hu
  intro v' w' hO hg hb
  have hW : Only v.ownBlock.toList w w' := (Only.refl _ _).grown hg (by intro k hk _; simp [hk])
  have hlt := (hA.keep hK0).lt
  have hap' : ∀ b ∈ fp, b ∉ v.ownBlock.toList := fun b hb hm => hap b hb (by simpa using hm)
  have hfs : ∀ b ∈ fs.flatten, b ∉ v.ownBlock.toList := fun b hb hm => hA.apart b (by simpa using hm) hb
  refine h v' w' ⟨⟨css ++ [cs], ?_, by simp [hcl], fun k h1 h2 h3 => ?_⟩, by simp [hfl], ?_⟩ hW ?_ ?_
  · rw [List.length_append, List.flatten_append]; simpa using hO
  · by_cases hk : k < l.length
    · rw [List.getElem_append_left (by rw [hcl]; exact hk), List.getElem_append_left hk, List.getElem_append_left (by rw [hfl]; exact hk)]
      exact Rp.only (hre k (by omega) hk (by omega)) hW fun b hb => hfs b (List.mem_flatten.2 ⟨_, List.getElem_mem _, hb⟩)
    · have : k = l.length := by simp at h2; omega
      subst this
      rw [List.getElem_append_right (by rw [hcl]; omega), List.getElem_append_right (by omega), List.getElem_append_right (by rw [hfl]; omega)]
      simpa [hcl, hfl] using Rp.only hy hW hap'
  · intro g' hg' hm
    rw [List.flatten_append] at hm
    simp only [List.flatten_cons, List.flatten_nil, List.append_nil] at hm
    rcases hb with hb | hb
    · rw [hb] at hg'
      rcases List.mem_append.1 hm with hm | hm
      · exact hA.apart g' hg' hm
      · exact hap g' hm hg'
    · rw [hb] at hg'; injection hg' with hg'; subst hg'
      rcases List.mem_append.1 hm with hm | hm
      · exact absurd (hlt _ hm) (by omega)
      · exact absurd (Rp.lt hy _ hm) (by omega)
  · intro wz hz hzB
    refine hz.then_ hW fun b hm hb => ?_
    have hm' : v.ownBlock = some b := by simpa using hm
    have := (hA.ownlt b hm').1
    omega
  · intro hF hFy
    rw [List.flatten_append]
    simp only [List.flatten_cons, List.flatten_nil, List.append_nil]
    have hF' := (hF.keep hK0)
    refine ((Fresh.append hF' hFy hB fun b hb => hF.lt b hb)).only hW fun b hm => ?_
    rcases List.mem_append.1 hm with hm | hm
    · exact hfs b hm
    · exact hap' b hm
/-- the same where y was made behind w0 -/
theorem wp_pushF (s x : Operand) (t : TypeId)
    (ho : o.op = .call { callee := .builtin .append, args := #[s, x], argTypes := #[t, t] })
    (B : Nat) (e : TypeId) (i : TypeInfo) (z : Value) (bytes : Nat) (ht : P.underlying t = some (.slice e)) (hi : P.info? e = some i) (hz : i.zero = some z)
    (hsize : i.size = Rp.size α) (hby : i.bytes = bytes) (hzs : z.cells.size = Rp.size α) (hsz : 0 < Rp.size α) (hbb : bytes ≤ 65536)
    (w0 : World) (v : Value) (l : List α) (fs : List (List Nat)) (hs : a.eval s = v) (hA : Acc B e w0 v l fs) (hF : Fresh B w0 fs.flatten) (hK0 : Only [] w0 w) (hB : B ≤ w0.heap.size)
    (g c : Nat) (cs : List Value) (y : α) (fp : List Nat) (hx : a.eval x = .slice (some ⟨g, 0, none⟩) 1 c) (hsrc : ∀ j u, cs[j]? = some u → w.cell? ⟨g, j, none⟩ = some u) (hcs : ∀ u ∈ cs, u.oneCell' = true)
    (hy : Rp.rep w cs y fp) (hFy : Fresh w0.heap.size w fp) (hlen : l.length + 1 ≤ 1073741824) (wz : World) (hz0 : Only [] wz w) (hzB : wz.heap.size ≤ B)
    (h : ∀ v' w', Acc B e w' v' (l ++ [y]) (fs ++ [fp]) → Fresh B w' (fs ++ [fp]).flatten → Only [] wz w' → Only v.ownBlock.toList w w' → K (a.put o.dst v') w') : o.wp P a w K Q :=
  wp_push s x t ho B e i z bytes ht hi hz hsize hby hzs hsz hbb w0 v l fs hs hA hK0 hB g c cs y fp hx hsrc hcs hy
    (fun b hb hv => by have := (hA.ownlt b hv).2; have := hFy.ge b hb; omega) hlen fun v' w' h1 h2 h3 h4 => h v' w' h1 (h4 hF hFy) (h3 wz hz0 hzB) h2
theorem wpList_push (hgd : o.guard = none) (s x : Operand) (t : TypeId)
    (ho : o.op = .call { callee := .builtin .append, args := #[s, x], argTypes := #[t, t] })
    (B : Nat) (e : TypeId) (i : TypeInfo) (z : Value) (bytes : Nat) (ht : P.underlying t = some (.slice e)) (hi : P.info? e = some i) (hz : i.zero = some z)
    (hsize : i.size = Rp.size α) (hby : i.bytes = bytes) (hzs : z.cells.size = Rp.size α) (hsz : 0 < Rp.size α) (hbb : bytes ≤ 65536)
    (w0 : World) (v : Value) (l : List α) (fs : List (List Nat)) (hs : a.eval s = v) (hA : Acc B e w0 v l fs) (hK0 : Only [] w0 w) (hB : B ≤ w0.heap.size)
    (g c : Nat) (cs : List Value) (y : α) (fp : List Nat) (hx : a.eval x = .slice (some ⟨g, 0, none⟩) 1 c) (hsrc : ∀ j u, cs[j]? = some u → w.cell? ⟨g, j, none⟩ = some u) (hcs : ∀ u ∈ cs, u.oneCell' = true)
    (hy : Rp.rep w cs y fp) (hap : ∀ b ∈ fp, v.ownBlock ≠ some b) (hlen : l.length + 1 ≤ 1073741824)
    (h : ∀ v' w', Acc B e w' v' (l ++ [y]) (fs ++ [fp]) → Only v.ownBlock.toList w w' → (∀ wz, Only [] wz w → wz.heap.size ≤ B → Only [] wz w') →
      (Fresh B w0 fs.flatten → Fresh w0.heap.size w fp → Fresh B w' (fs ++ [fp]).flatten) → wpList P ops Q rest (a.put o.dst v') w') : wpList P ops Q (o :: rest) a w :=
  wpList_plain hgd fun _ hK => wp_push s x t ho B e i z bytes ht hi hz hsize hby hzs hsz hbb w0 v l fs hs hA hK0 hB g c cs y fp hx hsrc hcs hy hap hlen fun v' w' h1 h2 h3 h4 => hK _ _ (h v' w' h1 h2 h3 h4)
theorem step_push {E : Prop} (hgd : o.guard = none) (s x : Operand) (t : TypeId)
    (ho : o.op = .call { callee := .builtin .append, args := #[s, x], argTypes := #[t, t] })
    (B : Nat) (e : TypeId) (i : TypeInfo) (z : Value) (bytes : Nat) (ht : P.underlying t = some (.slice e)) (hi : P.info? e = some i) (hz : i.zero = some z)
    (hsize : i.size = Rp.size α) (hby : i.bytes = bytes) (hzs : z.cells.size = Rp.size α) (hsz : 0 < Rp.size α) (hbb : bytes ≤ 65536)
    (w0 : World) (v : Value) (l : List α) (fs : List (List Nat)) (hs : a.eval s = v) (hA : Acc B e w0 v l fs) (hK0 : Only [] w0 w) (hB : B ≤ w0.heap.size)
    (g c : Nat) (cs : List Value) (y : α) (fp : List Nat) (hx : a.eval x = .slice (some ⟨g, 0, none⟩) 1 c) (hsrc : ∀ j u, cs[j]? = some u → w.cell? ⟨g, j, none⟩ = some u) (hcs : ∀ u ∈ cs, u.oneCell' = true)
    (hy : Rp.rep w cs y fp) (hap : ∀ b ∈ fp, v.ownBlock ≠ some b) (hlen : l.length + 1 ≤ 1073741824)
    (h : ∀ v' w', Acc B e w' v' (l ++ [y]) (fs ++ [fp]) → Only v.ownBlock.toList w w' → (∀ wz, Only [] wz w → wz.heap.size ≤ B → Only [] wz w') →
      (Fresh B w0 fs.flatten → Fresh w0.heap.size w fp → Fresh B w' (fs ++ [fp]).flatten) → K (a.put o.dst v') w') : if Region.wanted o (yielded ops a.tmps) = true then Oper.wp P o a w K Q else E := by
  rw [if_pos (by simp [Region.wanted, hgd])]
  exact wp_push s x t ho B e i z bytes ht hi hz hsize hby hzs hsz hbb w0 v l fs hs hA hK0 hB g c cs y fp hx hsrc hcs hy hap hlen h
theorem wpList_pushF (hgd : o.guard = none) (s x : Operand) (t : TypeId)
    (ho : o.op = .call { callee := .builtin .append, args := #[s, x], argTypes := #[t, t] })
    (B : Nat) (e : TypeId) (i : TypeInfo) (z : Value) (bytes : Nat) (ht : P.underlying t = some (.slice e)) (hi : P.info? e = some i) (hz : i.zero = some z)
    (hsize : i.size = Rp.size α) (hby : i.bytes = bytes) (hzs : z.cells.size = Rp.size α) (hsz : 0 < Rp.size α) (hbb : bytes ≤ 65536)
    (w0 : World) (v : Value) (l : List α) (fs : List (List Nat)) (hs : a.eval s = v) (hA : Acc B e w0 v l fs) (hF : Fresh B w0 fs.flatten) (hK0 : Only [] w0 w) (hB : B ≤ w0.heap.size)
    (g c : Nat) (cs : List Value) (y : α) (fp : List Nat) (hx : a.eval x = .slice (some ⟨g, 0, none⟩) 1 c) (hsrc : ∀ j u, cs[j]? = some u → w.cell? ⟨g, j, none⟩ = some u) (hcs : ∀ u ∈ cs, u.oneCell' = true)
    (hy : Rp.rep w cs y fp) (hFy : Fresh w0.heap.size w fp) (hlen : l.length + 1 ≤ 1073741824) (wz : World) (hz0 : Only [] wz w) (hzB : wz.heap.size ≤ B)
    (h : ∀ v' w', Acc B e w' v' (l ++ [y]) (fs ++ [fp]) → Fresh B w' (fs ++ [fp]).flatten → Only [] wz w' → Only v.ownBlock.toList w w' → wpList P ops Q rest (a.put o.dst v') w') : wpList P ops Q (o :: rest) a w :=
  wpList_plain hgd fun _ hK => wp_pushF s x t ho B e i z bytes ht hi hz hsize hby hzs hsz hbb w0 v l fs hs hA hF hK0 hB g c cs y fp hx hsrc hcs hy hFy hlen wz hz0 hzB fun v' w' h1 h2 h3 h4 => hK _ _ (h v' w' h1 h2 h3 h4)
theorem step_pushF {E : Prop} (hgd : o.guard = none) (s x : Operand) (t : TypeId)
    (ho : o.op = .call { callee := .builtin .append, args := #[s, x], argTypes := #[t, t] })
    (B : Nat) (e : TypeId) (i : TypeInfo) (z : Value) (bytes : Nat) (ht : P.underlying t = some (.slice e)) (hi : P.info? e = some i) (hz : i.zero = some z)
    (hsize : i.size = Rp.size α) (hby : i.bytes = bytes) (hzs : z.cells.size = Rp.size α) (hsz : 0 < Rp.size α) (hbb : bytes ≤ 65536)
    (w0 : World) (v : Value) (l : List α) (fs : List (List Nat)) (hs : a.eval s = v) (hA : Acc B e w0 v l fs) (hF : Fresh B w0 fs.flatten) (hK0 : Only [] w0 w) (hB : B ≤ w0.heap.size)
    (g c : Nat) (cs : List Value) (y : α) (fp : List Nat) (hx : a.eval x = .slice (some ⟨g, 0, none⟩) 1 c) (hsrc : ∀ j u, cs[j]? = some u → w.cell? ⟨g, j, none⟩ = some u) (hcs : ∀ u ∈ cs, u.oneCell' = true)
    (hy : Rp.rep w cs y fp) (hFy : Fresh w0.heap.size w fp) (hlen : l.length + 1 ≤ 1073741824) (wz : World) (hz0 : Only [] wz w) (hzB : wz.heap.size ≤ B)
    (h : ∀ v' w', Acc B e w' v' (l ++ [y]) (fs ++ [fp]) → Fresh B w' (fs ++ [fp]).flatten → Only [] wz w' → Only v.ownBlock.toList w w' → K (a.put o.dst v') w') : if Region.wanted o (yielded ops a.tmps) = true then Oper.wp P o a w K Q else E := by
  rw [if_pos (by simp [Region.wanted, hgd])]
  exact wp_pushF s x t ho B e i z bytes ht hi hz hsize hby hzs hsz hbb w0 v l fs hs hA hF hK0 hB g c cs y fp hx hsrc hcs hy hFy hlen wz hz0 hzB h
end
end Go.Proofs.Ytpfmkjcngknecaa
