/- A slice that a loop appends to, beside other memory of the call's own that stays as it is. -/
import Derived.Test.YtpfmkjcngknecaaAcc
namespace Go.Proofs.Ytpfmkjcngknecaa
open Go.RowKit
set_option maxRecDepth 10000

section
variable {P : Program} {α : Type} [Rp α] {ops : Array Oper} {rest : List Oper} {o : Oper} {a : Act} {w : World} {Q : Exit → Act → World → Prop} {K : Act → World → Prop}
/-- append(v, y), y one element -/
theorem wp_push2 (s x : Operand) (t : TypeId)
    (ho : o.op = .call { callee := .builtin .append, args := #[s, x], argTypes := #[t, t] })
    (B : Nat) (e : TypeId) (i : TypeInfo) (z : Value) (bytes : Nat) (ht : P.underlying t = some (.slice e)) (hi : P.info? e = some i) (hz : i.zero = some z)
    (hsize : i.size = Rp.size α) (hby : i.bytes = bytes) (hzs : z.cells.size = Rp.size α) (hsz : 0 < Rp.size α) (hbb : bytes ≤ 65536)
    (w0 : World) (v : Value) (l : List α) (fs : List (List Nat)) (hs : a.eval s = v) (hA : Acc B e w0 v l fs) (hK0 : Only [] w0 w) (hB : B ≤ w0.heap.size)
    (g c : Nat) (cs : List Value) (y : α) (fp : List Nat) (hx : a.eval x = .slice (some ⟨g, 0, none⟩) 1 c) (hsrc : ∀ j u, cs[j]? = some u → w.cell? ⟨g, j, none⟩ = some u) (hcs : ∀ u ∈ cs, u.oneCell' = true)
    (hy : Rp.rep w cs y fp) (hap : ∀ b ∈ fp, v.ownBlock ≠ some b) (hlen : l.length + 1 ≤ 1073741824)
    (h : ∀ v' w', Acc B e w' v' (l ++ [y]) (fs ++ [fp]) → Only v.ownBlock.toList w w' → (∀ wz, Only [] wz w → wz.heap.size ≤ B → Only [] wz w') →
      (Fresh B w0 fs.flatten → Fresh w0.heap.size w fp → Fresh B w' (fs ++ [fp]).flatten) → (v'.ownBlock = v.ownBlock ∨ v'.ownBlock = some w.heap.size) → K (a.put o.dst v') w') : o.wp P a w K Q := by
  obtain ⟨css, hown, hcl, hre⟩ := (hA.keep hK0).own
  have hcsl : cs.length = 1 * Rp.size α := by rw [Nat.one_mul]; exact Rp.len hy
  have hfl := hA.fl
  have hbytes : (l.length + 1) * bytes ≤ 140737488355328 := by
    have := Nat.mul_le_mul hlen hbb; omega
  refine wp_app w s x t ho B e i z (Rp.size α) bytes ht hi hz hsize hby hzs hsz v l.length css.flatten hs hown (some ⟨g, 0, none⟩) 1 c cs hx hcsl ?_ (by simp) hcs (by unfold maxLen; omega) hbytes (Nat.le_trans hB hK0.size) ?_
  · intro ad had j u hu
    injection had with had; subst had
    have hadd : (⟨g, 0, none⟩ : Addr).add j = ⟨g, j, none⟩ := by unfold Addr.add; split <;> simp_all
    rw [hadd]; exact hsrc j u hu
  intro v' w' hO hg hb
  have hW : Only v.ownBlock.toList w w' := (Only.refl _ _).grown hg (by intro k hk _; simp [hk])
  have hlt := (hA.keep hK0).lt
  have hap' : ∀ b ∈ fp, b ∉ v.ownBlock.toList := fun b hb hm => hap b hb (by simpa using hm)
  have hfs : ∀ b ∈ fs.flatten, b ∉ v.ownBlock.toList := fun b hb hm => hA.apart b (by simpa using hm) hb
  refine h v' w' ⟨⟨css ++ [cs], ?_, by simp [hcl], fun k h1 h2 h3 => ?_⟩, by simp [hfl], ?_⟩ hW ?_ ?_ hb
  · rw [List.length_append, List.flatten_append]; simpa using hO
  · by_cases hk : k < l.length
    · rw [List.getElem_append_left (by rw [hcl]; exact hk), List.getElem_append_left hk, List.getElem_append_left (by rw [hfl]; exact hk)]
      exact Rp.only (hre k (by omega) hk (by omega)) hW fun b hb => hfs b (List.mem_flatten.2 ⟨_, List.getElem_mem _, hb⟩)
    · have : k = l.length := by simp at h2; omega
      subst this
      rw [List.getElem_append_right (by rw [hcl]; omega), List.getElem_append_right (by omega), List.getElem_append_right (by rw [hfl]; omega)]
      simpa [hcl, hfl] using Rp.only hy hW hap'
  · intro g' hg' hm
    rw [List.flatten_append] at hm
    simp only [List.flatten_cons, List.flatten_nil, List.append_nil] at hm
    rcases hb with hb | hb
    · rw [hb] at hg'
      rcases List.mem_append.1 hm with hm | hm
      · exact hA.apart g' hg' hm
      · exact hap g' hm hg'
    · rw [hb] at hg'; injection hg' with hg'; subst hg'
      rcases List.mem_append.1 hm with hm | hm
      · exact absurd (hlt _ hm) (by omega)
      · exact absurd (Rp.lt hy _ hm) (by omega)
  · intro wz hz hzB
    refine hz.then_ hW fun b hm hb => ?_
    have hm' : v.ownBlock = some b := by simpa using hm
    have := (hA.ownlt b hm').1
    omega
  · intro hF hFy
    rw [List.flatten_append]
    simp only [List.flatten_cons, List.flatten_nil, List.append_nil]
    have hF' := (hF.keep hK0)
    refine ((Fresh.append hF' hFy hB fun b hb => hF.lt b hb)).only hW fun b hm => ?_
    rcases List.mem_append.1 hm with hm | hm
    · exact hfs b hm
    · exact hap' b hm
end

/-- the appended slice v reads as l; the blocks of G (of the call's own) are as in the world W; nothing older than w0 was written -/
def AccK {α : Type} [Rp α] (w0 : World) (B : Nat) (e : TypeId) (G : List Nat) (W wx : World) (v : Value) (l : List α) : Prop :=
  ∃ fs, Acc B e wx v l fs ∧ Fresh B wx fs.flatten ∧ Only [] w0 wx ∧ (∀ b ∈ G, wx.heap[b]? = W.heap[b]?) ∧ (∀ b ∈ G, b < wx.heap.size) ∧ (∀ b ∈ G, b ∉ v.ownBlock.toList)

section
variable {α : Type} [Rp α] {w0 W wx wy : World} {B : Nat} {e : TypeId} {G : List Nat} {v : Value} {l : List α}
theorem AccK.keep (h : AccK w0 B e G W wx v l) (ho : Only [] wx wy) : AccK w0 B e G W wy v l := by
  obtain ⟨fs, a, b, c, d, f, g⟩ := h
  exact ⟨fs, a.keep ho, b.keep ho, c.trans ho, fun x hx => (ho.block x (f x hx) (by simp)).trans (d x hx), fun x hx => Nat.lt_of_lt_of_le (f x hx) ho.size, g⟩
theorem AccK.only (h : AccK w0 B e G W wx v l) : Only [] w0 wx := by
  obtain ⟨fs, a, b, c, d, f, g⟩ := h
  exact c
theorem AccK.lt (h : AccK w0 B e G W wx v l) : ∀ b ∈ G, b < wx.heap.size := by
  obtain ⟨fs, a, b, c, d, f, g⟩ := h
  exact f
theorem AccK.frame (h : AccK w0 B e G W wx v l) {β : Type} [Rp β] {cs : List Value} {x : β} {fp : List Nat} (hr : Rp.rep W cs x fp) (hs : ∀ b ∈ fp, b ∈ G) : Rp.rep wx cs x fp := by
  obtain ⟨fs, a, b, c, d, f, g⟩ := h
  exact Rp.frame hr fun b hb => d b (hs b hb)
theorem AccK.cell (h : AccK w0 B e G W wx v l) {p : Addr} {u : Value} (hc : W.cell? p = some u) (hs : p.block ∈ G) : wx.cell? p = some u := by
  obtain ⟨fs, a, b, c, d, f, g⟩ := h
  exact (World.cell?_of_block (d _ hs)).trans hc
/-- more memory is held, from here on -/
theorem AccK.hold (h : AccK w0 B e G W wx v l) (ho : Only [] wx wy) {G' : List Nat} (hlt : ∀ b ∈ G', b < wy.heap.size) (hge : ∀ b ∈ G', wx.heap.size ≤ b) : AccK w0 B e (G ++ G') wy wy v l := by
  obtain ⟨fs, a, b, c, d, f, g⟩ := h
  refine ⟨fs, a.keep ho, b.keep ho, c.trans ho, fun _ _ => rfl, fun x hx => ?_, fun x hx hm => ?_⟩
  · rcases List.mem_append.1 hx with hx | hx
    · exact Nat.lt_of_lt_of_le (f x hx) ho.size
    · exact hlt x hx
  · rcases List.mem_append.1 hx with hx | hx
    · exact g x hx hm
    · have := (a.ownlt x (by simpa using hm)).2
      have := hge x hx; omega
/-- the held memory as it is now -/
theorem AccK.now (h : AccK w0 B e G W wx v l) : AccK w0 B e G wx wx v l := by
  obtain ⟨fs, a, b, c, d, f, g⟩ := h
  exact ⟨fs, a, b, c, fun _ _ => rfl, f, g⟩
theorem AccK.rd (h : AccK w0 B e G W wx v l) (hs : 0 < Rp.size α) : ∃ fp, Rd wx v l fp ∧ Fresh B wx fp := by
  obtain ⟨fs, a, b, c, d, f, g⟩ := h
  exact ⟨_, a.rd hs, a.fresh b⟩
theorem AccK.form (h : AccK w0 B e G W wx v l) : ∃ a c, v = .slice a l.length c := by
  obtain ⟨fs, a, b, c, d, f, g⟩ := h
  exact a.form
end

section
variable {P : Program} {α : Type} [Rp α] {ops : Array Oper} {rest : List Oper} {o : Oper} {a : Act} {w : World} {Q : Exit → Act → World → Prop} {K : Act → World → Prop}
/-- append(v, y), y one element whose memory was made behind wa -/
theorem wp_pushK (s x : Operand) (t : TypeId)
    (ho : o.op = .call { callee := .builtin .append, args := #[s, x], argTypes := #[t, t] })
    (e : TypeId) (i : TypeInfo) (z : Value) (bytes : Nat) (ht : P.underlying t = some (.slice e)) (hi : P.info? e = some i) (hz : i.zero = some z)
    (hsize : i.size = Rp.size α) (hby : i.bytes = bytes) (hzs : z.cells.size = Rp.size α) (hsz : 0 < Rp.size α) (hbb : bytes ≤ 65536)
    {w0 wa W : World} {B : Nat} {G : List Nat} {v : Value} {l : List α} (hs : a.eval s = v) (hA : AccK w0 B e G W wa v l) (hK0 : Only [] wa w) (hB0 : w0.heap.size ≤ B) (hB : B ≤ wa.heap.size)
    (g c : Nat) (cs : List Value) (y : α) (fp : List Nat) (hx : a.eval x = .slice (some ⟨g, 0, none⟩) 1 c) (hsrc : ∀ j u, cs[j]? = some u → w.cell? ⟨g, j, none⟩ = some u) (hcs : ∀ u ∈ cs, u.oneCell' = true)
    (hy : Rp.rep w cs y fp) (hFy : Fresh wa.heap.size w fp) (hlen : l.length + 1 ≤ 1073741824)
    (h : ∀ v' w', AccK w0 B e G W w' v' (l ++ [y]) → Only v.ownBlock.toList w w' → K (a.put o.dst v') w') : o.wp P a w K Q := by
  obtain ⟨fs, hA, hF, hO, hd, hl, hap⟩ := hA
  refine wp_push2 s x t ho B e i z bytes ht hi hz hsize hby hzs hsz hbb wa v l fs hs hA hK0 hB g c cs y fp hx hsrc hcs hy
    (fun b hb hv => by have := (hA.ownlt b hv).2; have := hFy.ge b hb; omega) hlen fun v' w' h1 h2 h3 h4 h5 => h v' w' ⟨_, h1, h4 hF hFy, h3 w0 (hO.trans hK0) hB0, fun b hb => ?_, fun b hb => ?_, fun b hb hm => ?_⟩ h2
  · have hlt := Nat.lt_of_lt_of_le (hl b hb) hK0.size
    rw [h2.block b hlt (hap b hb), hK0.block b (hl b hb) (by simp)]
    exact hd b hb
  · exact Nat.lt_of_lt_of_le (Nat.lt_of_lt_of_le (hl b hb) hK0.size) h2.size
  · have hm' : v'.ownBlock = some b := by simpa using hm
    rcases h5 with h5 | h5
    · exact hap b hb (by rw [← h5]; exact hm)
    · rw [h5] at hm'; injection hm' with hm'
      have := hl b hb; have := hK0.size; omega
theorem wpList_pushK (hgd : o.guard = none) (s x : Operand) (t : TypeId)
    (ho : o.op = .call { callee := .builtin .append, args := #[s, x], argTypes := #[t, t] })
    (e : TypeId) (i : TypeInfo) (z : Value) (bytes : Nat) (ht : P.underlying t = some (.slice e)) (hi : P.info? e = some i) (hz : i.zero = some z)
    (hsize : i.size = Rp.size α) (hby : i.bytes = bytes) (hzs : z.cells.size = Rp.size α) (hsz : 0 < Rp.size α) (hbb : bytes ≤ 65536)
    {w0 wa W : World} {B : Nat} {G : List Nat} {v : Value} {l : List α} (hs : a.eval s = v) (hA : AccK w0 B e G W wa v l) (hK0 : Only [] wa w) (hB0 : w0.heap.size ≤ B) (hB : B ≤ wa.heap.size)
    (g c : Nat) (cs : List Value) (y : α) (fp : List Nat) (hx : a.eval x = .slice (some ⟨g, 0, none⟩) 1 c) (hsrc : ∀ j u, cs[j]? = some u → w.cell? ⟨g, j, none⟩ = some u) (hcs : ∀ u ∈ cs, u.oneCell' = true)
    (hy : Rp.rep w cs y fp) (hFy : Fresh wa.heap.size w fp) (hlen : l.length + 1 ≤ 1073741824)
    (h : ∀ v' w', AccK w0 B e G W w' v' (l ++ [y]) → Only v.ownBlock.toList w w' → wpList P ops Q rest (a.put o.dst v') w') : wpList P ops Q (o :: rest) a w :=
  wpList_plain hgd fun _ hK => wp_pushK s x t ho e i z bytes ht hi hz hsize hby hzs hsz hbb hs hA hK0 hB0 hB g c cs y fp hx hsrc hcs hy hFy hlen fun v' w' h1 h2 => hK _ _ (h v' w' h1 h2)
theorem step_pushK {E : Prop} (hgd : o.guard = none) (s x : Operand) (t : TypeId)
    (ho : o.op = .call { callee := .builtin .append, args := #[s, x], argTypes := #[t, t] })
    (e : TypeId) (i : TypeInfo) (z : Value) (bytes : Nat) (ht : P.underlying t = some (.slice e)) (hi : P.info? e = some i) (hz : i.zero = some z)
    (hsize : i.size = Rp.size α) (hby : i.bytes = bytes) (hzs : z.cells.size = Rp.size α) (hsz : 0 < Rp.size α) (hbb : bytes ≤ 65536)
    {w0 wa W : World} {B : Nat} {G : List Nat} {v : Value} {l : List α} (hs : a.eval s = v) (hA : AccK w0 B e G W wa v l) (hK0 : Only [] wa w) (hB0 : w0.heap.size ≤ B) (hB : B ≤ wa.heap.size)
    (g c : Nat) (cs : List Value) (y : α) (fp : List Nat) (hx : a.eval x = .slice (some ⟨g, 0, none⟩) 1 c) (hsrc : ∀ j u, cs[j]? = some u → w.cell? ⟨g, j, none⟩ = some u) (hcs : ∀ u ∈ cs, u.oneCell' = true)
    (hy : Rp.rep w cs y fp) (hFy : Fresh wa.heap.size w fp) (hlen : l.length + 1 ≤ 1073741824)
    (h : ∀ v' w', AccK w0 B e G W w' v' (l ++ [y]) → Only v.ownBlock.toList w w' → K (a.put o.dst v') w') : if Region.wanted o (yielded ops a.tmps) = true then Oper.wp P o a w K Q else E := by
  rw [if_pos (by simp [Region.wanted, hgd])]
  exact wp_pushK s x t ho e i z bytes ht hi hz hsize hby hzs hsz hbb hs hA hK0 hB0 hB g c cs y fp hx hsrc hcs hy hFy hlen h
end
end Go.Proofs.Ytpfmkjcngknecaa
