/- Laws on append and make over rows of the call's own, whatever the source (nil, empty or not). A slice that a loop appends to: its value, the elements so far, the memory they reach. A slice that a loop appends to, beside other memory of the call's own that stays as it is. Small values in memory: the empty slice, a literal of one element, a number; slices.Clone. Plain facts on permutations as lists of numbers. Plain facts on permutations: composition, inverse, the group that a list generates. Plain facts on stabilizer chains. -/
import Derived.Test.YtbediokigibdlaaRowCosetRepresentativesG1
import Derived.Maps.AppendAt
import Derived.Lib.SlBytesConst
namespace Go.Proofs.Ytbediokigibdlaa
open Go.RowKit
set_option maxRecDepth 10000

section
variable {P : Program} (w : World)
theorem run_app_none (base : Nat) (t ty e : TypeId) (i : TypeInfo) (size : Nat) (ht : P.underlying t = some (.slice e)) (hi : P.info? e = some i)
    (v : Value) (n : Nat) (xs : List Value) (hown : w.ownsRow base e size v n xs) (c : Nat) : (Builtin.append_ #[t, t] ty #[v, .slice none 0 c]).run P w = .ok v w := by
  rcases hown.2 with ⟨rfl, rfl⟩ | ⟨g, cap, cur, rfl, _, _, hnc, _⟩
  · simp [Builtin.append_, run_underlying ht, sizeOf, typeInfo, hi, Builtin.lenOf, Builtin.firstCells]
  · simp [Builtin.append_, run_underlying ht, sizeOf, typeInfo, hi, Builtin.lenOf, Builtin.firstCells, hnc, storeCells]

theorem run_app (base : Nat) (t ty e : TypeId) (i : TypeInfo) (z : Value) (size bytes : Nat) (ht : P.underlying t = some (.slice e)) (hi : P.info? e = some i) (hz : i.zero = some z)
    (hsize : i.size = size) (hby : i.bytes = bytes) (hzs : z.cells.size = size) (hsz : 0 < size)
    (v : Value) (n : Nat) (xs : List Value) (hown : w.ownsRow base e size v n xs)
    (A : Option Addr) (m c : Nat) (news : List Value) (hl : news.length = m * size) (hsrc : ∀ ad, A = some ad → ∀ j u, news[j]? = some u → w.cell? (ad.add j) = some u) (hA : A = none → m = 0) (h1 : ∀ u ∈ news, u.oneCell' = true)
    (h63 : n + m ≤ maxLen) (hbytes : (n + m) * bytes ≤ 140737488355328) (hbase : base ≤ w.heap.size) :
    ∃ v' w', (Builtin.append_ #[t, t] ty #[v, .slice A m c]).run P w = .ok v' w' ∧ w'.ownsRow base e size v' (n + m) (xs ++ news) ∧ w.grownBy w' v.ownBlock ∧
      (v'.ownBlock = v.ownBlock ∨ v'.ownBlock = some w.heap.size) := by
  rcases A with _ | ad
  · have hm := hA rfl
    subst hm
    have hn : news = [] := List.eq_nil_of_length_eq_zero (by simpa using hl)
    subst hn
    exact ⟨v, w, run_app_none w base t ty e i size ht hi v n xs hown c, by simpa using hown, ⟨rfl, rfl, rfl, Nat.le_refl _, fun _ _ _ => rfl⟩, .inl rfl⟩
  · obtain ⟨v', w', hrun, h2, h3, _, h5⟩ := run_append_own_at (P := P) w base t ty e i z size bytes ht hi hz hsize hby hzs hsz v n xs hown ad m c news hl (hsrc ad rfl) h1 h63 hbytes hbase
    exact ⟨v', w', hrun, h2, h3, h5⟩

theorem wp_app {o : Oper} {a : Act} {K : Act → World → Prop} {Q : Exit → Act → World → Prop} (s x : Operand) (t : TypeId)
    (ho : o.op = .call { callee := .builtin .append, args := #[s, x], argTypes := #[t, t] })
    (base : Nat) (e : TypeId) (i : TypeInfo) (z : Value) (size bytes : Nat) (ht : P.underlying t = some (.slice e)) (hi : P.info? e = some i) (hz : i.zero = some z)
    (hsize : i.size = size) (hby : i.bytes = bytes) (hzs : z.cells.size = size) (hsz : 0 < size)
    (v : Value) (n : Nat) (xs : List Value) (hs : a.eval s = v) (hown : w.ownsRow base e size v n xs)
    (A : Option Addr) (m c : Nat) (news : List Value) (hx : a.eval x = .slice A m c) (hl : news.length = m * size) (hsrc : ∀ ad, A = some ad → ∀ j u, news[j]? = some u → w.cell? (ad.add j) = some u) (hA : A = none → m = 0) (h1 : ∀ u ∈ news, u.oneCell' = true)
    (h63 : n + m ≤ maxLen) (hbytes : (n + m) * bytes ≤ 140737488355328) (hbase : base ≤ w.heap.size)
    (h : ∀ v' w', w'.ownsRow base e size v' (n + m) (xs ++ news) → w.grownBy w' v.ownBlock → (v'.ownBlock = v.ownBlock ∨ v'.ownBlock = some w.heap.size) → K (a.put o.dst v') w') : o.wp P a w K Q := by
  obtain ⟨v', w', hrun, h2, h3, h4⟩ := run_app (P := P) w base t o.type e i z size bytes ht hi hz hsize hby hzs hsz v n xs hown A m c news hl hsrc hA h1 h63 hbytes hbase
  unfold Oper.wp execOp
  simp only [ho, resolve, invoke, builtin, Sem.run_bind, Sem.run_pure, Result.andThen_ok, List.map_toArray, List.map_cons, List.map_nil, hs, hx, hrun]
  exact h v' w' h2 h3 h4

theorem wpList_app {ops : Array Oper} {rest : List Oper} {o : Oper} {a : Act} {Q : Exit → Act → World → Prop} (hgd : o.guard = none) (s x : Operand) (t : TypeId)
    (ho : o.op = .call { callee := .builtin .append, args := #[s, x], argTypes := #[t, t] })
    (base : Nat) (e : TypeId) (i : TypeInfo) (z : Value) (size bytes : Nat) (ht : P.underlying t = some (.slice e)) (hi : P.info? e = some i) (hz : i.zero = some z)
    (hsize : i.size = size) (hby : i.bytes = bytes) (hzs : z.cells.size = size) (hsz : 0 < size)
    (v : Value) (n : Nat) (xs : List Value) (hs : a.eval s = v) (hown : w.ownsRow base e size v n xs)
    (A : Option Addr) (m c : Nat) (news : List Value) (hx : a.eval x = .slice A m c) (hl : news.length = m * size) (hsrc : ∀ ad, A = some ad → ∀ j u, news[j]? = some u → w.cell? (ad.add j) = some u) (hA : A = none → m = 0) (h1 : ∀ u ∈ news, u.oneCell' = true)
    (h63 : n + m ≤ maxLen) (hbytes : (n + m) * bytes ≤ 140737488355328) (hbase : base ≤ w.heap.size)
    (h : ∀ v' w', w'.ownsRow base e size v' (n + m) (xs ++ news) → w.grownBy w' v.ownBlock → (v'.ownBlock = v.ownBlock ∨ v'.ownBlock = some w.heap.size) → wpList P ops Q rest (a.put o.dst v') w') : wpList P ops Q (o :: rest) a w :=
  wpList_plain hgd fun _ hK => wp_app w s x t ho base e i z size bytes ht hi hz hsize hby hzs hsz v n xs hs hown A m c news hx hl hsrc hA h1 h63 hbytes hbase fun v' w' h2 h3 h4 => hK _ _ (h v' w' h2 h3 h4)
end

/-- the source of an append: a slice of int64s -/
theorem ints_src {w : World} {a : Option Addr} {cap : Nat} {l : List Int} {fp : List Nat} (h : IntsA w a cap l fp) :
    (∀ ad, a = some ad → ∀ j u, (l.map (Value.int .i64))[j]? = some u → w.cell? (ad.add j) = some u) ∧ (a = none → l.length = 0) := by
  constructor
  · intro ad ha j u hu
    have hj : j < l.length := by
      have := (List.getElem?_eq_some_iff.1 hu).1; simpa using this
    obtain ⟨b, off, ha', -, hc⟩ := h.at_ j hj
    rw [ha] at ha'; injection ha' with ha'; subst ha'
    have hadd : (⟨b, off, none⟩ : Addr).add j = ⟨b, off + j, none⟩ := by unfold Addr.add; split <;> simp_all
    rw [hadd, hc]
    simpa [hj] using hu
  · intro ha
    rcases Nat.eq_zero_or_pos l.length with h0 | h0
    · exact h0
    · obtain ⟨b, off, ha', -, -⟩ := h.at_ 0 h0
      rw [ha] at ha'; cases ha'
theorem ints_one (l : List Int) : ∀ u ∈ l.map (Value.int .i64), u.oneCell' = true := by
  intro u hu
  obtain ⟨x, -, rfl⟩ := List.mem_map.1 hu
  rfl

set_option maxHeartbeats 400000 in
theorem copyInts_rd (v : Value) (l : List Int) (fp : List Nat) (w : World) (h : Rd w v l fp) (hl : l.length ≤ 1073741824) :
    Calls Try.prog 84 #[v] w fun e w' => ∃ v fp', e = .returned v ∧ Rd w' v l fp' ∧ Fresh w.heap.size w' fp' ∧ Only [] w w' := by
  obtain ⟨a, cap, rfl, hI⟩ := h.ints
  obtain ⟨i0, hi, hz0, hz1, hz2⟩ := info_parts Try.info2
  obtain ⟨q1, q2⟩ := ints_src (hI.keep ((Only.refl _ w).alloc (.cells #[] 2)))
  go_enter Try.func84, Try.ntmps84
  go_wp2_with (at_builtin; refine wpList_app _ rfl _ _ 36 rfl w.heap.size 2 i0 _ 1 8 Try.underlying36 hi hz0 hz1 hz2 rfl (by omega) (.slice (some ⟨w.heap.size, 0, none⟩) 0 0) 0 [] rfl (World.ownsRow_made w #[] 0 (Nat.le_refl _) (by unfold maxLen; omega) rfl) a l.length cap (l.map (Value.int .i64)) rfl (by simp) q1 q2 (ints_one l) (by unfold maxLen; omega) (by omega) (by simp) ?_; intro v1 w1 hO hg hb)
  rw [Nat.zero_add, List.nil_append] at hO
  obtain ⟨a', cap', hv, -, hI', hF⟩ := own_ints hO hI.wf
  have Hv := Lib.hid hv
  have hK : Only [] w w1 := ((Only.refl _ _).alloc _).grown hg (by simp [Value.ownBlock])
  clear hO hg hb hv q1 q2
  go_wp2
  go_ret
  refine ⟨_, _, rfl, ?_, hF, hK⟩
  have hr := hI'.rd
  rw [← Hv.out] at hr; exact hr

/-- the index of the first element that a function likes, -1 if there is none -/
def idxF {α : Type} (pr : α → Bool) (l : List α) : Int := match l.findIdx? pr with
  | some i => i
  | none => -1
theorem idxF_some {α : Type} {pr : α → Bool} {l : List α} {j : Nat} (hj : j < l.length) (h : ∀ x ∈ l.take j, pr x = false) (hp : pr l[j] = true) : idxF pr l = j := by
  have : l.findIdx? pr = some j := by
    rw [List.findIdx?_eq_some_iff_getElem]
    refine ⟨hj, hp, fun i hi => ?_⟩
    have := h l[i] (by rw [List.mem_take_iff_getElem]; exact ⟨i, by omega, rfl⟩)
    simp [this]
  unfold idxF; rw [this]
theorem idxF_none {α : Type} {pr : α → Bool} {l : List α} (h : ∀ x ∈ l, pr x = false) : idxF pr l = -1 := by
  have : l.findIdx? pr = none := by
    rw [List.findIdx?_eq_none_iff]; intro x hx; simp [h x hx]
  unfold idxF; rw [this]
theorem idxF_ge {α : Type} {pr : α → Bool} {l : List α} : decide (0 ≤ idxF pr l) = l.any pr := by
  unfold idxF
  cases h : l.findIdx? pr with
  | some i =>
    have hh := (List.findIdx?_eq_some_iff_getElem.1 h)
    obtain ⟨hi, hp, -⟩ := hh
    have : l.any pr = true := List.any_eq_true.2 ⟨_, List.getElem_mem hi, hp⟩
    rw [this]; simp
  | none =>
    rw [List.findIdx?_eq_none_iff] at h
    have : l.any pr = false := by rw [List.any_eq_false]; intro x hx; simp [h x hx]
    rw [this]; simp

end Go.Proofs.Ytbediokigibdlaa


namespace Go.Proofs.Ytbediokigibdlaa
open Go.RowKit
set_option maxRecDepth 10000

/-- v is a slice of the call's own (its block, if any, from B on); its elements read as l, what they reach is fs; the slice's own block is none of that -/
structure Acc {α : Type} [Rp α] (B : Nat) (e : TypeId) (w : World) (v : Value) (l : List α) (fs : List (List Nat)) : Prop where
  own : ∃ css : List (List Value), w.ownsRow B e (Rp.size α) v l.length css.flatten ∧ css.length = l.length ∧ ∀ k (h1 : k < css.length) (h2 : k < l.length) (h3 : k < fs.length), Rp.rep w css[k] l[k] fs[k]
  fl : fs.length = l.length
  apart : ∀ g, v.ownBlock = some g → g ∉ fs.flatten

section
variable {α : Type} [Rp α] {w w' : World} {B : Nat} {e : TypeId} {v : Value} {l : List α} {fs : List (List Nat)}
theorem Acc.nil (w : World) (B : Nat) (e : TypeId) : Acc B e w (.slice none 0 0) ([] : List α) [] :=
  ⟨⟨[], World.ownsRow_nil w B e _, rfl, by simp⟩, rfl, by simp⟩
theorem Acc.made (w : World) (B : Nat) (e : TypeId) {g : Nat} (hg : g = w.heap.size) (hB : B ≤ g) : Acc B e (w.alloc (.cells #[] e)) (.slice (some ⟨g, 0, none⟩) 0 0) ([] : List α) [] := by
  subst hg
  exact ⟨⟨[], World.ownsRow_made w #[] 0 hB (by unfold maxLen; omega) (by simp), rfl, by simp⟩, rfl, by simp⟩
theorem Acc.lt (h : Acc B e w v l fs) : ∀ b ∈ fs.flatten, b < w.heap.size := by
  intro b hb
  obtain ⟨f, hf, hb⟩ := List.mem_flatten.1 hb
  obtain ⟨k, hk, rfl⟩ := List.getElem_of_mem hf
  obtain ⟨css, -, hcl, hr⟩ := h.own
  have := h.fl
  exact Rp.lt (hr k (by omega) (by omega) hk) b hb
theorem Acc.ownlt (h : Acc B e w v l fs) : ∀ g, v.ownBlock = some g → B ≤ g ∧ g < w.heap.size := by
  obtain ⟨css, ho, -, -⟩ := h.own
  exact ho.lt
theorem Acc.only {fp : List Nat} (h : Acc B e w v l fs) (ho : Only fp w w') (hd : ∀ b ∈ fs.flatten, b ∉ fp) (hv : ∀ g, v.ownBlock = some g → g ∉ fp) : Acc B e w' v l fs := by
  obtain ⟨css, hr, hcl, hre⟩ := h.own
  refine ⟨⟨css, ?_, hcl, fun k h1 h2 h3 => Rp.only (hre k h1 h2 h3) ho fun b hb hm => hd b (List.mem_flatten.2 ⟨_, List.getElem_mem _, hb⟩) hm⟩, h.fl, h.apart⟩
  refine ⟨hr.1, ?_⟩
  rcases hr.2 with ⟨rfl, h0⟩ | ⟨g, cp, cur, rfl, hb, hg, hrest⟩
  · exact .inl ⟨rfl, h0⟩
  · exact .inr ⟨g, cp, cur, rfl, hb, by rw [ho.block g (Array.getElem?_eq_some_iff.1 hg).1 (hv g rfl)]; exact hg, hrest⟩
theorem Acc.keep (h : Acc B e w v l fs) (ho : Only [] w w') : Acc B e w' v l fs := h.only ho (by simp) (by simp)
theorem Acc.form (h : Acc B e w v l fs) : ∃ a c, v = .slice a l.length c := by
  obtain ⟨css, ho, -, -⟩ := h.own
  rcases ho.2 with ⟨rfl, h0⟩ | ⟨g, cp, cur, rfl, -⟩
  · exact ⟨none, 0, by rw [h0]⟩
  · exact ⟨_, _, rfl⟩
theorem Acc.rd (h : Acc B e w v l fs) (hs : 0 < Rp.size α) : Rd w v l (v.ownBlock.toList ++ fs.flatten) := by
  obtain ⟨css, ho, hcl, hr⟩ := h.own
  obtain ⟨a, c, hv, -, hI⟩ := own_seq (xs := l) (fps := fs) ho hs hcl h.fl hr
  have := hI.rd
  rw [← hv] at this; exact this
theorem Acc.fresh (h : Acc B e w v l fs) (hf : Fresh B w fs.flatten) : Fresh B w (v.ownBlock.toList ++ fs.flatten) := by
  obtain ⟨css, ho, -, -⟩ := h.own
  have h1 := own_fresh ho
  refine ⟨List.nodup_append.2 ⟨h1.nd, hf.nd, fun a ha b hb hab => ?_⟩, fun b hb => ?_, h1.own.append hf.own⟩
  · subst hab
    have : v.ownBlock = some a := by simpa using ha
    exact h.apart a this hb
  · rcases List.mem_append.1 hb with hb | hb
    · exact h1.ge b hb
    · exact hf.ge b hb
end

/-- the cells of a literal -/
theorem lit_src (w : World) (cs : List Value) (e : TypeId) {g : Nat} (hg : g = w.heap.size) : ∀ j u, cs[j]? = some u → (w.alloc (.cells cs.toArray e)).cell? ⟨g, j, none⟩ = some u := by
  subst hg
  intro j u hu
  rw [cell_of_row _ _ _ _ _ _ (heap_alloc_new w _)]
  simpa using hu

section
variable {P : Program} {α : Type} [Rp α] {ops : Array Oper} {rest : List Oper} {o : Oper} {a : Act} {w : World} {Q : Exit → Act → World → Prop} {K : Act → World → Prop}
/-- append(v, y), y one element -/
theorem wp_push (s x : Operand) (t : TypeId)
    (ho : o.op = .call { callee := .builtin .append, args := #[s, x], argTypes := #[t, t] })
    (B : Nat) (e : TypeId) (i : TypeInfo) (z : Value) (bytes : Nat) (ht : P.underlying t = some (.slice e)) (hi : P.info? e = some i) (hz : i.zero = some z)
    (hsize : i.size = Rp.size α) (hby : i.bytes = bytes) (hzs : z.cells.size = Rp.size α) (hsz : 0 < Rp.size α) (hbb : bytes ≤ 65536)
    (w0 : World) (v : Value) (l : List α) (fs : List (List Nat)) (hs : a.eval s = v) (hA : Acc B e w0 v l fs) (hK0 : Only [] w0 w) (hB : B ≤ w0.heap.size)
    (g c : Nat) (cs : List Value) (y : α) (fp : List Nat) (hx : a.eval x = .slice (some ⟨g, 0, none⟩) 1 c) (hsrc : ∀ j u, cs[j]? = some u → w.cell? ⟨g, j, none⟩ = some u) (hcs : ∀ u ∈ cs, u.oneCell' = true)
    (hy : Rp.rep w cs y fp) (hap : ∀ b ∈ fp, v.ownBlock ≠ some b) (hlen : l.length + 1 ≤ 1073741824)
    (h : ∀ v' w', Acc B e w' v' (l ++ [y]) (fs ++ [fp]) → Only v.ownBlock.toList w w' → (∀ wz, Only [] wz w → wz.heap.size ≤ B → Only [] wz w') →
      (Fresh B w0 fs.flatten → Fresh w0.heap.size w fp → Fresh B w' (fs ++ [fp]).flatten) → K (a.put o.dst v') w') : o.wp P a w K Q := by
  obtain ⟨css, hown, hcl, hre⟩ := (hA.keep hK0).own
  have hcsl : cs.length = 1 * Rp.size α := by rw [Nat.one_mul]; exact Rp.len hy
  have hfl := hA.fl
  have hbytes : (l.length + 1) * bytes ≤ 140737488355328 := by
    have := Nat.mul_le_mul hlen hbb; omega
  refine wp_app w s x t ho B e i z (Rp.size α) bytes ht hi hz hsize hby hzs hsz v l.length css.flatten hs hown (some ⟨g, 0, none⟩) 1 c cs hx hcsl ?_ (by simp) hcs (by unfold maxLen; omega) hbytes (Nat.le_trans hB hK0.size) ?_
  · intro ad had j u hu
    injection had with had; subst had
    have hadd : (⟨g, 0, none⟩ : Addr).add j = ⟨g, j, none⟩ := by unfold Addr.add; split <;> simp_all
    rw [hadd]; exact hsrc j u hu
  intro v' w' hO hg hb
  have hW : Only v.ownBlock.toList w w' := (Only.refl _ _).grown hg (by intro k hk _; simp [hk])
  have hlt := (hA.keep hK0).lt
  have hap' : ∀ b ∈ fp, b ∉ v.ownBlock.toList := fun b hb hm => hap b hb (by simpa using hm)
  have hfs : ∀ b ∈ fs.flatten, b ∉ v.ownBlock.toList := fun b hb hm => hA.apart b (by simpa using hm) hb
  refine h v' w' ⟨⟨css ++ [cs], ?_, by simp [hcl], fun k h1 h2 h3 => ?_⟩, by simp [hfl], ?_⟩ hW ?_ ?_
  · rw [List.length_append, List.flatten_append]; simpa using hO
  · by_cases hk : k < l.length
    · rw [List.getElem_append_left (by rw [hcl]; exact hk), List.getElem_append_left hk, List.getElem_append_left (by rw [hfl]; exact hk)]
      exact Rp.only (hre k (by omega) hk (by omega)) hW fun b hb => hfs b (List.mem_flatten.2 ⟨_, List.getElem_mem _, hb⟩)
    · have : k = l.length := by simp at h2; omega
      subst this
      rw [List.getElem_append_right (by rw [hcl]; omega), List.getElem_append_right (by omega), List.getElem_append_right (by rw [hfl]; omega)]
      simpa [hcl, hfl] using Rp.only hy hW hap'
  · intro g' hg' hm
    rw [List.flatten_append] at hm
    simp only [List.flatten_cons, List.flatten_nil, List.append_nil] at hm
    rcases hb with hb | hb
    · rw [hb] at hg'
      rcases List.mem_append.1 hm with hm | hm
      · exact hA.apart g' hg' hm
      · exact hap g' hm hg'
    · rw [hb] at hg'; injection hg' with hg'; subst hg'
      rcases List.mem_append.1 hm with hm | hm
      · exact absurd (hlt _ hm) (by omega)
      · exact absurd (Rp.lt hy _ hm) (by omega)
  · intro wz hz hzB
    refine hz.then_ hW fun b hm hb => ?_
    have hm' : v.ownBlock = some b := by simpa using hm
    have := (hA.ownlt b hm').1
    omega
  · intro hF hFy
    rw [List.flatten_append]
    simp only [List.flatten_cons, List.flatten_nil, List.append_nil]
    have hF' := (hF.keep hK0)
    refine ((Fresh.append hF' hFy hB fun b hb => hF.lt b hb)).only hW fun b hm => ?_
    rcases List.mem_append.1 hm with hm | hm
    · exact hfs b hm
    · exact hap' b hm
/-- the same where y was made behind w0 -/
theorem wp_pushF (s x : Operand) (t : TypeId)
    (ho : o.op = .call { callee := .builtin .append, args := #[s, x], argTypes := #[t, t] })
    (B : Nat) (e : TypeId) (i : TypeInfo) (z : Value) (bytes : Nat) (ht : P.underlying t = some (.slice e)) (hi : P.info? e = some i) (hz : i.zero = some z)
    (hsize : i.size = Rp.size α) (hby : i.bytes = bytes) (hzs : z.cells.size = Rp.size α) (hsz : 0 < Rp.size α) (hbb : bytes ≤ 65536)
    (w0 : World) (v : Value) (l : List α) (fs : List (List Nat)) (hs : a.eval s = v) (hA : Acc B e w0 v l fs) (hF : Fresh B w0 fs.flatten) (hK0 : Only [] w0 w) (hB : B ≤ w0.heap.size)
    (g c : Nat) (cs : List Value) (y : α) (fp : List Nat) (hx : a.eval x = .slice (some ⟨g, 0, none⟩) 1 c) (hsrc : ∀ j u, cs[j]? = some u → w.cell? ⟨g, j, none⟩ = some u) (hcs : ∀ u ∈ cs, u.oneCell' = true)
    (hy : Rp.rep w cs y fp) (hFy : Fresh w0.heap.size w fp) (hlen : l.length + 1 ≤ 1073741824) (wz : World) (hz0 : Only [] wz w) (hzB : wz.heap.size ≤ B)
    (h : ∀ v' w', Acc B e w' v' (l ++ [y]) (fs ++ [fp]) → Fresh B w' (fs ++ [fp]).flatten → Only [] wz w' → Only v.ownBlock.toList w w' → K (a.put o.dst v') w') : o.wp P a w K Q :=
  wp_push s x t ho B e i z bytes ht hi hz hsize hby hzs hsz hbb w0 v l fs hs hA hK0 hB g c cs y fp hx hsrc hcs hy
    (fun b hb hv => by have := (hA.ownlt b hv).2; have := hFy.ge b hb; omega) hlen fun v' w' h1 h2 h3 h4 => h v' w' h1 (h4 hF hFy) (h3 wz hz0 hzB) h2
theorem wpList_push (hgd : o.guard = none) (s x : Operand) (t : TypeId)
    (ho : o.op = .call { callee := .builtin .append, args := #[s, x], argTypes := #[t, t] })
    (B : Nat) (e : TypeId) (i : TypeInfo) (z : Value) (bytes : Nat) (ht : P.underlying t = some (.slice e)) (hi : P.info? e = some i) (hz : i.zero = some z)
    (hsize : i.size = Rp.size α) (hby : i.bytes = bytes) (hzs : z.cells.size = Rp.size α) (hsz : 0 < Rp.size α) (hbb : bytes ≤ 65536)
    (w0 : World) (v : Value) (l : List α) (fs : List (List Nat)) (hs : a.eval s = v) (hA : Acc B e w0 v l fs) (hK0 : Only [] w0 w) (hB : B ≤ w0.heap.size)
    (g c : Nat) (cs : List Value) (y : α) (fp : List Nat) (hx : a.eval x = .slice (some ⟨g, 0, none⟩) 1 c) (hsrc : ∀ j u, cs[j]? = some u → w.cell? ⟨g, j, none⟩ = some u) (hcs : ∀ u ∈ cs, u.oneCell' = true)
    (hy : Rp.rep w cs y fp) (hap : ∀ b ∈ fp, v.ownBlock ≠ some b) (hlen : l.length + 1 ≤ 1073741824)
    (h : ∀ v' w', Acc B e w' v' (l ++ [y]) (fs ++ [fp]) → Only v.ownBlock.toList w w' → (∀ wz, Only [] wz w → wz.heap.size ≤ B → Only [] wz w') →
      (Fresh B w0 fs.flatten → Fresh w0.heap.size w fp → Fresh B w' (fs ++ [fp]).flatten) → wpList P ops Q rest (a.put o.dst v') w') : wpList P ops Q (o :: rest) a w :=
  wpList_plain hgd fun _ hK => wp_push s x t ho B e i z bytes ht hi hz hsize hby hzs hsz hbb w0 v l fs hs hA hK0 hB g c cs y fp hx hsrc hcs hy hap hlen fun v' w' h1 h2 h3 h4 => hK _ _ (h v' w' h1 h2 h3 h4)
theorem wpList_pushF (hgd : o.guard = none) (s x : Operand) (t : TypeId)
    (ho : o.op = .call { callee := .builtin .append, args := #[s, x], argTypes := #[t, t] })
    (B : Nat) (e : TypeId) (i : TypeInfo) (z : Value) (bytes : Nat) (ht : P.underlying t = some (.slice e)) (hi : P.info? e = some i) (hz : i.zero = some z)
    (hsize : i.size = Rp.size α) (hby : i.bytes = bytes) (hzs : z.cells.size = Rp.size α) (hsz : 0 < Rp.size α) (hbb : bytes ≤ 65536)
    (w0 : World) (v : Value) (l : List α) (fs : List (List Nat)) (hs : a.eval s = v) (hA : Acc B e w0 v l fs) (hF : Fresh B w0 fs.flatten) (hK0 : Only [] w0 w) (hB : B ≤ w0.heap.size)
    (g c : Nat) (cs : List Value) (y : α) (fp : List Nat) (hx : a.eval x = .slice (some ⟨g, 0, none⟩) 1 c) (hsrc : ∀ j u, cs[j]? = some u → w.cell? ⟨g, j, none⟩ = some u) (hcs : ∀ u ∈ cs, u.oneCell' = true)
    (hy : Rp.rep w cs y fp) (hFy : Fresh w0.heap.size w fp) (hlen : l.length + 1 ≤ 1073741824) (wz : World) (hz0 : Only [] wz w) (hzB : wz.heap.size ≤ B)
    (h : ∀ v' w', Acc B e w' v' (l ++ [y]) (fs ++ [fp]) → Fresh B w' (fs ++ [fp]).flatten → Only [] wz w' → Only v.ownBlock.toList w w' → wpList P ops Q rest (a.put o.dst v') w') : wpList P ops Q (o :: rest) a w :=
  wpList_plain hgd fun _ hK => wp_pushF s x t ho B e i z bytes ht hi hz hsize hby hzs hsz hbb w0 v l fs hs hA hF hK0 hB g c cs y fp hx hsrc hcs hy hFy hlen wz hz0 hzB fun v' w' h1 h2 h3 h4 => hK _ _ (h v' w' h1 h2 h3 h4)
end
end Go.Proofs.Ytbediokigibdlaa

namespace Go.Proofs.Ytbediokigibdlaa
open Go.RowKit
set_option maxRecDepth 10000

section
variable {P : Program} {α : Type} [Rp α] {ops : Array Oper} {rest : List Oper} {o : Oper} {a : Act} {w : World} {Q : Exit → Act → World → Prop} {K : Act → World → Prop}
/-- append(v, y), y one element -/
theorem wp_push2 (s x : Operand) (t : TypeId)
    (ho : o.op = .call { callee := .builtin .append, args := #[s, x], argTypes := #[t, t] })
    (B : Nat) (e : TypeId) (i : TypeInfo) (z : Value) (bytes : Nat) (ht : P.underlying t = some (.slice e)) (hi : P.info? e = some i) (hz : i.zero = some z)
    (hsize : i.size = Rp.size α) (hby : i.bytes = bytes) (hzs : z.cells.size = Rp.size α) (hsz : 0 < Rp.size α) (hbb : bytes ≤ 65536)
    (w0 : World) (v : Value) (l : List α) (fs : List (List Nat)) (hs : a.eval s = v) (hA : Acc B e w0 v l fs) (hK0 : Only [] w0 w) (hB : B ≤ w0.heap.size)
    (g c : Nat) (cs : List Value) (y : α) (fp : List Nat) (hx : a.eval x = .slice (some ⟨g, 0, none⟩) 1 c) (hsrc : ∀ j u, cs[j]? = some u → w.cell? ⟨g, j, none⟩ = some u) (hcs : ∀ u ∈ cs, u.oneCell' = true)
    (hy : Rp.rep w cs y fp) (hap : ∀ b ∈ fp, v.ownBlock ≠ some b) (hlen : l.length + 1 ≤ 1073741824)
    (h : ∀ v' w', Acc B e w' v' (l ++ [y]) (fs ++ [fp]) → Only v.ownBlock.toList w w' → (∀ wz, Only [] wz w → wz.heap.size ≤ B → Only [] wz w') →
      (Fresh B w0 fs.flatten → Fresh w0.heap.size w fp → Fresh B w' (fs ++ [fp]).flatten) → (v'.ownBlock = v.ownBlock ∨ v'.ownBlock = some w.heap.size) → K (a.put o.dst v') w') : o.wp P a w K Q := by
  obtain ⟨css, hown, hcl, hre⟩ := (hA.keep hK0).own
  have hcsl : cs.length = 1 * Rp.size α := by rw [Nat.one_mul]; exact Rp.len hy
  have hfl := hA.fl
  have hbytes : (l.length + 1) * bytes ≤ 140737488355328 := by
    have := Nat.mul_le_mul hlen hbb; omega
  refine wp_app w s x t ho B e i z (Rp.size α) bytes ht hi hz hsize hby hzs hsz v l.length css.flatten hs hown (some ⟨g, 0, none⟩) 1 c cs hx hcsl ?_ (by simp) hcs (by unfold maxLen; omega) hbytes (Nat.le_trans hB hK0.size) ?_
  · intro ad had j u hu
    injection had with had; subst had
    have hadd : (⟨g, 0, none⟩ : Addr).add j = ⟨g, j, none⟩ := by unfold Addr.add; split <;> simp_all
    rw [hadd]; exact hsrc j u hu
  intro v' w' hO hg hb
  have hW : Only v.ownBlock.toList w w' := (Only.refl _ _).grown hg (by intro k hk _; simp [hk])
  have hlt := (hA.keep hK0).lt
  have hap' : ∀ b ∈ fp, b ∉ v.ownBlock.toList := fun b hb hm => hap b hb (by simpa using hm)
  have hfs : ∀ b ∈ fs.flatten, b ∉ v.ownBlock.toList := fun b hb hm => hA.apart b (by simpa using hm) hb
  refine h v' w' ⟨⟨css ++ [cs], ?_, by simp [hcl], fun k h1 h2 h3 => ?_⟩, by simp [hfl], ?_⟩ hW ?_ ?_ hb
  · rw [List.length_append, List.flatten_append]; simpa using hO
  · by_cases hk : k < l.length
    · rw [List.getElem_append_left (by rw [hcl]; exact hk), List.getElem_append_left hk, List.getElem_append_left (by rw [hfl]; exact hk)]
      exact Rp.only (hre k (by omega) hk (by omega)) hW fun b hb => hfs b (List.mem_flatten.2 ⟨_, List.getElem_mem _, hb⟩)
    · have : k = l.length := by simp at h2; omega
      subst this
      rw [List.getElem_append_right (by rw [hcl]; omega), List.getElem_append_right (by omega), List.getElem_append_right (by rw [hfl]; omega)]
      simpa [hcl, hfl] using Rp.only hy hW hap'
  · intro g' hg' hm
    rw [List.flatten_append] at hm
    simp only [List.flatten_cons, List.flatten_nil, List.append_nil] at hm
    rcases hb with hb | hb
    · rw [hb] at hg'
      rcases List.mem_append.1 hm with hm | hm
      · exact hA.apart g' hg' hm
      · exact hap g' hm hg'
    · rw [hb] at hg'; injection hg' with hg'; subst hg'
      rcases List.mem_append.1 hm with hm | hm
      · exact absurd (hlt _ hm) (by omega)
      · exact absurd (Rp.lt hy _ hm) (by omega)
  · intro wz hz hzB
    refine hz.then_ hW fun b hm hb => ?_
    have hm' : v.ownBlock = some b := by simpa using hm
    have := (hA.ownlt b hm').1
    omega
  · intro hF hFy
    rw [List.flatten_append]
    simp only [List.flatten_cons, List.flatten_nil, List.append_nil]
    have hF' := (hF.keep hK0)
    refine ((Fresh.append hF' hFy hB fun b hb => hF.lt b hb)).only hW fun b hm => ?_
    rcases List.mem_append.1 hm with hm | hm
    · exact hfs b hm
    · exact hap' b hm
end

/-- the appended slice v reads as l; the blocks of G (of the call's own) are as in the world W; nothing older than w0 was written -/
def AccK {α : Type} [Rp α] (w0 : World) (B : Nat) (e : TypeId) (G : List Nat) (W wx : World) (v : Value) (l : List α) : Prop :=
  ∃ fs, Acc B e wx v l fs ∧ Fresh B wx fs.flatten ∧ Only [] w0 wx ∧ (∀ b ∈ G, wx.heap[b]? = W.heap[b]?) ∧ (∀ b ∈ G, b < wx.heap.size) ∧ (∀ b ∈ G, b ∉ v.ownBlock.toList)

section
variable {α : Type} [Rp α] {w0 W wx wy : World} {B : Nat} {e : TypeId} {G : List Nat} {v : Value} {l : List α}
theorem AccK.keep (h : AccK w0 B e G W wx v l) (ho : Only [] wx wy) : AccK w0 B e G W wy v l := by
  obtain ⟨fs, a, b, c, d, f, g⟩ := h
  exact ⟨fs, a.keep ho, b.keep ho, c.trans ho, fun x hx => (ho.block x (f x hx) (by simp)).trans (d x hx), fun x hx => Nat.lt_of_lt_of_le (f x hx) ho.size, g⟩
theorem AccK.only (h : AccK w0 B e G W wx v l) : Only [] w0 wx := by
  obtain ⟨fs, a, b, c, d, f, g⟩ := h
  exact c
theorem AccK.lt (h : AccK w0 B e G W wx v l) : ∀ b ∈ G, b < wx.heap.size := by
  obtain ⟨fs, a, b, c, d, f, g⟩ := h
  exact f
theorem AccK.frame (h : AccK w0 B e G W wx v l) {β : Type} [Rp β] {cs : List Value} {x : β} {fp : List Nat} (hr : Rp.rep W cs x fp) (hs : ∀ b ∈ fp, b ∈ G) : Rp.rep wx cs x fp := by
  obtain ⟨fs, a, b, c, d, f, g⟩ := h
  exact Rp.frame hr fun b hb => d b (hs b hb)
theorem AccK.cell (h : AccK w0 B e G W wx v l) {p : Addr} {u : Value} (hc : W.cell? p = some u) (hs : p.block ∈ G) : wx.cell? p = some u := by
  obtain ⟨fs, a, b, c, d, f, g⟩ := h
  exact (World.cell?_of_block (d _ hs)).trans hc
/-- the held memory as it is now -/
theorem AccK.now (h : AccK w0 B e G W wx v l) : AccK w0 B e G wx wx v l := by
  obtain ⟨fs, a, b, c, d, f, g⟩ := h
  exact ⟨fs, a, b, c, fun _ _ => rfl, f, g⟩
theorem AccK.rd (h : AccK w0 B e G W wx v l) (hs : 0 < Rp.size α) : ∃ fp, Rd wx v l fp ∧ Fresh B wx fp := by
  obtain ⟨fs, a, b, c, d, f, g⟩ := h
  exact ⟨_, a.rd hs, a.fresh b⟩
theorem AccK.form (h : AccK w0 B e G W wx v l) : ∃ a c, v = .slice a l.length c := by
  obtain ⟨fs, a, b, c, d, f, g⟩ := h
  exact a.form
end

section
variable {P : Program} {α : Type} [Rp α] {ops : Array Oper} {rest : List Oper} {o : Oper} {a : Act} {w : World} {Q : Exit → Act → World → Prop} {K : Act → World → Prop}
end
end Go.Proofs.Ytbediokigibdlaa

namespace Go.Proofs.Ytbediokigibdlaa
open Go.RowKit
set_option maxRecDepth 10000
theorem nil_rd {α : Type} [Rp α] (w : World) : Rd w (.slice none 0 0) ([] : List α) [] := ⟨none, 0, [], [], rfl, rfl, SeqA.nil w none (by simp [maxLen])⟩
theorem int_rd {n : Int} (w : World) (h : I64 n) : Rd w (.int .i64 n) n [] := ⟨rfl, h, rfl⟩
end Go.Proofs.Ytbediokigibdlaa

namespace PM

section
variable {α : Type} [DecidableEq α]
theorem nodup_sub_len : ∀ {l1 l2 : List α}, l1.Nodup → l1 ⊆ l2 → l1.length ≤ l2.length := by
  intro l1
  induction l1 with
  | nil => intro l2 _ _; simp
  | cons a t ih =>
    intro l2 hn hs
    obtain ⟨ha, ht⟩ := List.nodup_cons.1 hn
    have ham : a ∈ l2 := hs (by simp)
    have h1 : t ⊆ l2.erase a := by
      intro x hx
      refine (List.mem_erase_of_ne ?_).2 (hs (by simp [hx]))
      intro e; subst e; exact ha hx
    have h2 := ih ht h1
    have h3 := List.length_erase_of_mem ham
    have h4 : 0 < l2.length := List.length_pos_of_mem ham
    simp only [List.length_cons]
    omega
/-- a list without repetitions that lies within a list no longer has all of it -/
theorem nodup_sub_all {l1 l2 : List α} (hn : l1.Nodup) (hs : l1 ⊆ l2) (hl : l2.length ≤ l1.length) : l2 ⊆ l1 := by
  intro x hx
  apply Classical.byContradiction
  intro hxn
  have h := nodup_sub_len (List.nodup_cons.2 ⟨hxn, hn⟩) (l2 := l2) (by
    intro y hy
    rcases List.mem_cons.1 hy with rfl | hy
    · exact hx
    · exact hs hy)
  simp at h
  omega
/-- a list that has all of a list without repetitions, and is no longer, has no repetition -/
theorem nodup_of_all : ∀ {l1 l2 : List α}, l1.Nodup → l1 ⊆ l2 → l2.length ≤ l1.length → l2.Nodup := by
  intro l1
  induction l1 with
  | nil =>
    intro l2 _ _ hl
    have : l2 = [] := List.eq_nil_of_length_eq_zero (by simpa using hl)
    subst this; exact List.nodup_nil
  | cons a t ih =>
    intro l2 hn hs hl
    obtain ⟨ha, ht⟩ := List.nodup_cons.1 hn
    have ham : a ∈ l2 := hs (by simp)
    have h1 : t ⊆ l2.erase a := by
      intro x hx
      refine (List.mem_erase_of_ne ?_).2 (hs (by simp [hx]))
      intro e; subst e; exact ha hx
    have h3 := List.length_erase_of_mem ham
    have h4 : 0 < l2.length := List.length_pos_of_mem ham
    simp only [List.length_cons] at hl
    have h5 := ih ht h1 (by omega)
    have h6 : a ∉ l2.erase a := by
      intro hm
      have := nodup_sub_len hn (l2 := l2.erase a) (by
        intro y hy
        rcases List.mem_cons.1 hy with rfl | hy
        · exact hm
        · exact h1 hy)
      simp at this
      omega
    exact (List.perm_cons_erase ham).nodup_iff.2 (List.nodup_cons.2 ⟨h6, h5⟩)
end

/-- the numbers 0, 1, .., n-1 -/
def pts (n : Nat) : List Int := (List.range n).map (fun k : Nat => (k : Int))
theorem pts_len (n : Nat) : (pts n).length = n := by simp [pts]
theorem mem_pts {n : Nat} {x : Int} : x ∈ pts n ↔ 0 ≤ x ∧ x < n := by
  simp only [pts, List.mem_map, List.mem_range]
  constructor
  · rintro ⟨k, hk, rfl⟩; omega
  · intro ⟨h1, h2⟩; exact ⟨x.toNat, by omega, by omega⟩
theorem pts_nodup (n : Nat) : (pts n).Nodup := by
  exact List.Pairwise.map _ (fun a b (h : a ≠ b) hab => h (by omega)) List.nodup_range
theorem pts_get (n k : Nat) (h : k < (pts n).length) : (pts n)[k] = (k : Int) := by simp [pts]

/-- p is a permutation of its indices -/
def IsP (p : List Int) : Prop := (∀ x ∈ p, 0 ≤ x ∧ x < p.length) ∧ p.Nodup
instance (p : List Int) : Decidable (IsP p) := by unfold IsP; exact inferInstance
theorem IsP.sub {p : List Int} (h : IsP p) : p ⊆ pts p.length := fun x hx => mem_pts.2 (h.1 x hx)
theorem IsP.all {p : List Int} (h : IsP p) : pts p.length ⊆ p := nodup_sub_all h.2 h.sub (by rw [pts_len]; exact Nat.le_refl _)
theorem isP_of_all {p : List Int} (h1 : ∀ x ∈ p, 0 ≤ x ∧ x < p.length) (h2 : pts p.length ⊆ p) : IsP p :=
  ⟨h1, nodup_of_all (pts_nodup _) h2 (by rw [pts_len]; exact Nat.le_refl _)⟩

/-- the numbers of a list as bits -/
def mask : List Int → Nat
  | [] => 0
  | x :: l => 2 ^ x.toNat ||| mask l
theorem mask_append (l : List Int) (x : Int) : mask (l ++ [x]) = mask l ||| 2 ^ x.toNat := by
  induction l with
  | nil => simp [mask]
  | cons y l ih => simp [mask, ih, Nat.or_assoc]
theorem mask_bit (l : List Int) (h : ∀ x ∈ l, 0 ≤ x) (k : Nat) : (mask l).testBit k = decide ((k : Int) ∈ l) := by
  induction l with
  | nil => simp [mask]
  | cons x l ih =>
    rw [mask, Nat.testBit_or, ih (fun y hy => h y (by simp [hy])), Nat.testBit_two_pow]
    have hx := h x (by simp)
    have : (x.toNat = k) ↔ ((k : Int) = x) := by omega
    simp [this]
theorem mask_lt (l : List Int) (n : Nat) (h : ∀ x ∈ l, 0 ≤ x ∧ x < n) : mask l < 2 ^ n := by
  induction l with
  | nil => simp [mask]; exact Nat.pow_pos (by decide)
  | cons x l ih =>
    have hx := h x (by simp)
    exact Nat.or_lt_two_pow (Nat.pow_lt_pow_right (by decide) (by omega)) (ih fun y hy => h y (by simp [hy]))
theorem mask_full (p : List Int) (h : ∀ x ∈ p, 0 ≤ x ∧ x < p.length) : mask p = 2 ^ p.length - 1 ↔ IsP p := by
  constructor
  · intro hm
    refine isP_of_all h fun x hx => ?_
    obtain ⟨h0, h1⟩ := mem_pts.1 hx
    have hb := mask_bit p (fun y hy => (h y hy).1) x.toNat
    rw [hm, Nat.testBit_two_pow_sub_one] at hb
    have : decide (x.toNat < p.length) = true := decide_eq_true (by omega)
    rw [this] at hb
    have := of_decide_eq_true hb.symm
    have e : (x.toNat : Int) = x := by omega
    rwa [e] at this
  · intro hp
    apply Nat.eq_of_testBit_eq
    intro k
    rw [mask_bit p (fun y hy => (h y hy).1), Nat.testBit_two_pow_sub_one]
    have : ((k : Int) ∈ p) ↔ k < p.length := by
      constructor
      · intro hk; have := h _ hk; omega
      · intro hk; exact hp.all (mem_pts.2 (by omega))
    simp [this]
end PM

namespace PM

/-- the entry of p at x -/
def at_ (p : List Int) (x : Int) : Int := p.getD x.toNat 0
/-- p first, q second -/
def comp (p q : List Int) : List Int := p.map (at_ q)
def inv (p : List Int) : List Int := (pts p.length).map fun y => (p.idxOf y : Int)

/-- a permutation of n points -/
def PN (n : Nat) (p : List Int) : Prop := p.length = n ∧ IsP p

theorem at_nat (p : List Int) (k : Nat) (h : k < p.length) : at_ p (k : Int) = p[k] := by
  simp [at_, h]
theorem at_mem {p : List Int} {x : Int} (h0 : 0 ≤ x) (h : x < p.length) : at_ p x ∈ p := by
  have hx : x.toNat < p.length := by omega
  have : at_ p x = p[x.toNat] := by simp [at_, hx]
  rw [this]; exact List.getElem_mem _
theorem comp_len (p q : List Int) : (comp p q).length = p.length := by simp [comp]
theorem inv_len (p : List Int) : (inv p).length = p.length := by simp [inv, pts_len]
theorem at_comp {p q : List Int} {x : Int} (h0 : 0 ≤ x) (h : x < p.length) : at_ (comp p q) x = at_ q (at_ p x) := by
  have hx : x.toNat < p.length := by omega
  simp [at_, comp, hx]
theorem at_pts {n : Nat} {x : Int} (h0 : 0 ≤ x) (h : x < n) : at_ (pts n) x = x := by
  have hx : x.toNat < (pts n).length := by rw [pts_len]; omega
  have : at_ (pts n) x = (pts n)[x.toNat] := by simp [at_, hx]
  rw [this, pts_get]; omega
/-- lists of one length with the same entries -/
theorem ext_at {p q : List Int} (hl : p.length = q.length) (h : ∀ x : Int, 0 ≤ x → x < p.length → at_ p x = at_ q x) : p = q := by
  apply List.ext_getElem hl
  intro k h1 h2
  have := h k (by omega) (by omega)
  rwa [at_nat p k h1, at_nat q k h2] at this

theorem PN.rng {n : Nat} {p : List Int} (h : PN n p) {x : Int} (h0 : 0 ≤ x) (h1 : x < n) : 0 ≤ at_ p x ∧ at_ p x < n := by
  have := h.2.1 _ (at_mem h0 (by rw [h.1]; exact h1))
  rw [h.1] at this; exact this
theorem nodup_inj {p : List Int} (h : p.Nodup) {i j : Nat} (hi : i < p.length) (hj : j < p.length) (e : p[i] = p[j]) : i = j := by
  have hp := List.pairwise_iff_getElem.1 h
  rcases Nat.lt_trichotomy i j with hl | hl | hl
  · exact absurd e (hp i j hi hj hl)
  · exact hl
  · exact absurd e.symm (hp j i hj hi hl)
theorem PN.inj {n : Nat} {p : List Int} (h : PN n p) {x y : Int} (hx0 : 0 ≤ x) (hx : x < n) (hy0 : 0 ≤ y) (hy : y < n) (he : at_ p x = at_ p y) : x = y := by
  have h1 : x.toNat < p.length := by rw [h.1]; omega
  have h2 : y.toNat < p.length := by rw [h.1]; omega
  have e1 : at_ p x = p[x.toNat] := by simp [at_, h1]
  have e2 : at_ p y = p[y.toNat] := by simp [at_, h2]
  rw [e1, e2] at he
  have := nodup_inj h.2.2 h1 h2 he
  omega
theorem PN.surj {n : Nat} {p : List Int} (h : PN n p) {y : Int} (hy0 : 0 ≤ y) (hy : y < n) : ∃ x : Int, 0 ≤ x ∧ x < n ∧ at_ p x = y := by
  have hm : y ∈ p := h.2.all (mem_pts.2 ⟨hy0, by rw [h.1]; exact hy⟩)
  obtain ⟨k, hk, hk2⟩ := List.getElem_of_mem hm
  refine ⟨k, by omega, by have := h.1; omega, ?_⟩
  rw [at_nat p k hk]; exact hk2
/-- what makes a list a permutation -/
theorem PN.mk' {n : Nat} {p : List Int} (hl : p.length = n) (hr : ∀ x : Int, 0 ≤ x → x < n → 0 ≤ at_ p x ∧ at_ p x < n) (hi : ∀ x y : Int, 0 ≤ x → x < n → 0 ≤ y → y < n → at_ p x = at_ p y → x = y) : PN n p := by
  refine ⟨hl, fun x hx => ?_, ?_⟩
  · obtain ⟨k, hk, rfl⟩ := List.getElem_of_mem hx
    have := hr k (by omega) (by omega)
    rw [at_nat p k hk] at this; rw [hl]; exact this
  · rw [List.nodup_iff_pairwise_ne, List.pairwise_iff_getElem]
    intro i j hi' hj' hij he
    have := hi i j (by omega) (by omega) (by omega) (by omega) (by rw [at_nat p i hi', at_nat p j hj']; exact he)
    omega
theorem PN.id (n : Nat) : PN n (pts n) := PN.mk' (pts_len n) (fun x h0 h1 => by rw [at_pts h0 h1]; exact ⟨h0, h1⟩) (fun x y a b c d e => by rwa [at_pts a b, at_pts c d] at e)
theorem PN.comp {n : Nat} {p q : List Int} (hp : PN n p) (hq : PN n q) : PN n (comp p q) := by
  refine PN.mk' (by rw [comp_len, hp.1]) (fun x h0 h1 => ?_) (fun x y a b c d e => ?_)
  · rw [at_comp h0 (by rw [hp.1]; exact h1)]
    have := hp.rng h0 h1
    exact hq.rng this.1 this.2
  · rw [at_comp a (by rw [hp.1]; exact b), at_comp c (by rw [hp.1]; exact d)] at e
    have h1 := hp.rng a b
    have h2 := hp.rng c d
    exact hp.inj a b c d (hq.inj h1.1 h1.2 h2.1 h2.2 e)
theorem at_inv {n : Nat} {p : List Int} (hp : PN n p) {x : Int} (h0 : 0 ≤ x) (h1 : x < n) : at_ (inv p) (at_ p x) = x := by
  have hr := hp.rng h0 h1
  have hk : x.toNat < p.length := by rw [hp.1]; omega
  have e1 : at_ p x = p[x.toNat] := by simp [at_, hk]
  have e2 : ∀ y : Int, 0 ≤ y → y < n → at_ (inv p) y = (p.idxOf y : Int) := by
    intro y hy0 hy1
    have hy : y.toNat < (pts p.length).length := by rw [pts_len, hp.1]; omega
    have he : (pts p.length)[y.toNat] = y := by rw [pts_get]; omega
    unfold at_ inv
    rw [List.getD_eq_getElem?_getD, List.getElem?_map, List.getElem?_eq_getElem hy, he]
    rfl
  rw [e2 _ hr.1 hr.2, e1]
  have hm : p[x.toNat] ∈ p := List.getElem_mem _
  have hi := List.idxOf_lt_length_of_mem hm
  have hg : p[p.idxOf p[x.toNat]] = p[x.toNat] := by simp
  have := nodup_inj hp.2.2 hi hk hg
  rw [this]; omega
theorem PN.inv {n : Nat} {p : List Int} (hp : PN n p) : PN n (inv p) := by
  refine PN.mk' (by rw [inv_len, hp.1]) (fun x h0 h1 => ?_) (fun x y a b c d e => ?_)
  · obtain ⟨z, hz0, hz1, rfl⟩ := hp.surj h0 h1
    rw [at_inv hp hz0 hz1]; exact ⟨hz0, hz1⟩
  · obtain ⟨z, hz0, hz1, rfl⟩ := hp.surj a b
    obtain ⟨z', hz0', hz1', rfl⟩ := hp.surj c d
    rw [at_inv hp hz0 hz1, at_inv hp hz0' hz1'] at e
    rw [e]
theorem comp_inv {n : Nat} {p : List Int} (hp : PN n p) : comp p (inv p) = pts n := by
  refine ext_at (by rw [comp_len, pts_len, hp.1]) fun x h0 h1 => ?_
  rw [comp_len, hp.1] at h1
  rw [at_comp h0 (by rw [hp.1]; exact h1), at_inv hp h0 h1, at_pts h0 h1]
theorem inv_comp {n : Nat} {p : List Int} (hp : PN n p) : comp (inv p) p = pts n := by
  refine ext_at (by rw [comp_len, pts_len, inv_len, hp.1]) fun x h0 h1 => ?_
  rw [comp_len, inv_len, hp.1] at h1
  obtain ⟨z, hz0, hz1, rfl⟩ := hp.surj h0 h1
  rw [at_comp h0 (by rw [inv_len, hp.1]; exact h1), at_inv hp hz0 hz1, at_pts h0 h1]
theorem comp_id {n : Nat} {p : List Int} (hp : PN n p) : comp p (pts n) = p := by
  refine ext_at (by rw [comp_len]) fun x h0 h1 => ?_
  rw [comp_len, hp.1] at h1
  have := hp.rng h0 h1
  rw [at_comp h0 (by rw [hp.1]; exact h1), at_pts this.1 this.2]
theorem id_comp {n : Nat} {p : List Int} (hp : PN n p) : comp (pts n) p = p := by
  refine ext_at (by rw [comp_len, pts_len, hp.1]) fun x h0 h1 => ?_
  rw [comp_len, pts_len] at h1
  rw [at_comp h0 (by rw [pts_len]; exact h1), at_pts h0 h1]
theorem comp_assoc {n : Nat} {p q r : List Int} (hp : PN n p) (hq : PN n q) : comp (comp p q) r = comp p (comp q r) := by
  refine ext_at (by simp [comp_len]) fun x h0 h1 => ?_
  rw [comp_len, comp_len, hp.1] at h1
  have := hp.rng h0 h1
  rw [at_comp h0 (by rw [comp_len, hp.1]; exact h1), at_comp h0 (by rw [hp.1]; exact h1), at_comp h0 (by rw [hp.1]; exact h1), at_comp this.1 (by rw [hq.1]; exact this.2)]
theorem comp_right_cancel {n : Nat} {p q g : List Int} (hp : PN n p) (hq : PN n q) (hg : PN n g) (h : comp p g = comp q g) : p = q := by
  have h2 : comp (comp p g) (inv g) = comp (comp q g) (inv g) := by rw [h]
  rwa [comp_assoc hp hg, comp_assoc hq hg, comp_inv hg, comp_id hp, comp_id hq] at h2

/-- the group that G generates -/
inductive Grp (n : Nat) (G : List (List Int)) : List Int → Prop
  | id : Grp n G (pts n)
  | mul {p g : List Int} : Grp n G p → g ∈ G → Grp n G (comp p g)
  | div {p g : List Int} : Grp n G p → g ∈ G → Grp n G (comp p (inv g))

section
variable {n : Nat} {G : List (List Int)} (hG : ∀ g ∈ G, PN n g)
include hG
theorem Grp.pn {p : List Int} (h : Grp n G p) : PN n p := by
  induction h with
  | id => exact PN.id n
  | mul _ hg ih => exact ih.comp (hG _ hg)
  | div _ hg ih => exact ih.comp (hG _ hg).inv
theorem Grp.comp {p q : List Int} (hp : Grp n G p) (hq : Grp n G q) : Grp n G (comp p q) := by
  have pp := hp.pn hG
  induction hq with
  | id => rw [comp_id pp]; exact hp
  | mul hq hg ih => rw [← comp_assoc pp (Grp.pn hG hq)]; exact ih.mul hg
  | div hq hg ih => rw [← comp_assoc pp (Grp.pn hG hq)]; exact ih.div hg
theorem Grp.gen {g : List Int} (h : g ∈ G) : Grp n G g := by
  have := (Grp.id (n := n) (G := G)).mul h
  rwa [id_comp (hG g h)] at this
theorem Grp.gen_inv {g : List Int} (h : g ∈ G) : Grp n G (PM.inv g) := by
  have := (Grp.id (n := n) (G := G)).div h
  rwa [id_comp (hG g h).inv] at this
end
theorem inv_of {n : Nat} {p q : List Int} (hp : PN n p) (hq : PN n q) (h : comp p q = pts n) : q = PM.inv p := by
  have : comp (PM.inv p) (comp p q) = comp (PM.inv p) (pts n) := by rw [h]
  rwa [← comp_assoc hp.inv hp, inv_comp hp, id_comp hq, comp_id hp.inv] at this
theorem inv_inv {n : Nat} {p : List Int} (hp : PN n p) : PM.inv (PM.inv p) = p := (inv_of hp.inv hp (inv_comp hp)).symm
theorem inv_comp_eq {n : Nat} {p q : List Int} (hp : PN n p) (hq : PN n q) : PM.inv (comp p q) = comp (PM.inv q) (PM.inv p) := by
  refine (inv_of (hp.comp hq) (hq.inv.comp hp.inv) ?_).symm
  rw [comp_assoc hp hq, ← comp_assoc hq hq.inv, comp_inv hq, id_comp hp.inv, comp_inv hp]
theorem inv_id (n : Nat) : PM.inv (pts n) = pts n := (inv_of (PN.id n) (PN.id n) (comp_id (PN.id n))).symm
theorem Grp.inv {n : Nat} {G : List (List Int)} (hG : ∀ g ∈ G, PN n g) {p : List Int} (hp : Grp n G p) : Grp n G (PM.inv p) := by
  induction hp with
  | id => rw [inv_id]; exact .id
  | mul hq hg ih => rw [inv_comp_eq (Grp.pn hG hq) (hG _ hg)]; exact Grp.comp hG (Grp.gen_inv hG hg) ih
  | div hq hg ih => rw [inv_comp_eq (Grp.pn hG hq) (hG _ hg).inv, inv_inv (hG _ hg)]; exact Grp.comp hG (Grp.gen hG hg) ih
theorem Grp.mono {n : Nat} {G G' : List (List Int)} (hG' : ∀ g ∈ G', PN n g) (h : ∀ g ∈ G, Grp n G' g) {p : List Int} (hp : Grp n G p) : Grp n G' p := by
  induction hp with
  | id => exact .id
  | mul _ hg ih => exact Grp.comp hG' ih (h _ hg)
  | div _ hg ih => exact Grp.comp hG' ih (Grp.inv hG' (h _ hg))

/-- all lists of k entries out of a list -/
def allL (A : List Int) : Nat → List (List Int)
  | 0 => [[]]
  | k + 1 => (allL A k).flatMap fun l => A.map fun x => x :: l
theorem mem_allL {A : List Int} : ∀ (p : List Int), (∀ x ∈ p, x ∈ A) → p ∈ allL A p.length := by
  intro p
  induction p with
  | nil => intro _; simp [allL]
  | cons x p ih =>
    intro h
    have h1 := ih fun y hy => h y (by simp [hy])
    simp only [allL, List.length_cons, List.mem_flatMap, List.mem_map]
    exact ⟨p, h1, x, h x (by simp), rfl⟩
theorem nodup_exists {α : Type} (L : List α) (S : α → Prop) : ∃ L' : List α, L'.Nodup ∧ ∀ x, x ∈ L' ↔ x ∈ L ∧ S x := by
  classical
  induction L with
  | nil => exact ⟨[], List.nodup_nil, by simp⟩
  | cons a L ih =>
    obtain ⟨L', h1, h2⟩ := ih
    by_cases h : a ∈ L' ∨ ¬ S a
    · refine ⟨L', h1, fun x => ?_⟩
      rw [h2 x]
      constructor
      · rintro ⟨a1, a2⟩; exact ⟨by simp [a1], a2⟩
      · rintro ⟨a1, a2⟩
        rcases List.mem_cons.1 a1 with rfl | a1
        · rcases h with h | h
          · exact (h2 x).1 h
          · exact absurd a2 h
        · exact ⟨a1, a2⟩
    · have h' : a ∉ L' ∧ S a := ⟨fun e => h (.inl e), Classical.byContradiction fun e => h (.inr e)⟩
      refine ⟨a :: L', List.nodup_cons.2 ⟨h'.1, h1⟩, fun x => ?_⟩
      simp only [List.mem_cons, h2 x]
      constructor
      · rintro (rfl | ⟨a1, a2⟩)
        · exact ⟨.inl rfl, h'.2⟩
        · exact ⟨.inr a1, a2⟩
      · rintro ⟨rfl | a1, a2⟩
        · exact .inl rfl
        · exact .inr ⟨a1, a2⟩
/-- a set of permutations closed under a factor is closed under its inverse -/
theorem closed_div {n : Nat} {S : List Int → Prop} (hS : ∀ p, S p → PN n p) {g : List Int} (hg : PN n g) (hc : ∀ p, S p → S (comp p g)) : ∀ p, S p → S (comp p (PM.inv g)) := by
  intro p hp
  obtain ⟨L, h1, h2⟩ := nodup_exists (allL (pts n) n) S
  have hin : ∀ q, S q → q ∈ L := fun q hq => (h2 q).2 ⟨by
    have h3 := hS q hq
    have h4 := mem_allL (A := pts n) q (fun x hx => by have := h3.2.1 x hx; rw [h3.1] at this; exact mem_pts.2 this)
    rwa [h3.1] at h4, hq⟩
  have hsub : L.map (fun q => comp q g) ⊆ L := by
    intro x hx
    obtain ⟨q, hq, rfl⟩ := List.mem_map.1 hx
    exact hin _ (hc q ((h2 q).1 hq).2)
  have hnd : (L.map fun q => comp q g).Nodup := by
    refine List.pairwise_map.2 ?_
    refine List.Pairwise.imp_of_mem (R := fun a b => a ≠ b) ?_ h1
    intro a b ha hb hab he
    exact hab (comp_right_cancel (hS a ((h2 a).1 ha).2) (hS b ((h2 b).1 hb).2) hg he)
  have hall := nodup_sub_all hnd hsub (by simp)
  obtain ⟨q, hq, hqe⟩ := List.mem_map.1 (hall (hin p hp))
  have hqS := ((h2 q).1 hq).2
  rw [← hqe, comp_assoc (hS q hqS) hg, comp_inv hg, comp_id (hS q hqS)]
  exact hqS
/-- a set that has the identity and is closed under generators has the group -/
theorem grp_sub {n : Nat} {G : List (List Int)} (hG : ∀ g ∈ G, PN n g) {S : List Int → Prop} (hS : ∀ p, S p → PN n p) (h1 : S (pts n)) (hc : ∀ p g, S p → g ∈ G → S (comp p g)) {p : List Int} (hp : Grp n G p) : S p := by
  induction hp with
  | id => exact h1
  | mul _ hg ih => exact hc _ _ ih hg
  | div _ hg ih => exact closed_div hS (hG _ hg) (fun q hq => hc q _ hq hg) _ ih
end PM

namespace PM

/-- the rows of a chain: at each level and point a permutation, [] where there is none -/
abbrev Rows := List (List (List Int))
def tr (T : Rows) (k : Nat) (y : Int) : List Int := if y < 0 then [] else (T.getD k []).getD y.toNat []
/-- the points below k are fixed -/
def Fix (k : Nat) (p : List Int) : Prop := ∀ x : Int, 0 ≤ x → x < k → at_ p x = x
/-- is p a product of rows' permutations, m levels from the end -/
def has (T : Rows) (n : Nat) : Nat → List Int → Bool
  | 0, _ => true
  | m + 1, p =>
    let t := tr T (n - (m + 1)) (at_ p ((n - (m + 1) : Nat) : Int))
    if t = [] then false else has T n m (comp p (inv t))
/-- more rows' permutations -/
def Ext (T T' : Rows) : Prop := ∀ k y, tr T k y ≠ [] → tr T' k y = tr T k y
theorem Ext.refl (T : Rows) : Ext T T := fun _ _ _ => rfl
theorem Ext.trans {T T' T'' : Rows} (h : Ext T T') (h' : Ext T' T'') : Ext T T'' := fun k y hn => by
  have := h k y hn
  rw [← this]; exact h' k y (by rw [this]; exact hn)
theorem has_mono {T T' : Rows} (h : Ext T T') (n : Nat) : ∀ (m : Nat) (p : List Int), has T n m p = true → has T' n m p = true := by
  intro m
  induction m with
  | zero => intro p _; rfl
  | succ m ih =>
    intro p hp
    simp only [has] at hp ⊢
    split at hp
    · cases hp
    · rename_i hn
      rw [h _ _ hn, if_neg hn]
      exact ih _ hp
theorem has_congr {T T' : Rows} {n m : Nat} (h : ∀ k y, n - m ≤ k → tr T' k y = tr T k y) : ∀ p, has T n m p = has T' n m p := by
  induction m with
  | zero => intro p; rfl
  | succ m ih =>
    intro p
    simp only [has]
    rw [h _ _ (Nat.le_refl _), ih (fun k y hk => h k y (by omega))]

/-- the rows as they should be: the k-th row has at y nothing, or a permutation that fixes what is below k and takes k to y -/
structure WF (n : Nat) (T : Rows) : Prop where
  pn : ∀ (k : Nat) (y : Int), k < n → tr T k y ≠ [] → PN n (tr T k y)
  fix : ∀ (k : Nat) (y : Int), k < n → tr T k y ≠ [] → Fix k (tr T k y)
  at_ : ∀ (k : Nat) (y : Int), k < n → tr T k y ≠ [] → at_ (tr T k y) k = y
  one : ∀ (k : Nat), k < n → tr T k k = pts n
theorem pts_ne {n : Nat} (h : 0 < n) : pts n ≠ [] := by
  intro e
  have := pts_len n
  rw [e] at this; simp at this; omega
theorem PN.ne {n : Nat} {p : List Int} (h : PN n p) (hn : 0 < n) : p ≠ [] := by
  intro e
  have := h.1
  rw [e] at this; simp at this; omega

/-- the generators of a level -/
abbrev Gens := List (List (List Int))
def lv (G : Gens) (k : Nat) : List (List Int) := G.getD k []

/-- the remainder of p at level k -/
def res (T : Rows) (k : Nat) (p : List Int) : List Int := comp p (inv (tr T k (at_ p (k : Int))))
/-- a product that the rows know -/
def Ok (T : Rows) (n k : Nat) (p : List Int) : Prop := tr T k (at_ p (k : Int)) ≠ [] ∧ has T n (n - (k + 1)) (res T k p) = true
theorem Ok.has {T : Rows} {n k : Nat} {p : List Int} (hk : k < n) : Ok T n k p ↔ has T n (n - k) p = true := by
  have h1 : n - k = (n - (k + 1)) + 1 := by omega
  have h2 : n - (n - (k + 1) + 1) = k := by omega
  rw [h1]
  simp only [PM.has, h2, Ok, res]
  constructor
  · rintro ⟨a, b⟩; rw [if_neg a]; exact b
  · intro h
    split at h
    · cases h
    · rename_i hn; exact ⟨hn, h⟩
theorem Ok.mono {T T' : Rows} (h : Ext T T') {n k : Nat} {p : List Int} (ho : Ok T n k p) : Ok T' n k p := by
  obtain ⟨a, b⟩ := ho
  have e := h _ _ a
  refine ⟨by rw [e]; exact a, ?_⟩
  have : res T' k p = res T k p := by simp only [res, e]
  rw [this]; exact has_mono h n _ _ b

/-- the chain's generators and rows, levels from k on complete -/
structure Inv (n k : Nat) (G : Gens) (T : Rows) : Prop where
  wf : WF n T
  gpn : ∀ j g, j < n → g ∈ lv G j → PN n g
  gfix : ∀ j g, j < n → g ∈ lv G j → Fix j g
  row : ∀ j y, j < n → tr T j y ≠ [] → Grp n (lv G j) (tr T j y)
  up : ∀ j g, j + 1 < n → g ∈ lv G (j + 1) → Grp n (lv G j) g
  cpl : ∀ j y g, k ≤ j → j < n → tr T j y ≠ [] → g ∈ lv G j → Ok T n j (comp (tr T j y) g)

theorem Fix.comp {n k : Nat} {p q : List Int} (hp : PN n p) (hk : k ≤ n) (h1 : Fix k p) (h2 : Fix k q) : Fix k (comp p q) := by
  intro x h0 hx
  rw [at_comp h0 (by rw [hp.1]; omega), h1 x h0 hx, h2 x h0 hx]
theorem Fix.inv {n k : Nat} {p : List Int} (hp : PN n p) (hk : k ≤ n) (h1 : Fix k p) : Fix k (inv p) := by
  intro x h0 hx
  have := at_inv hp h0 (by omega)
  rwa [h1 x h0 hx] at this
theorem Fix.all {n : Nat} {p : List Int} (hp : PN n p) (h : Fix n p) : p = pts n :=
  ext_at (by rw [hp.1, pts_len]) fun x h0 h1 => by rw [hp.1] at h1; rw [h x h0 h1, at_pts h0 h1]
theorem Fix.mono {j k : Nat} {p : List Int} (h : Fix k p) (hj : j ≤ k) : Fix j p := fun x h0 hx => h x h0 (by omega)
theorem Fix.id (n k : Nat) (hk : k ≤ n) : Fix k (pts n) := fun x h0 hx => at_pts h0 (by omega)
/-- dividing by the row's permutation fixes one point more -/
theorem Fix.res {n k : Nat} {T : Rows} (hw : WF n T) (hk : k < n) {p : List Int} (hp : PN n p) (hf : Fix k p) (hn : tr T k (at_ p (k : Int)) ≠ []) : PN n (res T k p) ∧ Fix (k + 1) (res T k p) := by
  have ht := hw.pn k _ hk hn
  refine ⟨hp.comp ht.inv, ?_⟩
  intro x h0 hx
  unfold PM.res
  rw [at_comp h0 (by rw [hp.1]; omega)]
  by_cases hxk : x < k
  · rw [hf x h0 hxk]
    exact Fix.inv ht (by omega) (hw.fix k _ hk hn) x h0 hxk
  · have : x = k := by omega
    subst this
    have h1 := hw.at_ k _ hk hn
    have h2 := at_inv ht (x := (k : Int)) (by omega) (by omega)
    rwa [h1] at h2
theorem res_mul {n k : Nat} {T : Rows} (hw : WF n T) (hk : k < n) {p : List Int} (hp : PN n p) (hn : tr T k (at_ p (k : Int)) ≠ []) : comp (res T k p) (tr T k (at_ p (k : Int))) = p := by
  have ht := hw.pn k _ hk hn
  unfold res
  rw [comp_assoc hp ht.inv, inv_comp ht, comp_id hp]

/-- p fixes what is below k, and the rows know it -/
def Sk (T : Rows) (n k : Nat) (p : List Int) : Prop := PN n p ∧ Fix k p ∧ has T n (n - k) p = true

/-- at complete levels the rows know just the group of the level's generators -/
theorem level_grp {n : Nat} {G : Gens} {T : Rows} : ∀ (m k : Nat), n - k = m → k < n → Inv n k G T → ∀ p, Sk T n k p ↔ Grp n (lv G k) p := by
  intro m
  induction m with
  | zero => intro k h1 h2; omega
  | succ m ih =>
    intro k hm hk hI
    have hG : ∀ g ∈ lv G k, PN n g := fun g hg => hI.gpn k g hk hg
    -- the next level: what it knows is a group, within this level's
    have next : (∀ p q, Sk T n (k + 1) p → Sk T n (k + 1) q → Sk T n (k + 1) (comp p q)) ∧ (∀ p, Sk T n (k + 1) p → Grp n (lv G k) p) ∧ Sk T n (k + 1) (pts n) := by
      by_cases hk1 : k + 1 < n
      · have hI1 : Inv n (k + 1) G T := ⟨hI.wf, hI.gpn, hI.gfix, hI.row, hI.up, fun j y g h1 h2 h3 h4 => hI.cpl j y g (by omega) h2 h3 h4⟩
        have hh := ih (k + 1) (by omega) hk1 hI1
        have hG1 : ∀ g ∈ lv G (k + 1), PN n g := fun g hg => hI.gpn (k + 1) g hk1 hg
        refine ⟨fun p q hp hq => (hh _).2 (Grp.comp hG1 ((hh p).1 hp) ((hh q).1 hq)), fun p hp => ?_, (hh _).2 .id⟩
        exact Grp.mono hG (fun g hg => hI.up k g hk1 hg) ((hh p).1 hp)
      · have hk2 : k + 1 = n := by omega
        have hid : ∀ p, Sk T n (k + 1) p → p = pts n := fun p hp => Fix.all hp.1 (by rw [← hk2]; exact hp.2.1)
        have h0 : Sk T n (k + 1) (pts n) := ⟨PN.id n, Fix.id n _ (by omega), by rw [hk2, Nat.sub_self]; rfl⟩
        refine ⟨fun p q hp hq => ?_, fun p hp => ?_, h0⟩
        · rw [hid p hp, hid q hq, comp_id (PN.id n)]; exact h0
        · rw [hid p hp]; exact .id
    obtain ⟨nmul, nsub, nid⟩ := next
    -- one step down
    have down : ∀ p, PN n p → Fix k p → (has T n (n - k) p = true ↔ tr T k (at_ p (k : Int)) ≠ [] ∧ Sk T n (k + 1) (res T k p)) := by
      intro p hp hf
      rw [← Ok.has hk]
      constructor
      · rintro ⟨a, b⟩
        obtain ⟨c, d⟩ := Fix.res hI.wf hk hp hf a
        exact ⟨a, c, d, b⟩
      · rintro ⟨a, b⟩; exact ⟨a, b.2.2⟩
    intro p
    constructor
    · rintro ⟨hp, hf, hh⟩
      obtain ⟨hn, hs⟩ := (down p hp hf).1 hh
      rw [← res_mul hI.wf hk hp hn]
      exact Grp.comp hG (nsub _ hs) (hI.row k _ hk hn)
    · intro hp
      refine grp_sub hG (S := Sk T n k) (fun p hp => hp.1) ?_ ?_ hp
      · refine ⟨PN.id n, Fix.id n k (by omega), ?_⟩
        refine (down _ (PN.id n) (Fix.id n k (by omega))).2 ?_
        have e : at_ (pts n) (k : Int) = k := at_pts (by omega) (by omega)
        have e2 : tr T k (at_ (pts n) (k : Int)) = pts n := by rw [e]; exact hI.wf.one k hk
        refine ⟨by rw [e2]; exact pts_ne (by omega), ?_⟩
        unfold res
        rw [e2, comp_inv (PN.id n)]; exact nid
      · rintro q g ⟨hq, hf, hh⟩ hg
        obtain ⟨hn, hs⟩ := (down q hq hf).1 hh
        have hgp := hG g hg
        have ht := hI.wf.pn k _ hk hn
        have hqg := hq.comp hgp
        have hfg : Fix k (comp q g) := Fix.comp hq (by omega) hf (hI.gfix k g hk hg)
        refine ⟨hqg, hfg, (down _ hqg hfg).2 ?_⟩
        -- the product of the row's permutation with g
        obtain ⟨o1, o2⟩ := hI.cpl k _ g (Nat.le_refl _) hk hn hg
        have e1 : at_ (comp q g) (k : Int) = at_ (comp (tr T k (at_ q (k : Int))) g) (k : Int) := by
          rw [at_comp (by omega) (by rw [hq.1]; omega), at_comp (by omega) (by rw [ht.1]; omega), hI.wf.at_ k _ hk hn]
        refine ⟨by rw [e1]; exact o1, ?_⟩
        have hft : Fix k (comp (tr T k (at_ q (k : Int))) g) := Fix.comp ht (by omega) (hI.wf.fix k _ hk hn) (hI.gfix k g hk hg)
        obtain ⟨c1, c2⟩ := Fix.res hI.wf hk (ht.comp hgp) hft o1
        have hu : Sk T n (k + 1) (res T k (comp (tr T k (at_ q (k : Int))) g)) := ⟨c1, c2, o2⟩
        have key : res T k (comp q g) = comp (res T k q) (res T k (comp (tr T k (at_ q (k : Int))) g)) := by
          have h1 := res_mul hI.wf hk hq hn
          have ht' := hI.wf.pn k _ hk o1
          have hr := (Fix.res hI.wf hk hq hf hn).1
          conv => lhs; unfold res
          rw [e1]
          conv => rhs; arg 2; unfold res
          rw [← comp_assoc hr (ht.comp hgp), ← comp_assoc hr ht, h1]
        rw [key]
        exact nmul _ _ hs hu
/-- which places of a row are filled: those to which a member that fixes the points below takes the level's point -/
theorem row_iff {n : Nat} {G : Gens} {T : Rows} (hI : Inv n 0 G T) (hn : 0 < n) {k : Nat} (hk : k < n) {y : Int} (h0 : 0 ≤ y) (hy : y < n) :
    tr T k y ≠ [] ↔ ∃ p, Grp n (lv G 0) p ∧ Fix k p ∧ at_ p (k : Int) = y := by
  have hsub : ∀ j, j < n → ∀ p, Grp n (lv G j) p → Grp n (lv G 0) p := by
    intro j
    induction j with
    | zero => intro _ p hp; exact hp
    | succ j ih =>
      intro hj p hp
      exact ih (by omega) p (Grp.mono (fun g hg => hI.gpn j g (by omega) hg) (fun g hg => hI.up j g hj hg) hp)
  constructor
  · intro h
    exact ⟨_, hsub k hk _ (hI.row k y hk h), hI.wf.fix k y hk h, hI.wf.at_ k y hk h⟩
  · rintro ⟨p, hp, hf, rfl⟩
    have hs := (level_grp n 0 (by omega) hn hI p).2 hp
    -- down to level k
    have hdown : ∀ j, j ≤ k → has T n (n - j) p = true := by
      intro j
      induction j with
      | zero => intro _; exact hs.2.2
      | succ j ih =>
        intro hj
        have h1 := ih (by omega)
        obtain ⟨a, b⟩ := (Ok.has (by omega : j < n)).2 h1
        have e : at_ p (j : Int) = j := hf j (by omega) (by omega)
        have e2 : tr T j (at_ p (j : Int)) = pts n := by rw [e]; exact hI.wf.one j (by omega)
        have e3 : res T j p = p := by unfold res; rw [e2, inv_id, comp_id hs.1]
        rwa [e3] at b
    exact ((Ok.has hk).2 (hdown k (Nat.le_refl _))).1
end PM
