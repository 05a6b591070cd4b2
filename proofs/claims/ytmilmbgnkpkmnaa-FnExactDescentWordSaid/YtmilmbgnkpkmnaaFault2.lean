/- Faults in plain words: lists of them in memory; descents. -/
import Derived.Test.YtmilmbgnkpkmnaaSpecEnt
namespace Go.Proofs.Ytmilmbgnkpkmnaa
open Go.RowKit
set_option maxRecDepth 10000

theorem SeqA.take {α : Type} [Rp α] {w : World} {a : Option Addr} {cap : Nat} {xs : List α} {ob : List Nat} {fps : List (List Nat)} (h : SeqA w a cap xs ob fps) (n : Nat) : SeqA w a cap (xs.take n) ob (fps.take n) := by
  refine ⟨Nat.le_trans (by simp; omega) h.len, h.cap, by simp [h.nf], fun k hk => ?_, h.lt, h.one⟩
  have hk' : k < xs.length := by simp at hk; omega
  obtain ⟨b, off, cs, h1, h2, h3, h4⟩ := h.at_ k hk'
  exact ⟨b, off, cs, h1, h2, h3, by simpa using h4⟩
/-- the first n elements -/
theorem take_rd {α : Type} [Rp α] {w : World} {a : Option Addr} {cap len : Nat} {xs : List α} {fp : List Nat} (h : Rd w (.slice a len cap) xs fp) (n : Nat) (hn : n ≤ xs.length) : ∃ fp', Rd w (.slice a n cap) (xs.take n) fp' ∧ (∀ b ∈ fp', b ∈ fp) ∧ (fp.Nodup → fp'.Nodup) := by
  obtain ⟨a', cap', ob, fps, hv, hfp, hs⟩ := h.open_
  injection hv with h1 h2 h3
  subst h1; subst h3
  have h4 := (hs.take n).rd
  rw [List.length_take, Nat.min_eq_left hn] at h4
  refine ⟨_, h4, fun b hb => ?_, fun hnd => ?_⟩
  · rw [hfp]
    rcases List.mem_append.1 hb with hb | hb
    · exact List.mem_append_left _ hb
    · obtain ⟨f, hf, hb⟩ := List.mem_flatten.1 hb
      exact List.mem_append_right _ (List.mem_flatten.2 ⟨f, List.mem_of_mem_take hf, hb⟩)
  · rw [hfp] at hnd
    obtain ⟨n1, n2, n3⟩ := List.nodup_append.1 hnd
    have hsub : (fps.take n).flatten.Sublist fps.flatten := by
      have : fps = fps.take n ++ fps.drop n := (List.take_append_drop n fps).symm
      rw [show fps.flatten = (fps.take n).flatten ++ (fps.drop n).flatten by rw [← List.flatten_append, ← this]]
      exact List.sublist_append_left _ _
    exact List.nodup_append.2 ⟨n1, List.Nodup.sublist hsub n2, fun x hx y hy => n3 x hx y (hsub.subset hy)⟩
/-- the cells of a fault -/
def fcells (f : Fault) : List Value := [.int .i64 f.kind, .int .i64 f.entry, .int .i64 f.letter]
theorem fcells_get : ∀ (ys : List Fault) (j : Nat) (u : Value), (ys.map fcells).flatten[j]? = some u → ∃ (k r : Nat) (h : k < ys.length), j = k * 3 + r ∧ r < 3 ∧ (fcells ys[k])[r]? = some u
  | [], j, u, h => by simp at h
  | y :: ys, j, u, h => by
    rw [List.map_cons, List.flatten_cons] at h
    by_cases hj : j < 3
    · rw [List.getElem?_append_left (by simp [fcells]; exact hj)] at h
      exact ⟨0, j, by simp, by omega, hj, h⟩
    · rw [List.getElem?_append_right (by simp [fcells]; omega)] at h
      have e : j - (fcells y).length = j - 3 := rfl
      rw [e] at h
      obtain ⟨k, r, hk, h1, h2, h3⟩ := fcells_get ys (j - 3) u h
      exact ⟨k + 1, r, by simp; omega, by omega, h2, h3⟩
theorem fault_src {w : World} {a : Option Addr} {cap : Nat} {ys : List Fault} {ob : List Nat} {fps : List (List Nat)} (h : SeqA w a cap ys ob fps) :
    (∀ ad, a = some ad → ∀ j u, (ys.map fcells).flatten[j]? = some u → w.cell? (ad.add j) = some u) ∧ (a = none → ys.length = 0) := by
  constructor
  · intro ad ha j u hu
    obtain ⟨k, r, hk, rfl, hr, hu⟩ := fcells_get ys j u hu
    obtain ⟨b, off, cs, ha', -, hc, rfl, -, -⟩ := h.at_ k hk
    rw [ha] at ha'; injection ha' with ha'; subst ha'
    have hadd : (⟨b, off, none⟩ : Addr).add (k * 3 + r) = ⟨b, off + (k * 3 + r), none⟩ := by unfold Addr.add; split <;> simp_all
    rw [hadd, ← Nat.add_assoc]
    exact hc r u hu
  · intro ha
    rcases Nat.eq_zero_or_pos ys.length with h0 | h0
    · exact h0
    · obtain ⟨_, _, _, ha', _⟩ := h.at_ 0 h0
      rw [ha] at ha'; cases ha'
theorem flat_nil {fps : List (List Nat)} (h : ∀ k (hk : k < fps.length), fps[k] = []) : fps.flatten = [] := by
  rw [List.flatten_eq_nil_iff]
  intro l hl
  obtain ⟨k, hk, rfl⟩ := List.getElem_of_mem hl
  exact h k hk
theorem fcells_len (ys : List Fault) : (ys.map fcells).flatten.length = ys.length * 3 := by
  induction ys with
  | nil => rfl
  | cons y ys ih => simp [fcells, ih]; omega
/-- append(v, ys...) -/
theorem wp_fapp {o : Oper} {a : Act} {K : Act → World → Prop} {Q : Exit → Act → World → Prop} {w w0 wx W : World} {B : Nat} {G : List Nat} {v : Value} {L ys : List Fault}
    (s y : Operand) (ho : o.op = .call { callee := .builtin .append, args := #[s, y], argTypes := #[63, 63] })
    (hs : a.eval s = v) (hA : AccK w B 87 G W w0 v L) (hK0 : Only [] w0 wx) (hB0 : w.heap.size ≤ B) (hB : B ≤ w0.heap.size) (u : Value) (fp : List Nat) (hx : a.eval y = u) (hy : Rd wx u ys fp) (hlen : L.length + ys.length ≤ 1073741824)
    (h : ∀ v' w', AccK w B 87 G W w' v' (L ++ ys) → Only v.ownBlock.toList wx w' → K (a.put o.dst v') w') : o.wp Try.prog a wx K Q := by
  obtain ⟨i0, hi, hz0, hz1, hz2⟩ := info_parts Try.infoFault
  obtain ⟨fs, hAc, hF, hO, hd, hl, hap⟩ := hA
  obtain ⟨css, hown, hcl, hre⟩ := (hAc.keep hK0).own
  obtain ⟨A, cap, ob, fps, rfl, -, hsq⟩ := hy.open_
  obtain ⟨hsrc, hnone⟩ := fault_src hsq
  have hfl := hAc.fl
  have hfn : ∀ k (hk : k < fps.length), fps[k] = [] := fun k hk => by
    obtain ⟨_, _, _, _, _, _, _, _, h9⟩ := hsq.at_ k (by rw [← hsq.nf]; exact hk)
    exact h9
  have hfw : ∀ k (hk : k < ys.length), I64 ys[k].kind ∧ I64 ys[k].entry ∧ I64 ys[k].letter := fun k hk => by
    obtain ⟨_, _, _, _, _, _, _, h9, _⟩ := hsq.at_ k hk
    exact h9
  refine wp_app wx s y _ ho B 87 i0 _ 3 24 Try.underlying63 hi hz0 hz1 hz2 rfl (by omega) v L.length css.flatten hs hown A ys.length cap (ys.map fcells).flatten hx (fcells_len ys) hsrc hnone ?_ (by unfold maxLen; omega) (by omega) (Nat.le_trans hB hK0.size) ?_
  · intro u hu
    obtain ⟨l, hl', hu⟩ := List.mem_flatten.1 hu
    obtain ⟨f, -, rfl⟩ := List.mem_map.1 hl'
    simp [fcells] at hu
    rcases hu with rfl | rfl | rfl <;> rfl
  intro v' w' hO' hg hb
  have hW : Only v.ownBlock.toList wx w' := (Only.refl _ _).grown hg (by intro k hk _; simp [hk])
  have hlt := (hAc.keep hK0).lt
  have hfs : ∀ b ∈ fs.flatten, b ∉ v.ownBlock.toList := fun b hb hm => hAc.apart b (by simpa using hm) hb
  have hfl2 : (fs ++ List.replicate ys.length ([] : List Nat)).flatten = fs.flatten := by rw [List.flatten_append, flatten_nil, List.append_nil]
  refine h v' w' ⟨fs ++ List.replicate ys.length [], ⟨⟨css ++ ys.map fcells, ?_, by simp [hcl], fun k h1 h2 h3 => ?_⟩, by simp [hfl], ?_⟩, ?_, ?_, fun b hb => ?_, fun b hb => ?_, fun b hb hm => ?_⟩ hW
  · rw [List.length_append, List.flatten_append]; exact hO'
  · by_cases hk : k < L.length
    · rw [List.getElem_append_left (by rw [hcl]; exact hk), List.getElem_append_left hk, List.getElem_append_left (by rw [hfl]; exact hk)]
      exact Rp.only (hre k (by omega) hk (by omega)) hW fun b hb => hfs b (List.mem_flatten.2 ⟨_, List.getElem_mem _, hb⟩)
    · rw [List.getElem_append_right (by rw [hcl]; omega), List.getElem_append_right (by omega), List.getElem_append_right (by rw [hfl]; omega)]
      simp only [List.getElem_map, List.getElem_replicate, hcl]
      exact ⟨rfl, hfw _ _, rfl⟩
  · intro g' hg' hm
    rw [hfl2] at hm
    rcases hb with hb | hb
    · rw [hb] at hg'; exact hAc.apart g' hg' hm
    · rw [hb] at hg'; injection hg' with hg'; subst hg'
      exact absurd (hlt _ hm) (by omega)
  · rw [hfl2]
    exact (hF.keep hK0).only hW hfs
  · exact (hO.trans hK0).then_ hW fun b hm hb => by have := (hAc.ownlt b (by simpa using hm)).1; omega
  · have hlt' := Nat.lt_of_lt_of_le (hl b hb) hK0.size
    rw [hW.block b hlt' (hap b hb), hK0.block b (hl b hb) (by simp)]
    exact hd b hb
  · exact Nat.lt_of_lt_of_le (Nat.lt_of_lt_of_le (hl b hb) hK0.size) hW.size
  · have hm' : v'.ownBlock = some b := by simpa using hm
    rcases ‹v'.ownBlock = v.ownBlock ∨ v'.ownBlock = some wx.heap.size› with h5 | h5
    · exact hap b hb (by rw [← h5]; exact hm)
    · rw [h5] at hm'; injection hm' with hm'
      have := hl b hb; have := hK0.size; omega
theorem wpList_fapp {ops : Array Oper} {rest : List Oper} {o : Oper} {a : Act} {Q : Exit → Act → World → Prop} {w w0 wx W : World} {B : Nat} {G : List Nat} {v : Value} {L ys : List Fault}
    (hgd : o.guard = none) (s y : Operand) (ho : o.op = .call { callee := .builtin .append, args := #[s, y], argTypes := #[63, 63] })
    (hs : a.eval s = v) (hA : AccK w B 87 G W w0 v L) (hK0 : Only [] w0 wx) (hB0 : w.heap.size ≤ B) (hB : B ≤ w0.heap.size) (u : Value) (fp : List Nat) (hx : a.eval y = u) (hy : Rd wx u ys fp) (hlen : L.length + ys.length ≤ 1073741824)
    (h : ∀ v' w', AccK w B 87 G W w' v' (L ++ ys) → Only v.ownBlock.toList wx w' → wpList Try.prog ops Q rest (a.put o.dst v') w') : wpList Try.prog ops Q (o :: rest) a wx :=
  wpList_plain hgd fun _ hK => wp_fapp s y ho hs hA hK0 hB0 hB u fp hx hy hlen fun v' w' h1 h2 => hK _ _ (h v' w' h1 h2)

/-- the faults of the entries ahead of j, more than enough -/
theorem faultsTo_add (x : Puzzle) (t : Table) (j n : Nat) (h : j ≤ n) : ∃ r, faultsTo x t n = faultsTo x t j ++ r := by
  obtain ⟨m, rfl⟩ : ∃ m, n = j + m := ⟨n - j, by omega⟩
  induction m with
  | zero => exact ⟨[], by simp⟩
  | succ m ih =>
    obtain ⟨r, hr⟩ := ih (by omega)
    exact ⟨r ++ entF x t (j + m), by rw [show j + (m + 1) = (j + m) + 1 by omega, faultsTo_succ, hr, List.append_assoc]⟩
theorem faults_enough {x : Puzzle} {t : Table} {j n : Nat} (h : j ≤ n) (hl : 40 ≤ (faultsTo x t j).length) : (faultsTo x t n).take 40 = (faultsTo x t j).take 40 := by
  obtain ⟨r, hr⟩ := faultsTo_add x t j n h
  rw [hr, List.take_append_of_le_length hl]
/-- a fault by which a distance may be too great -/
def badK (f : Fault) : Bool := decide (f.kind = 1) || (decide (f.kind = 4) || decide (f.kind = 5))
def admB (x : Puzzle) (t : Table) : Bool := checkT x t && (List.range t.patterns.length).all fun i => (entF x t i).all fun f => !badK f
end Go.Proofs.Ytmilmbgnkpkmnaa
