/- A family of memory parts of a call's own: all apart from each other; what a write to one of them leaves of the others. The members of a stabilizer chain: how many there are. Tables without faults: the built ones, and no others with the same patterns (laws 10, 11, 26). Descents in a table that was built; a search of few patterns ends (laws 10, 11). The states of a puzzle: how many there are, what the search of them finds (laws 20, 38). The smallest optimal word of a state, in plain words (laws 20, 38). The program's search of all states: its memory under way (laws 20, 38). (Printed by mkxe.py.) The memory of an expansion under way: the copy's box, its patterns and distances, what is added. The program's filler in memory. Fill jobs, the program: indexOf. -/
import Derived.Test.YtkhdmiemfpelcaaGreatRowCrashFillG6
import Derived.Test.YtkhdmiemfpelcaaGreatRowCrashFillG7
import Derived.Test.YtkhdmiemfpelcaaGreatRowCrashFillG11
import Derived.Test.YtkhdmiemfpelcaaGreatRowCrashFillG10
import Derived.Test.YtkhdmiemfpelcaaGreatRowCrashFillG12
import Derived.Test.YtkhdmiemfpelcaaGreatRowCrashFillG4
import Derived.Test.YtkhdmiemfpelcaaGreatRowCrashFillG5
namespace Go.Proofs.YtkhdmiemfpelcaaGreat
open Go.RowKit
set_option maxRecDepth 10000

/-- parts of memory, all from B on, all apart -/
structure Fam (B : Nat) (w : World) (cs : List (List Nat)) : Prop where
  nd : cs.flatten.Nodup
  rng : ∀ c ∈ cs, ∀ b ∈ c, B ≤ b ∧ b < w.heap.size
theorem Fam.keep {B : Nat} {w w' : World} {cs : List (List Nat)} (h : Fam B w cs) (hs : w.heap.size ≤ w'.heap.size) : Fam B w' cs := ⟨h.nd, fun c hc b hb => by have := h.rng c hc b hb; omega⟩
theorem Fam.ge {B : Nat} {w : World} {cs : List (List Nat)} (h : Fam B w cs) (i : Nat) {c : List Nat} (hi : cs[i]? = some c) {b : Nat} (hb : b ∈ c) : B ≤ b := (h.rng c (List.mem_of_getElem? hi) b hb).1
theorem Fam.lt {B : Nat} {w : World} {cs : List (List Nat)} (h : Fam B w cs) (i : Nat) {c : List Nat} (hi : cs[i]? = some c) {b : Nat} (hb : b ∈ c) : b < w.heap.size := (h.rng c (List.mem_of_getElem? hi) b hb).2
theorem flat_disj : ∀ {cs : List (List Nat)}, cs.flatten.Nodup → ∀ {i j : Nat} {c d : List Nat}, i < j → cs[i]? = some c → cs[j]? = some d → ∀ b ∈ c, b ∉ d
  | [], _, i, j, c, d, _, hi, _ => by simp at hi
  | a :: cs, hn, 0, j, c, d, hij, hi, hj => by
    rw [List.flatten_cons, List.nodup_append] at hn
    simp at hi; subst hi
    intro b hb hm
    obtain ⟨k, rfl⟩ : ∃ k, j = k + 1 := ⟨j - 1, by omega⟩
    rw [List.getElem?_cons_succ] at hj
    exact hn.2.2 b hb b (List.mem_flatten.2 ⟨d, List.mem_of_getElem? hj, hm⟩) rfl
  | a :: cs, hn, i + 1, j, c, d, hij, hi, hj => by
    rw [List.flatten_cons, List.nodup_append] at hn
    obtain ⟨k, rfl⟩ : ∃ k, j = k + 1 := ⟨j - 1, by omega⟩
    rw [List.getElem?_cons_succ] at hi hj
    exact flat_disj hn.2.1 (by omega) hi hj
theorem Fam.disj {B : Nat} {w : World} {cs : List (List Nat)} (h : Fam B w cs) (i j : Nat) (hij : i ≠ j) {c d : List Nat} (hi : cs[i]? = some c) (hj : cs[j]? = some d) : ∀ b ∈ c, b ∉ d := by
  intro b hb hm
  rcases Nat.lt_or_gt_of_ne hij with h1 | h1
  · exact flat_disj h.nd h1 hi hj b hb hm
  · exact flat_disj h.nd h1 hj hi b hm hb
theorem flat_set : ∀ {cs : List (List Nat)} {i : Nat} {c : List Nat}, cs.flatten.Nodup → c.Nodup → (∀ b ∈ c, b ∉ (cs.set i []).flatten) → i < cs.length → (cs.set i c).flatten.Nodup
  | [], i, c, _, _, _, hi => by simp at hi
  | a :: cs, 0, c, hn, hc, hd, _ => by
    rw [List.flatten_cons, List.nodup_append] at hn
    rw [List.set_cons_zero, List.flatten_cons, List.nodup_append]
    refine ⟨hc, hn.2.1, fun x hx y hy e => ?_⟩
    subst e
    exact hd x hx (by rw [List.set_cons_zero, List.flatten_cons]; exact List.mem_append_right _ hy)
  | a :: cs, i + 1, c, hn, hc, hd, hi => by
    rw [List.flatten_cons, List.nodup_append] at hn
    rw [List.set_cons_succ, List.flatten_cons, List.nodup_append]
    have hd' : ∀ b ∈ c, b ∉ (cs.set i []).flatten := fun b hb hm => hd b hb (by rw [List.set_cons_succ, List.flatten_cons]; exact List.mem_append_right _ hm)
    refine ⟨hn.1, flat_set hn.2.1 hc hd' (by simpa using hi), fun x hx y hy e => ?_⟩
    subst e
    obtain ⟨d, hdm, hxd⟩ := List.mem_flatten.1 hy
    rcases List.mem_or_eq_of_mem_set hdm with h1 | rfl
    · exact hn.2.2 x hx x (List.mem_flatten.2 ⟨d, h1, hxd⟩) rfl
    · exact hd x hxd (by rw [List.set_cons_succ, List.flatten_cons]; exact List.mem_append_left _ hx)
/-- one part anew: what it was, or new memory -/
theorem Fam.set {B : Nat} {w w' : World} {cs : List (List Nat)} (h : Fam B w cs) (hs : w.heap.size ≤ w'.heap.size) (hB : B ≤ w.heap.size) (i : Nat) {c : List Nat} (hi : cs[i]? = some c) {c' : List Nat} (hn : c'.Nodup) (hc : ∀ b ∈ c', b ∈ c ∨ (w.heap.size ≤ b ∧ b < w'.heap.size)) : Fam B w' (cs.set i c') := by
  have hil : i < cs.length := (List.getElem?_eq_some_iff.1 hi).1
  refine ⟨flat_set h.nd hn (fun b hb hm => ?_) hil, fun d hd b hb => ?_⟩
  · obtain ⟨d, hdm, hbd⟩ := List.mem_flatten.1 hm
    obtain ⟨j, hj⟩ := List.getElem?_of_mem hdm
    have hjl : j < cs.length := by have := (List.getElem?_eq_some_iff.1 hj).1; simpa using this
    by_cases hij : i = j
    · subst hij
      rw [List.getElem?_set_self hil] at hj
      injection hj with hj; subst hj; cases hbd
    · rw [List.getElem?_set_ne hij] at hj
      rcases hc b hb with h1 | h1
      · exact h.disj i j hij hi hj b h1 hbd
      · have := h.lt j hj hbd; omega
  · rcases List.mem_or_eq_of_mem_set hd with h1 | rfl
    · have := h.rng d h1 b hb; omega
    · rcases hc b hb with h1 | h1
      · have := h.rng c (List.mem_of_getElem? hi) b h1; omega
      · omega
theorem Fam.cons {B : Nat} {w w' : World} {cs : List (List Nat)} (h : Fam B w cs) (hs : w.heap.size ≤ w'.heap.size) (hB : B ≤ w.heap.size) {c : List Nat} (hn : c.Nodup) (hc : ∀ b ∈ c, w.heap.size ≤ b ∧ b < w'.heap.size) : Fam B w' (c :: cs) := by
  refine ⟨?_, fun d hd b hb => ?_⟩
  · rw [List.flatten_cons, List.nodup_append]
    refine ⟨hn, h.nd, fun x hx y hy e => ?_⟩
    subst e
    obtain ⟨d, hd, hxd⟩ := List.mem_flatten.1 hy
    have := hc x hx
    have := h.rng d hd x hxd
    omega
  · rcases List.mem_cons.1 hd with rfl | hd
    · have := hc b hb; omega
    · have := h.rng d hd b hb; omega
theorem Fam.nil (B : Nat) (w : World) : Fam B w [] := ⟨by simp, by simp⟩
end Go.Proofs.YtkhdmiemfpelcaaGreat

namespace PM
section
variable {n : Nat} {gens : List (List Int)} {G : Gens} {T : Rows} (h : Chain n gens G T) (hn : 0 < n) (hp : ∀ g ∈ gens, PN n g)
end
end PM

namespace Go.Proofs.YtkhdmiemfpelcaaGreat
open Go.RowKit
set_option maxRecDepth 10000

def Good (x : Puzzle) (t : Table) : Prop := ∀ i, i < t.patterns.length → entF x t i = []
theorem one_nil {b : Bool} {f : Fault} : one b f = [] ↔ b = false := by unfold one; cases b <;> simp
theorem descL_leads {x : Puzzle} {t : Table} {p : List Int} {d : Int} (h : descL x t p d ≠ 0) : descL x t p d ∈ ltrs x.moves.length ∧ leads x t p d (descL x t p d) = true := by
  unfold descL at h ⊢
  cases hf : (ltrs x.moves.length).find? (leads x t p d) with
  | none => rw [hf] at h; exact absurd rfl h
  | some l => exact ⟨List.mem_of_find?_eq_some hf, List.find?_some hf⟩
theorem descL_ne {x : Puzzle} {t : Table} {p : List Int} {d : Int} {l : Int} (hl : l ∈ ltrs x.moves.length) (h : leads x t p d l = true) : descL x t p d ≠ 0 := by
  unfold descL
  cases hf : (ltrs x.moves.length).find? (leads x t p d) with
  | none => have := List.find?_eq_none.1 hf l hl; rw [h] at this; exact absurd rfl this
  | some l' => exact (mem_ltrs.1 (List.mem_of_find?_eq_some hf)).1
theorem leads_iffD {x : Puzzle} {t : Table} {p : List Int} {d l : Int} : leads x t p d l = true ↔ 0 ≤ nextI x t p l ∧ atD t (nextI x t p l) = d := by
  unfold leads atD
  rw [Bool.and_eq_true, decide_eq_true_iff, decide_eq_true_iff]
section
variable {x : Puzzle} {t t' : Table}
/-- what an entry without faults says -/
theorem ent_nil {i : Nat} : entF x t i = [] ↔ (i = 0 → atD t 0 = 0 ∧ atP t 0 = t.tracked) ∧ (i : Int) ≤ idxL t.patterns (atP t i) ∧ (0 < i → atD t i ≠ 0) ∧
    (∀ l ∈ ltrs x.moves.length, 0 ≤ nextI x t (atP t i) l ∧ -1 ≤ atD t (nextI x t (atP t i) l) - atD t i ∧ atD t (nextI x t (atP t i) l) - atD t i ≤ 1) ∧ (0 < atD t i → descL x t (atP t i) (atD t i - 1) ≠ 0) := by
  unfold entF
  rw [List.append_eq_nil_iff, List.append_eq_nil_iff, List.append_eq_nil_iff, List.append_eq_nil_iff, one_nil, one_nil, one_nil, one_nil, List.flatMap_eq_nil_iff]
  have hl : ∀ l, letF x t i l = [] ↔ 0 ≤ nextI x t (atP t i) l ∧ -1 ≤ atD t (nextI x t (atP t i) l) - atD t i ∧ atD t (nextI x t (atP t i) l) - atD t i ≤ 1 := fun l => by
    unfold letF
    split
    · rename_i h; simp; omega
    · rename_i h
      split
      · rename_i h2; rw [inR_iff] at h2; simp; omega
      · rename_i h2; rw [inR_iff] at h2; simp; omega
  constructor
  · rintro ⟨a, b, c, d, e⟩
    refine ⟨fun h0 => ?_, ?_, fun h0 => ?_, fun l h => (hl l).1 (d l h), fun h0 h1 => ?_⟩
    · subst h0
      simp only [decide_true, Bool.true_and, Bool.or_eq_false_iff, decide_eq_false_iff_not] at a
      exact ⟨Decidable.of_not_not a.1, Decidable.of_not_not a.2⟩
    · have := of_decide_eq_false b; omega
    · intro h1; simp [h0, h1] at c
    · simp [h0, h1] at e
  · rintro ⟨a, b, c, d, e⟩
    refine ⟨?_, decide_eq_false (by omega), ?_, fun l h => (hl l).2 (d l h), ?_⟩
    · by_cases h0 : i = 0
      · subst h0; obtain ⟨a1, a2⟩ := a rfl
        simp [a1, a2]
      · simp [h0]
    · by_cases h0 : 0 < i
      · simp [h0, c h0]
      · simp [h0]
    · by_cases h0 : 0 < atD t i
      · simp [e h0]
      · simp [h0]
theorem atD_nat (i : Nat) : atD t i = t.distances.getD i 0 := by unfold atD; rw [Int.toNat_natCast]
theorem Built.good (h : Built x t) : Good x t := by
  intro i hi
  have hstep : ∀ l ∈ ltrs x.moves.length, ∃ i' : Nat, i' < t.patterns.length ∧ t.patterns.getD i' [] = nxt x (atP t i) l ∧ nextI x t (atP t i) l = i' ∧ atD t i' ≤ atD t i + 1 ∧ atD t i ≤ atD t i' + 1 := fun l hl => by
    obtain ⟨i', a1, a2, a3, a4⟩ := h.step hi hl
    refine ⟨i', a1, a2, ?_, by rw [atD_nat, atD_nat]; exact a3, by rw [atD_nat, atD_nat]; exact a4⟩
    show idxL t.patterns (nxt x (t.patterns.getD i []) l) = i'
    rw [← a2]; exact h.idx a1
  refine ent_nil.2 ⟨fun h0 => ?_, ?_, fun h0 => ?_, fun l hl => ?_, fun h0 => ?_⟩
  · have a := h.bi.d0; have b := h.bi.p0
    simp only at a b
    exact ⟨a, b⟩
  · rw [show atP t i = t.patterns.getD i [] from rfl, h.idx hi]; exact Int.le_refl _
  · have := (h.dep i hi).2.2 h0
    rw [atD_nat]; omega
  · obtain ⟨i', a1, a2, a3, a4, a5⟩ := hstep l hl
    rw [a3]; omega
  · have hi0 : 0 < i := by
      rcases Nat.eq_zero_or_pos i with h1 | h1
      · subst h1
        have := h.bi.d0
        simp only at this
        rw [atD_nat, this] at h0; omega
      · exact h1
    obtain ⟨j, l, a1, a2, a3, a4⟩ := h.bi.par i hi0 hi
    simp only at a3 a4
    have hj : j < t.patterns.length := by omega
    have hjm : t.patterns.getD j [] ∈ t.patterns := by rw [getD_get hj]; exact List.getElem_mem hj
    have hb : nxt x (atP t i) (-l) = t.patterns.getD j [] := by
      rw [show atP t i = t.patterns.getD i [] from rfl, ← a3]
      exact nxt_back h.v (h.bi.pat _ hjm) a2
    refine descL_ne (ltrs_neg a2) (leads_iffD.2 ?_)
    have hn : nextI x t (atP t i) (-l) = j := by
      show idxL t.patterns (nxt x (atP t i) (-l)) = j
      rw [hb]; exact h.idx hj
    rw [hn, atD_nat, atD_nat]
    omega
theorem Built.check (h : Built x t) : checkT x t = true := by
  obtain ⟨h1, h2, h3, h4⟩ := validPz_facts h.v
  have h5 := trackB_iff.1 h.tk
  have hd := h.bi.dl
  simp only at hd
  have h20 : ∀ p, patB x.points t.tracked.length p = true → patB 20 t.tracked.length p = true := fun p hp => by
    obtain ⟨a, b, c⟩ := patB_iff.1 hp
    exact patB_iff.2 ⟨a, fun y hy => by have := b y hy; omega, c⟩
  refine checkT_iff.2 ⟨h.v, wfT_iff.2 ⟨trackB_iff.2 ⟨h5.1, fun y hy => by have := h5.2.1 y hy; omega, h5.2.2⟩, ⟨?_, ?_⟩, hd, fun p hp => h20 p (h.bi.pat p hp), fun d hdm => ?_⟩, h.tk, h.bi.pat⟩
  · have := h.bi.ne; simp only at this; omega
  · have := h.ll; omega
  · obtain ⟨i, hi, rfl⟩ := List.getElem_of_mem hdm
    have hil : i < t.patterns.length := by omega
    have := h.dep i hil
    rw [getD_get hi] at this
    have := h.ll
    rw [inR_iff]; omega
theorem Good.dist0 (_ : Good x t) (hc : checkT x t = true) : ∀ i : Nat, i < t.patterns.length → 0 ≤ atD t i := fun i hi => by
  have hw := wfT_iff.1 (checkT_iff.1 hc).2.1
  have hi' : i < t.distances.length := by omega
  rw [atD_nat, getD_get hi']
  have := inR_iff.1 (hw.2.2.2.2 _ (List.getElem_mem hi')); omega
/-- two tables without faults, with the same patterns, have the same distances: one half -/
theorem Good.le (h : Good x t) (hc : checkT x t = true) (h' : Good x t') (hc' : checkT x t' = true) (hp : t'.patterns = t.patterns) : ∀ (n : Nat) (i : Nat), i < t.patterns.length → atD t i = n → atD t' i ≤ n
  | 0, i, hi, hd => by
    have e := ent_nil.1 (h i hi)
    have e' := ent_nil.1 (h' i (by rw [hp]; exact hi))
    have h0 : i = 0 := by
      rcases Nat.eq_zero_or_pos i with h1 | h1
      · exact h1
      · exact absurd (by simpa using hd) (e.2.2.1 h1)
    subst h0
    have := (e'.1 rfl).1
    have e0 : atD t' ((0 : Nat) : Int) = 0 := this
    rw [e0]; exact Int.le_refl _
  | n + 1, i, hi, hd => by
    have e := ent_nil.1 (h i hi)
    have e' := ent_nil.1 (h' i (by rw [hp]; exact hi))
    have hne := e.2.2.2.2 (by rw [hd]; omega)
    obtain ⟨hl, hlead⟩ := descL_leads hne
    obtain ⟨a1, a2⟩ := leads_iffD.1 hlead
    obtain ⟨b1, b2, b3⟩ := e'.2.2.2.1 _ hl
    have hn : nextI x t' (atP t' i) (descL x t (atP t i) (atD t i - 1)) = nextI x t (atP t i) (descL x t (atP t i) (atD t i - 1)) := by
      unfold nextI atP; rw [hp]
    have hlt := (idxL_lt (l := t.patterns) (p := nxt x (atP t i) (descL x t (atP t i) (atD t i - 1)))).2
    obtain ⟨j, hj⟩ : ∃ j : Nat, nextI x t (atP t i) (descL x t (atP t i) (atD t i - 1)) = j := ⟨_, (Int.toNat_of_nonneg a1).symm⟩
    have hjl : j < t.patterns.length := by unfold nextI at hj; omega
    rw [hn, hj] at b2 b3
    rw [hj] at a2
    have := Good.le h hc h' hc' hp n j hjl (by rw [a2, hd]; omega)
    omega
theorem Good.same (h : Good x t) (hc : checkT x t = true) (h' : Good x t') (hc' : checkT x t' = true) (hp : t'.patterns = t.patterns) {i : Nat} (hi : i < t.patterns.length) : atD t i = atD t' i := by
  have h1 := h.dist0 hc i hi
  have h2 := h'.dist0 hc' i (by rw [hp]; exact hi)
  have a := Good.le h hc h' hc' hp (atD t i).toNat i hi (by omega)
  have b := Good.le h' hc' h hc hp.symm (atD t' i).toNat i (by rw [hp]; exact hi) (by omega)
  omega
end
end Go.Proofs.YtkhdmiemfpelcaaGreat

namespace Go.Proofs.YtkhdmiemfpelcaaGreat
open Go.RowKit
set_option maxRecDepth 10000

section
variable {x : Puzzle} {t : Table}
theorem idxL_getD {l : List (List Int)} {p : List Int} (h : 0 ≤ idxL l p) : l.getD (idxL l p).toNat [] = p := by
  rcases idxF_nonneg_or (fun q => decide (q = p)) l with h1 | ⟨k, hk, h1, h2⟩
  · unfold idxL at h; omega
  · unfold idxL
    rw [h1, Int.toNat_natCast, getD_get hk]
    exact of_decide_eq_true h2
theorem Built.root (h : Built x t) {i : Nat} (hi : i < t.patterns.length) : t.patterns.getD i [] = t.tracked ↔ i = 0 := by
  have h0 : t.patterns.getD 0 [] = t.tracked := h.bi.p0
  constructor
  · intro e
    rw [← h0, getD_get hi, getD_get (by omega)] at e
    have hnd : t.patterns.Nodup := h.bi.nd
    exact nodup_at hnd hi (by omega) e
  · rintro rfl; exact h0
theorem Built.dLet_ (h : Built x t) {i : Nat} (hi : i < t.patterns.length) : dLet x t (t.patterns.getD i []) = descL x t (t.patterns.getD i []) (atD t i - 1) := by
  have hx := h.idx hi
  rw [dLet_yes h.check (by rw [hx]; omega), hx]
theorem Built.word (h : Built x t) : ∀ (n m i : Nat), i < t.patterns.length → atD t i = n → n ≤ m →
    ∃ w, dW x t m (t.patterns.getD i []) = some w ∧ w.length = n ∧ (∀ l ∈ w, l ∈ ltrs x.moves.length) ∧ w.foldl (nxt x) (t.patterns.getD i []) = t.tracked
  | 0, m, i, hi, hd, hm => by
    have h0 : i = 0 := by
      rcases Nat.eq_zero_or_pos i with h1 | h1
      · exact h1
      · have := (h.dep i hi).2.2 h1
        rw [atD_nat] at hd; omega
    have hr := (h.root hi).2 h0
    refine ⟨[], ?_, rfl, by simp, hr⟩
    cases m <;> (unfold dW; rw [if_pos hr])
  | n + 1, 0, i, hi, hd, hm => by omega
  | n + 1, m + 1, i, hi, hd, hm => by
    have hr : t.patterns.getD i [] ≠ t.tracked := fun e => by
      have := (h.root hi).1 e
      subst this
      have h0 : t.distances.getD 0 0 = 0 := h.bi.d0
      rw [atD_nat, h0] at hd; omega
    have hg := ent_nil.1 (h.good i hi)
    have hne : descL x t (t.patterns.getD i []) (atD t i - 1) ≠ 0 := hg.2.2.2.2 (by rw [hd]; omega)
    obtain ⟨hl, hlead⟩ := descL_leads hne
    obtain ⟨a1, a2⟩ := leads_iffD.1 hlead
    rw [← h.dLet_ hi] at hl a1 a2 hne
    have hj : t.patterns.getD (nextI x t (t.patterns.getD i []) (dLet x t (t.patterns.getD i []))).toNat [] = nxt x (t.patterns.getD i []) (dLet x t (t.patterns.getD i [])) := idxL_getD a1
    have hlt := (idxL_lt (l := t.patterns) (p := nxt x (t.patterns.getD i []) (dLet x t (t.patterns.getD i [])))).2
    obtain ⟨j, hjj⟩ : ∃ j : Nat, nextI x t (t.patterns.getD i []) (dLet x t (t.patterns.getD i [])) = j := ⟨_, (Int.toNat_of_nonneg a1).symm⟩
    rw [hjj] at a2 hj
    rw [Int.toNat_natCast] at hj
    have hjl : j < t.patterns.length := by unfold nextI at hjj; omega
    obtain ⟨w, b1, b2, b3, b4⟩ := Built.word h n m j hjl (by rw [a2, hd]; omega) (by omega)
    refine ⟨dLet x t (t.patterns.getD i []) :: w, ?_, by simp [b2], ?_, ?_⟩
    · show (if _ then _ else _) = _
      rw [if_neg hr, if_neg hne, ← hj, b1]; rfl
    · intro l hl2
      rcases List.mem_cons.1 hl2 with rfl | hl2
      · exact hl
      · exact b3 l hl2
    · rw [List.foldl_cons, ← hj]; exact b4
theorem Built.letter (h : Built x t) {i : Nat} (hi : i < t.patterns.length) : dLet x t (t.patterns.getD i []) = 0 ↔ atD t i = 0 := by
  have h0 := (h.dep i hi).1
  rw [← atD_nat] at h0
  rw [h.dLet_ hi]
  have hg := ent_nil.1 (h.good i hi)
  constructor
  · intro e
    rcases Int.lt_or_le 0 (atD t i) with h1 | h1
    · exact absurd e (hg.2.2.2.2 h1)
    · omega
  · intro e
    rcases Decidable.em (descL x t (t.patterns.getD i []) (atD t i - 1) = 0) with h1 | h1
    · exact h1
    · obtain ⟨-, hlead⟩ := descL_leads h1
      obtain ⟨a1, a2⟩ := leads_iffD.1 hlead
      have hlt := (idxL_lt (l := t.patterns) (p := nxt x (t.patterns.getD i []) (descL x t (t.patterns.getD i []) (atD t i - 1)))).2
      obtain ⟨j, hj⟩ : ∃ j : Nat, nextI x t (t.patterns.getD i []) (descL x t (t.patterns.getD i []) (atD t i - 1)) = j := ⟨_, (Int.toNat_of_nonneg a1).symm⟩
      have hjl : j < t.patterns.length := by unfold nextI at hj; omega
      rw [hj, atD_nat] at a2
      have := (h.dep j hjl).1
      omega
end
/-- so many patterns at most -/
theorem BI.bound {x : Puzzle} {tr : List Int} {k : Nat} {done : List Int} {s : Met16} (h : BI x tr k done s) : s.1.length ≤ (PM.allL (PM.pts x.points.toNat) tr.length).length := by
  refine PM.nodup_sub_len h.nd fun q hq => ?_
  obtain ⟨a, b, -⟩ := patB_iff.1 (h.pat q hq)
  rw [← a]
  exact PM.mem_allL q fun y hy => PM.mem_pts.2 (by have := b y hy; omega)
end Go.Proofs.YtkhdmiemfpelcaaGreat

namespace Go.Proofs.YtkhdmiemfpelcaaGreat
open Go.RowKit
set_option maxRecDepth 10000
theorem grp_nxt {x : Puzzle} (hv : validPz x = true) {s : List Int} (hs : PM.Grp x.points.toNat x.moves s) {l : Int} (hl : l ∈ ltrs x.moves.length) : PM.Grp x.points.toNat x.moves (nxt x s l) := by
  have h3 := validPz_pn hv
  refine PM.Grp.comp h3 hs ?_
  rcases letter_cases hl with ⟨k, hk, rfl⟩ | ⟨k, hk, rfl⟩
  · rw [mv_pos rfl hk]; exact PM.Grp.gen h3 (List.getElem_mem hk)
  · rw [mv_neg (k := k) rfl hk]; exact PM.Grp.gen_inv h3 (List.getElem_mem hk)
theorem BI.grp {x : Puzzle} {k : Nat} {done : List Int} {s : Met16} (hv : validPz x = true) (h : BI x (PM.pts x.points.toNat) k done s) : ∀ i, i < s.1.length → PM.Grp x.points.toNat x.moves (s.1.getD i []) := by
  intro i
  induction i using Nat.strongRecOn with
  | ind i ih =>
    intro hi
    by_cases h0 : i = 0
    · subst h0; rw [h.p0]; exact .id
    · obtain ⟨j, l, a1, a2, a3, -⟩ := h.par i (by omega) hi
      rw [← a3]
      exact grp_nxt hv (ih j a1 (Nat.lt_trans a1 hi)) a2
section
variable {x : Puzzle} {t : Table}
end
end Go.Proofs.YtkhdmiemfpelcaaGreat

namespace Go.Proofs.YtkhdmiemfpelcaaGreat
open Go.RowKit
set_option maxRecDepth 10000
/-- one letter of the way down -/
structure Down (x : Puzzle) (t : Table) (i : Nat) (n : Nat) (k : Nat) (j : Nat) : Prop where
  hk : k < (ltrs x.moves.length).length
  l : descL x t (t.patterns.getD i []) n = (ltrs x.moves.length)[k]
  hj : j < t.patterns.length
  nx : t.patterns.getD j [] = nxt x (t.patterns.getD i []) (ltrs x.moves.length)[k]
  ds : t.distances.getD j 0 = n
  no : ∀ m (hm : m < k), ∀ i', i' < t.patterns.length → t.patterns.getD i' [] = nxt x (t.patterns.getD i []) ((ltrs x.moves.length)[m]'(Nat.lt_trans hm hk)) → t.distances.getD i' 0 ≠ n ∧ ¬ t.distances.getD i' 0 < (n : Int) + 1
section
variable {x : Puzzle} {t : Table}
theorem Built.down (h : Built x t) {i : Nat} (hi : i < t.patterns.length) {n : Nat} (hd : t.distances.getD i 0 = (n : Int) + 1) : ∃ k j, Down x t i n k j := by
  have hg := ent_nil.1 (h.good i hi)
  have hda : atD t i - 1 = (n : Int) := by rw [atD_nat, hd]; omega
  have hne : descL x t (t.patterns.getD i []) (atD t i - 1) ≠ 0 := hg.2.2.2.2 (by rw [atD_nat, hd]; omega)
  rw [hda] at hne
  rcases @descL_of_dK x t (t.patterns.getD i []) n with ⟨-, h1⟩ | ⟨k, hk, h1, h2⟩
  · exact absurd h1 hne
  · obtain ⟨-, hlead⟩ := descL_leads hne
    obtain ⟨a1, a2⟩ := leads_iffD.1 hlead
    rw [h2] at a1 a2
    have hlt := (idxL_lt (l := t.patterns) (p := nxt x (t.patterns.getD i []) (ltrs x.moves.length)[k])).2
    obtain ⟨j, hj⟩ : ∃ j : Nat, nextI x t (t.patterns.getD i []) (ltrs x.moves.length)[k] = j := ⟨_, (Int.toNat_of_nonneg a1).symm⟩
    have hjl : j < t.patterns.length := by unfold nextI at hj; omega
    have hn := idxL_getD a1
    unfold nextI at hj
    rw [hj, Int.toNat_natCast] at hn
    refine ⟨k, j, hk, h2, hjl, hn, ?_, ?_⟩
    · unfold nextI at a2; rw [hj, atD_nat] at a2; exact a2
    · intro m hm i' hi' e
      have hml : (ltrs x.moves.length)[m]'(Nat.lt_trans hm hk) ∈ ltrs x.moves.length := List.getElem_mem _
      have hne2 : t.distances.getD i' 0 ≠ n := by
        intro e2
        have hl : leads x t (t.patterns.getD i []) n ((ltrs x.moves.length)[m]'(Nat.lt_trans hm hk)) = true := by
          rw [leads_iffD]
          unfold nextI
          rw [← e, h.idx hi', atD_nat]
          exact ⟨by omega, e2⟩
        have hno : ∀ q ∈ (ltrs x.moves.length).take k, leads x t (t.patterns.getD i []) n q = false := by
          have hf : dK x t (t.patterns.getD i []) n = k := h1
          unfold dK idxF at hf
          cases hq : (ltrs x.moves.length).findIdx? (leads x t (t.patterns.getD i []) n) with
          | none => rw [hq] at hf; simp at hf
          | some k' =>
            rw [hq] at hf
            have hf2 : (k' : Int) = k := hf
            have : k' = k := by omega
            subst this
            obtain ⟨_, _, hall⟩ := List.findIdx?_eq_some_iff_getElem.1 hq
            intro q hqm
            rw [List.mem_take_iff_getElem] at hqm
            obtain ⟨m', hm', rfl⟩ := hqm
            simpa using hall m' (by omega)
        have := hno _ (List.mem_take_iff_getElem.2 ⟨m, by omega, rfl⟩)
        rw [hl] at this; cases this
      refine ⟨hne2, fun hlt2 => hne2 ?_⟩
      obtain ⟨i2, b1, b2, b3, b4⟩ := h.step hi hml
      have : i2 = i' := by
        have e3 := b2.trans e.symm
        rw [getD_get b1, getD_get hi'] at e3
        have hnd : t.patterns.Nodup := h.bi.nd
        exact nodup_at hnd b1 hi' e3
      subst this
      omega
end
end Go.Proofs.YtkhdmiemfpelcaaGreat

namespace Go.Proofs.YtkhdmiemfpelcaaGreat
open Go.RowKit
set_option maxRecDepth 10000

def xeF (g M : Nat) (us ud up uy un ur : Value) : List (List Nat) := [[g], [M], us.ownBlock.toList, ud.ownBlock.toList, up.ownBlock.toList, uy.ownBlock.toList, un.ownBlock.toList, ur.ownBlock.toList]
theorem ro_set {cs : List (List Nat)} {i b n : Nat} {c c' : List Nat} (h : b < n ∧ ∀ d ∈ cs, b ∉ d) (hi : cs[i]? = some c) (hn : ∀ b ∈ c', b ∈ c ∨ n ≤ b) : ∀ d ∈ cs.set i c', b ∉ d := by
  intro d hd hb
  rcases List.mem_or_eq_of_mem_set hd with h1 | rfl
  · exact h.2 d h1 hb
  · rcases hn b hb with h2 | h2
    · exact h.2 c (List.mem_of_getElem? hi) h2
    · omega
theorem own_nodup (v : Value) : v.ownBlock.toList.Nodup := by cases v.ownBlock <;> simp
/-- the exploration under way: its box g, its map M, its slices, the row at hand -/
structure XE (x : Puzzle) (v2 : Value) (w : World) (g M : Nat) (LM LS : List (List Int)) (D P Y : List Int) (N : List (List Int)) (R : List Int) (wr : World) (us ud up uy un ur : Value) (fs fn : List (List Nat)) (ex : List Nat) (W : World) : Prop where
  blk : Blk wr g [.int .i64 x.points, .string x.names, v2, us, ud, .map (some M), up, uy, un]
  st : Acc w.heap.size 25 wr us LS fs
  dp : AccI w.heap.size 2 wr ud D
  pa : AccI w.heap.size 2 wr up P
  by_ : AccI w.heap.size 2 wr uy Y
  nx : Acc w.heap.size 25 wr un N fn
  rw_ : AccI w.heap.size 2 wr ur R
  mp : Mq wr M LM.length (firstG LM)
  fam : Fam w.heap.size wr (xeF g M us ud up uy un ur)
  ro : ∀ b ∈ fs.flatten ++ fn.flatten ++ ex, b < wr.heap.size ∧ ∀ c ∈ xeF g M us ud up uy un ur, b ∉ c
  kp : ∀ b ∈ ex, wr.heap[b]? = W.heap[b]?
  on : Only [] w wr
section
variable {x : Puzzle} {v2 : Value} {w : World} {g M : Nat} {LM LS : List (List Int)} {D P Y : List Int} {N : List (List Int)} {R : List Int} {wa wb wr w' : World} {us ud up uy un ur : Value} {fs fn : List (List Nat)} {ex : List Nat} {W : World}
theorem XE.keep (h : XE x v2 w g M LM LS D P Y N R wr us ud up uy un ur fs fn ex W) (ho : Only [] wr w') : XE x v2 w g M LM LS D P Y N R w' us ud up uy un ur fs fn ex W :=
  ⟨h.blk.keep ho, h.st.keep ho, h.dp.keep ho, h.pa.keep ho, h.by_.keep ho, h.nx.keep ho, h.rw_.keep ho, h.mp.keep ho, h.fam.keep ho.size, fun b hb => ⟨Nat.lt_of_lt_of_le (h.ro b hb).1 ho.size, (h.ro b hb).2⟩, fun b hb => (ho.block b (h.ro b (List.mem_append_right _ hb)).1 (by simp)).trans (h.kp b hb), h.on.trans ho⟩

theorem XE.put {LM' : List (List Int)} (h : XE x v2 w g M LM LS D P Y N R wa us ud up uy un ur fs fn ex W) (ho : Only [M] wa wb) (hm : Mq wb M LM'.length (firstG LM')) : XE x v2 w g M LM' LS D P Y N R wb us ud up uy un ur fs fn ex W := by
  have hsz := ho.size
  have hd : ∀ (j : Nat) (c : List Nat), j ≠ 1 → (xeF g M us ud up uy un ur)[j]? = some c → ∀ b ∈ c, b ∉ [M] := fun j c hj hc => h.fam.disj j 1 hj hc rfl
  have hro : ∀ b ∈ fs.flatten ++ fn.flatten ++ ex, b ∉ [M] := fun b hb => (h.ro b hb).2 _ (List.mem_of_getElem? (i := 1) rfl)
  exact ⟨(h.blk.only ho (fun hm => hd 0 _ (by decide) rfl g (by simp) hm)), (h.st.only ho (fun b hb hm => hro b (by first | exact List.mem_append_left _ (List.mem_append_left _ hb) | exact List.mem_append_left _ (List.mem_append_right _ hb)) hm) (fun q hq hm => hd 2 _ (by decide) rfl q (by simp [hq]) hm)), (h.dp.only ho (fun q hq hm => hd 3 _ (by decide) rfl q (by simp [hq]) hm)), (h.pa.only ho (fun q hq hm => hd 4 _ (by decide) rfl q (by simp [hq]) hm)), (h.by_.only ho (fun q hq hm => hd 5 _ (by decide) rfl q (by simp [hq]) hm)), (h.nx.only ho (fun b hb hm => hro b (by first | exact List.mem_append_left _ (List.mem_append_left _ hb) | exact List.mem_append_left _ (List.mem_append_right _ hb)) hm) (fun q hq hm => hd 6 _ (by decide) rfl q (by simp [hq]) hm)), (h.rw_.only ho (fun q hq hm => hd 7 _ (by decide) rfl q (by simp [hq]) hm)), hm, h.fam.keep hsz, fun b hb => ⟨Nat.lt_of_lt_of_le (h.ro b hb).1 hsz, (h.ro b hb).2⟩, fun b hb => (ho.block b (h.ro b (List.mem_append_right _ hb)).1 (hro b (List.mem_append_right _ hb))).trans (h.kp b hb), h.on.then_ ho (fun b hb hl => by have := h.fam.ge 1 rfl (b := M) (by simp); simp at hb; omega)⟩
theorem XE.row0 (h : XE x v2 w g M LM LS D P Y N R wr us ud up uy un ur fs fn ex W) : XE x v2 w g M LM LS D P Y N [] wr us ud up uy un (.slice none 0 0) fs fn ex W := by
  refine ⟨h.blk, h.st, h.dp, h.pa, h.by_, h.nx, AccI.nil _ _ _, h.mp, ?_, fun b hb => ⟨(h.ro b hb).1, fun c hc => ?_⟩, h.kp, h.on⟩
  · exact h.fam.set (c' := []) (Nat.le_refl _) h.on.size 7 rfl (by simp) (by simp)
  · have hc' : c ∈ (xeF g M us ud up uy un ur).set 7 [] := hc
    rcases List.mem_or_eq_of_mem_set hc' with h3 | rfl
    · exact (h.ro b hb).2 c h3
    · simp
/-- more memory that stays as it is -/
theorem XE.hold (h : XE x v2 w g M LM LS D P Y N R wr us ud up uy un ur fs fn ex W) (ho : Only [] wr w') {f : List Nat} (hf : ∀ b ∈ f, wr.heap.size ≤ b ∧ b < w'.heap.size) : XE x v2 w g M LM LS D P Y N R w' us ud up uy un ur fs fn (ex ++ f) w' := by
  have h1 := h.keep ho
  refine ⟨h1.blk, h1.st, h1.dp, h1.pa, h1.by_, h1.nx, h1.rw_, h1.mp, h1.fam, fun b hb => ?_, fun _ _ => rfl, h1.on⟩
  rw [← List.append_assoc] at hb
  rcases List.mem_append.1 hb with hb | hb
  · exact h1.ro b hb
  · refine ⟨(hf b hb).2, fun c hc hm => ?_⟩
    obtain ⟨j, hj⟩ := List.getElem?_of_mem hc
    have := h.fam.lt j hj hm
    have := (hf b hb).1
    omega
theorem XE.drop {f : List Nat} {W' : World} (h : XE x v2 w g M LM LS D P Y N R wr us ud up uy un ur fs fn (ex ++ f) W') (hW : ∀ b ∈ ex, W'.heap[b]? = W.heap[b]?) : XE x v2 w g M LM LS D P Y N R wr us ud up uy un ur fs fn ex W :=
  ⟨h.blk, h.st, h.dp, h.pa, h.by_, h.nx, h.rw_, h.mp, h.fam, fun b hb => h.ro b (by rw [← List.append_assoc]; exact List.mem_append_left _ hb), fun b hb => (h.kp b (List.mem_append_left _ hb)).trans (hW b hb), h.on⟩
theorem XE.held (h : XE x v2 w g M LM LS D P Y N R wr us ud up uy un ur fs fn ex W) {α : Type} [Rp α] {cs : List Value} {y : α} {fp : List Nat} (hr : Rp.rep W cs y fp) (hf : ∀ b ∈ fp, b ∈ ex) : Rp.rep wr cs y fp := Rp.frame hr fun b hb => h.kp b (hf b hb)
/-- older memory -/
theorem XE.old (h : XE x v2 w g M LM LS D P Y N R wr us ud up uy un ur fs fn ex W) {cs : List Value} {α : Type} [Rp α] {y : α} {fp : List Nat} (hr : Rp.rep w cs y fp) : Rp.rep wr cs y fp := Rp.keep hr h.on
end
end Go.Proofs.YtkhdmiemfpelcaaGreat

namespace Go.Proofs.YtkhdmiemfpelcaaGreat
open Go.RowKit
set_option maxRecDepth 10000

def xxF (g : Nat) (u2 u3 ua : Value) : List (List Nat) := [[g], u2.ownBlock.toList, u3.ownBlock.toList, ua.ownBlock.toList]
/-- an expansion under way: the box g, the patterns u2, the distances u3, the added ones ua; what is only read is ex -/
structure XX (w : World) (g : Nat) (v1 c4 c5 c6 : Value) (L2 : List (List Int)) (L3 : List Int) (LA : List (List Int)) (wr : World) (u2 u3 ua : Value) (fs fa : List (List Nat)) (ex : List Nat) (W : World) : Prop where
  blk : Blk wr g [v1, u2, u3, c4, c5, c6]
  pt : Acc w.heap.size 25 wr u2 L2 fs
  dt : AccI w.heap.size 2 wr u3 L3
  ad : Acc w.heap.size 25 wr ua LA fa
  fam : Fam w.heap.size wr (xxF g u2 u3 ua)
  ro : ∀ b ∈ fs.flatten ++ fa.flatten ++ ex, b < wr.heap.size ∧ ∀ c ∈ xxF g u2 u3 ua, b ∉ c
  kp : ∀ b ∈ ex, wr.heap[b]? = W.heap[b]?
  fr : Fresh w.heap.size wr fs.flatten
  on : Only [] w wr
section
variable {w : World} {g : Nat} {v1 c4 c5 c6 : Value} {L2 LA : List (List Int)} {L3 : List Int} {wa wb wr w' : World} {u2 u3 ua : Value} {fs fa : List (List Nat)} {ex : List Nat} {W : World}
theorem XX.keep (h : XX w g v1 c4 c5 c6 L2 L3 LA wr u2 u3 ua fs fa ex W) (ho : Only [] wr w') : XX w g v1 c4 c5 c6 L2 L3 LA w' u2 u3 ua fs fa ex W :=
  ⟨h.blk.keep ho, h.pt.keep ho, h.dt.keep ho, h.ad.keep ho, h.fam.keep ho.size, fun b hb => ⟨Nat.lt_of_lt_of_le (h.ro b hb).1 ho.size, (h.ro b hb).2⟩, fun b hb => (ho.block b (h.ro b (List.mem_append_right _ hb)).1 (by simp)).trans (h.kp b hb), h.fr.keep ho, h.on.trans ho⟩
/-- more memory that stays as it is -/
theorem XX.hold (h : XX w g v1 c4 c5 c6 L2 L3 LA wr u2 u3 ua fs fa ex W) (ho : Only [] wr w') {f : List Nat} (hf : ∀ b ∈ f, wr.heap.size ≤ b ∧ b < w'.heap.size) : XX w g v1 c4 c5 c6 L2 L3 LA w' u2 u3 ua fs fa (ex ++ f) w' := by
  have h1 := h.keep ho
  refine ⟨h1.blk, h1.pt, h1.dt, h1.ad, h1.fam, fun b hb => ?_, fun _ _ => rfl, h1.fr, h1.on⟩
  rw [← List.append_assoc] at hb
  rcases List.mem_append.1 hb with hb | hb
  · exact h1.ro b hb
  · refine ⟨(hf b hb).2, fun c hc hm => ?_⟩
    obtain ⟨j, hj⟩ := List.getElem?_of_mem hc
    have := h.fam.lt j hj hm
    have := (hf b hb).1
    omega
theorem XX.drop {f : List Nat} {W' : World} (h : XX w g v1 c4 c5 c6 L2 L3 LA wr u2 u3 ua fs fa (ex ++ f) W') (hW : ∀ b ∈ ex, W'.heap[b]? = W.heap[b]?) : XX w g v1 c4 c5 c6 L2 L3 LA wr u2 u3 ua fs fa ex W :=
  ⟨h.blk, h.pt, h.dt, h.ad, h.fam, fun b hb => h.ro b (by rw [← List.append_assoc]; exact List.mem_append_left _ hb), fun b hb => (h.kp b (List.mem_append_left _ hb)).trans (hW b hb), h.fr, h.on⟩
theorem XX.held (h : XX w g v1 c4 c5 c6 L2 L3 LA wr u2 u3 ua fs fa ex W) {α : Type} [Rp α] {cs : List Value} {y : α} {fp : List Nat} (hr : Rp.rep W cs y fp) (hf : ∀ b ∈ fp, b ∈ ex) : Rp.rep wr cs y fp := Rp.frame hr fun b hb => h.kp b (hf b hb)
theorem XX.old (h : XX w g v1 c4 c5 c6 L2 L3 LA wr u2 u3 ua fs fa ex W) {cs : List Value} {α : Type} [Rp α] {y : α} {fp : List Nat} (hr : Rp.rep w cs y fp) : Rp.rep wr cs y fp := Rp.keep hr h.on
theorem XX.blk_ex (h : XX w g v1 c4 c5 c6 L2 L3 LA wr u2 u3 ua fs fa ex W) {b : Nat} {cs : List Value} (hb : b ∈ ex) (hB : Blk W b cs) : Blk wr b cs := by
  obtain ⟨t, ht⟩ := hB
  exact ⟨t, by rw [h.kp b hb]; exact ht⟩
theorem XX.start {B ga : Nat} {w1 : World} {v2 v3 : Value} {tr : List Int} {ps : List (List Int)} {ds : List Int} {f1 : List Nat} (hT : TA B w1 v1 v2 v3 ⟨tr, ps, ds⟩ f1 fs) (hB : w.heap.size ≤ B) (hw : Only [] w w1) (hW : Only [] w1 W) (hb : Blk W g [v1, v2, v3, c4, c5, c6]) (hg : w1.heap.size ≤ g)
    (hA : Acc w.heap.size 25 W (.slice (some ⟨ga, 0, none⟩) 0 0) ([] : List (List Int)) []) (hga : g < ga) (hex : ∀ b ∈ ex, b < W.heap.size ∧ b ≠ g ∧ b ≠ ga ∧ b ∉ v2.ownBlock.toList ∧ b ∉ v3.ownBlock.toList) :
    XX w g v1 c4 c5 c6 ps ds [] W v2 v3 (.slice (some ⟨ga, 0, none⟩) 0 0) fs [] ex W := by
  have hT2 := (hT.keep hW).lower hB
  have hfr := hT.fr
  have hgl := hb.lt
  have hgal := (hA.ownlt ga rfl).2
  have nd := hfr.nd
  have nd2 := (List.nodup_append.1 nd).2.1
  have nd3 := (List.nodup_append.1 nd2).1
  have l2 : ∀ b ∈ v2.ownBlock.toList, B ≤ b ∧ b < w1.heap.size := fun b hb => hT.pt.ownlt b (by simpa using hb)
  have l3 : ∀ b ∈ v3.ownBlock.toList, B ≤ b ∧ b < w1.heap.size := fun b hb => hT.dt.ownlt b (by simpa using hb)
  have d23 : ∀ b ∈ v2.ownBlock.toList, b ∉ v3.ownBlock.toList := fun b h2 h3 => (List.nodup_append.1 nd2).2.2 b (List.mem_append_left _ h2) b h3 rfl
  have ds2 : ∀ b ∈ fs.flatten, b ∉ v2.ownBlock.toList := fun b h2 h3 => (List.nodup_append.1 nd3).2.2 b h3 b h2 rfl
  have ds3 : ∀ b ∈ fs.flatten, b ∉ v3.ownBlock.toList := fun b h2 h3 => (List.nodup_append.1 nd2).2.2 b (List.mem_append_right _ h2) b h3 rfl
  have hs1 := hw.size
  have hs2 := hW.size
  refine ⟨hb, hT2.pt, hT2.dt, hA, ⟨?_, ?_⟩, ?_, fun _ _ => rfl, ?_, hw.trans hW⟩
  · show ([[g], v2.ownBlock.toList, v3.ownBlock.toList, [ga]] : List (List Nat)).flatten.Nodup
    simp only [List.flatten_cons, List.flatten_nil, List.append_nil]
    refine List.nodup_append.2 ⟨by simp, List.nodup_append.2 ⟨own_nodup _, List.nodup_append.2 ⟨own_nodup _, by simp, fun a ha b hm e => ?_⟩, fun a ha b hm e => ?_⟩, fun a ha b hm e => ?_⟩
    · subst e; have := l3 a ha; simp at hm; omega
    · subst e
      rcases List.mem_append.1 hm with hm | hm
      · exact d23 a ha hm
      · have := l2 a ha; simp at hm; omega
    · subst e
      simp at ha
      subst ha
      rcases List.mem_append.1 hm with hm | hm
      · have := l2 _ hm; omega
      · rcases List.mem_append.1 hm with hm | hm
        · have := l3 _ hm; omega
        · simp at hm; omega
  · intro c hc b hb
    have hc' : c = [g] ∨ c = v2.ownBlock.toList ∨ c = v3.ownBlock.toList ∨ c = [ga] := by simpa [xxF, Value.ownBlock] using hc
    rcases hc' with rfl | rfl | rfl | rfl
    · simp at hb; omega
    · have := l2 b hb; omega
    · have := l3 b hb; omega
    · simp at hb; omega
  · intro b hb
    have key : b < W.heap.size ∧ b ≠ g ∧ b ≠ ga ∧ b ∉ v2.ownBlock.toList ∧ b ∉ v3.ownBlock.toList := by
      rcases List.mem_append.1 hb with hb | hb
      · have hb' : b ∈ fs.flatten := by simpa using hb
        have := hT.pt.lt b hb'
        exact ⟨by omega, by omega, by omega, ds2 b hb', ds3 b hb'⟩
      · exact hex b hb
    refine ⟨key.1, fun c hc hm => ?_⟩
    have hc' : c = [g] ∨ c = v2.ownBlock.toList ∨ c = v3.ownBlock.toList ∨ c = [ga] := by simpa [xxF, Value.ownBlock] using hc
    rcases hc' with rfl | rfl | rfl | rfl
    · simp at hm; exact key.2.1 hm
    · exact key.2.2.2.1 hm
    · exact key.2.2.2.2 hm
    · simp at hm; exact key.2.2.1 hm
  · exact hT2.fr.right.left.right
theorem XX.push2 {y : List Int} {f : List Nat} {u2' : Value} (h : XX w g v1 c4 c5 c6 L2 L3 LA wa u2 u3 ua fs fa ex W) (hA : Acc w.heap.size 25 wb u2' (L2 ++ [y]) (fs ++ [f])) (oA : Only u2.ownBlock.toList wa wb) (nA : u2'.ownBlock = u2.ownBlock ∨ u2'.ownBlock = some wa.heap.size) (hf : ∀ b ∈ f, b ∈ ex ∧ b ∉ fs.flatten) (hF : Fresh w.heap.size wa f) :
    XX w g v1 c4 c5 c6 (L2 ++ [y]) L3 LA (wb.setCell ⟨g, 1, none⟩ u2') u2' u3 ua (fs ++ [f]) fa ex W := by
  have hB := h.on.size
  have hsz := oA.size
  have hd : ∀ (j : Nat) (c : List Nat), j ≠ 1 → (xxF g u2 u3 ua)[j]? = some c → ∀ b ∈ c, b ∉ u2.ownBlock.toList := fun j c hj hc => h.fam.disj j 1 hj hc rfl
  have hn : ∀ b ∈ u2'.ownBlock.toList, b ∈ u2.ownBlock.toList ∨ (wa.heap.size ≤ b ∧ b < wb.heap.size) := fun b hb => by
    have hb' : u2'.ownBlock = some b := by simpa using hb
    have hl := (hA.ownlt b hb').2
    rcases nA with e | e
    · left; rw [← e]; exact hb
    · right; rw [e] at hb'; injection hb' with hb'; omega
  have hro : ∀ b ∈ fs.flatten ++ fa.flatten ++ ex, b ∉ u2.ownBlock.toList := fun b hb => (h.ro b hb).2 _ (List.mem_of_getElem? (i := 1) rfl)
  have f1 : Fam w.heap.size wb ((xxF g u2 u3 ua).set 1 u2'.ownBlock.toList) := h.fam.set hsz hB 1 rfl (own_nodup _) hn
  have hro2 : ∀ b ∈ (fs ++ [f]).flatten ++ fa.flatten ++ ex, b < wb.heap.size ∧ ∀ c ∈ (xxF g u2 u3 ua).set 1 u2'.ownBlock.toList, b ∉ c := fun b hb => by
    have hb2 : b < wa.heap.size ∧ ∀ c ∈ xxF g u2 u3 ua, b ∉ c := by
      rw [List.flatten_append] at hb
      simp only [List.flatten_cons, List.flatten_nil, List.append_nil, List.mem_append] at hb
      rcases hb with ((hb | hb) | hb) | hb
      · exact h.ro b (List.mem_append_left _ (List.mem_append_left _ hb))
      · exact h.ro b (List.mem_append_right _ (hf b hb).1)
      · exact h.ro b (List.mem_append_left _ (List.mem_append_right _ hb))
      · exact h.ro b (List.mem_append_right _ hb)
    exact ⟨by omega, ro_set (i := 1) hb2 rfl (fun q hq => (hn q hq).imp id (fun hh => hh.1))⟩
  have hkp : ∀ b ∈ ex, wb.heap[b]? = W.heap[b]? := fun b hb => (oA.block b (h.ro b (List.mem_append_right _ hb)).1 (hro b (List.mem_append_right _ hb))).trans (h.kp b hb)
  have hon : Only [] w wb := h.on.then_ oA (fun b hb hl => by have := h.fam.ge 1 rfl hb; omega)
  have hs : Only [g] wb (wb.setCell ⟨g, 1, none⟩ u2') := (Only.refl _ _).setCell (by simp) _
  have hg0 : ∀ (j : Nat) (c : List Nat), j ≠ 0 → ((xxF g u2 u3 ua).set 1 u2'.ownBlock.toList)[j]? = some c → ∀ b ∈ c, b ∉ [g] := fun j c hj hc => f1.disj j 0 hj hc rfl
  have hrg : ∀ b ∈ (fs ++ [f]).flatten ++ fa.flatten ++ ex, b ∉ [g] := fun b hb => (hro2 b hb).2 [g] (List.mem_of_getElem? (i := 0) rfl)
  have hb9 := (h.blk.only oA (fun hm => hd 0 _ (by decide) rfl g (by simp) hm)).set 1 u2'
  simp only [List.set] at hb9
  have hfr : Fresh w.heap.size wb (fs ++ [f]).flatten := by
    have e : (fs ++ [f]).flatten = fs.flatten ++ f := by simp
    rw [e]
    have h1 : Fresh w.heap.size wa (fs.flatten ++ f) := ⟨List.nodup_append.2 ⟨h.fr.nd, hF.nd, fun a ha b hb hab => (hf b hb).2 (hab ▸ ha)⟩, fun b hb => by
      rcases List.mem_append.1 hb with hb | hb
      · exact h.fr.ge b hb
      · exact hF.ge b hb, h.fr.own.append hF.own⟩
    exact h1.only oA fun b hb => by
      rcases List.mem_append.1 hb with hb | hb
      · exact hro b (List.mem_append_left _ (List.mem_append_left _ hb))
      · exact hro b (List.mem_append_right _ (hf b hb).1)
  refine ⟨hb9, hA.only hs (fun b hb hm => hrg b (List.mem_append_left _ (List.mem_append_left _ hb)) hm) (fun q hq hm => hg0 1 _ (by decide) rfl q (by simp [hq]) hm),
    (h.dt.only oA (fun q hq hm => hd 2 _ (by decide) rfl q (by simp [hq]) hm)).only hs (fun q hq hm => hg0 2 _ (by decide) rfl q (by simp [hq]) hm),
    (h.ad.only oA (fun b hb hm => hro b (List.mem_append_left _ (List.mem_append_right _ hb)) hm) (fun q hq hm => hd 3 _ (by decide) rfl q (by simp [hq]) hm)).only hs (fun b hb hm => hrg b (List.mem_append_left _ (List.mem_append_right _ hb)) hm) (fun q hq hm => hg0 3 _ (by decide) rfl q (by simp [hq]) hm),
    f1.keep hs.size, fun b hb => ⟨Nat.lt_of_lt_of_le (hro2 b hb).1 hs.size, (hro2 b hb).2⟩,
    fun b hb => (hs.block b (hro2 b (List.mem_append_right _ hb)).1 (hrg b (List.mem_append_right _ hb))).trans (hkp b hb),
    hfr.only hs (fun b hb => hrg b (List.mem_append_left _ (List.mem_append_left _ hb))), hon.then_ hs (fun b hb hl => by have := h.fam.ge 0 rfl (b := g) (by simp); simp at hb; omega)⟩
theorem XX.push3 {n : Int} {u3' : Value} (h : XX w g v1 c4 c5 c6 L2 L3 LA wa u2 u3 ua fs fa ex W) (hA : AccI w.heap.size 2 wb u3' (L3 ++ [n])) (oA : Only u3.ownBlock.toList wa wb) (nA : u3'.ownBlock = u3.ownBlock ∨ u3'.ownBlock = some wa.heap.size) :
    XX w g v1 c4 c5 c6 L2 (L3 ++ [n]) LA (wb.setCell ⟨g, 2, none⟩ u3') u2 u3' ua fs fa ex W := by
  have hB := h.on.size
  have hsz := oA.size
  have hd : ∀ (j : Nat) (c : List Nat), j ≠ 2 → (xxF g u2 u3 ua)[j]? = some c → ∀ b ∈ c, b ∉ u3.ownBlock.toList := fun j c hj hc => h.fam.disj j 2 hj hc rfl
  have hn : ∀ b ∈ u3'.ownBlock.toList, b ∈ u3.ownBlock.toList ∨ (wa.heap.size ≤ b ∧ b < wb.heap.size) := fun b hb => by
    have hb' : u3'.ownBlock = some b := by simpa using hb
    have hl := (hA.ownlt b hb').2
    rcases nA with e | e
    · left; rw [← e]; exact hb
    · right; rw [e] at hb'; injection hb' with hb'; omega
  have hro : ∀ b ∈ fs.flatten ++ fa.flatten ++ ex, b ∉ u3.ownBlock.toList := fun b hb => (h.ro b hb).2 _ (List.mem_of_getElem? (i := 2) rfl)
  have f1 : Fam w.heap.size wb ((xxF g u2 u3 ua).set 2 u3'.ownBlock.toList) := h.fam.set hsz hB 2 rfl (own_nodup _) hn
  have hro2 : ∀ b ∈ fs.flatten ++ fa.flatten ++ ex, b < wb.heap.size ∧ ∀ c ∈ (xxF g u2 u3 ua).set 2 u3'.ownBlock.toList, b ∉ c := fun b hb => by
    have h2 := (h.ro b hb).1
    exact ⟨by omega, ro_set (i := 2) (h.ro b hb) rfl (fun q hq => (hn q hq).imp id (fun hh => hh.1))⟩
  have hkp : ∀ b ∈ ex, wb.heap[b]? = W.heap[b]? := fun b hb => (oA.block b (h.ro b (List.mem_append_right _ hb)).1 (hro b (List.mem_append_right _ hb))).trans (h.kp b hb)
  have hon : Only [] w wb := h.on.then_ oA (fun b hb hl => by have := h.fam.ge 2 rfl hb; omega)
  have hs : Only [g] wb (wb.setCell ⟨g, 2, none⟩ u3') := (Only.refl _ _).setCell (by simp) _
  have hg0 : ∀ (j : Nat) (c : List Nat), j ≠ 0 → ((xxF g u2 u3 ua).set 2 u3'.ownBlock.toList)[j]? = some c → ∀ b ∈ c, b ∉ [g] := fun j c hj hc => f1.disj j 0 hj hc rfl
  have hrg : ∀ b ∈ fs.flatten ++ fa.flatten ++ ex, b ∉ [g] := fun b hb => (hro2 b hb).2 [g] (List.mem_of_getElem? (i := 0) rfl)
  have hb9 := (h.blk.only oA (fun hm => hd 0 _ (by decide) rfl g (by simp) hm)).set 2 u3'
  simp only [List.set] at hb9
  refine ⟨hb9, (h.pt.only oA (fun b hb hm => hro b (List.mem_append_left _ (List.mem_append_left _ hb)) hm) (fun q hq hm => hd 1 _ (by decide) rfl q (by simp [hq]) hm)).only hs (fun b hb hm => hrg b (List.mem_append_left _ (List.mem_append_left _ hb)) hm) (fun q hq hm => hg0 1 _ (by decide) rfl q (by simp [hq]) hm),
    hA.only hs (fun q hq hm => hg0 2 _ (by decide) rfl q (by simp [hq]) hm),
    (h.ad.only oA (fun b hb hm => hro b (List.mem_append_left _ (List.mem_append_right _ hb)) hm) (fun q hq hm => hd 3 _ (by decide) rfl q (by simp [hq]) hm)).only hs (fun b hb hm => hrg b (List.mem_append_left _ (List.mem_append_right _ hb)) hm) (fun q hq hm => hg0 3 _ (by decide) rfl q (by simp [hq]) hm),
    f1.keep hs.size, fun b hb => ⟨Nat.lt_of_lt_of_le (hro2 b hb).1 hs.size, (hro2 b hb).2⟩,
    fun b hb => (hs.block b (hro2 b (List.mem_append_right _ hb)).1 (hrg b (List.mem_append_right _ hb))).trans (hkp b hb),
    (h.fr.only oA (fun b hb => hro b (List.mem_append_left _ (List.mem_append_left _ hb)))).only hs (fun b hb => hrg b (List.mem_append_left _ (List.mem_append_left _ hb))), hon.then_ hs (fun b hb hl => by have := h.fam.ge 0 rfl (b := g) (by simp); simp at hb; omega)⟩
theorem XX.pushA {y : List Int} {f : List Nat} {ua' : Value} (h : XX w g v1 c4 c5 c6 L2 L3 LA wa u2 u3 ua fs fa ex W) (hA : Acc w.heap.size 25 wb ua' (LA ++ [y]) (fa ++ [f])) (oA : Only ua.ownBlock.toList wa wb) (nA : ua'.ownBlock = ua.ownBlock ∨ ua'.ownBlock = some wa.heap.size) (hf : ∀ b ∈ f, b ∈ ex) :
    XX w g v1 c4 c5 c6 L2 L3 (LA ++ [y]) wb u2 u3 ua' fs (fa ++ [f]) ex W := by
  have hB := h.on.size
  have hsz := oA.size
  have hd : ∀ (j : Nat) (c : List Nat), j ≠ 3 → (xxF g u2 u3 ua)[j]? = some c → ∀ b ∈ c, b ∉ ua.ownBlock.toList := fun j c hj hc => h.fam.disj j 3 hj hc rfl
  have hn : ∀ b ∈ ua'.ownBlock.toList, b ∈ ua.ownBlock.toList ∨ (wa.heap.size ≤ b ∧ b < wb.heap.size) := fun b hb => by
    have hb' : ua'.ownBlock = some b := by simpa using hb
    have hl := (hA.ownlt b hb').2
    rcases nA with e | e
    · left; rw [← e]; exact hb
    · right; rw [e] at hb'; injection hb' with hb'; omega
  have hro : ∀ b ∈ fs.flatten ++ fa.flatten ++ ex, b ∉ ua.ownBlock.toList := fun b hb => (h.ro b hb).2 _ (List.mem_of_getElem? (i := 3) rfl)
  have f1 : Fam w.heap.size wb ((xxF g u2 u3 ua).set 3 ua'.ownBlock.toList) := h.fam.set hsz hB 3 rfl (own_nodup _) hn
  have hro2 : ∀ b ∈ fs.flatten ++ (fa ++ [f]).flatten ++ ex, b < wb.heap.size ∧ ∀ c ∈ (xxF g u2 u3 ua).set 3 ua'.ownBlock.toList, b ∉ c := fun b hb => by
    have hb2 : b < wa.heap.size ∧ ∀ c ∈ xxF g u2 u3 ua, b ∉ c := by
      rw [List.flatten_append] at hb
      simp only [List.flatten_cons, List.flatten_nil, List.append_nil, List.mem_append] at hb
      rcases hb with (hb | hb | hb) | hb
      · exact h.ro b (List.mem_append_left _ (List.mem_append_left _ hb))
      · exact h.ro b (List.mem_append_left _ (List.mem_append_right _ hb))
      · exact h.ro b (List.mem_append_right _ (hf b hb))
      · exact h.ro b (List.mem_append_right _ hb)
    exact ⟨by omega, ro_set (i := 3) hb2 rfl (fun q hq => (hn q hq).imp id (fun hh => hh.1))⟩
  have hkp : ∀ b ∈ ex, wb.heap[b]? = W.heap[b]? := fun b hb => (oA.block b (h.ro b (List.mem_append_right _ hb)).1 (hro b (List.mem_append_right _ hb))).trans (h.kp b hb)
  have hon : Only [] w wb := h.on.then_ oA (fun b hb hl => by have := h.fam.ge 3 rfl hb; omega)
  exact ⟨h.blk.only oA (fun hm => hd 0 _ (by decide) rfl g (by simp) hm),
    h.pt.only oA (fun b hb hm => hro b (List.mem_append_left _ (List.mem_append_left _ hb)) hm) (fun q hq hm => hd 1 _ (by decide) rfl q (by simp [hq]) hm),
    h.dt.only oA (fun q hq hm => hd 2 _ (by decide) rfl q (by simp [hq]) hm), hA, f1, hro2, hkp, h.fr.only oA (fun b hb => hro b (List.mem_append_left _ (List.mem_append_left _ hb))), hon⟩
theorem XX.ta {tr : List Int} {f1 : List Nat} (h : XX w g v1 c4 c5 c6 L2 L3 LA wr u2 u3 ua fs fa ex W) (ht : Rd wr v1 tr f1) (hF : Fresh w.heap.size wr f1) (hx : ∀ b ∈ f1, b ∈ ex ∧ b ∉ fs.flatten) : TA w.heap.size wr v1 u2 u3 ⟨tr, L2, L3⟩ f1 fs := by
  refine ⟨ht, h.pt, h.dt, ?_⟩
  have F2 := h.pt.fresh h.fr
  have F3 := h.dt.fresh
  have d12 : ∀ b ∈ f1, b ∉ u2.ownBlock.toList := fun b hb => (h.ro b (List.mem_append_right _ (hx b hb).1)).2 _ (List.mem_of_getElem? (i := 1) rfl)
  have d13 : ∀ b ∈ f1, b ∉ u3.ownBlock.toList := fun b hb => (h.ro b (List.mem_append_right _ (hx b hb).1)).2 _ (List.mem_of_getElem? (i := 2) rfl)
  have ds3 : ∀ b ∈ fs.flatten, b ∉ u3.ownBlock.toList := fun b hb => (h.ro b (List.mem_append_left _ (List.mem_append_left _ hb))).2 _ (List.mem_of_getElem? (i := 2) rfl)
  have d23 := h.fam.disj 1 2 (by decide) rfl rfl
  refine ⟨List.nodup_append.2 ⟨hF.nd, List.nodup_append.2 ⟨F2.nd, F3.nd, fun a ha b hb e => ?_⟩, fun a ha b hb e => ?_⟩, fun b hb => ?_, hF.own.append (F2.own.append F3.own)⟩
  · subst e
    rcases List.mem_append.1 ha with ha | ha
    · exact d23 a ha hb
    · exact ds3 a ha hb
  · subst e
    rcases List.mem_append.1 hb with hb | hb
    · rcases List.mem_append.1 hb with hb | hb
      · exact d12 a ha hb
      · exact (hx a ha).2 hb
    · exact d13 a ha hb
  · rcases List.mem_append.1 hb with hb | hb
    · exact hF.ge b hb
    · rcases List.mem_append.1 hb with hb | hb
      · exact F2.ge b hb
      · exact F3.ge b hb
end
end Go.Proofs.YtkhdmiemfpelcaaGreat

namespace Go.Proofs.YtkhdmiemfpelcaaGreat
open Go.RowKit
set_option maxRecDepth 10000

def flF (g M : Nat) (u2 u3 : Value) : List (List Nat) := [[g], [M], u2.ownBlock.toList, u3.ownBlock.toList]
/-- a filler: its box g, its map M (the keys of K), its patterns u2, its distances u3; what is only read is ex -/
structure FL (B g M : Nat) (v1 vm c4 c5 c6 : Value) (tr : List Int) (mvs : List (List Int)) (f1 fm ex : List Nat) (K L2 : List (List Int)) (L3 : List Int) (wr : World) (u2 u3 : Value) (fs : List (List Nat)) : Prop where
  blk : Blk wr g [v1, u2, u3, c4, c5, c6, vm, .map (some M)]
  pt : Acc B 25 wr u2 L2 fs
  dt : AccI B 2 wr u3 L3
  mp : MpB wr M K.length (metB K)
  tk : Rd wr v1 tr f1
  mv : Rd wr vm mvs fm
  fam : Fam B wr (flF g M u2 u3)
  ro : ∀ b ∈ fs.flatten ++ ex, b < wr.heap.size ∧ ∀ c ∈ flF g M u2 u3, b ∉ c
  e1 : ∀ b ∈ f1, b ∈ ex
  em : ∀ b ∈ fm, b ∈ ex
  fr : Fresh B wr (f1 ++ fs.flatten)
  sz : B ≤ wr.heap.size
section
variable {B g M : Nat} {v1 vm c4 c5 c6 : Value} {tr : List Int} {mvs : List (List Int)} {f1 fm ex : List Nat} {K L2 : List (List Int)} {L3 : List Int} {wa wb wr w' : World} {u2 u3 : Value} {fs : List (List Nat)}
theorem FL.keep (h : FL B g M v1 vm c4 c5 c6 tr mvs f1 fm ex K L2 L3 wr u2 u3 fs) (ho : Only [] wr w') : FL B g M v1 vm c4 c5 c6 tr mvs f1 fm ex K L2 L3 w' u2 u3 fs :=
  ⟨h.blk.keep ho, h.pt.keep ho, h.dt.keep ho, h.mp.keep ho, Rp.keep h.tk ho, Rp.keep h.mv ho, h.fam.keep ho.size, fun b hb => ⟨Nat.lt_of_lt_of_le (h.ro b hb).1 ho.size, (h.ro b hb).2⟩, h.e1, h.em, h.fr.keep ho, Nat.le_trans h.sz ho.size⟩
/-- memory that is made behind the filler, only read -/
theorem FL.hold (h : FL B g M v1 vm c4 c5 c6 tr mvs f1 fm ex K L2 L3 wr u2 u3 fs) (ho : Only [] wr w') {f : List Nat} (hf : ∀ b ∈ f, wr.heap.size ≤ b ∧ b < w'.heap.size) : FL B g M v1 vm c4 c5 c6 tr mvs f1 fm (ex ++ f) K L2 L3 w' u2 u3 fs := by
  have h1 := h.keep ho
  refine ⟨h1.blk, h1.pt, h1.dt, h1.mp, h1.tk, h1.mv, h1.fam, fun b hb => ?_, fun b hb => List.mem_append_left _ (h.e1 b hb), fun b hb => List.mem_append_left _ (h.em b hb), h1.fr, h1.sz⟩
  rw [← List.append_assoc] at hb
  rcases List.mem_append.1 hb with hb | hb
  · exact h1.ro b hb
  · refine ⟨(hf b hb).2, fun c hc hm => ?_⟩
    obtain ⟨j, hj⟩ := List.getElem?_of_mem hc
    have := h.fam.lt j hj hm
    have := (hf b hb).1
    omega
theorem FL.less {ex' : List Nat} (h : FL B g M v1 vm c4 c5 c6 tr mvs f1 fm ex K L2 L3 wr u2 u3 fs) (hx : ∀ b ∈ ex', b ∈ ex) (h1 : ∀ b ∈ f1, b ∈ ex') (h2 : ∀ b ∈ fm, b ∈ ex') : FL B g M v1 vm c4 c5 c6 tr mvs f1 fm ex' K L2 L3 wr u2 u3 fs :=
  ⟨h.blk, h.pt, h.dt, h.mp, h.tk, h.mv, h.fam, fun b hb => h.ro b (by
    rcases List.mem_append.1 hb with hb | hb
    · exact List.mem_append_left _ hb
    · exact List.mem_append_right _ (hx b hb)), h1, h2, h.fr, h.sz⟩
/-- what is read stays, whatever part of the filler is written -/
theorem FL.ex_no {i : Nat} {c : List Nat} (h : FL B g M v1 vm c4 c5 c6 tr mvs f1 fm ex K L2 L3 wr u2 u3 fs) (hi : (flF g M u2 u3)[i]? = some c) : ∀ b ∈ ex, b ∉ c := fun b hb => (h.ro b (List.mem_append_right _ hb)).2 _ (List.mem_of_getElem? hi)
theorem FL.fs_no {i : Nat} {c : List Nat} (h : FL B g M v1 vm c4 c5 c6 tr mvs f1 fm ex K L2 L3 wr u2 u3 fs) (hi : (flF g M u2 u3)[i]? = some c) : ∀ b ∈ fs.flatten, b ∉ c := fun b hb => (h.ro b (List.mem_append_left _ hb)).2 _ (List.mem_of_getElem? hi)
theorem FL.f1_no {i : Nat} {c : List Nat} (h : FL B g M v1 vm c4 c5 c6 tr mvs f1 fm ex K L2 L3 wr u2 u3 fs) (hi : (flF g M u2 u3)[i]? = some c) : ∀ b ∈ f1 ++ fs.flatten, b ∉ c := fun b hb => by
  rcases List.mem_append.1 hb with hb | hb
  · exact h.ex_no hi b (h.e1 b hb)
  · exact h.fs_no hi b hb
/-- a field that is no slice is stored -/
theorem FL.store (h : FL B g M v1 vm c4 c5 c6 tr mvs f1 fm ex K L2 L3 wr u2 u3 fs) (i : Nat) (v : Value) {d4 d5 d6 : Value} (hl : ([v1, u2, u3, c4, c5, c6, vm, .map (some M)] : List Value).set i v = [v1, u2, u3, d4, d5, d6, vm, .map (some M)]) :
    FL B g M v1 vm d4 d5 d6 tr mvs f1 fm ex K L2 L3 (wr.setCell ⟨g, i, none⟩ v) u2 u3 fs := by
  have hs : Only [g] wr (wr.setCell ⟨g, i, none⟩ v) := (Only.refl _ _).setCell (by simp) _
  have hg0 : ∀ (j : Nat) (c : List Nat), j ≠ 0 → (flF g M u2 u3)[j]? = some c → ∀ b ∈ c, b ∉ [g] := fun j c hj hc => h.fam.disj j 0 hj hc rfl
  have hb := h.blk.set i v
  rw [hl] at hb
  exact ⟨hb, h.pt.only hs (fun b hb => h.fs_no (i := 0) rfl b hb) (fun q hq hm => hg0 2 _ (by decide) rfl q (by simp [hq]) hm),
    h.dt.only hs (fun q hq hm => hg0 3 _ (by decide) rfl q (by simp [hq]) hm), h.mp.only hs (fun hm => hg0 1 _ (by decide) rfl M (by simp) hm),
    Rp.only h.tk hs (fun b hb => h.ex_no (i := 0) rfl b (h.e1 b hb)), Rp.only h.mv hs (fun b hb => h.ex_no (i := 0) rfl b (h.em b hb)),
    h.fam.keep hs.size, fun b hb => ⟨Nat.lt_of_lt_of_le (h.ro b hb).1 hs.size, (h.ro b hb).2⟩, h.e1, h.em, h.fr.only hs (fun b hb => h.f1_no (i := 0) rfl b hb), Nat.le_trans h.sz hs.size⟩
/-- a key is put -/
theorem FL.put {K' : List (List Int)} (h : FL B g M v1 vm c4 c5 c6 tr mvs f1 fm ex K L2 L3 wa u2 u3 fs) (ho : Only [M] wa wb) (hm : MpB wb M K'.length (metB K')) : FL B g M v1 vm c4 c5 c6 tr mvs f1 fm ex K' L2 L3 wb u2 u3 fs := by
  have hd : ∀ (j : Nat) (c : List Nat), j ≠ 1 → (flF g M u2 u3)[j]? = some c → ∀ b ∈ c, b ∉ [M] := fun j c hj hc => h.fam.disj j 1 hj hc rfl
  exact ⟨h.blk.only ho (fun hm => hd 0 _ (by decide) rfl g (by simp) hm), h.pt.only ho (fun b hb => h.fs_no (i := 1) rfl b hb) (fun q hq hm => hd 2 _ (by decide) rfl q (by simp [hq]) hm),
    h.dt.only ho (fun q hq hm => hd 3 _ (by decide) rfl q (by simp [hq]) hm), hm,
    Rp.only h.tk ho (fun b hb => h.ex_no (i := 1) rfl b (h.e1 b hb)), Rp.only h.mv ho (fun b hb => h.ex_no (i := 1) rfl b (h.em b hb)),
    h.fam.keep ho.size, fun b hb => ⟨Nat.lt_of_lt_of_le (h.ro b hb).1 ho.size, (h.ro b hb).2⟩, h.e1, h.em, h.fr.only ho (fun b hb => h.f1_no (i := 1) rfl b hb), Nat.le_trans h.sz ho.size⟩
theorem FL.push2 {y : List Int} {f : List Nat} {u2' : Value} (h : FL B g M v1 vm c4 c5 c6 tr mvs f1 fm ex K L2 L3 wa u2 u3 fs) (hA : Acc B 25 wb u2' (L2 ++ [y]) (fs ++ [f])) (oA : Only u2.ownBlock.toList wa wb) (nA : u2'.ownBlock = u2.ownBlock ∨ u2'.ownBlock = some wa.heap.size) (hf : ∀ b ∈ f, b ∈ ex) (hF : Fresh B wa ((f1 ++ fs.flatten) ++ f)) :
    FL B g M v1 vm c4 c5 c6 tr mvs f1 fm ex K (L2 ++ [y]) L3 (wb.setCell ⟨g, 1, none⟩ u2') u2' u3 (fs ++ [f]) := by
  have hsz := oA.size
  have hd : ∀ (j : Nat) (c : List Nat), j ≠ 2 → (flF g M u2 u3)[j]? = some c → ∀ b ∈ c, b ∉ u2.ownBlock.toList := fun j c hj hc => h.fam.disj j 2 hj hc rfl
  have hn : ∀ b ∈ u2'.ownBlock.toList, b ∈ u2.ownBlock.toList ∨ (wa.heap.size ≤ b ∧ b < wb.heap.size) := fun b hb => by
    have hb' : u2'.ownBlock = some b := by simpa using hb
    have hl := (hA.ownlt b hb').2
    rcases nA with e | e
    · left; rw [← e]; exact hb
    · right; rw [e] at hb'; injection hb' with hb'; omega
  have F1 : Fam B wb ((flF g M u2 u3).set 2 u2'.ownBlock.toList) := h.fam.set hsz h.sz 2 rfl (own_nodup _) hn
  have hro2 : ∀ b ∈ (fs ++ [f]).flatten ++ ex, b < wb.heap.size ∧ ∀ c ∈ (flF g M u2 u3).set 2 u2'.ownBlock.toList, b ∉ c := fun b hb => by
    have hb2 : b < wa.heap.size ∧ ∀ c ∈ flF g M u2 u3, b ∉ c := by
      rw [List.flatten_append] at hb
      simp only [List.flatten_cons, List.flatten_nil, List.append_nil, List.mem_append] at hb
      rcases hb with (hb | hb) | hb
      · exact h.ro b (List.mem_append_left _ hb)
      · exact h.ro b (List.mem_append_right _ (hf b hb))
      · exact h.ro b (List.mem_append_right _ hb)
    exact ⟨by omega, ro_set (i := 2) hb2 rfl (fun q hq => (hn q hq).imp id (fun hh => hh.1))⟩
  have hs : Only [g] wb (wb.setCell ⟨g, 1, none⟩ u2') := (Only.refl _ _).setCell (by simp) _
  have hg0 : ∀ (j : Nat) (c : List Nat), j ≠ 0 → ((flF g M u2 u3).set 2 u2'.ownBlock.toList)[j]? = some c → ∀ b ∈ c, b ∉ [g] := fun j c hj hc => F1.disj j 0 hj hc rfl
  have hrg : ∀ b ∈ (fs ++ [f]).flatten ++ ex, b ∉ [g] := fun b hb => (hro2 b hb).2 [g] (List.mem_of_getElem? (i := 0) rfl)
  have hb9 := (h.blk.only oA (fun hm => hd 0 _ (by decide) rfl g (by simp) hm)).set 1 u2'
  simp only [List.set] at hb9
  have hff : f1 ++ (fs ++ [f]).flatten = (f1 ++ fs.flatten) ++ f := by simp
  have hfr : Fresh B wb (f1 ++ (fs ++ [f]).flatten) := by
    rw [hff]
    refine hF.only oA fun b hb => ?_
    rcases List.mem_append.1 hb with hb | hb
    · exact h.f1_no (i := 2) rfl b hb
    · exact h.ex_no (i := 2) rfl b (hf b hb)
  exact ⟨hb9, hA.only hs (fun b hb => hrg b (List.mem_append_left _ hb)) (fun q hq hm => hg0 2 _ (by decide) rfl q (by simp [hq]) hm),
    (h.dt.only oA (fun q hq hm => hd 3 _ (by decide) rfl q (by simp [hq]) hm)).only hs (fun q hq hm => hg0 3 _ (by decide) rfl q (by simp [hq]) hm),
    (h.mp.only oA (fun hm => hd 1 _ (by decide) rfl M (by simp) hm)).only hs (fun hm => hg0 1 _ (by decide) rfl M (by simp) hm),
    Rp.only (Rp.only h.tk oA (fun b hb => h.ex_no (i := 2) rfl b (h.e1 b hb))) hs (fun b hb => hrg b (List.mem_append_right _ (h.e1 b hb))),
    Rp.only (Rp.only h.mv oA (fun b hb => h.ex_no (i := 2) rfl b (h.em b hb))) hs (fun b hb => hrg b (List.mem_append_right _ (h.em b hb))),
    F1.keep hs.size, fun b hb => ⟨Nat.lt_of_lt_of_le (hro2 b hb).1 hs.size, (hro2 b hb).2⟩, h.e1, h.em,
    hfr.only hs (fun b hb => by
      rcases List.mem_append.1 hb with hb | hb
      · exact hrg b (List.mem_append_right _ (h.e1 b hb))
      · exact hrg b (List.mem_append_left _ hb)), Nat.le_trans h.sz (Nat.le_trans hsz hs.size)⟩
theorem FL.push3 {n : Int} {u3' : Value} (h : FL B g M v1 vm c4 c5 c6 tr mvs f1 fm ex K L2 L3 wa u2 u3 fs) (hA : AccI B 2 wb u3' (L3 ++ [n])) (oA : Only u3.ownBlock.toList wa wb) (nA : u3'.ownBlock = u3.ownBlock ∨ u3'.ownBlock = some wa.heap.size) :
    FL B g M v1 vm c4 c5 c6 tr mvs f1 fm ex K L2 (L3 ++ [n]) (wb.setCell ⟨g, 2, none⟩ u3') u2 u3' fs := by
  have hsz := oA.size
  have hd : ∀ (j : Nat) (c : List Nat), j ≠ 3 → (flF g M u2 u3)[j]? = some c → ∀ b ∈ c, b ∉ u3.ownBlock.toList := fun j c hj hc => h.fam.disj j 3 hj hc rfl
  have hn : ∀ b ∈ u3'.ownBlock.toList, b ∈ u3.ownBlock.toList ∨ (wa.heap.size ≤ b ∧ b < wb.heap.size) := fun b hb => by
    have hb' : u3'.ownBlock = some b := by simpa using hb
    have hl := (hA.ownlt b hb').2
    rcases nA with e | e
    · left; rw [← e]; exact hb
    · right; rw [e] at hb'; injection hb' with hb'; omega
  have F1 : Fam B wb ((flF g M u2 u3).set 3 u3'.ownBlock.toList) := h.fam.set hsz h.sz 3 rfl (own_nodup _) hn
  have hro2 : ∀ b ∈ fs.flatten ++ ex, b < wb.heap.size ∧ ∀ c ∈ (flF g M u2 u3).set 3 u3'.ownBlock.toList, b ∉ c := fun b hb => by
    have h2 := (h.ro b hb).1
    exact ⟨by omega, ro_set (i := 3) (h.ro b hb) rfl (fun q hq => (hn q hq).imp id (fun hh => hh.1))⟩
  have hs : Only [g] wb (wb.setCell ⟨g, 2, none⟩ u3') := (Only.refl _ _).setCell (by simp) _
  have hg0 : ∀ (j : Nat) (c : List Nat), j ≠ 0 → ((flF g M u2 u3).set 3 u3'.ownBlock.toList)[j]? = some c → ∀ b ∈ c, b ∉ [g] := fun j c hj hc => F1.disj j 0 hj hc rfl
  have hrg : ∀ b ∈ fs.flatten ++ ex, b ∉ [g] := fun b hb => (hro2 b hb).2 [g] (List.mem_of_getElem? (i := 0) rfl)
  have hb9 := (h.blk.only oA (fun hm => hd 0 _ (by decide) rfl g (by simp) hm)).set 2 u3'
  simp only [List.set] at hb9
  exact ⟨hb9, (h.pt.only oA (fun b hb => h.fs_no (i := 3) rfl b hb) (fun q hq hm => hd 2 _ (by decide) rfl q (by simp [hq]) hm)).only hs (fun b hb => hrg b (List.mem_append_left _ hb)) (fun q hq hm => hg0 2 _ (by decide) rfl q (by simp [hq]) hm),
    hA.only hs (fun q hq hm => hg0 3 _ (by decide) rfl q (by simp [hq]) hm),
    (h.mp.only oA (fun hm => hd 1 _ (by decide) rfl M (by simp) hm)).only hs (fun hm => hg0 1 _ (by decide) rfl M (by simp) hm),
    Rp.only (Rp.only h.tk oA (fun b hb => h.ex_no (i := 3) rfl b (h.e1 b hb))) hs (fun b hb => hrg b (List.mem_append_right _ (h.e1 b hb))),
    Rp.only (Rp.only h.mv oA (fun b hb => h.ex_no (i := 3) rfl b (h.em b hb))) hs (fun b hb => hrg b (List.mem_append_right _ (h.em b hb))),
    F1.keep hs.size, fun b hb => ⟨Nat.lt_of_lt_of_le (hro2 b hb).1 hs.size, (hro2 b hb).2⟩, h.e1, h.em,
    (h.fr.only oA (fun b hb => h.f1_no (i := 3) rfl b hb)).only hs (fun b hb => by
      rcases List.mem_append.1 hb with hb | hb
      · exact hrg b (List.mem_append_right _ (h.e1 b hb))
      · exact hrg b (List.mem_append_left _ hb)), Nat.le_trans h.sz (Nat.le_trans hsz hs.size)⟩
/-- the job's fields read as a job -/
theorem FL.job (h : FL B g M v1 vm c4 c5 c6 tr mvs f1 fm ex K L2 L3 wr u2 u3 fs) : TA B wr v1 u2 u3 ⟨tr, L2, L3⟩ f1 fs := by
  refine ⟨h.tk, h.pt, h.dt, ?_⟩
  have F2 := h.pt.fresh h.fr.right
  have F3 := h.dt.fresh
  have d23 := h.fam.disj 2 3 (by decide) rfl rfl
  refine ⟨List.nodup_append.2 ⟨h.fr.left.nd, List.nodup_append.2 ⟨F2.nd, F3.nd, fun a ha b hb e => ?_⟩, fun a ha b hb e => ?_⟩, fun b hb => ?_, h.fr.left.own.append (F2.own.append F3.own)⟩
  · subst e
    rcases List.mem_append.1 ha with ha | ha
    · exact d23 a ha hb
    · exact h.fs_no (i := 3) rfl a ha hb
  · subst e
    rcases List.mem_append.1 hb with hb | hb
    · rcases List.mem_append.1 hb with hb | hb
      · exact h.ex_no (i := 2) rfl a (h.e1 a ha) hb
      · exact (List.nodup_append.1 h.fr.nd).2.2 a ha a hb rfl
    · exact h.ex_no (i := 3) rfl a (h.e1 a ha) hb
  · rcases List.mem_append.1 hb with hb | hb
    · exact h.fr.left.ge b hb
    · rcases List.mem_append.1 hb with hb | hb
      · exact F2.ge b hb
      · exact F3.ge b hb
end
/-- a filler with job j, all its memory from B on but for the moves' rows -/
def Fil (x : Puzzle) (B g : Nat) (wr : World) (j : FillJob) : Prop :=
  ∃ M v1 vm f1 fm ex u2 u3 fs, FL B g M v1 vm (.int .i64 j.next) (.string j.log) (.int .i64 j.synced) j.table.tracked ((ltrs x.moves.length).map (mv x.moves)) f1 fm ex j.table.patterns j.table.patterns j.table.distances wr u2 u3 fs
end Go.Proofs.YtkhdmiemfpelcaaGreat

namespace Go.Proofs.YtkhdmiemfpelcaaGreat
open Go.RowKit
set_option maxRecDepth 10000

set_option maxHeartbeats 1000000 in
theorem indexOf1_any (u : Value) (p : Value) (q l : List Int) (f1 f2 : List Nat) (b : Nat) (w : World) (h : Rd w u q f1) (hb : w.cell? ⟨b, 0, none⟩ = some p) (hp : Rd w p l f2) :
    Calls Tryz.prog 82 #[u, .pointer (some ⟨b, 0, none⟩)] w fun e w' => e = .returned (.bool (decide (q = l))) ∧ Only [] w w' := by
  obtain ⟨a, c, rfl, -⟩ := hp.ints
  go_enter Tryz.func82, Tryz.ntmps82
  go_wp2_with (first
    | (go_at_call 75; (with_reducible refine (Equal_rd u _ q l _ _ _ (Rp.keep h (by with_reducible repeat (first | exact Only.refl _ _ | assumption | refine Only.drewN ?_ _ | refine Only.drew ?_ | refine Only.alloc ?_ _ | refine Only.setCell ?_ (by intro hh; exfalso; simp at hh; try omega) _ | refine Only.trans ?_ (by assumption)))) (Rp.keep hp (by with_reducible repeat (first | exact Only.refl _ _ | assumption | refine Only.drewN ?_ _ | refine Only.drew ?_ | refine Only.alloc ?_ _ | refine Only.setCell ?_ (by intro hh; exfalso; simp at hh; try omega) _ | refine Only.trans ?_ (by assumption))))).mono ?_); rintro e w1 ⟨rfl, n1, rfl⟩)
    | fail "no arm")
  go_ret
  exact ⟨ret_bool (by unfold eqV; exact decide_eq_decide.2 Iff.rfl), (by with_reducible repeat (first | exact Only.refl _ _ | assumption | refine Only.drewN ?_ _ | refine Only.drew ?_ | refine Only.alloc ?_ _ | refine Only.setCell ?_ (by intro hh; exfalso; simp at hh; try omega) _ | refine Only.trans ?_ (by assumption)))⟩
set_option maxHeartbeats 1000000 in
theorem indexOf_any (v u : Value) (ls : List (List Int)) (l : List Int) (f1 f2 : List Nat) (w : World) (h : Rd w v ls f1) (hu : Rd w u l f2) :
    Calls Tryz.prog 63 #[v, u] w fun e w' => e = .returned (.int .i64 (idxL ls l)) ∧ Only [] w w' := by
  obtain ⟨a, c, rfl, -⟩ := hu.ints
  have k0 : Only [] w (w.alloc (.cells #[.slice a l.length c] 25)) := (Only.refl _ _).alloc _
  have hb : (w.alloc (.cells #[.slice a l.length c] 25)).cell? ⟨w.heap.size, 0, none⟩ = some (.slice a l.length c) := by simp
  have HB := Lib.hid hb; clear hb
  have HC := Lib.hid (fun (x : List Int) (_ : x ∈ ls) (u' : Value) (f' : List Nat) (w' : World) (ho : Only [] (w.alloc (.cells #[.slice a l.length c] 25)) w') (hr : Rd w' u' x f') =>
    indexOf1_any u' _ x l f' f2 w.heap.size w' hr (ho.cell (by simp) HB.out) (Rp.keep (Rp.keep hu k0) ho))
  have HI := Lib.hid (IndexFunc_rows 82 #[.pointer (some ⟨w.heap.size, 0, none⟩)] (fun q => decide (q = l)) Tryz.call82 v ls _ (w.alloc (.cells #[.slice a l.length c] 25)) (Rp.keep h k0) HC.out)
  go_enter Tryz.func63, Tryz.ntmps63
  go_wp2_with (first
    | (go_at_call 81; (with_reducible refine (HI.out).mono ?_); rintro e w1 ⟨rfl, hk⟩)
    | fail "no arm")
  go_ret
  exact ⟨rfl, (by with_reducible repeat (first | exact Only.refl _ _ | assumption | refine Only.drewN ?_ _ | refine Only.drew ?_ | refine Only.alloc ?_ _ | refine Only.setCell ?_ (by intro hh; exfalso; simp at hh; try omega) _ | refine Only.trans ?_ (by assumption)))⟩
end Go.Proofs.YtkhdmiemfpelcaaGreat
