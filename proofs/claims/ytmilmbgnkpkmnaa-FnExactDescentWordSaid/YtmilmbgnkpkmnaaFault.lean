/- A table's faults, in plain words. -/
import Derived.Test.YtmilmbgnkpkmnaaTab
import Derived.Test.YtmilmbgnkpkmnaaInv
namespace Go.Proofs.Ytmilmbgnkpkmnaa
open Go.RowKit
set_option maxRecDepth 10000

theorem validPz_facts {x : Puzzle} (h : validPz x = true) : 1 ≤ x.points ∧ x.points ≤ 20 ∧ x.moves.length ≤ 8 ∧ ∀ y ∈ x.moves, (y.length : Int) = x.points ∧ permB y = true := by
  unfold validPz at h
  rw [Bool.and_eq_true] at h
  have h1 := h.1
  unfold gensB at h1
  rw [Bool.and_eq_true, Bool.and_eq_true, inR_iff, decide_eq_true_iff, List.all_eq_true] at h1
  refine ⟨h1.1.1.1, h1.1.1.2, h1.1.2, fun y hy => ?_⟩
  have := h1.2 y hy
  unfold genB at this
  simpa using this
theorem validPz_pn {x : Puzzle} (h : validPz x = true) : ∀ g ∈ x.moves, PM.PN x.points.toNat g := by
  intro g hg
  obtain ⟨h1, h2, h3, h4⟩ := validPz_facts h
  obtain ⟨h5, h6⟩ := h4 g hg
  exact ⟨by omega, (permB_iff.1 h6).2⟩
theorem permB_pn {n : Nat} {p : List Int} (h : PM.PN n p) (h0 : 1 ≤ n) (h1 : n ≤ 20) : permB p = true := permB_iff.2 ⟨⟨by rw [h.1]; exact h0, by rw [h.1]; exact h1⟩, h.2⟩

/-- the tables that can be checked -/
def checkT (x : Puzzle) (t : Table) : Bool := validPz x && (wfT t && (trackB x.points t.tracked && t.patterns.all (patB x.points t.tracked.length)))
theorem checkT_iff {x : Puzzle} {t : Table} : checkT x t = true ↔ validPz x = true ∧ wfT t = true ∧ trackB x.points t.tracked = true ∧ ∀ p ∈ t.patterns, patB x.points t.tracked.length p = true := by
  simp [checkT]
/-- the index of the first pattern that is this one, -1 if there is none -/
def idxL (l : List (List Int)) (p : List Int) : Int := idxF (fun q => decide (q = p)) l
/-- the pattern behind a letter -/
def nxt (x : Puzzle) (p : List Int) (l : Int) : List Int := PM.comp p (mv x.moves l)
/-- where a letter leads -/
def nextI (x : Puzzle) (t : Table) (p : List Int) (l : Int) : Int := idxL t.patterns (nxt x p l)
/-- a letter leads to an entry of this distance -/
def leads (x : Puzzle) (t : Table) (p : List Int) (d : Int) (l : Int) : Bool := decide (0 ≤ nextI x t p l) && decide (t.distances.getD (nextI x t p l).toNat 0 = d)
/-- the first letter that leads to an entry of this distance, 0 if there is none -/
def descL (x : Puzzle) (t : Table) (p : List Int) (d : Int) : Int := ((ltrs x.moves.length).find? (leads x t p d)).getD 0
structure Fault where
  kind : Int
  entry : Int
  letter : Int
instance : Rp Fault where
  size := 3
  rep _ cs x fp := cs = [Value.int .i64 x.kind, Value.int .i64 x.entry, Value.int .i64 x.letter] ∧ (I64 x.kind ∧ I64 x.entry ∧ I64 x.letter) ∧ fp = []
  len h := by rw [h.1]; rfl
  frame h _ := h
  lt h := by rw [h.2.2]; simp
def atD (t : Table) (i : Int) : Int := t.distances.getD i.toNat 0
def atP (t : Table) (i : Nat) : List Int := t.patterns.getD i []
def one (b : Bool) (f : Fault) : List Fault := if b = true then [f] else []
/-- the fault of a letter -/
def letF (x : Puzzle) (t : Table) (i : Nat) (l : Int) : List Fault :=
  if nextI x t (atP t i) l < 0 then [⟨4, i, l⟩] else if inR (atD t (nextI x t (atP t i) l) - atD t i) (-1) 1 = true then [] else [⟨5, i, l⟩]
def entF (x : Puzzle) (t : Table) (i : Nat) : List Fault :=
  one (decide (i = 0) && (decide (atD t i ≠ 0) || decide (atP t 0 ≠ t.tracked))) ⟨1, i, 0⟩ ++
  (one (decide (idxL t.patterns (atP t i) < i)) ⟨2, i, 0⟩ ++
  (one (decide (0 < i) && decide (atD t i = 0)) ⟨3, i, 0⟩ ++
  ((ltrs x.moves.length).flatMap (letF x t i) ++
  one (decide (0 < atD t i) && decide (descL x t (atP t i) (atD t i - 1) = 0)) ⟨6, i, 0⟩)))
/-- the faults of the entries ahead of k -/
def faultsTo (x : Puzzle) (t : Table) (k : Nat) : List Fault := (List.range k).flatMap (entF x t)
def tableFaults (x : Puzzle) (t : Table) : List Fault := if checkT x t = true then (faultsTo x t t.patterns.length).take 40 else [⟨0, 0, 0⟩]

theorem idxF_nonneg_or {α : Type} (pr : α → Bool) (l : List α) : idxF pr l = -1 ∨ ∃ k : Nat, ∃ h : k < l.length, idxF pr l = k ∧ pr l[k] = true := by
  unfold idxF
  cases h : l.findIdx? pr with
  | none => exact .inl rfl
  | some i =>
    right
    obtain ⟨hi, hp, -⟩ := List.findIdx?_eq_some_iff_getElem.1 h
    exact ⟨i, hi, rfl, hp⟩
theorem idxL_lt {l : List (List Int)} {p : List Int} : -1 ≤ idxL l p ∧ idxL l p < l.length := by
  rcases idxF_nonneg_or (fun q => decide (q = p)) l with h | ⟨k, hk, h, -⟩
  · unfold idxL; omega
  · unfold idxL; omega
theorem faultsTo_succ (x : Puzzle) (t : Table) (k : Nat) : faultsTo x t (k + 1) = faultsTo x t k ++ entF x t k := by simp [faultsTo, List.range_succ]
theorem one_len (b : Bool) (f : Fault) : (one b f).length ≤ 1 := by unfold one; split <;> simp
theorem letF_len (x : Puzzle) (t : Table) (i : Nat) (l : Int) : (letF x t i l).length ≤ 1 := by unfold letF; split <;> (try split) <;> simp
theorem flat_len {α β : Type} {f : α → List β} {m : Nat} (h : ∀ a, (f a).length ≤ m) : ∀ l : List α, (l.flatMap f).length ≤ m * l.length
  | [] => by simp
  | a :: l => by
    have := flat_len h l; have := h a
    simp only [List.flatMap_cons, List.length_append, List.length_cons, Nat.mul_add, Nat.mul_one]; omega
theorem entF_len (x : Puzzle) (t : Table) (i : Nat) : (entF x t i).length ≤ 4 + 2 * x.moves.length := by
  unfold entF
  have h1 := flat_len (letF_len x t i) (ltrs x.moves.length)
  rw [ltrs_len] at h1
  simp only [List.length_append]
  have := one_len (decide (i = 0) && (decide (atD t i ≠ 0) || decide (atP t 0 ≠ t.tracked))) ⟨1, i, 0⟩
  have := one_len (decide (idxL t.patterns (atP t i) < i)) ⟨2, i, 0⟩
  have := one_len (decide (0 < i) && decide (atD t i = 0)) ⟨3, i, 0⟩
  have := one_len (decide (0 < atD t i) && decide (descL x t (atP t i) (atD t i - 1) = 0)) ⟨6, i, 0⟩
  omega
theorem atP_of {t : Table} {i : Nat} (h : i < t.patterns.length) : atP t i = t.patterns[i] := by
  unfold atP; rw [List.getD_eq_getElem?_getD, List.getElem?_eq_getElem h]; rfl
theorem atD_of {t : Table} {i : Nat} {j : Int} (hj : j = i) (h : i < t.distances.length) : atD t j = t.distances[i] := by
  unfold atD; rw [hj, Int.toNat_natCast, List.getD_eq_getElem?_getD, List.getElem?_eq_getElem h]; rfl
theorem nxt_pat {x : Puzzle} {k : Nat} {p : List Int} {l : Int} (hv : validPz x = true) (hp : patB x.points k p = true) (hl : l ∈ ltrs x.moves.length) : patB x.points k (nxt x p l) = true := by
  obtain ⟨h1, h2, h3, h4⟩ := validPz_facts hv
  obtain ⟨h5, h6, h7⟩ := patB_iff.1 hp
  have hm := mv_pn (validPz_pn hv) hl
  refine patB_iff.2 ⟨by unfold nxt; rw [PM.comp_len]; exact h5, fun y hy => ?_, ?_⟩
  · obtain ⟨z, hz, rfl⟩ := List.mem_map.1 hy
    have := h6 z hz
    have := hm.rng this.1 (by omega)
    omega
  · unfold nxt PM.comp
    rw [List.nodup_iff_pairwise_ne, List.pairwise_map]
    refine (List.nodup_iff_pairwise_ne.1 h7).imp_of_mem fun {a b} ha hb hab he => hab ?_
    have h8 := h6 a ha; have h9 := h6 b hb
    exact hm.inj h8.1 (by omega) h9.1 (by omega) he
end Go.Proofs.Ytmilmbgnkpkmnaa
