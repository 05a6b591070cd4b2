/- Descents in plain words. -/
import Derived.Test.YtmilmbgnkpkmnaaFault
namespace Go.Proofs.Ytmilmbgnkpkmnaa
open Go.RowKit
set_option maxRecDepth 10000

/-- the first letter of a descent -/
def dLet (x : Puzzle) (t : Table) (p : List Int) : Int := if checkT x t = true ∧ 0 ≤ idxL t.patterns p then descL x t p (atD t (idxL t.patterns p) - 1) else 0
/-- the word of a descent of at most n letters -/
def dW (x : Puzzle) (t : Table) : Nat → List Int → Option (List Int)
  | 0, p => if p = t.tracked then some [] else none
  | n + 1, p => if p = t.tracked then some [] else if dLet x t p = 0 then none else (dW x t n (nxt x p (dLet x t p))).map (dLet x t p :: ·)
def dWord (x : Puzzle) (t : Table) (p : List Int) : Option (List Int) := if checkT x t = true ∧ 0 ≤ idxL t.patterns p then dW x t 200 p else none
theorem dLet_no {x : Puzzle} {t : Table} {p : List Int} (h : ¬ (checkT x t = true ∧ 0 ≤ idxL t.patterns p)) : dLet x t p = 0 := by unfold dLet; rw [if_neg h]
theorem dLet_yes {x : Puzzle} {t : Table} {p : List Int} (h : checkT x t = true) (h2 : 0 ≤ idxL t.patterns p) : dLet x t p = descL x t p (atD t (idxL t.patterns p) - 1) := by unfold dLet; rw [if_pos ⟨h, h2⟩]
theorem idxL_mem {l : List (List Int)} {p : List Int} (h : 0 ≤ idxL l p) : p ∈ l ∧ (idxL l p).toNat < l.length := by
  rcases idxF_nonneg_or (fun q => decide (q = p)) l with h1 | ⟨k, hk, h1, h2⟩
  · unfold idxL at h; omega
  · have : l[k] = p := of_decide_eq_true h2
    unfold idxL
    rw [h1]
    exact ⟨by rw [← this]; exact List.getElem_mem hk, by simpa using hk⟩
theorem idxL_no {x : Puzzle} {t : Table} {p : List Int} (hc : checkT x t = true) (h : patB x.points t.tracked.length p = false) : idxL t.patterns p < 0 := by
  rcases Int.lt_or_le (idxL t.patterns p) 0 with h1 | h1
  · exact h1
  · have := (checkT_iff.1 hc).2.2.2 p (idxL_mem h1).1
    rw [h] at this; cases this
/-- the index of the first letter of a descent, -1 if there is none -/
def dK (x : Puzzle) (t : Table) (p : List Int) (d : Int) : Int := idxF (leads x t p d) (ltrs x.moves.length)
theorem descL_of_dK {x : Puzzle} {t : Table} {p : List Int} {d : Int} : (dK x t p d = -1 ∧ descL x t p d = 0) ∨ ∃ k : Nat, ∃ h : k < (ltrs x.moves.length).length, dK x t p d = k ∧ descL x t p d = (ltrs x.moves.length)[k] := by
  unfold dK descL idxF
  cases hf : (ltrs x.moves.length).findIdx? (leads x t p d) with
  | none =>
    left
    rw [List.findIdx?_eq_none_iff] at hf
    rw [List.find?_eq_none.2 (fun a ha => by simp [hf a ha])]
    exact ⟨rfl, rfl⟩
  | some k =>
    right
    obtain ⟨hk, hp, hlt⟩ := List.findIdx?_eq_some_iff_getElem.1 hf
    refine ⟨k, hk, rfl, ?_⟩
    rw [List.find?_eq_some_iff_getElem.2 ⟨hp, k, hk, rfl, fun i hi => by simpa using hlt i hi⟩]
    rfl
end Go.Proofs.Ytmilmbgnkpkmnaa
