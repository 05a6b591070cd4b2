/- Lower bounds out of tables, in plain words (laws 40, 42, 43, 52). Tables without faults: the built ones, and no others with the same patterns (laws 10, 11, 26). Descents in a table that was built; a search of few patterns ends (laws 10, 11). The states of a puzzle: how many there are, what the search of them finds (laws 20, 38). The program's group order and number of states (laws 20, 38). The member of a rank, in plain words (laws 33, 34, ..). All members of a chain are the members of the ranks (laws 32, 36, 44). The reference's orbit sizes, chain order, members per choice (laws 33, 34, ..). The reference's chain order, members per choice, MemberAt (laws 33, 34, ..). The program's memberAt: the member of a rank (laws 33, 34, ..). The reference's allMembers and Members; the program's members and Members (laws 32, 36, 44). The reference's MemberAt: the member of a rank (laws 33, 34, ..). The reference's Rank of the member of a rank (laws 34, 35, 53). The program's countBelow and Rank of the member of a rank (laws 34, 35). RandomState, of the reference and of the program (law 33). The program's Rank, IsMember, MemberAt, FirstNonIdentity; random members of no group (laws 34, 35). The program's members, Members, GroupOrder, OrbitSizes, hasAll, SameGroup; the reference's Members, OrbitSizes, PermutationLess (laws 32, 36, 44). Orbit sizes of both, hasAll, SameGroup of a group with itself, the order of permutations (law 36; laws 37, 39, 48). The laws' dice: bytes in memory; roll, below. The reference's source of choices: newSource, nextByte, below, oneIn, between, extremeInt, numberUpTo (laws 34, 35, ..). What it draws is left open: its bounds are told. The laws' drawn permutations, puzzles, tracked sets (laws 10, 11). The reference's drawn permutations and generators (laws 34, 35, ..). The first pattern with a key, in plain words. The program's proof of a table: what a table is checked with. (Written by mkprf.py.) The program's proof of a table: where a letter leads, the faults of an entry. (Written by mkprf2.py.) The reference's tables: where a letter leads, the first letter of a descent. The reference's faults of an entry. (Written by mkspecent.py.) The program's faults of an entry. (Written by mkprf3.py.) The reference's drawn numbers, permutations (seldom invalid ones), generators (laws 34, 35, ..). The reference's drawn groups (laws 34, 35, ..). What the laws on ranks and random members draw (laws 34, 35). -/
import Derived.Test.YtbediokigibdlaaRowCosetRepresentativesG10
import Derived.Test.YtbediokigibdlaaRowCosetRepresentativesG8
import Derived.Test.YtbediokigibdlaaRowCosetRepresentativesG7
import Derived.Test.YtbediokigibdlaaRowCosetRepresentativesG4
import Derived.Test.YtbediokigibdlaaRowCosetRepresentativesG9
import Derived.Deep.QuietTactic
import Derived.Test.YtbediokigibdlaaRowCosetRepresentativesG2
import Derived.Deep.RegionHeld3
import Derived.BigQuiet
import Derived.BigRegion
import Derived.Laws.Bits64b
import Derived.Deep.RegionLaw
import Derived.Deep.DeepCutAuto
import Derived.Deep.AppendLies
import Derived.Test.YtbediokigibdlaaRowCosetRepresentativesG3
namespace Go.Proofs.Ytbediokigibdlaa
open Go.RowKit
set_option maxRecDepth 10000

/-- the table that is built for its tracked points -/
noncomputable def validT (x : Puzzle) (t : Table) : Bool := (bTab x t.tracked).isSome && eqV ((bTab x t.tracked).getD noTab) t
noncomputable def tabSet (x : Puzzle) (ts : List Table) : Bool := validPz x && (decide (ts.length ≤ 4) && ts.all (validT x))
/-- the distance of a state's pattern -/
def lookT (t : Table) (s : List Int) : Int := t.distances.getD (idxL t.patterns (PM.comp t.tracked s)).toNat 0
def lbs (ts : List Table) (s : List Int) : List Int := ts.map fun t => lookT t s
def lbMax (ts : List Table) (s : List Int) : Int := (lbs ts s).foldl max 0
noncomputable def lb (x : Puzzle) (ts : List Table) (s : List Int) : Int := if (tabSet x ts && reachB x s) = true then lbMax ts s else -1
/-- the patterns of reachable states are entries -/
theorem Built.reach {x : Puzzle} {t : Table} (h : Built x t) {s : List Int} (hs : reachB x s = true) : PM.comp t.tracked s ∈ t.patterns := by
  have hg := validPz_pn h.v
  have hf := validPz_facts h.v
  have htr := trackB_iff.1 h.tk
  have hG : PM.Grp x.points.toNat x.moves s := by
    unfold reachB memB at hs
    rw [Bool.and_eq_true] at hs
    exact @of_decide_eq_true _ (Classical.propDecidable _) hs.2
  have hr : ∀ z ∈ t.tracked, 0 ≤ z ∧ z < x.points.toNat := fun z hz => by have := htr.2.1 z hz; omega
  have h0 : t.patterns.getD 0 [] = t.tracked := h.bi.p0
  have hne : 0 < t.patterns.length := h.bi.ne
  have := PM.grp_sub (n := x.points.toNat) (G := x.moves) hg (S := fun p => PM.PN x.points.toNat p ∧ PM.comp t.tracked p ∈ t.patterns) (fun p hp => hp.1) ⟨PM.PN.id _, ?_⟩ ?_ hG
  · exact this.2
  · have e : PM.comp t.tracked (PM.pts x.points.toNat) = t.tracked := by
      unfold PM.comp
      refine (List.map_congr_left fun z hz => ?_).trans (List.map_id _)
      exact PM.at_pts (hr z hz).1 (hr z hz).2
    rw [e, ← h0, getD_get hne]
    exact List.getElem_mem hne
  · rintro p g ⟨hp, hm⟩ hgm
    refine ⟨hp.comp (hg g hgm), ?_⟩
    obtain ⟨k, hk, rfl⟩ := List.getElem_of_mem hgm
    obtain ⟨j, hj, e⟩ := List.getElem_of_mem hm
    have hl : ((k : Int) + 1) ∈ ltrs x.moves.length := mem_ltrs.2 ⟨by omega, by omega, by omega⟩
    obtain ⟨i, hi, e2, -⟩ := h.step hj hl
    have e3 : PM.comp t.tracked (PM.comp p x.moves[k]) = nxt x (PM.comp t.tracked p) ((k : Int) + 1) := by
      unfold nxt
      rw [mv_pos rfl hk]
      unfold PM.comp
      rw [List.map_map]
      refine List.map_congr_left fun z hz => ?_
      have := hr z hz
      exact PM.at_comp this.1 (by rw [hp.1]; omega)
    rw [e3, ← e, ← getD_get (z := []) hj, ← e2, getD_get hi]
    exact List.getElem_mem hi
end Go.Proofs.Ytbediokigibdlaa

namespace Go.Proofs.Ytbediokigibdlaa
open Go.RowKit
set_option maxRecDepth 10000

def Good (x : Puzzle) (t : Table) : Prop := ∀ i, i < t.patterns.length → entF x t i = []
theorem one_nil {b : Bool} {f : Fault} : one b f = [] ↔ b = false := by unfold one; cases b <;> simp
theorem descL_leads {x : Puzzle} {t : Table} {p : List Int} {d : Int} (h : descL x t p d ≠ 0) : descL x t p d ∈ ltrs x.moves.length ∧ leads x t p d (descL x t p d) = true := by
  unfold descL at h ⊢
  cases hf : (ltrs x.moves.length).find? (leads x t p d) with
  | none => rw [hf] at h; exact absurd rfl h
  | some l => exact ⟨List.mem_of_find?_eq_some hf, List.find?_some hf⟩
theorem descL_ne {x : Puzzle} {t : Table} {p : List Int} {d : Int} {l : Int} (hl : l ∈ ltrs x.moves.length) (h : leads x t p d l = true) : descL x t p d ≠ 0 := by
  unfold descL
  cases hf : (ltrs x.moves.length).find? (leads x t p d) with
  | none => have := List.find?_eq_none.1 hf l hl; rw [h] at this; exact absurd rfl this
  | some l' => exact (mem_ltrs.1 (List.mem_of_find?_eq_some hf)).1
theorem leads_iffD {x : Puzzle} {t : Table} {p : List Int} {d l : Int} : leads x t p d l = true ↔ 0 ≤ nextI x t p l ∧ atD t (nextI x t p l) = d := by
  unfold leads atD
  rw [Bool.and_eq_true, decide_eq_true_iff, decide_eq_true_iff]
section
variable {x : Puzzle} {t t' : Table}
/-- what an entry without faults says -/
theorem ent_nil {i : Nat} : entF x t i = [] ↔ (i = 0 → atD t 0 = 0 ∧ atP t 0 = t.tracked) ∧ (i : Int) ≤ idxL t.patterns (atP t i) ∧ (0 < i → atD t i ≠ 0) ∧
    (∀ l ∈ ltrs x.moves.length, 0 ≤ nextI x t (atP t i) l ∧ -1 ≤ atD t (nextI x t (atP t i) l) - atD t i ∧ atD t (nextI x t (atP t i) l) - atD t i ≤ 1) ∧ (0 < atD t i → descL x t (atP t i) (atD t i - 1) ≠ 0) := by
  unfold entF
  rw [List.append_eq_nil_iff, List.append_eq_nil_iff, List.append_eq_nil_iff, List.append_eq_nil_iff, one_nil, one_nil, one_nil, one_nil, List.flatMap_eq_nil_iff]
  have hl : ∀ l, letF x t i l = [] ↔ 0 ≤ nextI x t (atP t i) l ∧ -1 ≤ atD t (nextI x t (atP t i) l) - atD t i ∧ atD t (nextI x t (atP t i) l) - atD t i ≤ 1 := fun l => by
    unfold letF
    split
    · rename_i h; simp; omega
    · rename_i h
      split
      · rename_i h2; rw [inR_iff] at h2; simp; omega
      · rename_i h2; rw [inR_iff] at h2; simp; omega
  constructor
  · rintro ⟨a, b, c, d, e⟩
    refine ⟨fun h0 => ?_, ?_, fun h0 => ?_, fun l h => (hl l).1 (d l h), fun h0 h1 => ?_⟩
    · subst h0
      simp only [decide_true, Bool.true_and, Bool.or_eq_false_iff, decide_eq_false_iff_not] at a
      exact ⟨Decidable.of_not_not a.1, Decidable.of_not_not a.2⟩
    · have := of_decide_eq_false b; omega
    · intro h1; simp [h0, h1] at c
    · simp [h0, h1] at e
  · rintro ⟨a, b, c, d, e⟩
    refine ⟨?_, decide_eq_false (by omega), ?_, fun l h => (hl l).2 (d l h), ?_⟩
    · by_cases h0 : i = 0
      · subst h0; obtain ⟨a1, a2⟩ := a rfl
        simp [a1, a2]
      · simp [h0]
    · by_cases h0 : 0 < i
      · simp [h0, c h0]
      · simp [h0]
    · by_cases h0 : 0 < atD t i
      · simp [e h0]
      · simp [h0]
theorem atD_nat (i : Nat) : atD t i = t.distances.getD i 0 := by unfold atD; rw [Int.toNat_natCast]
theorem Built.good (h : Built x t) : Good x t := by
  intro i hi
  have hstep : ∀ l ∈ ltrs x.moves.length, ∃ i' : Nat, i' < t.patterns.length ∧ t.patterns.getD i' [] = nxt x (atP t i) l ∧ nextI x t (atP t i) l = i' ∧ atD t i' ≤ atD t i + 1 ∧ atD t i ≤ atD t i' + 1 := fun l hl => by
    obtain ⟨i', a1, a2, a3, a4⟩ := h.step hi hl
    refine ⟨i', a1, a2, ?_, by rw [atD_nat, atD_nat]; exact a3, by rw [atD_nat, atD_nat]; exact a4⟩
    show idxL t.patterns (nxt x (t.patterns.getD i []) l) = i'
    rw [← a2]; exact h.idx a1
  refine ent_nil.2 ⟨fun h0 => ?_, ?_, fun h0 => ?_, fun l hl => ?_, fun h0 => ?_⟩
  · have a := h.bi.d0; have b := h.bi.p0
    simp only at a b
    exact ⟨a, b⟩
  · rw [show atP t i = t.patterns.getD i [] from rfl, h.idx hi]; exact Int.le_refl _
  · have := (h.dep i hi).2.2 h0
    rw [atD_nat]; omega
  · obtain ⟨i', a1, a2, a3, a4, a5⟩ := hstep l hl
    rw [a3]; omega
  · have hi0 : 0 < i := by
      rcases Nat.eq_zero_or_pos i with h1 | h1
      · subst h1
        have := h.bi.d0
        simp only at this
        rw [atD_nat, this] at h0; omega
      · exact h1
    obtain ⟨j, l, a1, a2, a3, a4⟩ := h.bi.par i hi0 hi
    simp only at a3 a4
    have hj : j < t.patterns.length := by omega
    have hjm : t.patterns.getD j [] ∈ t.patterns := by rw [getD_get hj]; exact List.getElem_mem hj
    have hb : nxt x (atP t i) (-l) = t.patterns.getD j [] := by
      rw [show atP t i = t.patterns.getD i [] from rfl, ← a3]
      exact nxt_back h.v (h.bi.pat _ hjm) a2
    refine descL_ne (ltrs_neg a2) (leads_iffD.2 ?_)
    have hn : nextI x t (atP t i) (-l) = j := by
      show idxL t.patterns (nxt x (atP t i) (-l)) = j
      rw [hb]; exact h.idx hj
    rw [hn, atD_nat, atD_nat]
    omega
theorem Built.check (h : Built x t) : checkT x t = true := by
  obtain ⟨h1, h2, h3, h4⟩ := validPz_facts h.v
  have h5 := trackB_iff.1 h.tk
  have hd := h.bi.dl
  simp only at hd
  have h20 : ∀ p, patB x.points t.tracked.length p = true → patB 20 t.tracked.length p = true := fun p hp => by
    obtain ⟨a, b, c⟩ := patB_iff.1 hp
    exact patB_iff.2 ⟨a, fun y hy => by have := b y hy; omega, c⟩
  refine checkT_iff.2 ⟨h.v, wfT_iff.2 ⟨trackB_iff.2 ⟨h5.1, fun y hy => by have := h5.2.1 y hy; omega, h5.2.2⟩, ⟨?_, ?_⟩, hd, fun p hp => h20 p (h.bi.pat p hp), fun d hdm => ?_⟩, h.tk, h.bi.pat⟩
  · have := h.bi.ne; simp only at this; omega
  · have := h.ll; omega
  · obtain ⟨i, hi, rfl⟩ := List.getElem_of_mem hdm
    have hil : i < t.patterns.length := by omega
    have := h.dep i hil
    rw [getD_get hi] at this
    have := h.ll
    rw [inR_iff]; omega
theorem Good.dist0 (_ : Good x t) (hc : checkT x t = true) : ∀ i : Nat, i < t.patterns.length → 0 ≤ atD t i := fun i hi => by
  have hw := wfT_iff.1 (checkT_iff.1 hc).2.1
  have hi' : i < t.distances.length := by omega
  rw [atD_nat, getD_get hi']
  have := inR_iff.1 (hw.2.2.2.2 _ (List.getElem_mem hi')); omega
/-- two tables without faults, with the same patterns, have the same distances: one half -/
theorem Good.le (h : Good x t) (hc : checkT x t = true) (h' : Good x t') (hc' : checkT x t' = true) (hp : t'.patterns = t.patterns) : ∀ (n : Nat) (i : Nat), i < t.patterns.length → atD t i = n → atD t' i ≤ n
  | 0, i, hi, hd => by
    have e := ent_nil.1 (h i hi)
    have e' := ent_nil.1 (h' i (by rw [hp]; exact hi))
    have h0 : i = 0 := by
      rcases Nat.eq_zero_or_pos i with h1 | h1
      · exact h1
      · exact absurd (by simpa using hd) (e.2.2.1 h1)
    subst h0
    have := (e'.1 rfl).1
    have e0 : atD t' ((0 : Nat) : Int) = 0 := this
    rw [e0]; exact Int.le_refl _
  | n + 1, i, hi, hd => by
    have e := ent_nil.1 (h i hi)
    have e' := ent_nil.1 (h' i (by rw [hp]; exact hi))
    have hne := e.2.2.2.2 (by rw [hd]; omega)
    obtain ⟨hl, hlead⟩ := descL_leads hne
    obtain ⟨a1, a2⟩ := leads_iffD.1 hlead
    obtain ⟨b1, b2, b3⟩ := e'.2.2.2.1 _ hl
    have hn : nextI x t' (atP t' i) (descL x t (atP t i) (atD t i - 1)) = nextI x t (atP t i) (descL x t (atP t i) (atD t i - 1)) := by
      unfold nextI atP; rw [hp]
    have hlt := (idxL_lt (l := t.patterns) (p := nxt x (atP t i) (descL x t (atP t i) (atD t i - 1)))).2
    obtain ⟨j, hj⟩ : ∃ j : Nat, nextI x t (atP t i) (descL x t (atP t i) (atD t i - 1)) = j := ⟨_, (Int.toNat_of_nonneg a1).symm⟩
    have hjl : j < t.patterns.length := by unfold nextI at hj; omega
    rw [hn, hj] at b2 b3
    rw [hj] at a2
    have := Good.le h hc h' hc' hp n j hjl (by rw [a2, hd]; omega)
    omega
theorem Good.same (h : Good x t) (hc : checkT x t = true) (h' : Good x t') (hc' : checkT x t' = true) (hp : t'.patterns = t.patterns) {i : Nat} (hi : i < t.patterns.length) : atD t i = atD t' i := by
  have h1 := h.dist0 hc i hi
  have h2 := h'.dist0 hc' i (by rw [hp]; exact hi)
  have a := Good.le h hc h' hc' hp (atD t i).toNat i hi (by omega)
  have b := Good.le h' hc' h hc hp.symm (atD t' i).toNat i (by rw [hp]; exact hi) (by omega)
  omega
end
end Go.Proofs.Ytbediokigibdlaa

namespace Go.Proofs.Ytbediokigibdlaa
open Go.RowKit
set_option maxRecDepth 10000

section
variable {x : Puzzle} {t : Table}
theorem idxL_getD {l : List (List Int)} {p : List Int} (h : 0 ≤ idxL l p) : l.getD (idxL l p).toNat [] = p := by
  rcases idxF_nonneg_or (fun q => decide (q = p)) l with h1 | ⟨k, hk, h1, h2⟩
  · unfold idxL at h; omega
  · unfold idxL
    rw [h1, Int.toNat_natCast, getD_get hk]
    exact of_decide_eq_true h2
theorem Built.root (h : Built x t) {i : Nat} (hi : i < t.patterns.length) : t.patterns.getD i [] = t.tracked ↔ i = 0 := by
  have h0 : t.patterns.getD 0 [] = t.tracked := h.bi.p0
  constructor
  · intro e
    rw [← h0, getD_get hi, getD_get (by omega)] at e
    have hnd : t.patterns.Nodup := h.bi.nd
    exact nodup_at hnd hi (by omega) e
  · rintro rfl; exact h0
theorem Built.dLet_ (h : Built x t) {i : Nat} (hi : i < t.patterns.length) : dLet x t (t.patterns.getD i []) = descL x t (t.patterns.getD i []) (atD t i - 1) := by
  have hx := h.idx hi
  rw [dLet_yes h.check (by rw [hx]; omega), hx]
theorem Built.word (h : Built x t) : ∀ (n m i : Nat), i < t.patterns.length → atD t i = n → n ≤ m →
    ∃ w, dW x t m (t.patterns.getD i []) = some w ∧ w.length = n ∧ (∀ l ∈ w, l ∈ ltrs x.moves.length) ∧ w.foldl (nxt x) (t.patterns.getD i []) = t.tracked
  | 0, m, i, hi, hd, hm => by
    have h0 : i = 0 := by
      rcases Nat.eq_zero_or_pos i with h1 | h1
      · exact h1
      · have := (h.dep i hi).2.2 h1
        rw [atD_nat] at hd; omega
    have hr := (h.root hi).2 h0
    refine ⟨[], ?_, rfl, by simp, hr⟩
    cases m <;> (unfold dW; rw [if_pos hr])
  | n + 1, 0, i, hi, hd, hm => by omega
  | n + 1, m + 1, i, hi, hd, hm => by
    have hr : t.patterns.getD i [] ≠ t.tracked := fun e => by
      have := (h.root hi).1 e
      subst this
      have h0 : t.distances.getD 0 0 = 0 := h.bi.d0
      rw [atD_nat, h0] at hd; omega
    have hg := ent_nil.1 (h.good i hi)
    have hne : descL x t (t.patterns.getD i []) (atD t i - 1) ≠ 0 := hg.2.2.2.2 (by rw [hd]; omega)
    obtain ⟨hl, hlead⟩ := descL_leads hne
    obtain ⟨a1, a2⟩ := leads_iffD.1 hlead
    rw [← h.dLet_ hi] at hl a1 a2 hne
    have hj : t.patterns.getD (nextI x t (t.patterns.getD i []) (dLet x t (t.patterns.getD i []))).toNat [] = nxt x (t.patterns.getD i []) (dLet x t (t.patterns.getD i [])) := idxL_getD a1
    have hlt := (idxL_lt (l := t.patterns) (p := nxt x (t.patterns.getD i []) (dLet x t (t.patterns.getD i [])))).2
    obtain ⟨j, hjj⟩ : ∃ j : Nat, nextI x t (t.patterns.getD i []) (dLet x t (t.patterns.getD i [])) = j := ⟨_, (Int.toNat_of_nonneg a1).symm⟩
    rw [hjj] at a2 hj
    rw [Int.toNat_natCast] at hj
    have hjl : j < t.patterns.length := by unfold nextI at hjj; omega
    obtain ⟨w, b1, b2, b3, b4⟩ := Built.word h n m j hjl (by rw [a2, hd]; omega) (by omega)
    refine ⟨dLet x t (t.patterns.getD i []) :: w, ?_, by simp [b2], ?_, ?_⟩
    · show (if _ then _ else _) = _
      rw [if_neg hr, if_neg hne, ← hj, b1]; rfl
    · intro l hl2
      rcases List.mem_cons.1 hl2 with rfl | hl2
      · exact hl
      · exact b3 l hl2
    · rw [List.foldl_cons, ← hj]; exact b4
theorem Built.letter (h : Built x t) {i : Nat} (hi : i < t.patterns.length) : dLet x t (t.patterns.getD i []) = 0 ↔ atD t i = 0 := by
  have h0 := (h.dep i hi).1
  rw [← atD_nat] at h0
  rw [h.dLet_ hi]
  have hg := ent_nil.1 (h.good i hi)
  constructor
  · intro e
    rcases Int.lt_or_le 0 (atD t i) with h1 | h1
    · exact absurd e (hg.2.2.2.2 h1)
    · omega
  · intro e
    rcases Decidable.em (descL x t (t.patterns.getD i []) (atD t i - 1) = 0) with h1 | h1
    · exact h1
    · obtain ⟨-, hlead⟩ := descL_leads h1
      obtain ⟨a1, a2⟩ := leads_iffD.1 hlead
      have hlt := (idxL_lt (l := t.patterns) (p := nxt x (t.patterns.getD i []) (descL x t (t.patterns.getD i []) (atD t i - 1)))).2
      obtain ⟨j, hj⟩ : ∃ j : Nat, nextI x t (t.patterns.getD i []) (descL x t (t.patterns.getD i []) (atD t i - 1)) = j := ⟨_, (Int.toNat_of_nonneg a1).symm⟩
      have hjl : j < t.patterns.length := by unfold nextI at hj; omega
      rw [hj, atD_nat] at a2
      have := (h.dep j hjl).1
      omega
end
/-- so many patterns at most -/
theorem BI.bound {x : Puzzle} {tr : List Int} {k : Nat} {done : List Int} {s : Met16} (h : BI x tr k done s) : s.1.length ≤ (PM.allL (PM.pts x.points.toNat) tr.length).length := by
  refine PM.nodup_sub_len h.nd fun q hq => ?_
  obtain ⟨a, b, -⟩ := patB_iff.1 (h.pat q hq)
  rw [← a]
  exact PM.mem_allL q fun y hy => PM.mem_pts.2 (by have := b y hy; omega)
end Go.Proofs.Ytbediokigibdlaa

namespace Go.Proofs.Ytbediokigibdlaa
open Go.RowKit
set_option maxRecDepth 10000
theorem grp_nxt {x : Puzzle} (hv : validPz x = true) {s : List Int} (hs : PM.Grp x.points.toNat x.moves s) {l : Int} (hl : l ∈ ltrs x.moves.length) : PM.Grp x.points.toNat x.moves (nxt x s l) := by
  have h3 := validPz_pn hv
  refine PM.Grp.comp h3 hs ?_
  rcases letter_cases hl with ⟨k, hk, rfl⟩ | ⟨k, hk, rfl⟩
  · rw [mv_pos rfl hk]; exact PM.Grp.gen h3 (List.getElem_mem hk)
  · rw [mv_neg (k := k) rfl hk]; exact PM.Grp.gen_inv h3 (List.getElem_mem hk)
theorem BI.grp {x : Puzzle} {k : Nat} {done : List Int} {s : Met16} (hv : validPz x = true) (h : BI x (PM.pts x.points.toNat) k done s) : ∀ i, i < s.1.length → PM.Grp x.points.toNat x.moves (s.1.getD i []) := by
  intro i
  induction i using Nat.strongRecOn with
  | ind i ih =>
    intro hi
    by_cases h0 : i = 0
    · subst h0; rw [h.p0]; exact .id
    · obtain ⟨j, l, a1, a2, a3, -⟩ := h.par i (by omega) hi
      rw [← a3]
      exact grp_nxt hv (ih j a1 (Nat.lt_trans a1 hi)) a2
section
variable {x : Puzzle} {t : Table}
end
end Go.Proofs.Ytbediokigibdlaa

namespace Go.Proofs.Ytbediokigibdlaa
open Go.RowKit
set_option maxRecDepth 10000

theorem ord_step {T : PM.Rows} {n i : Nat} (hi : i < n) : PM.ordM T n (n - i) = PM.cntR n T i * PM.ordM T n (n - (i + 1)) := by
  have h1 : n - i = (n - (i + 1)) + 1 := by omega
  have h2 : n - (n - (i + 1) + 1) = i := by omega
  rw [h1]; simp only [PM.ordM, h2]
theorem ord_end {T : PM.Rows} {n i : Nat} (hi : n ≤ i) : PM.ordM T n (n - i) = 1 := by
  rw [show n - i = 0 by omega]; rfl
theorem orb_cnt (n : Nat) (T : PM.Rows) (k : Nat) : (orb n T k).length = PM.cntR n T k := rfl
set_option maxHeartbeats 2000000 in
theorem implOrder_any {e : TypeId} {B : Nat} {L : Lay} {gv : Nat → Value} {n : Nat} {G : PM.Gens} {T : PM.Rows} {M F : List Nat} (w : World) (hC : Ch e B w L gv n G T M F) (hw : PM.WF n T) (hT : L.oT = 2) (k : Nat) (hk : k ≤ n) :
    Calls Try.prog 52 #[.pointer (some ⟨L.g, 0, none⟩), .int .i64 k] w fun e w' => e = .returned (.int .i64 (PM.ordM T n (n - k) : Nat)) ∧ Only [] w w' := by
  have hn20 := hC.le
  have hct := hC.ct
  rw [hT] at hct
  have hcn := hC.cn
  have HC := Lib.hid hC
  have Hw := Lib.hid hw
  clear hC hw
  go_enter Try.func52, Try.ntmps52
  go_wp2
  go_loopw [5, 6] (fun o i wr => ∃ (j m : Nat), k ≤ j ∧ j ≤ n ∧ i = .int .i64 j ∧ o = .int .i64 (m : Nat) ∧ 1 ≤ m ∧ m * PM.ordM T n (n - j) = PM.ordM T n (n - k) ∧ Only [] w wr)
    (fun _ i _ => n - (intOf i).toNat)
  case atStart => exact ⟨k, 1, Nat.le_refl _, hk, rfl, rfl, Nat.le_refl _, Nat.one_mul _, Only.refl _ _⟩
  case round =>
    obtain ⟨W2, hnew⟩ : ∃ W, W = wr := ⟨_, rfl⟩
    subst hnew
    obtain ⟨j, m, hkj, hj, rfl, rfl, hm1, hm, hK⟩ := hrel
    have Hm := Lib.hid hm
    clear hm
    have y0 := hK.cell (by simp) hcn
    have y1 := hK.cell (by simp) hct
    by_cases hlt : j < n
    · have hC2 := HC.out.keep hK
      have y2 := hC2.row j hlt
      have hstep := ord_step (T := T) hlt
      have hoc := orb_cnt n T j
      have hcp := PM.cntR_pos Hw.out hlt
      have hor := PM.ordM_rng Hw.out (n - (j + 1)) (by omega)
      have hmul : (m * PM.cntR n T j) * PM.ordM T n (n - (j + 1)) = PM.ordM T n (n - k) := by rw [Nat.mul_assoc, ← hstep]; exact Hm.out
      have hle : m * PM.cntR n T j ≤ 2432902008176640000 := by
        have h1 := PM.ordM_le Hw.out hn20 (m := n - k) (by omega)
        have h2 : m * PM.cntR n T j ≤ (m * PM.cntR n T j) * PM.ordM T n (n - (j + 1)) := Nat.le_mul_of_pos_right _ hor.1
        omega
      have hpos : 1 ≤ m * PM.cntR n T j := Nat.mul_le_mul hm1 hcp
      obtain ⟨cn, hcnn⟩ : ∃ cn, cn = PM.cntR n T j := ⟨_, rfl⟩
      rw [← hcnn] at hmul hle hoc hpos
      have Hmul := Lib.hid hmul
      have Hoc := Lib.hid hoc
      have hwr : IntKind.i64.wrap ((m : Int) * (cn : Int)) = ((m * cn : Nat) : Int) := by rw [IntKind.wrap_i64]; push_cast; omega
      clear hstep hor hmul hoc hcnn hcp
      go_wp2_with (first
        | (go_at_call 90; (with_reducible refine (orbitOf_any _ (hC2.keep (by with_reducible repeat (first | exact Only.refl _ _ | assumption | refine Only.drewN ?_ _ | refine Only.drew ?_ | refine Only.alloc ?_ _ | refine Only.setCell ?_ (by intro hh; exfalso; simp at hh; try omega) _ | refine Only.trans ?_ (by assumption)))) j hlt).mono ?_); rintro e w3 ⟨v3, f3, rfl, A3, F3, t3⟩; have r3 := A3.rd (by decide))
        | (go_at_call 74; (with_reducible refine (lengthInt_rd v3 (orb n T j) _ _ (Rp.keep r3 (by with_reducible repeat (first | exact Only.refl _ _ | assumption | refine Only.drewN ?_ _ | refine Only.drew ?_ | refine Only.alloc ?_ _ | refine Only.setCell ?_ (by intro hh; exfalso; simp at hh; try omega) _ | refine Only.trans ?_ (by assumption))))).mono ?_); rintro e w4 ⟨he, rfl⟩; rw [Hoc.out] at he; subst he)
        | fail "no arm")
      go_roundw
      case rel => exact ⟨j + 1, m * cn, by omega, by omega, by go_num, rfl, hpos, Hmul.out, (by with_reducible repeat (first | exact Only.refl _ _ | assumption | refine Only.drewN ?_ _ | refine Only.drew ?_ | refine Only.alloc ?_ _ | refine Only.setCell ?_ (by intro hh; exfalso; simp at hh; try omega) _ | refine Only.trans ?_ (by assumption)))⟩
      case measure => simp [intOf]; omega
    · have he : j = n := by omega
      have hend := ord_end (T := T) (n := n) (i := j) (by omega)
      have hfin : m = PM.ordM T n (n - k) := by have := Hm.out; rw [hend, Nat.mul_one] at this; exact this
      have Hfin := Lib.hid hfin
      clear he hend hfin
      go_wp2
      go_ret
      exact ⟨ret_int (by rw [Hfin.out]), hK⟩
theorem implOrder0 {e : TypeId} {B : Nat} {L : Lay} {gv : Nat → Value} {n : Nat} {G : PM.Gens} {T : PM.Rows} {M F : List Nat} {w : World} (hC : Ch e B w L gv n G T M F) (hw : PM.WF n T) (hT : L.oT = 2) :
    Calls Try.prog 52 #[.pointer (some ⟨L.g, 0, none⟩), .int .i64 0] w fun e w' => e = .returned (.int .i64 (PM.ordM T n n : Nat)) ∧ Only [] w w' :=
  implOrder_any w hC hw hT 0 (Nat.zero_le _)
end Go.Proofs.Ytbediokigibdlaa

namespace Go.Proofs.Ytbediokigibdlaa
open Go.RowKit
set_option maxRecDepth 10000

/-- how many members fix the first points, by the levels that are left -/
noncomputable def ordC (n : Nat) (gens : List (List Int)) (j : Nat) : Nat := PM.ordM (PM.chainR n gens) n j
section
variable {n : Nat} {gens : List (List Int)} {G : PM.Gens} {T : PM.Rows} (h : PM.Chain n gens G T) (hn : 0 < n) (hp : ∀ g ∈ gens, PM.PN n g)
include h hn hp
theorem ordC_eq {j : Nat} (hj : j ≤ n) : PM.ordM T n j = ordC n gens j := by
  obtain ⟨G', h'⟩ := h.chainR
  exact h.ordM_congr hn hp h' j hj
theorem ordC_pos {j : Nat} (hj : j ≤ n) : 1 ≤ ordC n gens j := by
  rw [← ordC_eq h hn hp hj]
  exact (PM.ordM_rng h.inv.wf j hj).1
theorem ordC_le (hn20 : n ≤ 20) {j : Nat} (hj : j ≤ n) : ordC n gens j ≤ 2432902008176640000 := by
  rw [← ordC_eq h hn hp hj]
  exact PM.ordM_le h.inv.wf hn20 hj
end
theorem tdiv_nat (a b : Nat) : Int.tdiv (a : Int) (b : Int) = ((a / b : Nat) : Int) := by
  rw [Int.tdiv_eq_ediv_of_nonneg (by omega)]; rfl
end Go.Proofs.Ytbediokigibdlaa

namespace Go.Proofs.Ytbediokigibdlaa
open Go.RowKit
set_option maxRecDepth 10000
end Go.Proofs.Ytbediokigibdlaa

namespace Go.Proofs.Ytbediokigibdlaa
open Go.RowKit
set_option maxRecDepth 10000

/-- the sizes of the first levels -/
def orbL (n : Nat) (T : PM.Rows) (j : Nat) : List Int := (List.range j).map fun k => (PM.cntR n T k : Int)
theorem orbL_succ (n : Nat) (T : PM.Rows) (j : Nat) : orbL n T (j + 1) = orbL n T j ++ [(PM.cntR n T j : Int)] := by
  unfold orbL; rw [List.range_succ, List.map_append]; rfl
theorem orbL_len (n : Nat) (T : PM.Rows) (j : Nat) : (orbL n T j).length = j := by unfold orbL; simp
theorem orbL_get {n : Nat} {T : PM.Rows} {j k : Nat} (h : k < (orbL n T j).length) : (orbL n T j)[k] = (PM.cntR n T k : Int) := by simp only [orbL, List.getElem_map, List.getElem_range]
theorem orbTo_n (n : Nat) (T : PM.Rows) (k : Nat) : (orbTo n T k).length = PM.cntR n T k := rfl
theorem boolToInt_any (b : Bool) (w : World) :
    Calls Try.prog 108 #[.bool b] w fun e w' => e = .returned (.int .i64 (if b then 1 else 0)) ∧ w' = w := by
  cases b
  · go_enter Try.func108, Try.ntmps108
    go_wp2
    go_ret
    exact ⟨rfl, rfl⟩
  · go_enter Try.func108, Try.ntmps108
    go_wp2
    go_ret
    exact ⟨rfl, rfl⟩
set_option maxHeartbeats 4000000 in
theorem orbitSizes_any {e : TypeId} {B : Nat} {L : Lay} {gv : Nat → Value} {n : Nat} {G : PM.Gens} {T : PM.Rows} {M F : List Nat} (w : World) (hC : Ch e B w L gv n G T M F) (hT : L.oT = 1) :
    Calls Try.prog 91 #[.pointer (some ⟨L.g, 0, none⟩)] w fun e w' => ∃ v, e = .returned v ∧ AccI w.heap.size 2 w' v (orbL n T n) ∧ Only [] w w' := by
  obtain ⟨i0, hii, hz0, hz1, hz2⟩ := info_parts Try.info2
  have hn20 := hC.le
  have cn := hC.cn
  have ct := hC.ct
  rw [hT] at ct
  have HC := Lib.hid hC
  clear hC
  go_enter Try.func91, Try.ntmps91
  go_wp2
  go_loopw [3, 4] (fun o y wr => ∃ (i : Nat) (l : List Int), i ≤ n ∧ y = .int .i64 i ∧ Hid (l = orbL n T i) ∧ AccI w.heap.size 2 wr o l ∧ Only [] w wr)
    (fun _ y _ => n - (intOf y).toNat)
  case atStart => exact ⟨0, [], Nat.zero_le _, rfl, Lib.hid rfl, AccI.made w _ _ rfl (Nat.le_refl _), (Only.refl _ _).alloc _⟩
  case round =>
    obtain ⟨W2, hnew⟩ : ∃ W, W = wr := ⟨_, rfl⟩
    subst hnew
    obtain ⟨i, l, hi, rfl, hl, hA, hO⟩ := hrel
    have y0 := hO.cell (by simp) cn
    have hll : l.length ≤ 1000 := by rw [hl.out, orbL_len]; omega
    have hsz := hO.size
    by_cases hlt : i < n
    · have yt := hO.cell (by simp) ct
      have yr := hO.cell (by simp) (HC.out.row i hlt)
      have hltI : (i : Int) < (n : Int) := by omega
      have hC2 := Lib.hid (HC.out.keep hO)
      go_wp2_with fail
      go_loopw [5, 6] (fun s y wr => ∃ (j : Nat), j ≤ n ∧ y = .int .i64 j ∧ s = .int .i64 ((orbTo j T i).length : Nat) ∧ wr = W2)
        (fun _ y _ => n - (intOf y).toNat)
      case atStart => exact ⟨0, Nat.zero_le _, rfl, rfl, rfl⟩
      case round =>
        obtain ⟨j, hj, rfl, rfl, hww⟩ := hrel
        subst hww
        have hol := orbTo_len j T i
        by_cases hjl : j < n
        · have hsu := orbTo_succ j T i
          have hltJ : (j : Int) < (n : Int) := by omega
          by_cases ht : PM.tr T i (j : Int) = []
          · have c4 := hC2.out.at_nil hlt (y := (j : Int)) (by omega) (by omega) ht
            simp only [Int.toNat_natCast] at c4
            rw [if_pos ht] at hsu
            have Hsu := Lib.hid hsu
            obtain ⟨s, hs⟩ : ∃ s, s = (orbTo j T i).length := ⟨_, rfl⟩
            rw [← hs] at hol ⊢
            have Hs := Lib.hid hs
            clear ht hsu hs
            go_wp2_with (first
              | (go_at_call 108; (with_reducible refine (boolToInt_any false _).mono ?_); rintro en w5 ⟨rfl, h5⟩; rw [h5]; clear h5)
              | fail "no arm")
            go_roundw
            case rel => exact ⟨j + 1, by omega, by go_num, by rw [Hsu.out, ← Hs.out], trivial⟩
            case measure => simp [intOf]; omega
          · obtain ⟨b4, off4, cap4, f4, c4, -, -⟩ := hC2.out.at_some hlt (y := (j : Int)) (by omega) (by omega) ht
            simp only [Int.toNat_natCast] at c4
            have hpos : (0 : Int) < ((PM.tr T i (j : Int)).length : Int) := by have := List.length_pos_iff.2 ht; omega
            have hposN : 0 < (PM.tr T i (j : Int)).length := List.length_pos_iff.2 ht
            rw [if_neg ht] at hsu
            have hsl : (orbTo (j + 1) T i).length = (orbTo j T i).length + 1 := by rw [hsu]; simp
            have Hsl := Lib.hid hsl
            obtain ⟨s, hs⟩ : ∃ s, s = (orbTo j T i).length := ⟨_, rfl⟩
            rw [← hs] at hol ⊢
            have Hs := Lib.hid hs
            clear ht hsu hs hsl
            go_wp2_with (first
              | (go_at_call 108; (with_reducible refine (boolToInt_any true _).mono ?_); rintro en w5 ⟨rfl, h5⟩; rw [h5]; clear h5)
              | fail "no arm")
            go_roundw
            case rel => exact ⟨j + 1, by omega, by go_num, by rw [Hsl.out, ← Hs.out]; go_num, trivial⟩
            case measure => simp [intOf]; omega
        · obtain rfl : j = n := by omega
          have hge : ¬ ((j : Int) < (j : Int)) := by omega
          have hcs : (orbTo j T i).length = PM.cntR j T i := orbTo_n j T i
          have hcl := PM.cntR_le j T i
          have HI := Lib.hid (show I64 ((PM.cntR j T i : Nat) : Int) by unfold I64; omega)
          rw [hcs]
          clear hcs hol
          go_wp2_with (first
            | (at_builtin; refine wpList_pushI rfl _ _ 36 rfl w.heap.size 2 i0 _ Try.underlying36 hii hz0 hz1 hz2 rfl wr u3 l rfl hA ((Only.refl _ _).alloc _) hsz wr.heap.size 1 ((PM.cntR j T i : Nat) : Int) rfl (lit1 wr _ _ rfl) HI.out (by omega) ?_; intro v3 w3 hA3 hO3 hP3 hN3)
            | fail "no arm")
          go_roundw
          case rel => exact ⟨i + 1, _, by omega, by go_num, Lib.hid (by rw [orbL_succ, ← hl.out]), hA3, hP3 w (hO.alloc _) (Nat.le_refl _)⟩
          case measure => simp [intOf]; omega
    · obtain rfl : i = n := by omega
      have hge : ¬ ((i : Int) < (i : Int)) := by omega
      have hfl : l = orbL i T i := hl.out
      have Hfl := Lib.hid hfl
      clear hfl hl
      go_wp2
      go_ret
      exact ⟨u3, rfl, by rw [← Hfl.out]; exact hA, hO⟩
end Go.Proofs.Ytbediokigibdlaa

namespace Go.Proofs.Ytbediokigibdlaa
open Go.RowKit
set_option maxRecDepth 10000
set_option maxHeartbeats 2000000 in
theorem chainOrder_any {e : TypeId} {B : Nat} {L : Lay} {gv : Nat → Value} {n : Nat} {G : PM.Gens} {T : PM.Rows} {M F : List Nat} (w : World) (hC : Ch e B w L gv n G T M F) (hw : PM.WF n T) (hT : L.oT = 1) :
    Calls Try.prog 53 #[.pointer (some ⟨L.g, 0, none⟩)] w fun e w' => e = .returned (.int .i64 (PM.ordM T n n : Nat)) ∧ Only [] w w' := by
  have hn20 := hC.le
  have HcS := Lib.hid (orbitSizes_any w hC hT)
  obtain ⟨sz, hsz⟩ : ∃ sz, sz = orbL n T n := ⟨_, rfl⟩
  rw [← hsz] at HcS
  have hszl : sz.length = n := by rw [hsz, orbL_len]
  have Hszl := Lib.hid hszl
  have Hsz := Lib.hid hsz
  have Hw := Lib.hid hw
  clear hC hw hsz hszl
  go_enter Try.func53, Try.ntmps53
  go_wp2_with (first
    | (go_at_call 91; (with_reducible refine (HcS.out).mono ?_); rintro en w1 ⟨v1, rfl, hA, t1⟩; obtain ⟨a1, c1, rfl, I1⟩ := hA.rd.ints)
    | fail "no arm")
  go_loopw [3, 5] (fun o i wr => ∃ (j m : Nat), j ≤ n ∧ i = .int .i64 j ∧ o = .int .i64 (m : Nat) ∧ 1 ≤ m ∧ m * PM.ordM T n (n - j) = PM.ordM T n n ∧ wr = w1)
    (fun _ i _ => n - (intOf i).toNat)
  case atStart => exact ⟨0, 1, Nat.zero_le _, rfl, rfl, Nat.le_refl _, by rw [Nat.one_mul, Nat.sub_zero], rfl⟩
  case round =>
    obtain ⟨j, m, hj, rfl, rfl, hm1, hm, hww⟩ := hrel
    have Hm := Lib.hid hm
    clear hm
    by_cases hlt : j < n
    · have hjs : j < sz.length := by rw [Hszl.out]; exact hlt
      have hjI : (j : Int) < (sz.length : Int) := by omega
      obtain ⟨b2, o2, rfl, -, c2⟩ := I1.at_ j hjs
      have hg : sz[j] = (PM.cntR n T j : Int) := by have h1 := Hsz.out; subst h1; exact orbL_get hjs
      rw [hg] at c2
      have hstep := ord_step (T := T) hlt
      have hcp := PM.cntR_pos Hw.out hlt
      have hor := PM.ordM_rng Hw.out (n - (j + 1)) (by omega)
      have hmul : (m * PM.cntR n T j) * PM.ordM T n (n - (j + 1)) = PM.ordM T n n := by rw [Nat.mul_assoc, ← hstep]; exact Hm.out
      have hle : m * PM.cntR n T j ≤ 2432902008176640000 := by
        have h1 := PM.ordM_le Hw.out hn20 (m := n) (Nat.le_refl _)
        have h2 : m * PM.cntR n T j ≤ (m * PM.cntR n T j) * PM.ordM T n (n - (j + 1)) := Nat.le_mul_of_pos_right _ hor.1
        omega
      have hpos : 1 ≤ m * PM.cntR n T j := Nat.mul_le_mul hm1 hcp
      obtain ⟨cn, hcnn⟩ : ∃ cn, cn = PM.cntR n T j := ⟨_, rfl⟩
      rw [← hcnn] at hmul hle hpos c2
      have Hmul := Lib.hid hmul
      have hwr : IntKind.i64.wrap ((m : Int) * (cn : Int)) = ((m * cn : Nat) : Int) := by rw [IntKind.wrap_i64]; push_cast; omega
      subst hww
      clear hstep hor hmul hcnn hcp hg
      go_wp2
      go_roundw
      case rel => exact ⟨j + 1, m * cn, by omega, by go_num, rfl, hpos, Hmul.out, trivial⟩
      case measure => simp [intOf]; omega
    · have he : j = n := by omega
      have hend := ord_end (T := T) (n := n) (i := j) (by omega)
      have hfin : m = PM.ordM T n n := by have := Hm.out; rw [hend, Nat.mul_one] at this; exact this
      have Hfin := Lib.hid hfin
      have hjI : ¬ ((j : Int) < (sz.length : Int)) := by rw [Hszl.out]; omega
      subst hww
      clear he hend hfin
      go_wp2
      go_ret
      exact ⟨ret_int (by rw [Hfin.out]), t1⟩

end Go.Proofs.Ytbediokigibdlaa

namespace Go.Proofs.Ytbediokigibdlaa
open Go.RowKit
set_option maxRecDepth 10000
end Go.Proofs.Ytbediokigibdlaa

namespace PM
end PM
namespace Go.Proofs.Ytbediokigibdlaa
open Go.RowKit
set_option maxRecDepth 10000
section
variable {α : Type} [Rp α] {w0 W wx : World} {B : Nat} {e : TypeId} {G : List Nat} {v : Value} {l : List α}
/-- nothing is held any more -/
theorem AccK.drop (h : AccK w0 B e G W wx v l) (W' : World) : AccK w0 B e [] W' wx v l := by
  obtain ⟨fs, a, b, c, d, f, g⟩ := h
  exact ⟨fs, a, b, c, by simp, by simp, by simp⟩
theorem AccK.apart (h : AccK w0 B e G W wx v l) : (∀ b ∈ G, b ∉ v.ownBlock.toList) ∧ ∀ b ∈ v.ownBlock.toList, B ≤ b := by
  obtain ⟨fs, a, b, c, d, f, g⟩ := h
  exact ⟨g, fun x hx => (a.ownlt x (by simpa using hx)).1⟩
theorem AccK.begin (W : World) (e : TypeId) : AccK W W.heap.size e [] W (W.alloc (.cells #[] e)) (.slice (some ⟨W.heap.size, 0, none⟩) 0 0) ([] : List α) :=
  ⟨[], Acc.made W W.heap.size _ rfl (Nat.le_refl _), Fresh.nil _ _, (Only.refl _ _).alloc _, by simp, by simp, by simp⟩
end
end Go.Proofs.Ytbediokigibdlaa

namespace Go.Proofs.Ytbediokigibdlaa
open Go.RowKit
set_option maxRecDepth 10000


end Go.Proofs.Ytbediokigibdlaa

namespace PM
end PM
namespace Go.Proofs.Ytbediokigibdlaa
open Go.RowKit
set_option maxRecDepth 10000
theorem rank_chain (n : Nat) (vg : Value) (gens : List (List Int)) (fpg : List Nat) (w : World) (hg : Rd w vg gens fpg) (hgs : gensB n gens = true) : ∃ G T, PM.Chain n gens G T := by
  obtain ⟨⟨n1, n20⟩, hgl, hpn⟩ := gensB_iff.1 hgs
  obtain ⟨e, w', fr, ⟨L, gv, G, T, M, F, -, -, -, -, h, -⟩, -⟩ := buildChain_any n (by omega) (by omega) vg gens fpg w hg (by simpa using hpn) (by omega) []
  exact ⟨G, T, h⟩


end Go.Proofs.Ytbediokigibdlaa

namespace Go.Proofs.Ytbediokigibdlaa
open Go.RowKit
set_option maxRecDepth 10000


end Go.Proofs.Ytbediokigibdlaa

namespace Go.Proofs.Ytbediokigibdlaa
open Go.RowKit
set_option maxRecDepth 10000
set_option maxHeartbeats 1000000 in
theorem specGroupOrder_yes (n : Nat) (vg : Value) (gens : List (List Int)) (fpg : List Nat) (w : World) (hg : Rd w vg gens fpg) (hgs : gensB n gens = true) :
    Calls Try.prog 13 #[.int .i64 n, vg] w fun e w' => e = .returned (.int .i64 (ordC n gens n : Nat)) ∧ 1 ≤ ordC n gens n ∧ ordC n gens n ≤ 2432902008176640000 ∧ Only [] w w' := by
  obtain ⟨⟨n1, n20⟩, hgl, hpn⟩ := gensB_iff.1 hgs
  have hpn' : ∀ g ∈ gens, PM.PN n g := by simpa using hpn
  have hn : 0 < n := by omega
  have hn20 : n ≤ 20 := by omega
  have Hgs := Lib.hid hgs
  have Hpn := Lib.hid hpn'
  clear hpn hpn' hgs
  go_enter Try.func13, Try.ntmps13
  go_wp2_with (first
    | (go_at_call 10; (with_reducible refine (specIsGens_rd n vg gens fpg w hg).mono ?_); rintro en w1 ⟨he, t1⟩; rw [Hgs.out] at he; subst he; have t1 := t1.only [])
    | (go_at_call 37; (with_reducible refine (buildChain_any n hn hn20 vg gens fpg w1 (Rp.keep hg t1) Hpn.out (by omega)).mono ?_); rintro en w3 ⟨L, gv, G, T, M, F, rfl, hoG, hoT, hC, hCh, t3⟩; have HC := Lib.hid hC; have HCh := Lib.hid hCh; have HoT := Lib.hid hoT; clear hC hCh hoT hoG)
    | (go_at_call 53; (with_reducible refine (chainOrder_any w3 HC.out HCh.out.inv.wf HoT.out).mono ?_); rintro en w4 ⟨he, t4⟩; rw [ordC_eq HCh.out hn Hpn.out (Nat.le_refl _)] at he; subst he)
    | fail "no arm")
  go_ret
  exact ⟨rfl, ordC_pos HCh.out hn Hpn.out (Nat.le_refl _), ordC_le HCh.out hn Hpn.out hn20 (Nat.le_refl _), (t1.trans t3).trans t4⟩
theorem specGroupOrder_i (n : Int) (vg : Value) (gens : List (List Int)) (fpg : List Nat) (w : World) (hg : Rd w vg gens fpg) (hgs : gensB n gens = true) :
    Calls Try.prog 13 #[.int .i64 n, vg] w fun e w' => e = .returned (.int .i64 (ordC n.toNat gens n.toNat : Nat)) ∧ 1 ≤ ordC n.toNat gens n.toNat ∧ ordC n.toNat gens n.toNat ≤ 2432902008176640000 ∧ Only [] w w' := by
  obtain ⟨⟨n1, n20⟩, -, -⟩ := gensB_iff.1 hgs
  obtain ⟨m, rfl⟩ := Int.eq_ofNat_of_zero_le (by omega : 0 ≤ n)
  exact specGroupOrder_yes m vg gens fpg w hg hgs



end Go.Proofs.Ytbediokigibdlaa

namespace Go.Proofs.Ytbediokigibdlaa
open Go.RowKit
set_option maxRecDepth 10000
end Go.Proofs.Ytbediokigibdlaa

namespace Go.Proofs.Ytbediokigibdlaa
open Go.RowKit
set_option maxRecDepth 10000
set_option maxHeartbeats 2000000 in
theorem implGroupOrder_yes (n : Nat) (vg : Value) (gens : List (List Int)) (fpg : List Nat) (w : World) (hg : Rd w vg gens fpg) (hgs : gensB n gens = true) :
    Calls Try.prog 28 #[.int .i64 n, vg] w fun e w' => e = .returned (.int .i64 (ordC n gens n : Nat)) ∧ Only [] w w' := by
  obtain ⟨⟨n1, n20⟩, hgl, hpn⟩ := gensB_iff.1 hgs
  have hpn' : ∀ g ∈ gens, PM.PN n g := by simpa using hpn
  have hn : 0 < n := by omega
  have hn20 : n ≤ 20 := by omega
  have Hgs := Lib.hid hgs
  have Hpn := Lib.hid hpn'
  clear hpn hpn' hgs
  go_enter Try.func28, Try.ntmps28
  go_wp2_with (first
    | (go_at_call 43; (with_reducible refine (implIsGens_rd n vg gens fpg w hg).mono ?_); rintro en w1 ⟨he, t1⟩; rw [Hgs.out] at he; subst he)
    | (go_at_call 34; (with_reducible refine (implNewChain_any n hn hn20 vg gens fpg w1 (Rp.keep hg t1) Hpn.out (by omega)).mono ?_); rintro en w4 ⟨L, gv, G, T, M, F, rfl, -, hoT, hC, hCh, t4⟩; have HC := Lib.hid hC; have HCh := Lib.hid hCh; have HoT := Lib.hid hoT; clear hC hCh hoT)
    | (go_at_call 52; (with_reducible refine (implOrder0 HC.out HCh.out.inv.wf HoT.out).mono ?_); rintro en w5 ⟨rfl, t5⟩)
    | fail "no arm")
  go_ret
  exact ⟨ret_int (by rw [ordC_eq HCh.out hn Hpn.out (Nat.le_refl _)]), (t1.trans t4).trans t5⟩
theorem implGroupOrder_no (n : Int) (vg : Value) (gens : List (List Int)) (fpg : List Nat) (w : World) (hg : Rd w vg gens fpg) (hgs : gensB n gens = false) :
    Calls Try.prog 28 #[.int .i64 n, vg] w fun e w' => e = .returned (.int .i64 0) ∧ Only [] w w' := by
  have Hgs := Lib.hid hgs
  clear hgs
  go_enter Try.func28, Try.ntmps28
  go_wp2_with (first
    | (go_at_call 43; (with_reducible refine (implIsGens_rd n vg gens fpg w hg).mono ?_); rintro en w1 ⟨he, t1⟩; rw [Hgs.out] at he; subst he)
    | fail "no arm")
  go_ret
  exact ⟨rfl, t1⟩
end Go.Proofs.Ytbediokigibdlaa

namespace Go.Proofs.Ytbediokigibdlaa
open Go.RowKit
set_option maxRecDepth 10000
set_option maxHeartbeats 4000000 in
theorem implHasAll_any (n : Nat) {B : Nat} {L : Lay} {gv : Nat → Value} {gens : List (List Int)} {G : PM.Gens} {T : PM.Rows} {M F : List Nat} (w : World) (hC : Ch 36 B w L gv n G T M F) (hCh : PM.Chain n gens G T) (hT : L.oT = 2) (hpn : ∀ g ∈ gens, PM.PN n g)
    (v : Value) (ls : List (List Int)) (fl : List Nat) (hv : Rd w v ls fl) (hls : ∀ p ∈ ls, PM.PN n p) :
    Calls Try.prog 72 #[.pointer (some ⟨L.g, 0, none⟩), v] w fun e w' => e = .returned (.bool (ls.all (memB n gens))) ∧ Only [] w w' := by
  have hn : 0 < n := hC.pos
  obtain ⟨A, C, ob, fps, rfl, -, hS⟩ := hv.open_
  have hb := hS.bound
  obtain ⟨R, hR⟩ : ∃ R, R = ls.all (memB n gens) := ⟨_, rfl⟩
  rw [← hR]
  have HR := Lib.hid hR
  have HC := Lib.hid hC
  have HCh := Lib.hid hCh
  have HT := Lib.hid hT
  have Hpn := Lib.hid hpn
  have Hls := Lib.hid hls
  clear hC hCh hT hpn hR hls
  go_enter Try.func72, Try.ntmps72
  go_wp2
  go_loopw [9] (fun y wr => ∃ i : Nat, i ≤ ls.length ∧ y = .int .i64 i ∧ Hid ((ls.take i).all (memB n gens) = true) ∧ Only [] w wr)
    (fun y _ => ls.length - (intOf y).toNat)
  case atStart => exact ⟨0, Nat.zero_le _, rfl, Lib.hid rfl, Only.refl _ _⟩
  case round =>
    obtain ⟨W2, hnew⟩ : ∃ W, W = wr := ⟨_, rfl⟩
    subst hnew
    obtain ⟨i, hi, rfl, hq, hO⟩ := hrel
    by_cases hlt : i < ls.length
    · have hltI : (i : Int) < (ls.length : Int) := by omega
      have hi0 : (0 : Int) ≤ (i : Int) := by omega
      obtain ⟨b, off, u, rfl, -, hc0, hu0⟩ := hS.atRow i hlt
      have hc := hO.cell (by simp) hc0
      have hpm := Hls.out ls[i] (List.getElem_mem hlt)
      obtain ⟨p, hp⟩ : ∃ p, p = ls[i] := ⟨_, rfl⟩
      have hmem : p ∈ ls := by rw [hp]; exact List.getElem_mem hlt
      have hsn := take_succ_get ls i hlt
      rw [← hp] at hpm hu0 hsn
      have Hmem := Lib.hid hmem
      have Hsn := Lib.hid hsn
      have Hpm := Lib.hid hpm
      have Hh := Lib.hid (implHas0 (HC.out.keep hO) HCh.out.inv.wf HT.out (Rp.keep hu0 hO) hpm)
      rw [memB_has HCh.out hn Hpn.out hpm] at Hh
      clear hp hpm hu0 hsn hc0 hmem
      rcases hm : memB n gens p
      · have Hm := Lib.hid hm
        clear hm
        go_wp2_with (first
          | (go_at_call 35; (with_reducible refine (Hh.out).mono ?_); rintro e w5 ⟨he, t5⟩; rw [Hm.out] at he; subst he)
          | fail "no arm")
        go_ret
        refine ⟨ret_bool ?_, hO.trans t5⟩
        rw [HR.out]
        rw [eq_comm, Bool.eq_false_iff]
        intro h
        have := List.all_eq_true.1 h p Hmem.out
        rw [Hm.out] at this
        cases this
      · have Hm := Lib.hid hm
        clear hm
        go_wp2_with (first
          | (go_at_call 35; (with_reducible refine (Hh.out).mono ?_); rintro e w5 ⟨he, t5⟩; rw [Hm.out] at he; subst he)
          | fail "no arm")
        go_roundw
        case rel => exact ⟨i + 1, by omega, by go_num, Lib.hid (by rw [Hsn.out, List.all_append, hq.out]; simp [Hm.out]), hO.trans t5⟩
        case measure => simp [intOf]; omega
    · obtain rfl : i = ls.length := by omega
      have hge : ¬ ((ls.length : Int) < (ls.length : Int)) := by omega
      have hfin := hq.out
      rw [List.take_length, ← HR.out] at hfin
      have Hfin := Lib.hid hfin
      clear hfin hq
      go_wp2
      go_ret
      exact ⟨ret_bool Hfin.out.symm, hO⟩
set_option maxHeartbeats 1000000 in
theorem precedes_rd (v u : Value) (l p : List Int) (f g : List Nat) (w : World) (h : Rd w v l f) (h' : Rd w u p g) (hl : l.length = p.length) :
    Calls Try.prog 95 #[v, u] w fun e w' => e = .returned (.bool (prec l p)) ∧ Drew w w' := by
  obtain ⟨a, cap, rfl, IL⟩ := h.ints
  obtain ⟨a', cap', rfl, IP⟩ := h'.ints
  have hb := IL.bound
  have hb' := IP.bound
  have Hl := Lib.hid hl
  clear hl
  go_enter Try.func95, Try.ntmps95
  go_wp2
  go_loopw [5] (fun i wr => ∃ j : Nat, j ≤ l.length ∧ i = .int .i64 j ∧ (∀ i, i < j → l[i]? = p[i]?) ∧ Drew w wr)
    (fun i _ => l.length - (intOf i).toNat)
  case atStart => exact ⟨0, Nat.zero_le _, rfl, by simp, Drew.refl _⟩
  case round =>
    obtain ⟨j, hj, rfl, hr, n, rfl⟩ := hrel
    have Hr := Lib.hid hr
    clear hr
    by_cases hlt : j < l.length
    · have hlt' : j < p.length := by have := Hl.out; omega
      obtain ⟨b, off, rfl, -, hc⟩ := IL.at_ j hlt
      obtain ⟨b', off', rfl, -, hc'⟩ := IP.at_ j hlt'
      rcases hq : (l[j] != p[j])
      · have heq : l[j] = p[j] := by simpa using hq
        have Heq := Lib.hid heq
        clear heq
        go_wp2
        go_quiet (fail)
        go_wp2
        go_roundw
        case rel => exact ⟨j + 1, by omega, by go_num, fun i hi => by
          rcases Nat.lt_or_eq_of_le (Nat.lt_succ_iff.1 hi) with h1 | rfl
          · exact Hr.out i h1
          · rw [List.getElem?_eq_getElem hlt, List.getElem?_eq_getElem hlt', Heq.out], ⟨_, rfl⟩⟩
        case measure => simp [intOf]; omega
      · have hne : l[j] ≠ p[j] := by simpa using hq
        have Hne := Lib.hid hne
        clear hne
        go_wp2
        go_quiet (fail)
        go_wp2
        go_quiet (fail)
        go_wp2
        go_ret
        exact ⟨ret_bool (prec_at Hr.out hlt hlt' Hne.out).symm, (((Drew.refl _).drewN _).drewN _).drewN _⟩
    · obtain rfl : j = l.length := by omega
      go_wp2
      go_ret
      exact ⟨ret_bool (prec_all Hr.out Hl.out).symm, ⟨_, rfl⟩⟩
theorem lex_prec {n : Nat} {p q : List Int} (hp : p.length = n) (hq : q.length = n) (h : PM.Lex n p q) : prec p q = true := by
  obtain ⟨i, hi, ha, hlt⟩ := h
  have e1 := PM.at_nat p i (by omega)
  have e2 := PM.at_nat q i (by omega)
  rw [e1, e2] at hlt
  rw [prec_at (j := i) (fun k hk => ?_) (by omega) (by omega) (by omega)]
  · exact decide_eq_true hlt
  · have h1 := ha (k : Int) (by omega) (by omega)
    rw [PM.at_nat p k (by omega), PM.at_nat q k (by omega)] at h1
    rw [List.getElem?_eq_getElem (by omega), List.getElem?_eq_getElem (by omega), h1]


end Go.Proofs.Ytbediokigibdlaa

namespace Go.Proofs.Ytbediokigibdlaa
open Go.RowKit
set_option maxRecDepth 10000

instance : Rp UInt8 where
  size := 1
  rep _ cs x fp := cs = [.int .u8 (x.toNat : Int)] ∧ fp = []
  len h := by rw [h.1]; rfl
  frame h _ := h
  lt h := by rw [h.2]; simp
/-- the dice at block g, over the bytes l -/
def Dice (w : World) (g : Nat) (fc : List Nat) (l : List UInt8) : Prop :=
  ∃ a c i h, Blk w g [.slice a l.length c, .int .i64 i, .int .u64 h] ∧ (0 ≤ i ∧ i ≤ l.length) ∧ (0 ≤ h ∧ h < 18446744073709551616) ∧ Rd w (.slice a l.length c) l fc ∧ g ∉ fc
theorem Dice.keep {w w' : World} {g : Nat} {fc : List Nat} {l : List UInt8} (h : Dice w g fc l) (ho : Only [] w w') : Dice w' g fc l := by
  obtain ⟨a, c, i, x, h1, h2, h3, h4, h5⟩ := h
  exact ⟨a, c, i, x, h1.keep ho, h2, h3, Rp.keep h4 ho, h5⟩
theorem Dice.only {w w' : World} {g : Nat} {fc fp : List Nat} {l : List UInt8} (h : Dice w g fc l) (ho : Only fp w w') (hg : g ∉ fp) (hc : ∀ b ∈ fc, b ∉ fp) : Dice w' g fc l := by
  obtain ⟨a, c, i, x, h1, h2, h3, h4, h5⟩ := h
  exact ⟨a, c, i, x, h1.only ho hg, h2, h3, Rp.only h4 ho hc, h5⟩
theorem Dice.lt {w : World} {g : Nat} {fc : List Nat} {l : List UInt8} (h : Dice w g fc l) : g < w.heap.size := by
  obtain ⟨a, c, i, x, h1, -⟩ := h; exact h1.lt
end Go.Proofs.Ytbediokigibdlaa

namespace Go.Proofs.Ytbediokigibdlaa
open Go.RowKit
set_option maxRecDepth 10000
/-- the source at block g, over the bytes l -/
def Src (w : World) (g : Nat) (fc : List Nat) (l : List UInt8) : Prop :=
  ∃ a c i h, Blk w g [.slice a l.length c, .int .i64 i, .int .i64 h] ∧ (0 ≤ i ∧ i ≤ l.length) ∧ I64 h ∧ Rd w (.slice a l.length c) l fc ∧ g ∉ fc
theorem Src.keep {w w' : World} {g : Nat} {fc : List Nat} {l : List UInt8} (h : Src w g fc l) (ho : Only [] w w') : Src w' g fc l := by
  obtain ⟨a, c, i, x, h1, h2, h3, h4, h5⟩ := h
  exact ⟨a, c, i, x, h1.keep ho, h2, h3, Rp.keep h4 ho, h5⟩
theorem Src.only {w w' : World} {g : Nat} {fc fp : List Nat} {l : List UInt8} (h : Src w g fc l) (ho : Only fp w w') (hg : g ∉ fp) (hc : ∀ b ∈ fc, b ∉ fp) : Src w' g fc l := by
  obtain ⟨a, c, i, x, h1, h2, h3, h4, h5⟩ := h
  exact ⟨a, c, i, x, h1.only ho hg, h2, h3, Rp.only h4 ho hc, h5⟩
theorem Src.lt {w : World} {g : Nat} {fc : List Nat} {l : List UInt8} (h : Src w g fc l) : g < w.heap.size := by
  obtain ⟨a, c, i, x, h1, -⟩ := h; exact h1.lt
end Go.Proofs.Ytbediokigibdlaa

namespace Go.Proofs.Ytbediokigibdlaa
open Go.RowKit
set_option maxRecDepth 10000
theorem IntsA.drop {w : World} {b off cap : Nat} {l : List Int} {fp : List Nat} (h : IntsA w (some ⟨b, off, none⟩) cap l fp) {k : Nat} (hk : k ≤ l.length) : IntsA w (some ⟨b, off + k, none⟩) (cap - k) (l.drop k) fp := by
  have hl := h.len
  have hc := h.cap
  refine ⟨by rw [List.length_drop]; omega, by omega, fun x hx => h.wf x (List.mem_of_mem_drop hx), fun i hi => ?_, h.lt, h.one⟩
  rw [List.length_drop] at hi
  obtain ⟨b', off', ha, hf, hcell⟩ := h.at_ (k + i) (by omega)
  injection ha with ha; injection ha with e1 e2; subst e1; subst e2
  refine ⟨b, off + k, rfl, hf, ?_⟩
  rw [Nat.add_assoc, List.getElem_drop]
  exact hcell

end Go.Proofs.Ytbediokigibdlaa

namespace Go.Proofs.Ytbediokigibdlaa
open Go.RowKit
set_option maxRecDepth 10000
section
variable {P : Program} (w : World)
end
end Go.Proofs.Ytbediokigibdlaa

namespace Go.Proofs.Ytbediokigibdlaa
open Go.RowKit
set_option maxRecDepth 10000

/-- where the first pattern with this key lies -/
def firstG (l : List (List Int)) (s : ByteArray) : Option Int := (l.findIdx? fun p => kB p = s).map fun i : Nat => (i : Int)
end Go.Proofs.Ytbediokigibdlaa

namespace Go.Proofs.Ytbediokigibdlaa
open Go.RowKit
set_option maxRecDepth 10000

theorem Mp.mono {w : World} {M k k' : Nat} {g : ByteArray → Option Int} (h : Mp w M k g) (hk : k ≤ k') : Mp w M k' g := by
  obtain ⟨D, h1, h2⟩ := h
  exact ⟨D, h1.mono hk, h2⟩
/-- block g is the proof of a table -/
def Prf (w : World) (g : Nat) (x : Puzzle) (t : Table) : Prop :=
  ∃ v0 v1 v2 vl vm M f0 f1 f2 fl fm k, Blk w g [v0, v1, v2, vl, vm, .map (some M)] ∧ Rd w v0 t.tracked f0 ∧ Rd w v1 t.patterns f1 ∧ Rd w v2 t.distances f2 ∧ Rd w vl (ltrs x.moves.length) fl ∧
    Rd w vm ((ltrs x.moves.length).map (mv x.moves)) fm ∧ Mp w M k (firstG t.patterns)
theorem Prf.keep {w w' : World} {g : Nat} {x : Puzzle} {t : Table} (h : Prf w g x t) (ho : Only [] w w') : Prf w' g x t := by
  obtain ⟨v0, v1, v2, vl, vm, M, f0, f1, f2, fl, fm, k, hb, h0, h1, h2, h3, h4, h5⟩ := h
  exact ⟨v0, v1, v2, vl, vm, M, f0, f1, f2, fl, fm, k, hb.keep ho, Rp.keep h0 ho, Rp.keep h1 ho, Rp.keep h2 ho, Rp.keep h3 ho, Rp.keep h4 ho, h5.keep ho⟩
end Go.Proofs.Ytbediokigibdlaa


namespace Go.Proofs.Ytbediokigibdlaa
open Go.RowKit
set_option maxRecDepth 10000
end Go.Proofs.Ytbediokigibdlaa

namespace Go.Proofs.Ytbediokigibdlaa
open Go.RowKit
set_option maxRecDepth 10000
set_option maxHeartbeats 1000000 in
theorem indexOfList_rd (v u : Value) (l : List (List Int)) (p : List Int) (f1 f2 : List Nat) (w : World) (h : Rd w v l f1) (h2 : Rd w u p f2) :
    Calls Try.prog 57 #[v, u] w fun e w' => e = .returned (.int .i64 (idxL l p)) ∧ Drew w w' := by
  obtain ⟨a, cap, ob, fps, rfl, -, hs⟩ := h.open_
  have hb := hs.bound
  go_enter Try.func57, Try.ntmps57
  go_wp2
  go_loopw [5] (fun i wr => ∃ j : Nat, j ≤ l.length ∧ i = .int .i64 j ∧ (∀ q ∈ l.take j, decide (q = p) = false) ∧ Drew w wr)
    (fun i _ => l.length - (intOf i).toNat)
  case atStart => exact ⟨0, Nat.zero_le _, rfl, by simp, Drew.refl _⟩
  case round =>
    obtain ⟨j, hj, rfl, hr, k, rfl⟩ := hrel
    have Hr := Lib.hid hr; clear hr
    by_cases hlt : j < l.length
    · obtain ⟨b, off, s, rfl, -, hc, hv⟩ := hs.atRow j hlt
      have hdec := eqV_dec l[j] p
      rcases hx : eqV l[j] p
      all_goals rw [hx] at hdec
      all_goals have Hdec := Lib.hid hdec
      all_goals clear hdec
      all_goals go_wp2_with ((go_at_call 94; (with_reducible refine (equalInts_rd s u l[j] p _ _ _ (Rp.keep hv (by with_reducible repeat (first | exact Only.refl _ _ | assumption | refine Only.drewN ?_ _ | refine Only.drew ?_ | refine Only.alloc ?_ _ | refine Only.setCell ?_ (by intro hh; exfalso; simp at hh; try omega) _ | refine Only.trans ?_ (by assumption)))) (Rp.keep h2 (by with_reducible repeat (first | exact Only.refl _ _ | assumption | refine Only.drewN ?_ _ | refine Only.drew ?_ | refine Only.alloc ?_ _ | refine Only.setCell ?_ (by intro hh; exfalso; simp at hh; try omega) _ | refine Only.trans ?_ (by assumption))))).mono ?_); rintro e w1 ⟨he, m1, rfl⟩; rw [hx] at he; subst he))
      · go_roundw
        case rel => exact ⟨j + 1, by omega, by go_num, mem_take_stepR hlt Hr.out Hdec.out.symm, ⟨_, rfl⟩⟩
        case measure => simp [intOf]; omega
      · go_ret
        exact ⟨ret_int (idxF_some hlt Hr.out Hdec.out.symm).symm, ⟨_, rfl⟩⟩
    · go_wp2
      go_ret
      exact ⟨ret_int (idxF_none (by have := Hr.out; rwa [List.take_of_length_le (by omega)] at this)).symm, ⟨_, rfl⟩⟩

end Go.Proofs.Ytbediokigibdlaa

namespace Go.Proofs.Ytbediokigibdlaa
open Go.RowKit
set_option maxRecDepth 10000
end Go.Proofs.Ytbediokigibdlaa

namespace Go.Proofs.Ytbediokigibdlaa
open Go.RowKit
set_option maxRecDepth 10000
end Go.Proofs.Ytbediokigibdlaa

namespace Go.Proofs.Ytbediokigibdlaa
open Go.RowKit
set_option maxRecDepth 10000

/-- an entry is written over -/
theorem AccI.put {B : Nat} {e : TypeId} {w : World} {v : Value} {l : List Int} (h : AccI B e w v l) {i : Nat} (hi : i < l.length) {x : Int} (hx : I64 x) :
    ∃ g c, v = .slice (some ⟨g, 0, none⟩) l.length c ∧ w.cell? ⟨g, i, none⟩ = some (.int .i64 l[i]) ∧ w.frozen? ⟨g, i, none⟩ = false ∧ B ≤ g ∧ AccI B e (w.setCell ⟨g, i, none⟩ (.int .i64 x)) v (l.set i x) := by
  obtain ⟨hO, hw⟩ := h.row
  obtain ⟨g, cap, rfl, hb, hlt⟩ := hO.form (by omega)
  obtain ⟨hO2, -⟩ := hO.stored i (.int .i64 x)
  refine ⟨g, cap, rfl, ?_, hO.frozenAt i, hb, AccI.ofRow ?_ ?_⟩
  · rw [hO.cellAt i (by omega)]; simp [hi]
  · rw [List.length_set, List.map_set]; exact hO2
  · intro y hy
    rcases List.mem_or_eq_of_mem_set hy with h1 | rfl
    · exact hw y h1
    · exact hx
end Go.Proofs.Ytbediokigibdlaa

namespace Go.Proofs.Ytbediokigibdlaa
open Go.RowKit
set_option maxRecDepth 10000
end Go.Proofs.Ytbediokigibdlaa

namespace Go.Proofs.Ytbediokigibdlaa
open Go.RowKit
set_option maxRecDepth 10000

/-- drawn: a degree, generators, a number -/
def DM (w : World) (s0 s1 s2 : Value) (wx : World) : Prop :=
  ∃ (n : Int) (gs : List (List Int)) (fp : List Nat) (k : Int), s0 = .int .i64 n ∧ s2 = .int .i64 k ∧ I64 n ∧ I64 k ∧ Rd wx s1 gs fp ∧ Fresh w.heap.size wx fp ∧ gs.length ≤ 9 ∧ (∀ y : List Int, y ∈ gs → y.length ≤ 30) ∧ Only [] w wx
theorem DM.of {w w1 w2 w4 : World} {g : Nat} {fc : List Nat} {l : List UInt8} {n k : Int} {v : Value} {gs : List (List Int)} {fp : List Nat} (t1 : Only [] w w1) (hg : w.heap.size ≤ g) (D1 : Src w1 g fc l) (hn : I64 n) (hk : I64 k) (r2 : Rd w2 v gs fp) (F2 : Fresh w1.heap.size w2 fp) (l9 : gs.length ≤ 9) (l30 : ∀ y : List Int, y ∈ gs → y.length ≤ 30) (K2 : Only [g] w1 w2) (K4 : Only [g] w2 w4) : DM w (.int .i64 n) v (.int .i64 k) w4 := by
  have hgl := D1.lt
  have hd : ∀ q ∈ fp, q ∉ [g] := fun q hq hm => by have := F2.ge q hq; simp at hm; omega
  exact ⟨n, gs, fp, k, rfl, rfl, hn, hk, Rp.only r2 K4 hd, (F2.only K4 hd).mono t1.size, l9, l30, ((t1.weaken [g]).trans (K2.trans K4)).mono fun b hb hl => by simp at hb; omega⟩

set_option maxHeartbeats 1000000 in
theorem specGroupOrder_no (n : Int) (vg : Value) (gens : List (List Int)) (fpg : List Nat) (w : World) (hg : Rd w vg gens fpg) (hgs : gensB n gens = false) :
    Calls Try.prog 13 #[.int .i64 n, vg] w fun e w' => e = .returned (.int .i64 0) ∧ Only [] w w' := by
  have Hgs := Lib.hid hgs
  clear hgs
  go_enter Try.func13, Try.ntmps13
  go_wp2_with (first
    | (go_at_call 10; (with_reducible refine (specIsGens_rd n vg gens fpg w hg).mono ?_); rintro en w1 ⟨he, t1⟩; rw [Hgs.out] at he; subst he; have t1 := t1.only [])
    | fail "no arm")
  go_ret
  exact ⟨rfl, t1⟩
/-- the order of a group, 0 of no group -/
noncomputable def ordG (n : Int) (gens : List (List Int)) : Nat := if gensB n gens = true then ordC n.toNat gens n.toNat else 0
theorem specGroupOrder_any (n : Int) (vg : Value) (gens : List (List Int)) (fpg : List Nat) (w : World) (hg : Rd w vg gens fpg) :
    Calls Try.prog 13 #[.int .i64 n, vg] w fun e w' => e = .returned (.int .i64 (ordG n gens : Nat)) ∧ ordG n gens ≤ 2432902008176640000 ∧ (gensB n gens = true → 1 ≤ ordG n gens) ∧ Only [] w w' := by
  by_cases h : gensB n gens = true
  · have e1 : ordG n gens = ordC n.toNat gens n.toNat := by unfold ordG; rw [if_pos h]
    rw [e1]
    refine (specGroupOrder_i n vg gens fpg w hg h).mono ?_
    rintro e w' ⟨h1, h2, h3, h4⟩
    exact ⟨h1, h3, fun _ => h2, h4⟩
  · have e1 : ordG n gens = 0 := by unfold ordG; rw [if_neg h]
    rw [e1]
    refine (specGroupOrder_no n vg gens fpg w hg (by simpa using h)).mono ?_
    rintro e w' ⟨h1, h4⟩
    exact ⟨h1, by omega, fun hh => absurd hh h, h4⟩

end Go.Proofs.Ytbediokigibdlaa
