/- Lower bounds out of tables, in plain words (laws 40, 42, 43, 52). Tables without faults: the built ones, and no others with the same patterns (laws 10, 11, 26). Descents in a table that was built; a search of few patterns ends (laws 10, 11). The states of a puzzle: how many there are, what the search of them finds (laws 20, 38). The program's group order and number of states (laws 20, 38). The reference's orbit sizes, chain order, members per choice (laws 33, 34, ..). The member of a rank, in plain words (laws 33, 34, ..). The reference's chain order, members per choice, MemberAt (laws 33, 34, ..). The reference's drawn permutations and generators (laws 34, 35, ..). The first pattern with a key, in plain words. The program's proof of a table: what a table is checked with. (Written by mkprf.py.) The program's proof of a table: where a letter leads, the faults of an entry. (Written by mkprf2.py.) The reference's tables: where a letter leads, the first letter of a descent. The reference's faults of an entry. (Written by mkspecent.py.) The program's faults of an entry. (Written by mkprf3.py.) The reference's drawn numbers, permutations (seldom invalid ones), generators (laws 34, 35, ..). The reference's drawn groups (laws 34, 35, ..). -/
import Derived.Test.YtlbcjkjoapcppaaGreatRowCertificateFormsG10
import Derived.Test.YtlbcjkjoapcppaaGreatRowCertificateFormsG7
import Derived.Test.YtlbcjkjoapcppaaGreatRowCertificateFormsG4
import Derived.Deep.RegionLaw
import Derived.Test.YtlbcjkjoapcppaaGreatRowCertificateFormsG3
import Derived.Deep.RegionHeld3
import Derived.Deep.DeepCutAuto
import Derived.Deep.AppendLies
import Derived.Test.YtlbcjkjoapcppaaGreatRowCertificateFormsG8
namespace Go.Proofs.YtlbcjkjoapcppaaGreat
open Go.RowKit
set_option maxRecDepth 10000
/-- the patterns of reachable states are entries -/
theorem Built.reach {x : Puzzle} {t : Table} (h : Built x t) {s : List Int} (hs : reachB x s = true) : PM.comp t.tracked s ∈ t.patterns := by
  have hg := validPz_pn h.v
  have hf := validPz_facts h.v
  have htr := trackB_iff.1 h.tk
  have hG : PM.Grp x.points.toNat x.moves s := by
    unfold reachB memB at hs
    rw [Bool.and_eq_true] at hs
    exact @of_decide_eq_true _ (Classical.propDecidable _) hs.2
  have hr : ∀ z ∈ t.tracked, 0 ≤ z ∧ z < x.points.toNat := fun z hz => by have := htr.2.1 z hz; omega
  have h0 : t.patterns.getD 0 [] = t.tracked := h.bi.p0
  have hne : 0 < t.patterns.length := h.bi.ne
  have := PM.grp_sub (n := x.points.toNat) (G := x.moves) hg (S := fun p => PM.PN x.points.toNat p ∧ PM.comp t.tracked p ∈ t.patterns) (fun p hp => hp.1) ⟨PM.PN.id _, ?_⟩ ?_ hG
  · exact this.2
  · have e : PM.comp t.tracked (PM.pts x.points.toNat) = t.tracked := by
      unfold PM.comp
      refine (List.map_congr_left fun z hz => ?_).trans (List.map_id _)
      exact PM.at_pts (hr z hz).1 (hr z hz).2
    rw [e, ← h0, getD_get hne]
    exact List.getElem_mem hne
  · rintro p g ⟨hp, hm⟩ hgm
    refine ⟨hp.comp (hg g hgm), ?_⟩
    obtain ⟨k, hk, rfl⟩ := List.getElem_of_mem hgm
    obtain ⟨j, hj, e⟩ := List.getElem_of_mem hm
    have hl : ((k : Int) + 1) ∈ ltrs x.moves.length := mem_ltrs.2 ⟨by omega, by omega, by omega⟩
    obtain ⟨i, hi, e2, -⟩ := h.step hj hl
    have e3 : PM.comp t.tracked (PM.comp p x.moves[k]) = nxt x (PM.comp t.tracked p) ((k : Int) + 1) := by
      unfold nxt
      rw [mv_pos rfl hk]
      unfold PM.comp
      rw [List.map_map]
      refine List.map_congr_left fun z hz => ?_
      have := hr z hz
      exact PM.at_comp this.1 (by rw [hp.1]; omega)
    rw [e3, ← e, ← getD_get (z := []) hj, ← e2, getD_get hi]
    exact List.getElem_mem hi
end Go.Proofs.YtlbcjkjoapcppaaGreat

namespace Go.Proofs.YtlbcjkjoapcppaaGreat
open Go.RowKit
set_option maxRecDepth 10000

def Good (x : Puzzle) (t : Table) : Prop := ∀ i, i < t.patterns.length → entF x t i = []
theorem one_nil {b : Bool} {f : Fault} : one b f = [] ↔ b = false := by unfold one; cases b <;> simp
theorem faultsTo_nil {x : Puzzle} {t : Table} {k : Nat} : faultsTo x t k = [] ↔ ∀ i, i < k → entF x t i = [] := by
  unfold faultsTo
  rw [List.flatMap_eq_nil_iff]
  exact ⟨fun h i hi => h i (List.mem_range.2 hi), fun h i hi => h i (List.mem_range.1 hi)⟩
theorem tableFaults_nil {x : Puzzle} {t : Table} : tableFaults x t = [] ↔ checkT x t = true ∧ Good x t := by
  unfold tableFaults Good
  rw [← faultsTo_nil]
  split
  · rename_i h
    rw [List.take_eq_nil_iff]
    simp [h]
  · rename_i h
    simp [h]
theorem tableFaults_len0 {x : Puzzle} {t : Table} : (tableFaults x t).length = 0 ↔ checkT x t = true ∧ Good x t := by
  rw [List.length_eq_zero_iff]; exact tableFaults_nil
theorem descL_leads {x : Puzzle} {t : Table} {p : List Int} {d : Int} (h : descL x t p d ≠ 0) : descL x t p d ∈ ltrs x.moves.length ∧ leads x t p d (descL x t p d) = true := by
  unfold descL at h ⊢
  cases hf : (ltrs x.moves.length).find? (leads x t p d) with
  | none => rw [hf] at h; exact absurd rfl h
  | some l => exact ⟨List.mem_of_find?_eq_some hf, List.find?_some hf⟩
theorem descL_ne {x : Puzzle} {t : Table} {p : List Int} {d : Int} {l : Int} (hl : l ∈ ltrs x.moves.length) (h : leads x t p d l = true) : descL x t p d ≠ 0 := by
  unfold descL
  cases hf : (ltrs x.moves.length).find? (leads x t p d) with
  | none => have := List.find?_eq_none.1 hf l hl; rw [h] at this; exact absurd rfl this
  | some l' => exact (mem_ltrs.1 (List.mem_of_find?_eq_some hf)).1
theorem leads_iffD {x : Puzzle} {t : Table} {p : List Int} {d l : Int} : leads x t p d l = true ↔ 0 ≤ nextI x t p l ∧ atD t (nextI x t p l) = d := by
  unfold leads atD
  rw [Bool.and_eq_true, decide_eq_true_iff, decide_eq_true_iff]
section
variable {x : Puzzle} {t t' : Table}
/-- what an entry without faults says -/
theorem ent_nil {i : Nat} : entF x t i = [] ↔ (i = 0 → atD t 0 = 0 ∧ atP t 0 = t.tracked) ∧ (i : Int) ≤ idxL t.patterns (atP t i) ∧ (0 < i → atD t i ≠ 0) ∧
    (∀ l ∈ ltrs x.moves.length, 0 ≤ nextI x t (atP t i) l ∧ -1 ≤ atD t (nextI x t (atP t i) l) - atD t i ∧ atD t (nextI x t (atP t i) l) - atD t i ≤ 1) ∧ (0 < atD t i → descL x t (atP t i) (atD t i - 1) ≠ 0) := by
  unfold entF
  rw [List.append_eq_nil_iff, List.append_eq_nil_iff, List.append_eq_nil_iff, List.append_eq_nil_iff, one_nil, one_nil, one_nil, one_nil, List.flatMap_eq_nil_iff]
  have hl : ∀ l, letF x t i l = [] ↔ 0 ≤ nextI x t (atP t i) l ∧ -1 ≤ atD t (nextI x t (atP t i) l) - atD t i ∧ atD t (nextI x t (atP t i) l) - atD t i ≤ 1 := fun l => by
    unfold letF
    split
    · rename_i h; simp; omega
    · rename_i h
      split
      · rename_i h2; rw [inR_iff] at h2; simp; omega
      · rename_i h2; rw [inR_iff] at h2; simp; omega
  constructor
  · rintro ⟨a, b, c, d, e⟩
    refine ⟨fun h0 => ?_, ?_, fun h0 => ?_, fun l h => (hl l).1 (d l h), fun h0 h1 => ?_⟩
    · subst h0
      simp only [decide_true, Bool.true_and, Bool.or_eq_false_iff, decide_eq_false_iff_not] at a
      exact ⟨Decidable.of_not_not a.1, Decidable.of_not_not a.2⟩
    · have := of_decide_eq_false b; omega
    · intro h1; simp [h0, h1] at c
    · simp [h0, h1] at e
  · rintro ⟨a, b, c, d, e⟩
    refine ⟨?_, decide_eq_false (by omega), ?_, fun l h => (hl l).2 (d l h), ?_⟩
    · by_cases h0 : i = 0
      · subst h0; obtain ⟨a1, a2⟩ := a rfl
        simp [a1, a2]
      · simp [h0]
    · by_cases h0 : 0 < i
      · simp [h0, c h0]
      · simp [h0]
    · by_cases h0 : 0 < atD t i
      · simp [e h0]
      · simp [h0]
theorem atD_nat (i : Nat) : atD t i = t.distances.getD i 0 := by unfold atD; rw [Int.toNat_natCast]
theorem Built.good (h : Built x t) : Good x t := by
  intro i hi
  have hstep : ∀ l ∈ ltrs x.moves.length, ∃ i' : Nat, i' < t.patterns.length ∧ t.patterns.getD i' [] = nxt x (atP t i) l ∧ nextI x t (atP t i) l = i' ∧ atD t i' ≤ atD t i + 1 ∧ atD t i ≤ atD t i' + 1 := fun l hl => by
    obtain ⟨i', a1, a2, a3, a4⟩ := h.step hi hl
    refine ⟨i', a1, a2, ?_, by rw [atD_nat, atD_nat]; exact a3, by rw [atD_nat, atD_nat]; exact a4⟩
    show idxL t.patterns (nxt x (t.patterns.getD i []) l) = i'
    rw [← a2]; exact h.idx a1
  refine ent_nil.2 ⟨fun h0 => ?_, ?_, fun h0 => ?_, fun l hl => ?_, fun h0 => ?_⟩
  · have a := h.bi.d0; have b := h.bi.p0
    simp only at a b
    exact ⟨a, b⟩
  · rw [show atP t i = t.patterns.getD i [] from rfl, h.idx hi]; exact Int.le_refl _
  · have := (h.dep i hi).2.2 h0
    rw [atD_nat]; omega
  · obtain ⟨i', a1, a2, a3, a4, a5⟩ := hstep l hl
    rw [a3]; omega
  · have hi0 : 0 < i := by
      rcases Nat.eq_zero_or_pos i with h1 | h1
      · subst h1
        have := h.bi.d0
        simp only at this
        rw [atD_nat, this] at h0; omega
      · exact h1
    obtain ⟨j, l, a1, a2, a3, a4⟩ := h.bi.par i hi0 hi
    simp only at a3 a4
    have hj : j < t.patterns.length := by omega
    have hjm : t.patterns.getD j [] ∈ t.patterns := by rw [getD_get hj]; exact List.getElem_mem hj
    have hb : nxt x (atP t i) (-l) = t.patterns.getD j [] := by
      rw [show atP t i = t.patterns.getD i [] from rfl, ← a3]
      exact nxt_back h.v (h.bi.pat _ hjm) a2
    refine descL_ne (ltrs_neg a2) (leads_iffD.2 ?_)
    have hn : nextI x t (atP t i) (-l) = j := by
      show idxL t.patterns (nxt x (atP t i) (-l)) = j
      rw [hb]; exact h.idx hj
    rw [hn, atD_nat, atD_nat]
    omega
theorem Built.check (h : Built x t) : checkT x t = true := by
  obtain ⟨h1, h2, h3, h4⟩ := validPz_facts h.v
  have h5 := trackB_iff.1 h.tk
  have hd := h.bi.dl
  simp only at hd
  have h20 : ∀ p, patB x.points t.tracked.length p = true → patB 20 t.tracked.length p = true := fun p hp => by
    obtain ⟨a, b, c⟩ := patB_iff.1 hp
    exact patB_iff.2 ⟨a, fun y hy => by have := b y hy; omega, c⟩
  refine checkT_iff.2 ⟨h.v, wfT_iff.2 ⟨trackB_iff.2 ⟨h5.1, fun y hy => by have := h5.2.1 y hy; omega, h5.2.2⟩, ⟨?_, ?_⟩, hd, fun p hp => h20 p (h.bi.pat p hp), fun d hdm => ?_⟩, h.tk, h.bi.pat⟩
  · have := h.bi.ne; simp only at this; omega
  · have := h.ll; omega
  · obtain ⟨i, hi, rfl⟩ := List.getElem_of_mem hdm
    have hil : i < t.patterns.length := by omega
    have := h.dep i hil
    rw [getD_get hi] at this
    have := h.ll
    rw [inR_iff]; omega
theorem Good.dist0 (_ : Good x t) (hc : checkT x t = true) : ∀ i : Nat, i < t.patterns.length → 0 ≤ atD t i := fun i hi => by
  have hw := wfT_iff.1 (checkT_iff.1 hc).2.1
  have hi' : i < t.distances.length := by omega
  rw [atD_nat, getD_get hi']
  have := inR_iff.1 (hw.2.2.2.2 _ (List.getElem_mem hi')); omega
/-- two tables without faults, with the same patterns, have the same distances: one half -/
theorem Good.le (h : Good x t) (hc : checkT x t = true) (h' : Good x t') (hc' : checkT x t' = true) (hp : t'.patterns = t.patterns) : ∀ (n : Nat) (i : Nat), i < t.patterns.length → atD t i = n → atD t' i ≤ n
  | 0, i, hi, hd => by
    have e := ent_nil.1 (h i hi)
    have e' := ent_nil.1 (h' i (by rw [hp]; exact hi))
    have h0 : i = 0 := by
      rcases Nat.eq_zero_or_pos i with h1 | h1
      · exact h1
      · exact absurd (by simpa using hd) (e.2.2.1 h1)
    subst h0
    have := (e'.1 rfl).1
    have e0 : atD t' ((0 : Nat) : Int) = 0 := this
    rw [e0]; exact Int.le_refl _
  | n + 1, i, hi, hd => by
    have e := ent_nil.1 (h i hi)
    have e' := ent_nil.1 (h' i (by rw [hp]; exact hi))
    have hne := e.2.2.2.2 (by rw [hd]; omega)
    obtain ⟨hl, hlead⟩ := descL_leads hne
    obtain ⟨a1, a2⟩ := leads_iffD.1 hlead
    obtain ⟨b1, b2, b3⟩ := e'.2.2.2.1 _ hl
    have hn : nextI x t' (atP t' i) (descL x t (atP t i) (atD t i - 1)) = nextI x t (atP t i) (descL x t (atP t i) (atD t i - 1)) := by
      unfold nextI atP; rw [hp]
    have hlt := (idxL_lt (l := t.patterns) (p := nxt x (atP t i) (descL x t (atP t i) (atD t i - 1)))).2
    obtain ⟨j, hj⟩ : ∃ j : Nat, nextI x t (atP t i) (descL x t (atP t i) (atD t i - 1)) = j := ⟨_, (Int.toNat_of_nonneg a1).symm⟩
    have hjl : j < t.patterns.length := by unfold nextI at hj; omega
    rw [hn, hj] at b2 b3
    rw [hj] at a2
    have := Good.le h hc h' hc' hp n j hjl (by rw [a2, hd]; omega)
    omega
theorem Good.same (h : Good x t) (hc : checkT x t = true) (h' : Good x t') (hc' : checkT x t' = true) (hp : t'.patterns = t.patterns) {i : Nat} (hi : i < t.patterns.length) : atD t i = atD t' i := by
  have h1 := h.dist0 hc i hi
  have h2 := h'.dist0 hc' i (by rw [hp]; exact hi)
  have a := Good.le h hc h' hc' hp (atD t i).toNat i hi (by omega)
  have b := Good.le h' hc' h hc hp.symm (atD t' i).toNat i (by rw [hp]; exact hi) (by omega)
  omega
/-- one distance changed -/
theorem Built.changed (h : Built x t) {k : Nat} (hk : k < t.distances.length) {d : Int} (hd : d ≠ t.distances.getD k 0) : (tableFaults x ⟨t.tracked, t.patterns, t.distances.set k d⟩).length ≠ 0 := by
  intro h0
  obtain ⟨hc, hg⟩ := tableFaults_len0.1 h0
  have hdl := h.bi.dl
  simp only at hdl
  have hi : k < t.patterns.length := by omega
  have := Good.same h.good h.check hg hc rfl hi
  rw [atD_nat, atD_nat] at this
  apply hd
  rw [this]
  show d = (t.distances.set k d).getD k 0
  rw [getD_get (by simpa using hk)]
  simp
end
end Go.Proofs.YtlbcjkjoapcppaaGreat

namespace Go.Proofs.YtlbcjkjoapcppaaGreat
open Go.RowKit
set_option maxRecDepth 10000

section
variable {x : Puzzle} {t : Table}
theorem idxL_getD {l : List (List Int)} {p : List Int} (h : 0 ≤ idxL l p) : l.getD (idxL l p).toNat [] = p := by
  rcases idxF_nonneg_or (fun q => decide (q = p)) l with h1 | ⟨k, hk, h1, h2⟩
  · unfold idxL at h; omega
  · unfold idxL
    rw [h1, Int.toNat_natCast, getD_get hk]
    exact of_decide_eq_true h2
theorem Built.root (h : Built x t) {i : Nat} (hi : i < t.patterns.length) : t.patterns.getD i [] = t.tracked ↔ i = 0 := by
  have h0 : t.patterns.getD 0 [] = t.tracked := h.bi.p0
  constructor
  · intro e
    rw [← h0, getD_get hi, getD_get (by omega)] at e
    have hnd : t.patterns.Nodup := h.bi.nd
    exact nodup_at hnd hi (by omega) e
  · rintro rfl; exact h0
theorem Built.dLet_ (h : Built x t) {i : Nat} (hi : i < t.patterns.length) : dLet x t (t.patterns.getD i []) = descL x t (t.patterns.getD i []) (atD t i - 1) := by
  have hx := h.idx hi
  rw [dLet_yes h.check (by rw [hx]; omega), hx]
theorem Built.word (h : Built x t) : ∀ (n m i : Nat), i < t.patterns.length → atD t i = n → n ≤ m →
    ∃ w, dW x t m (t.patterns.getD i []) = some w ∧ w.length = n ∧ (∀ l ∈ w, l ∈ ltrs x.moves.length) ∧ w.foldl (nxt x) (t.patterns.getD i []) = t.tracked
  | 0, m, i, hi, hd, hm => by
    have h0 : i = 0 := by
      rcases Nat.eq_zero_or_pos i with h1 | h1
      · exact h1
      · have := (h.dep i hi).2.2 h1
        rw [atD_nat] at hd; omega
    have hr := (h.root hi).2 h0
    refine ⟨[], ?_, rfl, by simp, hr⟩
    cases m <;> (unfold dW; rw [if_pos hr])
  | n + 1, 0, i, hi, hd, hm => by omega
  | n + 1, m + 1, i, hi, hd, hm => by
    have hr : t.patterns.getD i [] ≠ t.tracked := fun e => by
      have := (h.root hi).1 e
      subst this
      have h0 : t.distances.getD 0 0 = 0 := h.bi.d0
      rw [atD_nat, h0] at hd; omega
    have hg := ent_nil.1 (h.good i hi)
    have hne : descL x t (t.patterns.getD i []) (atD t i - 1) ≠ 0 := hg.2.2.2.2 (by rw [hd]; omega)
    obtain ⟨hl, hlead⟩ := descL_leads hne
    obtain ⟨a1, a2⟩ := leads_iffD.1 hlead
    rw [← h.dLet_ hi] at hl a1 a2 hne
    have hj : t.patterns.getD (nextI x t (t.patterns.getD i []) (dLet x t (t.patterns.getD i []))).toNat [] = nxt x (t.patterns.getD i []) (dLet x t (t.patterns.getD i [])) := idxL_getD a1
    have hlt := (idxL_lt (l := t.patterns) (p := nxt x (t.patterns.getD i []) (dLet x t (t.patterns.getD i [])))).2
    obtain ⟨j, hjj⟩ : ∃ j : Nat, nextI x t (t.patterns.getD i []) (dLet x t (t.patterns.getD i [])) = j := ⟨_, (Int.toNat_of_nonneg a1).symm⟩
    rw [hjj] at a2 hj
    rw [Int.toNat_natCast] at hj
    have hjl : j < t.patterns.length := by unfold nextI at hjj; omega
    obtain ⟨w, b1, b2, b3, b4⟩ := Built.word h n m j hjl (by rw [a2, hd]; omega) (by omega)
    refine ⟨dLet x t (t.patterns.getD i []) :: w, ?_, by simp [b2], ?_, ?_⟩
    · show (if _ then _ else _) = _
      rw [if_neg hr, if_neg hne, ← hj, b1]; rfl
    · intro l hl2
      rcases List.mem_cons.1 hl2 with rfl | hl2
      · exact hl
      · exact b3 l hl2
    · rw [List.foldl_cons, ← hj]; exact b4
theorem Built.letter (h : Built x t) {i : Nat} (hi : i < t.patterns.length) : dLet x t (t.patterns.getD i []) = 0 ↔ atD t i = 0 := by
  have h0 := (h.dep i hi).1
  rw [← atD_nat] at h0
  rw [h.dLet_ hi]
  have hg := ent_nil.1 (h.good i hi)
  constructor
  · intro e
    rcases Int.lt_or_le 0 (atD t i) with h1 | h1
    · exact absurd e (hg.2.2.2.2 h1)
    · omega
  · intro e
    rcases Decidable.em (descL x t (t.patterns.getD i []) (atD t i - 1) = 0) with h1 | h1
    · exact h1
    · obtain ⟨-, hlead⟩ := descL_leads h1
      obtain ⟨a1, a2⟩ := leads_iffD.1 hlead
      have hlt := (idxL_lt (l := t.patterns) (p := nxt x (t.patterns.getD i []) (descL x t (t.patterns.getD i []) (atD t i - 1)))).2
      obtain ⟨j, hj⟩ : ∃ j : Nat, nextI x t (t.patterns.getD i []) (descL x t (t.patterns.getD i []) (atD t i - 1)) = j := ⟨_, (Int.toNat_of_nonneg a1).symm⟩
      have hjl : j < t.patterns.length := by unfold nextI at hj; omega
      rw [hj, atD_nat] at a2
      have := (h.dep j hjl).1
      omega
end
/-- so many patterns at most -/
theorem BI.bound {x : Puzzle} {tr : List Int} {k : Nat} {done : List Int} {s : Met16} (h : BI x tr k done s) : s.1.length ≤ (PM.allL (PM.pts x.points.toNat) tr.length).length := by
  refine PM.nodup_sub_len h.nd fun q hq => ?_
  obtain ⟨a, b, -⟩ := patB_iff.1 (h.pat q hq)
  rw [← a]
  exact PM.mem_allL q fun y hy => PM.mem_pts.2 (by have := b y hy; omega)
end Go.Proofs.YtlbcjkjoapcppaaGreat

namespace Go.Proofs.YtlbcjkjoapcppaaGreat
open Go.RowKit
set_option maxRecDepth 10000
theorem pts_inc (n : Nat) : Inc (n : Int) (PM.pts n) := by
  refine ⟨fun z hz => PM.mem_pts.1 hz, ?_⟩
  unfold PM.pts
  rw [List.pairwise_map]
  exact List.Pairwise.imp (fun h => by omega) (List.pairwise_lt_range (n := n))
theorem pts_track {x : Puzzle} (hv : validPz x = true) : trackB x.points (PM.pts x.points.toNat) = true := by
  have := validPz_facts hv
  rw [trackB_iff]
  refine ⟨by rw [PM.pts_len]; omega, ?_⟩
  have h := pts_inc x.points.toNat
  rwa [show ((x.points.toNat : Nat) : Int) = x.points by omega] at h
/-- the search of all states -/
def expl (x : Puzzle) : Option Table := bTab x (PM.pts x.points.toNat)
theorem grp_nxt {x : Puzzle} (hv : validPz x = true) {s : List Int} (hs : PM.Grp x.points.toNat x.moves s) {l : Int} (hl : l ∈ ltrs x.moves.length) : PM.Grp x.points.toNat x.moves (nxt x s l) := by
  have h3 := validPz_pn hv
  refine PM.Grp.comp h3 hs ?_
  rcases letter_cases hl with ⟨k, hk, rfl⟩ | ⟨k, hk, rfl⟩
  · rw [mv_pos rfl hk]; exact PM.Grp.gen h3 (List.getElem_mem hk)
  · rw [mv_neg (k := k) rfl hk]; exact PM.Grp.gen_inv h3 (List.getElem_mem hk)
theorem BI.grp {x : Puzzle} {k : Nat} {done : List Int} {s : Met16} (hv : validPz x = true) (h : BI x (PM.pts x.points.toNat) k done s) : ∀ i, i < s.1.length → PM.Grp x.points.toNat x.moves (s.1.getD i []) := by
  intro i
  induction i using Nat.strongRecOn with
  | ind i ih =>
    intro hi
    by_cases h0 : i = 0
    · subst h0; rw [h.p0]; exact .id
    · obtain ⟨j, l, a1, a2, a3, -⟩ := h.par i (by omega) hi
      rw [← a3]
      exact grp_nxt hv (ih j a1 (Nat.lt_trans a1 hi)) a2
theorem expl_none {x : Puzzle} (h : validPz x = false) : expl x = none := by
  unfold expl bTab
  rw [bfs16_no (by rw [h]; rfl)]; rfl
section
variable {x : Puzzle} {t : Table}
theorem expl_built (h : expl x = some t) : Built x t ∧ t.tracked = PM.pts x.points.toNat := bTab_built h
theorem expl_mem (h : expl x = some t) {q : List Int} : q ∈ t.patterns ↔ PM.Grp x.points.toNat x.moves q := by
  obtain ⟨hb, ht⟩ := expl_built h
  have hi := hb.bi
  rw [ht] at hi
  constructor
  · intro hq
    obtain ⟨i, hil, rfl⟩ := List.getElem_of_mem hq
    have := hi.grp hb.v i hil
    rwa [getD_get hil] at this
  · intro hg
    have hpn := PM.Grp.pn (validPz_pn hb.v) hg
    have hf := validPz_facts hb.v
    have hr : reachB x q = true := by
      unfold reachB stateB memB
      rw [Bool.and_eq_true, Bool.and_eq_true]
      exact ⟨⟨hb.v, (genB_iff hf.1 hf.2.1).2 hpn⟩, @decide_eq_true _ (Classical.propDecidable _) hg⟩
    have := hb.reach hr
    rwa [ht, PM.id_comp hpn] at this
theorem expl_reach (h : expl x = some t) {q : List Int} : q ∈ t.patterns ↔ reachB x q = true := by
  obtain ⟨hb, -⟩ := expl_built h
  have hf := validPz_facts hb.v
  rw [expl_mem h]
  unfold reachB stateB memB
  rw [Bool.and_eq_true, Bool.and_eq_true]
  constructor
  · intro hg
    exact ⟨⟨hb.v, (genB_iff hf.1 hf.2.1).2 (PM.Grp.pn (validPz_pn hb.v) hg)⟩, @decide_eq_true _ (Classical.propDecidable _) hg⟩
  · rintro ⟨-, hg⟩
    exact @of_decide_eq_true _ (Classical.propDecidable _) hg
end
/-- the distance of a state, -1 if it has none -/
noncomputable def distX (x : Puzzle) (s : List Int) : Int := match expl x with
  | some t => if reachB x s = true then atD t (idxL t.patterns s) else -1
  | none => -1
theorem distX_none {x : Puzzle} {s : List Int} (h : expl x = none) : distX x s = -1 := by unfold distX; rw [h]
theorem distX_no {x : Puzzle} {s : List Int} (h : reachB x s = false) : distX x s = -1 := by
  unfold distX
  rw [h]
  cases expl x <;> rfl
theorem distX_yes {x : Puzzle} {t : Table} {s : List Int} (h : expl x = some t) (hs : reachB x s = true) : ∃ i : Nat, i < t.patterns.length ∧ t.patterns.getD i [] = s ∧ idxL t.patterns s = i ∧ distX x s = t.distances.getD i 0 ∧ 0 ≤ t.distances.getD i 0 ∧ t.distances.getD i 0 ≤ 3000 := by
  obtain ⟨hb, -⟩ := expl_built h
  obtain ⟨i, hi, e⟩ := List.getElem_of_mem ((expl_reach h).2 hs)
  have e2 : t.patterns.getD i [] = s := by rw [getD_get hi, e]
  have hx := hb.idx hi
  rw [e2] at hx
  have hd := hb.dep i hi
  have := hb.ll
  refine ⟨i, hi, e2, hx, ?_, hd.1, by omega⟩
  unfold distX
  rw [h]
  show (if reachB x s = true then atD t (idxL t.patterns s) else -1) = _
  rw [if_pos hs, hx]
  unfold atD
  rw [Int.toNat_natCast]
theorem distX_or (x : Puzzle) (s : List Int) : distX x s = -1 ∨ (0 ≤ distX x s ∧ distX x s ≤ 3000 ∧ reachB x s = true ∧ ∃ t, expl x = some t) := by
  rcases he : expl x with _ | t
  · exact .inl (distX_none he)
  · rcases hr : reachB x s
    · exact .inl (distX_no hr)
    · obtain ⟨i, -, -, -, h1, h2, h3⟩ := distX_yes he hr
      exact .inr ⟨by omega, by omega, rfl, t, rfl⟩
end Go.Proofs.YtlbcjkjoapcppaaGreat

namespace Go.Proofs.YtlbcjkjoapcppaaGreat
open Go.RowKit
set_option maxRecDepth 10000
end Go.Proofs.YtlbcjkjoapcppaaGreat

namespace Go.Proofs.YtlbcjkjoapcppaaGreat
open Go.RowKit
set_option maxRecDepth 10000
end Go.Proofs.YtlbcjkjoapcppaaGreat

namespace Go.Proofs.YtlbcjkjoapcppaaGreat
open Go.RowKit
set_option maxRecDepth 10000
section
variable {n : Nat} {gens : List (List Int)} {G : PM.Gens} {T : PM.Rows} (h : PM.Chain n gens G T) (hn : 0 < n) (hp : ∀ g ∈ gens, PM.PN n g)
end
end Go.Proofs.YtlbcjkjoapcppaaGreat

namespace Go.Proofs.YtlbcjkjoapcppaaGreat
open Go.RowKit
set_option maxRecDepth 10000
theorem AccI.low2 {B B' : Nat} {e : TypeId} {w : World} {v : Value} {l : List Int} (h : AccI B e w v l) (hB : B' ≤ B) : AccI B' e w v l := by
  obtain ⟨h1, h2⟩ := h.row
  refine AccI.ofRow ⟨h1.1, ?_⟩ h2
  rcases h1.2 with h3 | ⟨g, cap, cur, h3, h4, h5⟩
  · exact .inl h3
  · exact .inr ⟨g, cap, cur, h3, Nat.le_trans hB h4, h5⟩
end Go.Proofs.YtlbcjkjoapcppaaGreat

namespace Go.Proofs.YtlbcjkjoapcppaaGreat
open Go.RowKit
set_option maxRecDepth 10000

theorem row_keep {w w' : World} {B : Nat} {e : TypeId} {size n : Nat} {v : Value} {xs : List Value} (h : w.ownsRow B e size v n xs) (ho : Only [] w w') : w'.ownsRow B e size v n xs := by
  refine ⟨h.1, ?_⟩
  rcases h.2 with ⟨rfl, h0⟩ | ⟨g, cp, cur, rfl, hb, hg, hrest⟩
  · exact .inl ⟨rfl, h0⟩
  · exact .inr ⟨g, cp, cur, rfl, hb, by rw [ho.block g (Array.getElem?_eq_some_iff.1 hg).1 (by simp)]; exact hg, hrest⟩
section
variable {P : Program} (w : World)
/-- an append as one step of a region that draws its order -/
theorem step_app {ops : Array Oper} {o : Oper} {a : Act} {K : Act → World → Prop} {Q : Exit → Act → World → Prop} {E : Prop} (hgd : o.guard = none) (s x : Operand) (t : TypeId)
    (ho : o.op = .call { callee := .builtin .append, args := #[s, x], argTypes := #[t, t] })
    (base : Nat) (e : TypeId) (i : TypeInfo) (z : Value) (size bytes : Nat) (ht : P.underlying t = some (.slice e)) (hi : P.info? e = some i) (hz : i.zero = some z)
    (hsize : i.size = size) (hby : i.bytes = bytes) (hzs : z.cells.size = size) (hsz : 0 < size)
    (v : Value) (n : Nat) (xs : List Value) (hs : a.eval s = v) (hown : w.ownsRow base e size v n xs)
    (A : Option Addr) (m c : Nat) (news : List Value) (hx : a.eval x = .slice A m c) (hl : news.length = m * size) (hsrc : ∀ ad, A = some ad → ∀ j u, news[j]? = some u → w.cell? (ad.add j) = some u) (hA : A = none → m = 0) (h1 : ∀ u ∈ news, u.oneCell' = true)
    (h63 : n + m ≤ maxLen) (hbytes : (n + m) * bytes ≤ 140737488355328) (hbase : base ≤ w.heap.size)
    (h : ∀ v' w', w'.ownsRow base e size v' (n + m) (xs ++ news) → w.grownBy w' v.ownBlock → (v'.ownBlock = v.ownBlock ∨ v'.ownBlock = some w.heap.size) → K (a.put o.dst v') w') : if Region.wanted o (yielded ops a.tmps) = true then Oper.wp P o a w K Q else E := by
  have hw : Region.wanted o (yielded ops a.tmps) = true := by simp [Region.wanted, hgd]
  rw [if_pos hw]
  exact wp_app w s x t ho base e i z size bytes ht hi hz hsize hby hzs hsz v n xs hs hown A m c news hx hl hsrc hA h1 h63 hbytes hbase h
end
set_option maxHeartbeats 4000000 in
theorem drawPerm_any (g : Nat) (fc : List Nat) (l : List UInt8) (n : Nat) (w : World) (h : Src w g fc l) (hn : n ≤ 1000) (hl : l.length ≤ 4096) :
    Calls Tryz.prog 61 #[.pointer (some ⟨g, 0, none⟩), .int .i64 n] w fun e w' => ∃ v p, e = .returned v ∧ AccI w.heap.size 2 w' v p ∧ PM.PN n p ∧ Src w' g fc l ∧ Only [g] w w' := by
  obtain ⟨i0, hi, hz0, hz1, hz2⟩ := info_parts Tryz.info2
  go_enter Tryz.func61, Tryz.ntmps61
  go_wp2
  go_loopw [5, 6] (fun o i wr => ∃ (j : Nat) (p : List Int) (fp : List Nat), j ≤ n ∧ i = .int .i64 j ∧ (∃ b off c, o = .slice (some ⟨b, off, none⟩) p.length c ∧ IntsA wr (some ⟨b, off, none⟩) c p fp) ∧ AccI w.heap.size 2 wr o p ∧ PM.PN j p ∧ Fresh w.heap.size wr fp ∧ Src wr g fc l ∧ Only [g] w wr)
    (fun _ i _ => n - (intOf i).toNat)
  case atStart => exact ⟨0, [], [], Nat.zero_le _, rfl, ⟨w.heap.size, 0, 0, rfl, IntsA.nil _ _ (by simp [maxLen])⟩, AccI.made w w.heap.size _ rfl (Nat.le_refl _), ⟨rfl, by simp [PM.IsP]⟩, Fresh.nil _ _, h.keep ((Only.refl _ _).alloc _), (Only.refl _ _).alloc _⟩
  case round =>
    obtain ⟨W2, hnew⟩ : ∃ W, W = wr := ⟨_, rfl⟩
    subst hnew
    obtain ⟨j, p, fp, hj, rfl, ⟨b, off, c, rfl, I⟩, hA, hp, hF, hD, hK⟩ := hrel
    by_cases hlt : j < n
    · have hwj : IntKind.i64.wrap ((j : Int) + 1) = (j : Int) + 1 := by rw [IntKind.wrap_i64]; omega
      go_upto_region 6 with ((go_at_call 45; (with_reducible refine (srcBelow_any g fc l ((j : Int) + 1) _ hD hl (by omega)).mono ?_); rintro e w3 ⟨r, rfl, q1, q2, D3, K3⟩))
      obtain ⟨k, rfl⟩ := Int.eq_ofNat_of_zero_le q1
      have hpl := hp.1
      have hcap := I.len
      have hkp : k ≤ p.length := by omega
      have hkc : k ≤ c := by omega
      have hkp' : (k : Int) ≤ (p.length : Int) := by omega
      have hkc' : (k : Int) ≤ (c : Int) := by omega
      have hc0 : (p.length : Int) ≤ (c : Int) := by omega
      have Hpl := Lib.hid hpl
      have Hp := Lib.hid hp
      clear hpl hp hA
      have K3' : Only [g] w w3 := hK.trans K3
      have hg := h.lt
      have I3 := I.only K3 (fun b hb hm => by have := hF.ge b hb; simp at hm; omega)
      have hk0 : (0 : Int) ≤ (k : Int) := by omega
      have hlk : (p.take k).length = k := by rw [List.length_take]; omega
      have HK := Lib.hid hlk
      clear hlk
      have hTk : Rd w3 (.slice (some ⟨b, off, none⟩) k c) (p.take k) fp := by
        have := (I3.take k).rd
        rwa [HK.out] at this
      have hTl : (p.take k).length ≤ 1073741824 := by have := HK.out; omega
      have hj1000 : j ≤ 1000 := by omega
      have hpl1 : p.length ≤ 1000 := by have := Hpl.out; omega
      have hend : ∀ v6 w6, w6.ownsRow w3.heap.size 2 1 v6 (k + 1 + (p.length - k)) (((p.take k).map (Value.int .i64) ++ [.int .i64 (j : Int)]) ++ (p.drop k).map (Value.int .i64)) → Only [] w3 w6 →
          ∃ (p' : List Int) (fp' : List Nat), (∃ b off c, v6 = .slice (some ⟨b, off, none⟩) p'.length c ∧ IntsA w6 (some ⟨b, off, none⟩) c p' fp') ∧ AccI w.heap.size 2 w6 v6 p' ∧ PM.PN (j + 1) p' ∧ Fresh w.heap.size w6 fp' ∧ Src w6 g fc l ∧ Only [g] w w6 := fun v6 w6 hO ho => by
        have hcells : ((p.take k).map (Value.int .i64) ++ [Value.int .i64 (j : Int)]) ++ (p.drop k).map (Value.int .i64) = (p.take k ++ ((p.length : Int) :: p.drop k)).map (Value.int .i64) := by
          rw [Hpl.out]; simp
        rw [hcells] at hO
        have hP := ins_isP Hp.out.2 hkp
        have hlen : (p.take k ++ ((p.length : Int) :: p.drop k)).length = j + 1 := by
          rw [List.length_append, List.length_cons, HK.out, List.length_drop]; have := Hpl.out; omega
        have hwf : ∀ x ∈ p.take k ++ ((p.length : Int) :: p.drop k), I64 x := fun x hx => by have := hP.1 x hx; rw [hlen] at this; unfold I64; omega
        have hn6 : k + 1 + (p.length - k) = (p.take k ++ ((p.length : Int) :: p.drop k)).length := by rw [hlen]; have := Hpl.out; omega
        rw [hn6] at hO
        have hA6 := (AccI.ofRow hO hwf).low2 K3'.size
        obtain ⟨a6, c6, hv6, -, I6, F6⟩ := own_ints hO hwf
        obtain ⟨b6, o6, ha6, -, -⟩ := I6.at_ 0 (by rw [hlen]; omega)
        subst ha6
        exact ⟨_, _, ⟨b6, o6, c6, hv6, I6⟩, hA6, ⟨hlen, hP⟩, F6.mono K3'.size, D3.keep ho, K3'.keepThen ho⟩
      have HcC : Hid (∀ V : World, Only [] w3 V → Calls Tryz.prog 33 #[.slice (some ⟨b, off, none⟩) k c] V fun e w' => ∃ a4 q4, e = .returned (.slice a4 k q4) ∧ w'.ownsRow w3.heap.size 2 1 (.slice a4 k q4) k ((p.take k).map (Value.int .i64)) ∧ Only [] V w') := Lib.hid (fun V hV => by
        refine (copyInts_aI (.slice (some ⟨b, off, none⟩) k c) (p.take k) fp V (Rp.keep hTk hV) hTl).mono ?_
        rintro e w' ⟨v4, rfl, hA4, o4⟩
        have hO4 := (hA4.low2 hV.size).row.1
        rw [HK.out] at hO4
        obtain ⟨a4, q4, e4⟩ := hA4.form
        rw [HK.out] at e4
        subst e4
        exact ⟨a4, q4, rfl, hO4, o4⟩)
      by_cases hck : c = k
      · subst hck
        have hd0 : p.drop c = [] := List.drop_eq_nil_of_le (by omega)
        have Hd0 := Lib.hid hd0
        clear hd0
        go_region_law (first
          | (go_simp; go_at_call 33; (with_reducible refine (HcC.out _ (by with_reducible repeat (first | exact Only.refl _ _ | assumption | refine Only.drewN ?_ _ | refine Only.drew ?_ | refine Only.alloc ?_ _ | refine Only.trans ?_ (by assumption)))).mono ?_); rintro en w4 ⟨a4, q4, rfl, hO4, o4⟩; have o4w : Only [] w3 w4 := Only.trans (by with_reducible repeat (first | exact Only.refl _ _ | assumption | refine Only.drewN ?_ _ | refine Only.drew ?_ | refine Only.alloc ?_ _ | refine Only.trans ?_ (by assumption))) o4)
          | (refine step_app _ rfl (.tmp 21) (.tmp 23) 24 rfl w3.heap.size 2 i0 _ 1 8 Tryz.underlying24 hi hz0 hz1 hz2 rfl (by omega) (.slice a4 c q4) c ((p.take c).map (Value.int .i64)) rfl (row_keep hO4 (by with_reducible repeat (first | exact Only.refl _ _ | assumption | refine Only.drewN ?_ _ | refine Only.drew ?_ | refine Only.alloc ?_ _ | refine Only.trans ?_ (by assumption)))) _ 1 1 [.int .i64 (j : Int)] rfl rfl (by first | exact lit_srcA _ [.int .i64 (j : Int)] 2 rfl | exact (fun ad hh j1 u hu => o4.cell (by simp) (lit_srcA _ [.int .i64 (j : Int)] 2 rfl ad hh j1 u hu))) (by intro hh; cases hh) (by intro u hu; simp at hu; subst hu; rfl) (by unfold maxLen; omega) (by omega) (Only.size (fp := []) (by with_reducible repeat (first | exact Only.refl _ _ | assumption | refine Only.drewN ?_ _ | refine Only.drew ?_ | refine Only.alloc ?_ _ | refine Only.trans ?_ (by assumption)))) ?_; intro v5 w5 hO5 hg5 hb5; have o5 : Only [] w3 w5 := Only.grown (by with_reducible repeat (first | exact Only.refl _ _ | assumption | refine Only.drewN ?_ _ | refine Only.drew ?_ | refine Only.alloc ?_ _ | refine Only.trans ?_ (by assumption))) hg5 (by intro z hz hzl; have := (hO4.lt z hz).1; omega); have ID := (I3.keep o5).drop hkp; have s5 := ints_src ID; have hdl : ((p.drop c).map (Value.int .i64)).length = (p.length - c) * 1 := (by simp); have Hdl := Lib.hid hdl; clear hdl)
          | (refine step_app _ rfl (.tmp 24) (.tmp 27) 24 rfl w3.heap.size 2 i0 _ 1 8 Tryz.underlying24 hi hz0 hz1 hz2 rfl (by omega) v5 (c + 1) ((p.take c).map (Value.int .i64) ++ [.int .i64 (j : Int)]) rfl (row_keep hO5 (by with_reducible repeat (first | exact Only.refl _ _ | assumption | refine Only.drewN ?_ _ | refine Only.drew ?_ | refine Only.alloc ?_ _ | refine Only.trans ?_ (by assumption)))) (some ⟨b, off, none⟩) 0 0 [] rfl rfl (by intro ad hh j1 u hu; simp at hu) (by intro hh; cases hh) (by intro u hu; simp at hu) (by unfold maxLen; omega) (by omega) (Only.size (fp := []) (by with_reducible repeat (first | exact Only.refl _ _ | assumption | refine Only.drewN ?_ _ | refine Only.drew ?_ | refine Only.alloc ?_ _ | refine Only.trans ?_ (by assumption)))) ?_; intro v6 w6 hO6 hg6 hb6; have o6 : Only [] w3 w6 := Only.grown (by with_reducible repeat (first | exact Only.refl _ _ | assumption | refine Only.drewN ?_ _ | refine Only.drew ?_ | refine Only.alloc ?_ _ | refine Only.trans ?_ (by assumption))) hg6 (by intro z hz hzl; have := (hO5.lt z hz).1; omega))
          | fail "no arm")
        all_goals (
          have hfin := hend v6 w6 (by have e : p.length - c = 0 := (by omega); rw [e, Hd0.out]; simpa using hO6) o6
          obtain ⟨p', fp', e1, e2, e3, e4, e5, e6⟩ := hfin
          go_wp2_with fail
          exact ⟨⟨j + 1, p', fp', by omega, by go_num, e1, e2, e3, e4, e5, e6⟩, by simp [intOf]; omega⟩)
      · go_region_law (first
          | (go_simp; go_at_call 33; (with_reducible refine (HcC.out _ (by with_reducible repeat (first | exact Only.refl _ _ | assumption | refine Only.drewN ?_ _ | refine Only.drew ?_ | refine Only.alloc ?_ _ | refine Only.trans ?_ (by assumption)))).mono ?_); rintro en w4 ⟨a4, q4, rfl, hO4, o4⟩; have o4w : Only [] w3 w4 := Only.trans (by with_reducible repeat (first | exact Only.refl _ _ | assumption | refine Only.drewN ?_ _ | refine Only.drew ?_ | refine Only.alloc ?_ _ | refine Only.trans ?_ (by assumption))) o4)
          | (refine step_app _ rfl (.tmp 21) (.tmp 23) 24 rfl w3.heap.size 2 i0 _ 1 8 Tryz.underlying24 hi hz0 hz1 hz2 rfl (by omega) (.slice a4 k q4) k ((p.take k).map (Value.int .i64)) rfl (row_keep hO4 (by with_reducible repeat (first | exact Only.refl _ _ | assumption | refine Only.drewN ?_ _ | refine Only.drew ?_ | refine Only.alloc ?_ _ | refine Only.trans ?_ (by assumption)))) _ 1 1 [.int .i64 (j : Int)] rfl rfl (by first | exact lit_srcA _ [.int .i64 (j : Int)] 2 rfl | exact (fun ad hh j1 u hu => o4.cell (by simp) (lit_srcA _ [.int .i64 (j : Int)] 2 rfl ad hh j1 u hu))) (by intro hh; cases hh) (by intro u hu; simp at hu; subst hu; rfl) (by unfold maxLen; omega) (by omega) (Only.size (fp := []) (by with_reducible repeat (first | exact Only.refl _ _ | assumption | refine Only.drewN ?_ _ | refine Only.drew ?_ | refine Only.alloc ?_ _ | refine Only.trans ?_ (by assumption)))) ?_; intro v5 w5 hO5 hg5 hb5; have o5 : Only [] w3 w5 := Only.grown (by with_reducible repeat (first | exact Only.refl _ _ | assumption | refine Only.drewN ?_ _ | refine Only.drew ?_ | refine Only.alloc ?_ _ | refine Only.trans ?_ (by assumption))) hg5 (by intro z hz hzl; have := (hO4.lt z hz).1; omega); have ID := (I3.keep o5).drop hkp; have s5 := ints_src ID; have hdl : ((p.drop k).map (Value.int .i64)).length = (p.length - k) * 1 := (by simp); have Hdl := Lib.hid hdl; clear hdl)
          | (refine step_app _ rfl (.tmp 24) (.tmp 27) 24 rfl w3.heap.size 2 i0 _ 1 8 Tryz.underlying24 hi hz0 hz1 hz2 rfl (by omega) v5 (k + 1) ((p.take k).map (Value.int .i64) ++ [.int .i64 (j : Int)]) rfl (row_keep hO5 (by with_reducible repeat (first | exact Only.refl _ _ | assumption | refine Only.drewN ?_ _ | refine Only.drew ?_ | refine Only.alloc ?_ _ | refine Only.trans ?_ (by assumption)))) (some ⟨b, off + k, none⟩) (p.length - k) (c - k) ((p.drop k).map (Value.int .i64)) rfl Hdl.out s5.1 (by intro hh; cases hh) (ints_one _) (by unfold maxLen; omega) (by omega) (Only.size (fp := []) (by with_reducible repeat (first | exact Only.refl _ _ | assumption | refine Only.drewN ?_ _ | refine Only.drew ?_ | refine Only.alloc ?_ _ | refine Only.trans ?_ (by assumption)))) ?_; intro v6 w6 hO6 hg6 hb6; have o6 : Only [] w3 w6 := Only.grown (by with_reducible repeat (first | exact Only.refl _ _ | assumption | refine Only.drewN ?_ _ | refine Only.drew ?_ | refine Only.alloc ?_ _ | refine Only.trans ?_ (by assumption))) hg6 (by intro z hz hzl; have := (hO5.lt z hz).1; omega))
          | fail "no arm")
        all_goals (
          have hfin := hend v6 w6 hO6 o6
          obtain ⟨p', fp', e1, e2, e3, e4, e5, e6⟩ := hfin
          go_wp2_with fail
          exact ⟨⟨j + 1, p', fp', by omega, by go_num, e1, e2, e3, e4, e5, e6⟩, by simp [intOf]; omega⟩)
    · obtain rfl : j = n := by omega
      go_wp2
      go_ret
      exact ⟨_, p, rfl, hA, hp, hD, hK⟩
end Go.Proofs.YtlbcjkjoapcppaaGreat

namespace Go.Proofs.YtlbcjkjoapcppaaGreat
open Go.RowKit
set_option maxRecDepth 10000

/-- where the first pattern with this key lies -/
def firstG (l : List (List Int)) (s : ByteArray) : Option Int := (l.findIdx? fun p => kB p = s).map fun i : Nat => (i : Int)
end Go.Proofs.YtlbcjkjoapcppaaGreat

namespace Go.Proofs.YtlbcjkjoapcppaaGreat
open Go.RowKit
set_option maxRecDepth 10000

theorem Mp.mono {w : World} {M k k' : Nat} {g : ByteArray → Option Int} (h : Mp w M k g) (hk : k ≤ k') : Mp w M k' g := by
  obtain ⟨D, h1, h2⟩ := h
  exact ⟨D, h1.mono hk, h2⟩
/-- block g is the proof of a table -/
def Prf (w : World) (g : Nat) (x : Puzzle) (t : Table) : Prop :=
  ∃ v0 v1 v2 vl vm M f0 f1 f2 fl fm k, Blk w g [v0, v1, v2, vl, vm, .map (some M)] ∧ Rd w v0 t.tracked f0 ∧ Rd w v1 t.patterns f1 ∧ Rd w v2 t.distances f2 ∧ Rd w vl (ltrs x.moves.length) fl ∧
    Rd w vm ((ltrs x.moves.length).map (mv x.moves)) fm ∧ Mp w M k (firstG t.patterns)
theorem Prf.keep {w w' : World} {g : Nat} {x : Puzzle} {t : Table} (h : Prf w g x t) (ho : Only [] w w') : Prf w' g x t := by
  obtain ⟨v0, v1, v2, vl, vm, M, f0, f1, f2, fl, fm, k, hb, h0, h1, h2, h3, h4, h5⟩ := h
  exact ⟨v0, v1, v2, vl, vm, M, f0, f1, f2, fl, fm, k, hb.keep ho, Rp.keep h0 ho, Rp.keep h1 ho, Rp.keep h2 ho, Rp.keep h3 ho, Rp.keep h4 ho, h5.keep ho⟩
end Go.Proofs.YtlbcjkjoapcppaaGreat


namespace Go.Proofs.YtlbcjkjoapcppaaGreat
open Go.RowKit
set_option maxRecDepth 10000
end Go.Proofs.YtlbcjkjoapcppaaGreat

namespace Go.Proofs.YtlbcjkjoapcppaaGreat
open Go.RowKit
set_option maxRecDepth 10000
end Go.Proofs.YtlbcjkjoapcppaaGreat

namespace Go.Proofs.YtlbcjkjoapcppaaGreat
open Go.RowKit
set_option maxRecDepth 10000
end Go.Proofs.YtlbcjkjoapcppaaGreat

namespace Go.Proofs.YtlbcjkjoapcppaaGreat
open Go.RowKit
set_option maxRecDepth 10000

theorem wpList_push2 {P : Program} {α : Type} [Rp α] {ops : Array Oper} {rest : List Oper} {o : Oper} {a : Act} {w : World} {Q : Exit → Act → World → Prop} (hgd : o.guard = none) (s x : Operand) (t : TypeId)
    (ho : o.op = .call { callee := .builtin .append, args := #[s, x], argTypes := #[t, t] })
    (B : Nat) (e : TypeId) (i : TypeInfo) (z : Value) (bytes : Nat) (ht : P.underlying t = some (.slice e)) (hi : P.info? e = some i) (hz : i.zero = some z)
    (hsize : i.size = Rp.size α) (hby : i.bytes = bytes) (hzs : z.cells.size = Rp.size α) (hsz : 0 < Rp.size α) (hbb : bytes ≤ 65536)
    (w0 : World) (v : Value) (l : List α) (fs : List (List Nat)) (hs : a.eval s = v) (hA : Acc B e w0 v l fs) (hK0 : Only [] w0 w) (hB : B ≤ w0.heap.size)
    (g c : Nat) (cs : List Value) (y : α) (fp : List Nat) (hx : a.eval x = .slice (some ⟨g, 0, none⟩) 1 c) (hsrc : ∀ j u, cs[j]? = some u → w.cell? ⟨g, j, none⟩ = some u) (hcs : ∀ u ∈ cs, u.oneCell' = true)
    (hy : Rp.rep w cs y fp) (hap : ∀ b ∈ fp, v.ownBlock ≠ some b) (hlen : l.length + 1 ≤ 1073741824)
    (h : ∀ v' w', Acc B e w' v' (l ++ [y]) (fs ++ [fp]) → Only v.ownBlock.toList w w' → (v'.ownBlock = v.ownBlock ∨ v'.ownBlock = some w.heap.size) → wpList P ops Q rest (a.put o.dst v') w') : wpList P ops Q (o :: rest) a w :=
  wpList_plain hgd fun _ hK => wp_push2 s x t ho B e i z bytes ht hi hz hsize hby hzs hsz hbb w0 v l fs hs hA hK0 hB g c cs y fp hx hsrc hcs hy hap hlen fun v' w' h1 h2 _ _ h5 => hK _ _ (h v' w' h1 h2 h5)


end Go.Proofs.YtlbcjkjoapcppaaGreat

namespace Go.Proofs.YtlbcjkjoapcppaaGreat
open Go.RowKit
set_option maxRecDepth 10000

/-- an entry is written over -/
theorem AccI.put {B : Nat} {e : TypeId} {w : World} {v : Value} {l : List Int} (h : AccI B e w v l) {i : Nat} (hi : i < l.length) {x : Int} (hx : I64 x) :
    ∃ g c, v = .slice (some ⟨g, 0, none⟩) l.length c ∧ w.cell? ⟨g, i, none⟩ = some (.int .i64 l[i]) ∧ w.frozen? ⟨g, i, none⟩ = false ∧ B ≤ g ∧ AccI B e (w.setCell ⟨g, i, none⟩ (.int .i64 x)) v (l.set i x) := by
  obtain ⟨hO, hw⟩ := h.row
  obtain ⟨g, cap, rfl, hb, hlt⟩ := hO.form (by omega)
  obtain ⟨hO2, -⟩ := hO.stored i (.int .i64 x)
  refine ⟨g, cap, rfl, ?_, hO.frozenAt i, hb, AccI.ofRow ?_ ?_⟩
  · rw [hO.cellAt i (by omega)]; simp [hi]
  · rw [List.length_set, List.map_set]; exact hO2
  · intro y hy
    rcases List.mem_or_eq_of_mem_set hy with h1 | rfl
    · exact hw y h1
    · exact hx
set_option maxHeartbeats 1000000 in
theorem specIdentity_acc (m : Nat) (w : World) (hm : m ≤ 1000) :
    Calls Tryz.prog 60 #[.int .i64 m] w fun e w' => ∃ v, e = .returned v ∧ AccI w.heap.size 2 w' v (PM.pts m) ∧ Only [] w w' := by
  obtain ⟨i0, hi, hz0, hz1, hz2⟩ := info_parts Tryz.info2
  go_enter Tryz.func60, Tryz.ntmps60
  go_wp2
  go_loopw [3, 4] (fun o i wr => ∃ (j : Nat) (fs : List (List Nat)), j ≤ m ∧ i = .int .i64 j ∧ Acc w.heap.size 2 wr o (PM.pts j) fs ∧ Fresh w.heap.size wr fs.flatten ∧ Only [] w wr)
    (fun _ i _ => m - (intOf i).toNat)
  case atStart => exact ⟨0, [], Nat.zero_le _, rfl, Acc.made w w.heap.size _ rfl (Nat.le_refl _), Fresh.nil _ _, (Only.refl _ _).alloc _⟩
  case round =>
    obtain ⟨j, fs, hj, rfl, hA, hF, hK⟩ := hrel
    by_cases hlt : j < m
    · have hsz := hK.size
      have hlj : (PM.pts j).length + 1 ≤ 1073741824 := by rw [PM.pts_len]; omega
      have hI : I64 (j : Int) := by unfold I64; omega
      have HI := Lib.hid hI; clear hI
      go_wp2_with ((at_builtin; refine wpList_pushF rfl _ _ 24 rfl w.heap.size 2 i0 _ 8 Tryz.underlying24 hi hz0 hz1 hz2 rfl (by decide) (by decide) wr _ (PM.pts j) fs rfl hA hF ((Only.refl _ _).alloc _) hsz wr.heap.size 1 [.int .i64 (j : Int)] (j : Int) [] rfl (lit_src wr [.int .i64 (j : Int)] _ rfl) (by intro u hu; simp at hu; subst hu; rfl) (int_rd _ HI.out) (Fresh.nil _ _) hlj w (hK.alloc _) (Nat.le_refl _) ?_; intro v3 w3 hA3 hF3 hK3 _))
      go_roundw
      case rel => exact ⟨j + 1, _, by omega, by go_num, by rw [pts_succ]; exact hA3, hF3, hK3⟩
      case measure => simp [intOf]; omega
    · have hjl : j = m := by omega
      rw [hjl] at hA
      have HA := Lib.hid hA
      clear hjl hA
      go_wp2
      go_ret
      exact ⟨_, rfl, ⟨_, HA.out⟩, hK⟩
set_option maxHeartbeats 2000000 in
theorem numberUpTo_any (g : Nat) (fc : List Nat) (l : List UInt8) (n : Int) (w : World) (h : Src w g fc l) (hl : l.length ≤ 4096) (hn : I64 n) :
    Calls Tryz.prog 64 #[.pointer (some ⟨g, 0, none⟩), .int .i64 n] w fun e w' => ∃ r : Int, e = .returned (.int .i64 r) ∧ I64 r ∧ Src w' g fc l ∧ Only [g] w w' := by
  have hlt := h.lt
  obtain ⟨y, hy⟩ : ∃ y, y = IntKind.i64.wrap (n + 1) := ⟨_, rfl⟩
  have hyI : I64 y := by rw [hy, IntKind.wrap_i64]; unfold I64; omega
  have hyw : IntKind.i64.wrap (n + 1) = y := hy.symm
  obtain ⟨z, hz⟩ : ∃ z, z = IntKind.i64.wrap (min n 4 + 1) := ⟨_, rfl⟩
  have hzI : I64 z := by rw [hz, IntKind.wrap_i64]; unfold I64; omega
  have hzw : IntKind.i64.wrap (min n 4 + 1) = z := hz.symm
  have HyI := Lib.hid hyI
  have HzI := Lib.hid hzI
  have Hn := Lib.hid hn
  clear hy hyI hn hz hzI
  go_enter Tryz.func64, Tryz.ntmps64
  go_wp2_with (first
    | (go_at_call 20; (with_reducible refine (oneIn_any g fc l 10 w h hl (by omega)).mono ?_); rintro e w1 ⟨b1, rfl, D1, K1⟩)
    | (go_at_call 20; (with_reducible refine (oneIn_any g fc l 2 w1 D1 hl (by omega)).mono ?_); rintro e w2 ⟨b2, rfl, D2, K2⟩)
    | (go_at_call 21; (with_reducible refine (extremeInt_any g fc l w1 D1 hl).mono ?_); rintro e w2 ⟨x, rfl, hx, D2, K2⟩; have HxI := Lib.hid hx; have hB := Blk.new w2 ([-1, n, y, x].map (Value.int .i64)) 2; have ho : Only [] w2 (w2.alloc (.cells (([-1, n, y, x].map (Value.int .i64))).toArray 2)) := (Only.refl _ _).alloc _; have hgs := D2.lt; clear hx)
    | (go_at_call 45; (with_reducible refine (srcBelow_any g fc l 4 _ (D2.keep (by with_reducible repeat (first | exact Only.refl _ _ | assumption | refine Only.drewN ?_ _ | refine Only.drew ?_ | refine Only.alloc ?_ _ | refine Only.setCell ?_ (by intro hh; exfalso; simp at hh; try omega) _ | refine Only.trans ?_ (by assumption)))) hl (by omega)).mono ?_); rintro e w3 ⟨r, rfl, r0, r1, D3, K3⟩; obtain ⟨k, rfl⟩ := Int.eq_ofNat_of_zero_le r0; have hk : k < 4 := (by omega); have hB1 := hB.only K3 (by simp; omega); have c1 := hB1.cell k (v := .int .i64 (([-1, n, y, x] : List Int)[k]'hk)) (by rw [List.getElem?_map, List.getElem?_eq_getElem (show k < ([-1, n, y, x] : List Int).length from hk)]; rfl); have hk0 : (0 : Int) ≤ (k : Int) := (by omega); have hk1 : (k : Int) < 4 := (by omega))
    | (go_at_call 45; (with_reducible refine (srcBelow_any g fc l y w2 D2 hl (by have := HyI.out; unfold I64 at this; omega)).mono ?_); rintro e w3 ⟨r, rfl, r0, r1, D3, K3⟩)
    | (go_at_call 45; (with_reducible refine (srcBelow_any g fc l z w2 D2 hl (by have := HzI.out; unfold I64 at this; omega)).mono ?_); rintro e w3 ⟨r, rfl, r0, r1, D3, K3⟩)
    | fail "no arm")
  · go_ret
    refine ⟨_, rfl, ?_, D3, ((K1.trans K2).trans (ho.weaken [g])).trans K3⟩
    rcases (show k = 0 ∨ k = 1 ∨ k = 2 ∨ k = 3 by omega) with rfl | rfl | rfl | rfl
    · show I64 (-1); unfold I64; omega
    · exact Hn.out
    · exact HyI.out
    · exact HxI.out
  · go_ret
    exact ⟨r, rfl, by have := HzI.out; unfold I64 at *; omega, D3, (K1.trans K2).trans K3⟩
  · go_ret
    exact ⟨r, rfl, by have := HyI.out; unfold I64 at *; omega, D3, (K1.trans K2).trans K3⟩
set_option maxHeartbeats 4000000 in
theorem drawGens_any (g : Nat) (fc : List Nat) (l : List UInt8) (n : Nat) (w : World) (h : Src w g fc l) (hl : l.length ≤ 4096) (hn : 1 ≤ n ∧ n ≤ 1000) :
    Calls Tryz.prog 43 #[.pointer (some ⟨g, 0, none⟩), .int .i64 n] w fun e w' => ∃ v gs fs, e = .returned v ∧ Acc w.heap.size 24 w' v gs fs ∧ Fresh w.heap.size w' fs.flatten ∧ (gs.length ≤ 3 ∧ ∀ y : List Int, y ∈ gs → y.length = n) ∧ Src w' g fc l ∧ Only [g] w w' := by
  obtain ⟨i0, hi, hz0, hz1, hz2⟩ := info_parts Tryz.info22
  have hg := h.lt
  have hfc : ∀ b ∈ fc, b < w.heap.size := by obtain ⟨_, _, _, _, _, _, _, h4, _⟩ := h; exact fun b hb => Rp.lt h4 b hb
  have hA0 := Acc.made (α := List Int) w w.heap.size 24 rfl (Nat.le_refl _)
  have ho : Only [] w (w.alloc (.cells #[] 24)) := (Only.refl _ _).alloc _
  go_enter Tryz.func43, Tryz.ntmps43
  go_wp2_with (first
    | (go_at_call 45; (with_reducible refine (srcBelow_any g fc l 3 _ (h.keep (by with_reducible repeat (first | exact Only.refl _ _ | assumption | refine Only.drewN ?_ _ | refine Only.drew ?_ | refine Only.alloc ?_ _ | refine Only.setCell ?_ (by intro hh; exfalso; simp at hh; try omega) _ | refine Only.trans ?_ (by assumption)))) hl (by omega)).mono ?_); rintro e w1 ⟨r, rfl, r0, r1, D1, K1⟩; obtain ⟨k, rfl⟩ := Int.eq_ofNat_of_zero_le r0; have hk : k ≤ 2 := (by omega); have hk1 : IntKind.i64.wrap (1 + (k : Int)) = 1 + (k : Int) := (by rw [IntKind.wrap_i64]; omega))
    | fail "no arm")
  have hA1 := hA0.only K1 (by simp) (by intro q hq hm; simp [Value.ownBlock] at hq hm; omega)
  have K1w : Only [g] w w1 := (ho.weaken [g]).trans K1
  go_loopw [5, 6] (fun o c wr => ∃ (j : Nat) (gs : List (List Int)) (fs : List (List Nat)), c = .int .i64 j ∧ gs.length + j ≤ 3 ∧ Acc w.heap.size 24 wr o gs fs ∧ Fresh w.heap.size wr fs.flatten ∧ (∀ y : List Int, y ∈ gs → y.length = n) ∧ Src wr g fc l ∧ Only [g] w wr)
    (fun _ c _ => (intOf c).toNat)
  case atStart => exact ⟨k + 1, [], [], by go_num, by simp; omega, hA1, Fresh.nil _ _, by simp, D1, K1w⟩
  case round =>
    obtain ⟨W2, hnew⟩ : ∃ W, W = wr := ⟨_, rfl⟩
    subst hnew
    obtain ⟨j, gs, fs, rfl, hlen, hA, hF, hgl, hD, hK⟩ := hrel
    clear hA0 hA1 K1w D1 K1 ho
    by_cases hj : 0 < j
    · have hjI : (0 : Int) < (j : Int) := by omega
      have hsz := hK.size
      go_upto_region 6 with ((go_at_call 60; (with_reducible refine (specIdentity_acc n W2 (by omega)).mono ?_); rintro e w3 ⟨v3, rfl, hA3, t3⟩))
      have D3 := hD.keep t3
      have hg2 : g < W2.heap.size := hD.lt
      go_cut [22] (fun s22 wx => ∃ r4 : Int, s22 = .int .i64 r4 ∧ Src wx g fc l ∧ Only [g] w3 wx)
      case first =>
        go_wp2_with ((go_at_call 45; (with_reducible refine (srcBelow_any g fc l 4 w3 D3 hl (by omega)).mono ?_); rintro e w4 ⟨r4, rfl, r40, r41, D4, K4⟩))
        go_meet
        exact ⟨r4, rfl, D4, K4⟩
      case rest =>
        obtain ⟨W4, hnew⟩ : ∃ W, W = wc := ⟨_, rfl⟩
        subst hnew
        obtain ⟨r4, rfl, D4, K4⟩ := hcut
        have hA4 := hA3.only K4 (fun q hq hm => by have := hA3.ownlt q hq; simp at hm; omega)
        have K24 : Only [g] W2 W4 := (t3.weaken [g]).trans K4
        refine (show ∀ a w, Code.wp Tryz.prog _ _ a w → _ from by assumption) _ _ ?_
        go_cut [7] (fun s7 wx => ∃ p, AccI W2.heap.size 2 wx s7 p ∧ p.length = n ∧ Src wx g fc l ∧ Only [g] W2 wx)
        case first =>
          have hmv : ∀ {V : World} {q : Nat}, v3.ownBlock = some q → q ∉ [g] := fun hq hm => by have := hA3.ownlt _ hq; simp at hm; omega
          by_cases e0 : r4 = 0
          · subst e0
            go_wp2_with ((go_at_call 61; (with_reducible refine (drawPerm_any g fc l n W4 D4 (by omega) hl).mono ?_); rintro e w5 ⟨v5, p5, rfl, hA5, hp5, D5, K5⟩))
            go_meet
            exact ⟨p5, hA5.low2 K24.size, hp5.1, D5, K24.trans K5⟩
          · by_cases e1 : r4 = 1
            · subst e1
              go_wp2
              go_loopw [8] (fun c wr => ∃ (i : Nat) (p : List Int), c = .int .i64 i ∧ i ≤ n ∧ AccI W2.heap.size 2 wr v3 p ∧ p.length = n ∧ Src wr g fc l ∧ Only [g] W2 wr)
                (fun c _ => n - (intOf c).toNat)
              case atStart => exact ⟨0, _, rfl, Nat.zero_le _, hA4, PM.pts_len n, D4, K24⟩
              case round =>
                obtain ⟨V, hnew⟩ : ∃ W, W = wr := ⟨_, rfl⟩
                subst hnew
                obtain ⟨i, p, rfl, hin, hAp, hpl, hDp, hKp⟩ := hrel
                by_cases hlt : i < n
                · have hinI : (i : Int) < (n : Int) := by omega
                  have hi0 : (0 : Int) ≤ (i : Int) := by omega
                  have hwi : IntKind.i64.wrap ((i : Int) + 1) = (i : Int) + 1 := by rw [IntKind.wrap_i64]; omega
                  have hn0 : (n : Int) ≠ 0 := by omega
                  have hr0 := Int.emod_nonneg ((i : Int) + 1) hn0
                  have hr1 := Int.emod_lt_of_pos ((i : Int) + 1) (show (0 : Int) < (n : Int) by omega)
                  obtain ⟨xx, hxx⟩ : ∃ xx, xx = ((i : Int) + 1) % (n : Int) := ⟨_, rfl⟩
                  have hmd : ((i : Int) + 1) % (n : Int) = xx := hxx.symm
                  have hmd2 : Int.tmod ((i : Int) + 1) (n : Int) = xx := by rw [Int.tmod_eq_emod_of_nonneg (by omega)]; exact hmd
                  rw [← hxx] at hr0 hr1
                  obtain ⟨g3, c3, e3, hc3, hf3, hb3, hA3'⟩ := hAp.put (i := i) (by omega) (x := xx) (by unfold I64; omega)
                  rw [hpl] at e3
                  obtain ⟨y3, hy3⟩ : ∃ y, y = p[i]'(by omega) := ⟨_, rfl⟩
                  rw [← hy3] at hc3
                  have HA3 := Lib.hid hA3'
                  have Hpl := Lib.hid hpl
                  clear hxx hAp hy3 hpl hA3' hmv hA3 hA4
                  subst e3
                  go_wp2
                  exact ⟨⟨i + 1, _, by go_num, by omega, HA3.out, by rw [List.length_set]; exact Hpl.out, hDp.only ((Only.refl [g3] V).setCell (by simp) _) (by simp; omega) (fun b hb hm => by have := hfc b hb; simp at hm; omega), hKp.then_ ((Only.refl [g3] V).setCell (by simp) _) (fun b hb hl => by simp at hb; omega)⟩, by simp [intOf]; omega⟩
                · obtain rfl : i = n := by omega
                  go_wp2
                  go_meet
                  exact ⟨p, hAp, hpl, hDp, hKp⟩
            · go_upto_region 9 with (first
                | (go_at_call 45; (with_reducible refine (srcBelow_any g fc l n W4 D4 hl (by omega)).mono ?_); rintro e w5 ⟨x5, rfl, x50, x51, D5, K5⟩)
                | (go_at_call 45; (with_reducible refine (srcBelow_any g fc l n w5 D5 hl (by omega)).mono ?_); rintro e w6 ⟨x6, rfl, x60, x61, D6, K6⟩)
                | fail "no arm")
              obtain ⟨xa, rfl⟩ := Int.eq_ofNat_of_zero_le x50
              obtain ⟨xb, rfl⟩ := Int.eq_ofNat_of_zero_le x60
              have hxa : xa < n := by omega
              have hxb : xb < n := by omega
              have hxaI : (xa : Int) < (n : Int) := by omega
              have hxbI : (xb : Int) < (n : Int) := by omega
              have hxa0 : (0 : Int) ≤ (xa : Int) := by omega
              have hxb0 : (0 : Int) ≤ (xb : Int) := by omega
              have hA6 := hA4.only (K5.trans K6) (fun q hq => hmv (V := W4) hq)
              obtain ⟨g3, c3, e3, hc3, hf3, hb3, hA7⟩ := hA6.put (i := xa) (by rw [PM.pts_len]; exact hxa) (x := (xb : Int)) (by unfold I64; omega)
              obtain ⟨g4, c4, e4, hc4, hf4, hb4, hA8⟩ := hA7.put (i := xb) (by rw [List.length_set, PM.pts_len]; exact hxb) (x := (xa : Int)) (by unfold I64; omega)
              rw [PM.pts_len] at e3
              rw [List.length_set, PM.pts_len] at e4
              have e34 := e3.symm.trans e4
              injection e34 with e5 _ e6
              subst e6
              injection e5 with e5
              injection e5 with e5 _ _
              subst e5
              obtain ⟨y3, hy3⟩ : ∃ y, w6.cell? ⟨g3, xa, none⟩ = some (.int .i64 y) := ⟨_, hc3⟩
              obtain ⟨y4, hy4⟩ : ∃ y, (w6.setCell ⟨g3, xa, none⟩ (.int .i64 (xb : Int))).cell? ⟨g3, xb, none⟩ = some (.int .i64 y) := ⟨_, hc4⟩
              have HA8 := Lib.hid hA8
              clear hc3 hc4 hA7 hA8 hA6 e4 hmv hA3 hA4
              subst e3
              have k68 : Only [g3] w6 ((w6.setCell ⟨g3, xa, none⟩ (.int .i64 (xb : Int))).setCell ⟨g3, xb, none⟩ (.int .i64 (xa : Int))) := ((Only.refl [g3] w6).setCell (by simp) _).setCell (by simp) _
              go_wp2
              go_meet
              exact ⟨_, HA8.out, by rw [List.length_set, List.length_set, PM.pts_len], D6.only k68 (by simp; omega) (fun b hb hm => by have := hfc b hb; simp at hm; omega), (K24.trans (K5.trans K6)).then_ k68 (fun b hb hl => by simp at hb; omega)⟩
        case rest =>
          obtain ⟨W5, hnew⟩ : ∃ W, W = wc := ⟨_, rfl⟩
          subst hnew
          obtain ⟨p, hA5, hp5, D5, K5⟩ := hcut
          obtain ⟨a5, c5, rfl⟩ := hA5.form
          have Hp5 := Lib.hid hp5
          clear hp5
          have hA6 := hA.only K5 (fun q hq hm => by have := hF.ge q hq; simp at hm; omega) (fun q hq hm => by have := (hA.ownlt q hq).1; simp at hm; omega)
          have hF6 := hF
          have hrow := hA5.rd
          have hfr := hA5.fresh
          have hnl : gs.length + 1 ≤ 1073741824 := by omega
          have hbz : w.heap.size ≤ W5.heap.size := Nat.le_trans hsz K5.size
          go_wp2_with (first
            | (at_builtin; refine wpList_push2 rfl _ _ 30 rfl w.heap.size 24 i0 _ 24 Tryz.underlying30 hi hz0 hz1 hz2 rfl (by decide) (by decide) W5 u5 gs fs rfl hA6 ((Only.refl [] W5).alloc _) hbz W5.heap.size 1 [.slice a5 p.length c5] p _ rfl (lit_src W5 [.slice a5 p.length c5] _ rfl) (by intro u hu; simp at hu; subst hu; rfl) (Rp.keep hrow ((Only.refl [] W5).alloc _)) ?hap hnl ?_; (case hap => (intro b hb he; have h1 := hfr.ge b hb; have h2 := (hA.ownlt b he).2; omega)); intro v7 w7 hA7 hO7 hN7)
            | fail "no arm")
          have D7 := (D5.keep ((Only.refl [] W5).alloc (.cells #[.slice a5 p.length c5] 24))).only hO7 (fun hm => by have := (hA.ownlt g (by simpa using hm)).1; omega) (fun b hb hm => by have := hfc b hb; have := (hA.ownlt b (by simpa using hm)).1; omega)
          have K7 : Only [g] w w7 := ((hK.trans K5).alloc _).then_ hO7 (fun b hb hl => by have := (hA.ownlt b (by simpa using hb)).1; omega)
          have hs7 : W5.heap.size ≤ w7.heap.size := Nat.le_trans (by simp) hO7.size
          have hkal : Only [] W5 (W5.alloc (.cells #[.slice a5 p.length c5] 24)) := (Only.refl _ _).alloc _
          have F1 : Fresh w.heap.size w7 fs.flatten := ((hF.only K5 (fun q hq hm => by have := hF.ge q hq; simp at hm; omega)).keep hkal).only hO7 (fun q hq hm => hA.apart q (by simpa using hm) hq)
          have F2 := (hfr.keep hkal).only hO7 (fun q hq hm => by have h1 := hfr.ge q hq; have h2 := (hA.ownlt q (by simpa using hm)).2; omega)
          have F3 : Fresh w.heap.size w7 (fs ++ [(Value.slice a5 p.length c5).ownBlock.toList]).flatten := by
            have := F1.append F2 hsz hF.lt
            simpa using this
          exact ⟨⟨j - 1, gs ++ [p], _, by congr 1; omega, by simp; omega, hA7, F3, by
            intro y hy
            rcases List.mem_append.1 hy with hy | hy
            · exact hgl y hy
            · rw [List.mem_singleton.1 hy]; exact Hp5.out, D7, K7⟩, by simp [intOf]; omega⟩
    · obtain rfl : j = 0 := by omega
      go_wp2
      go_ret
      exact ⟨_, gs, fs, rfl, hA, hF, ⟨by omega, hgl⟩, hD, hK⟩
set_option maxHeartbeats 4000000 in
theorem drawAny_any (g : Nat) (fc : List Nat) (l : List UInt8) (n : Nat) (w : World) (h : Src w g fc l) (hl : l.length ≤ 4096) (hn : 1 ≤ n ∧ n ≤ 1000) :
    Calls Tryz.prog 68 #[.pointer (some ⟨g, 0, none⟩), .int .i64 n] w fun e w' => ∃ v, ∃ p : List Int, ∃ fp, e = .returned v ∧ Rd w' v p fp ∧ Fresh w.heap.size w' fp ∧ p.length ≤ n + 21 ∧ Src w' g fc l ∧ Only [g] w w' := by
  obtain ⟨i0, hi, hz0, hz1, hz2⟩ := info_parts Tryz.info2
  have hg := h.lt
  have hfc : ∀ b ∈ fc, b < w.heap.size := by obtain ⟨_, _, _, _, _, _, _, h4, _⟩ := h; exact fun b hb => Rp.lt h4 b hb
  have hnI : (0 : Int) < (n : Int) := by omega
  go_enter Tryz.func68, Tryz.ntmps68
  go_upto_region 2 with ((go_at_call 61; (with_reducible refine (drawPerm_any g fc l n w h (by omega) hl).mono ?_); rintro e w1 ⟨v1, p1, rfl, hA1, hp1, D1, K1⟩))
  go_cut [14] (fun s14 wx => ∃ b : Bool, s14 = .bool b ∧ Src wx g fc l ∧ Only [g] w1 wx)
  case first =>
    go_wp2_with ((go_at_call 20; (with_reducible refine (oneIn_any g fc l 12 w1 D1 hl (by omega)).mono ?_); rintro e w2 ⟨b, rfl, D2, K2⟩))
    all_goals go_meet
    all_goals exact ⟨_, rfl, D2, K2⟩
  case rest =>
    obtain ⟨W2, hnew⟩ : ∃ W, W = wc := ⟨_, rfl⟩
    subst hnew
    obtain ⟨b, rfl, D2, K2⟩ := hcut
    have hmv : ∀ {q : Nat}, v1.ownBlock = some q → q ∉ [g] := fun hq hm => by have := hA1.ownlt _ hq; simp at hm; omega
    have hA2 := hA1.only K2 (fun q hq => hmv hq)
    have K12 := K1.trans K2
    refine (show ∀ a w, Code.wp Tryz.prog _ _ a w → _ from by assumption) _ _ ?_
    go_cut [5] (fun s5 wx => ∃ p : List Int, ∃ fp, Rd wx s5 p fp ∧ Fresh w.heap.size wx fp ∧ p.length ≤ n + 1 ∧ Src wx g fc l ∧ Only [g] w wx)
    case first =>
      have hln := hp1.1
      have Hln := Lib.hid hln
      have hs12 := K12.size
      clear hp1 hln
      cases b
      · go_wp2
        go_meet
        exact ⟨p1, _, hA2.rd, hA2.fresh, by rw [Hln.out]; omega, D2, K12⟩
      · go_upto_region 4 with ((go_at_call 45; (with_reducible refine (srcBelow_any g fc l 3 W2 D2 hl (by omega)).mono ?_); rintro e w3 ⟨r, rfl, r0, r1, D3, K3⟩))
        have K13 := K12.trans K3
        have hA3 := hA2.only K3 (fun q hq => hmv hq)
        by_cases e0 : r = 0
        · subst e0
          go_wp2_with (first
            | (go_at_call 45; (with_reducible refine (srcBelow_any g fc l n w3 D3 hl (by omega)).mono ?_); rintro e w4 ⟨x4, rfl, x40, x41, D4, K4⟩)
            | (go_at_call 64; (with_reducible refine (numberUpTo_any g fc l n w4 D4 hl (by unfold I64; omega)).mono ?_); rintro e w5 ⟨y, rfl, hy, D5, K5⟩; obtain ⟨xa, rfl⟩ := Int.eq_ofNat_of_zero_le x40; have hxa : xa < n := (by omega); have hxaI : (xa : Int) < (n : Int) := (by omega); have hxa0 : (0 : Int) ≤ (xa : Int) := (by omega); have hA5 := hA3.only (K4.trans K5) (fun q hq => hmv hq); obtain ⟨g3, c3, e3, hc3, hf3, hb3, hA7⟩ := hA5.put (i := xa) (by rw [Hln.out]; exact hxa) hy; obtain ⟨y3, hy3⟩ : ∃ z, w5.cell? ⟨g3, xa, none⟩ = some (.int .i64 z) := ⟨_, hc3⟩; have HA7 := Lib.hid hA7; rw [Hln.out] at e3; clear hc3 hA7 hA5 hA3 hA2 hA1 hmv; subst e3)
            | fail "no arm")
          go_meet
          have k68 : Only [g3] w5 (w5.setCell ⟨g3, xa, none⟩ (.int .i64 y)) := (Only.refl [g3] w5).setCell (by simp) _
          exact ⟨_, _, HA7.out.rd, HA7.out.fresh, by rw [List.length_set, Hln.out]; omega, D5.only k68 (by simp; omega) (fun b hb hm => by have := hfc b hb; simp at hm; omega), (K13.trans (K4.trans K5)).then_ k68 (fun b hb hl => by simp at hb; omega)⟩
        · by_cases e1 : r = 1
          · subst e1
            obtain ⟨hO, hw⟩ := hA3.row
            obtain ⟨g3, c3, e3, hb3, hlt3⟩ := hO.form (by rw [Hln.out]; omega)
            have hR := hA3.rd
            have hFr := hA3.fresh
            rw [e3] at hR hFr
            obtain ⟨a3, c3', e4, I3⟩ := hR.ints
            rw [Hln.out] at e3 e4
            injection e4 with e5 _ e6
            subst e5
            subst e6
            have hcap := I3.len
            rw [Hln.out] at hcap
            have HI := Lib.hid I3
            have hcI : (n : Int) ≤ (c3 : Int) := by omega
            have hn1 : (1 : Int) ≤ (n : Int) := by omega
            have hFO := Lib.hid hFr
            clear hA3 hA2 hA1 hmv hR hO I3 hFr
            subst e3
            by_cases hc1 : c3 = 1
            · subst hc1
              have hn11 : n = 1 := by omega
              subst hn11
              go_wp2
              go_meet
              exact ⟨[], [], (IntsA.nil _ _ (by simp [maxLen])).rd, Fresh.nil _ _, by simp, D3, K13⟩
            · go_wp2
              go_meet
              exact ⟨p1.drop 1, _, by have := (HI.out.drop (k := 1) (by rw [Hln.out]; omega)).rd; rw [List.length_drop, Hln.out] at this; exact this, hFO.out, by rw [List.length_drop, Hln.out]; omega, D3, K13⟩
          · have e2 : r = 2 := by omega
            subst e2
            have hnI64 : I64 (n : Int) := by unfold I64; omega
            have HnI := Lib.hid hnI64
            have hdl : p1.length + 1 ≤ 1073741824 := by rw [Hln.out]; omega
            have hbw : w.heap.size ≤ w3.heap.size := K13.size
            have HA3 := Lib.hid hA3
            clear hnI64
            go_wp2_with (first
              | (at_builtin; refine wpList_pushI rfl _ _ 24 rfl w.heap.size 2 i0 _ Tryz.underlying24 hi hz0 hz1 hz2 rfl w3 v1 p1 rfl HA3.out ((Only.refl _ _).alloc _) hbw w3.heap.size 1 (n : Int) rfl (lit1 w3 _ _ rfl) HnI.out hdl ?_; intro v9 w9 hA9 hO9 hP9 hN9)
              | fail "no arm")
            go_meet
            exact ⟨_, _, hA9.rd, hA9.fresh, by rw [List.length_append, Hln.out]; simp, (D3.keep ((Only.refl [] w3).alloc _)).only hO9 (fun hm => by have := (hA3.ownlt g (by simpa using hm)).1; omega) (fun b hb hm => by have := hfc b hb; have := (hA3.ownlt b (by simpa using hm)).1; omega), (K13.alloc _).then_ hO9 (fun b hb hl => by have := (hA3.ownlt b (by simpa using hb)).1; omega)⟩
    case rest =>
      obtain ⟨W5, hnew⟩ : ∃ W, W = wc := ⟨_, rfl⟩
      subst hnew
      obtain ⟨p, fp, r5, F5, hp5, D5, K5⟩ := hcut
      go_wp2_with (first
        | (go_at_call 20; (with_reducible refine (oneIn_any g fc l 60 _ D5 hl (by omega)).mono ?_); rintro e w6 ⟨b6, rfl, D6, K6⟩)
        | (go_at_call 45; (with_reducible refine (srcBelow_any g fc l 2 w6 D6 hl (by omega)).mono ?_); rintro e w7 ⟨r, rfl, r0, r1, D7, K7⟩; obtain ⟨k, rfl⟩ := Int.eq_ofNat_of_zero_le r0; have hk : k ≤ 1 := (by omega); obtain ⟨m, hm⟩ : ∃ m : Nat, m = 20 + k := ⟨_, rfl⟩; have hwk : IntKind.i64.wrap (20 + (k : Int)) = (m : Int) := (by rw [IntKind.wrap_i64]; omega); have hm1 : m ≤ 21 := (by omega); clear hm)
        | (go_at_call 61; (with_reducible refine (drawPerm_any g fc l m w7 D7 (by omega) hl).mono ?_); rintro e w8 ⟨v8, p8, rfl, hA8, hp8, D8, K8⟩)
        | fail "no arm")
      · go_ret
        exact ⟨_, p8, _, rfl, hA8.rd, hA8.fresh.mono (Nat.le_trans K5.size (K6.trans K7).size), by rw [hp8.1]; omega, D8, K5.trans ((K6.trans K7).trans K8)⟩
      · go_ret
        exact ⟨_, p, fp, rfl, Rp.only r5 K6 (fun q hq hm => by have := F5.ge q hq; simp at hm; omega), F5.only K6 (fun q hq hm => by have := F5.ge q hq; simp at hm; omega), by omega, D6, K5.trans K6⟩
end Go.Proofs.YtlbcjkjoapcppaaGreat

namespace Go.Proofs.YtlbcjkjoapcppaaGreat
open Go.RowKit
set_option maxRecDepth 10000

theorem Acc.low3 {α : Type} [Rp α] {B B' : Nat} {e : TypeId} {w : World} {v : Value} {l : List α} {fs : List (List Nat)} (h : Acc B e w v l fs) (hB : B' ≤ B) : Acc B' e w v l fs := by
  obtain ⟨⟨css, ho, hcl, hr⟩, hf, ha⟩ := h
  refine ⟨⟨css, ⟨ho.1, ?_⟩, hcl, hr⟩, hf, ha⟩
  rcases ho.2 with h1 | ⟨g, cap, cur, h1, h2, h3⟩
  · exact .inl h1
  · exact .inr ⟨g, cap, cur, h1, Nat.le_trans hB h2, h3⟩
theorem push_facts {w W w4 w5 w7 : World} {g : Nat} {fc : List Nat} {l : List UInt8} {e : TypeId} {v : Value} {gs : List (List Int)} {fs : List (List Nat)} {f : List Nat} (hA : Acc w.heap.size e W v gs fs) (hF : Fresh w.heap.size W fs.flatten) (hK : Only [g] w W) (K4 : Only [g] W w4) (hf : Fresh W.heap.size w4 f) (D4 : Src w4 g fc l) (hg : g < w.heap.size) (hfc : ∀ b ∈ fc, b < w.heap.size) (o5 : Only [] w4 w5) (hO7 : Only v.ownBlock.toList w5 w7) :
    Fresh w.heap.size w7 (fs ++ [f]).flatten ∧ Src w7 g fc l ∧ Only [g] w w7 := by
  have F1 : Fresh w.heap.size w7 fs.flatten := ((hF.only K4 (fun q hq hm => by have := hF.ge q hq; simp at hm; omega)).keep o5).only hO7 (fun q hq hm => hA.apart q (by simpa using hm) hq)
  have F2 := (hf.keep o5).only hO7 (fun q hq hm => by have h1 := hf.ge q hq; have h2 := (hA.ownlt q (by simpa using hm)).2; omega)
  have D7 := (D4.keep o5).only hO7 (fun hm => by have := (hA.ownlt g (by simpa using hm)).1; omega) (fun b hb hm => by have := hfc b hb; have := (hA.ownlt b (by simpa using hm)).1; omega)
  refine ⟨by have := F1.append F2 hK.size hF.lt; simpa using this, D7, ((hK.trans K4).trans (o5.weaken [g])).then_ hO7 (fun b hb hl => by have := (hA.ownlt b (by simpa using hb)).1; omega)⟩
end Go.Proofs.YtlbcjkjoapcppaaGreat
