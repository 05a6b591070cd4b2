/- Tables without faults: the built ones, and no others with the same patterns (laws 10, 11, 26). Descents in a table that was built; a search of few patterns ends (laws 10, 11). The laws' drawn puzzle and its built table (laws 10, 11). The reference's table of a drawn puzzle (laws 10, 11). The program's proof of a table: where a letter leads, the faults of an entry. (Written by mkprf2.py.) The reference's tables: where a letter leads, the first letter of a descent. The reference's faults of an entry. (Written by mkspecent.py.) -/
import Derived.Test.YtoinaidncncdhaaRowVerificationG9
import Derived.Test.YtoinaidncncdhaaRowVerificationG6
import Derived.Deep.DeepCutAuto
import Derived.Test.YtoinaidncncdhaaRowVerificationG8
import Derived.Test.YtoinaidncncdhaaRowVerificationG1
namespace Go.Proofs.Ytoinaidncncdhaa
open Go.RowKit
set_option maxRecDepth 10000

def Good (x : Puzzle) (t : Table) : Prop := ∀ i, i < t.patterns.length → entF x t i = []
theorem one_nil {b : Bool} {f : Fault} : one b f = [] ↔ b = false := by unfold one; cases b <;> simp
theorem faultsTo_nil {x : Puzzle} {t : Table} {k : Nat} : faultsTo x t k = [] ↔ ∀ i, i < k → entF x t i = [] := by
  unfold faultsTo
  rw [List.flatMap_eq_nil_iff]
  exact ⟨fun h i hi => h i (List.mem_range.2 hi), fun h i hi => h i (List.mem_range.1 hi)⟩
theorem tableFaults_nil {x : Puzzle} {t : Table} : tableFaults x t = [] ↔ checkT x t = true ∧ Good x t := by
  unfold tableFaults Good
  rw [← faultsTo_nil]
  split
  · rename_i h
    rw [List.take_eq_nil_iff]
    simp [h]
  · rename_i h
    simp [h]
theorem tableFaults_len0 {x : Puzzle} {t : Table} : (tableFaults x t).length = 0 ↔ checkT x t = true ∧ Good x t := by
  rw [List.length_eq_zero_iff]; exact tableFaults_nil
theorem descL_leads {x : Puzzle} {t : Table} {p : List Int} {d : Int} (h : descL x t p d ≠ 0) : descL x t p d ∈ ltrs x.moves.length ∧ leads x t p d (descL x t p d) = true := by
  unfold descL at h ⊢
  cases hf : (ltrs x.moves.length).find? (leads x t p d) with
  | none => rw [hf] at h; exact absurd rfl h
  | some l => exact ⟨List.mem_of_find?_eq_some hf, List.find?_some hf⟩
theorem descL_ne {x : Puzzle} {t : Table} {p : List Int} {d : Int} {l : Int} (hl : l ∈ ltrs x.moves.length) (h : leads x t p d l = true) : descL x t p d ≠ 0 := by
  unfold descL
  cases hf : (ltrs x.moves.length).find? (leads x t p d) with
  | none => have := List.find?_eq_none.1 hf l hl; rw [h] at this; exact absurd rfl this
  | some l' => exact (mem_ltrs.1 (List.mem_of_find?_eq_some hf)).1
theorem leads_iffD {x : Puzzle} {t : Table} {p : List Int} {d l : Int} : leads x t p d l = true ↔ 0 ≤ nextI x t p l ∧ atD t (nextI x t p l) = d := by
  unfold leads atD
  rw [Bool.and_eq_true, decide_eq_true_iff, decide_eq_true_iff]
section
variable {x : Puzzle} {t t' : Table}
/-- what an entry without faults says -/
theorem ent_nil {i : Nat} : entF x t i = [] ↔ (i = 0 → atD t 0 = 0 ∧ atP t 0 = t.tracked) ∧ (i : Int) ≤ idxL t.patterns (atP t i) ∧ (0 < i → atD t i ≠ 0) ∧
    (∀ l ∈ ltrs x.moves.length, 0 ≤ nextI x t (atP t i) l ∧ -1 ≤ atD t (nextI x t (atP t i) l) - atD t i ∧ atD t (nextI x t (atP t i) l) - atD t i ≤ 1) ∧ (0 < atD t i → descL x t (atP t i) (atD t i - 1) ≠ 0) := by
  unfold entF
  rw [List.append_eq_nil_iff, List.append_eq_nil_iff, List.append_eq_nil_iff, List.append_eq_nil_iff, one_nil, one_nil, one_nil, one_nil, List.flatMap_eq_nil_iff]
  have hl : ∀ l, letF x t i l = [] ↔ 0 ≤ nextI x t (atP t i) l ∧ -1 ≤ atD t (nextI x t (atP t i) l) - atD t i ∧ atD t (nextI x t (atP t i) l) - atD t i ≤ 1 := fun l => by
    unfold letF
    split
    · rename_i h; simp; omega
    · rename_i h
      split
      · rename_i h2; rw [inR_iff] at h2; simp; omega
      · rename_i h2; rw [inR_iff] at h2; simp; omega
  constructor
  · rintro ⟨a, b, c, d, e⟩
    refine ⟨fun h0 => ?_, ?_, fun h0 => ?_, fun l h => (hl l).1 (d l h), fun h0 h1 => ?_⟩
    · subst h0
      simp only [decide_true, Bool.true_and, Bool.or_eq_false_iff, decide_eq_false_iff_not] at a
      exact ⟨Decidable.of_not_not a.1, Decidable.of_not_not a.2⟩
    · have := of_decide_eq_false b; omega
    · intro h1; simp [h0, h1] at c
    · simp [h0, h1] at e
  · rintro ⟨a, b, c, d, e⟩
    refine ⟨?_, decide_eq_false (by omega), ?_, fun l h => (hl l).2 (d l h), ?_⟩
    · by_cases h0 : i = 0
      · subst h0; obtain ⟨a1, a2⟩ := a rfl
        simp [a1, a2]
      · simp [h0]
    · by_cases h0 : 0 < i
      · simp [h0, c h0]
      · simp [h0]
    · by_cases h0 : 0 < atD t i
      · simp [e h0]
      · simp [h0]
theorem atD_nat (i : Nat) : atD t i = t.distances.getD i 0 := by unfold atD; rw [Int.toNat_natCast]
theorem Built.good (h : Built x t) : Good x t := by
  intro i hi
  have hstep : ∀ l ∈ ltrs x.moves.length, ∃ i' : Nat, i' < t.patterns.length ∧ t.patterns.getD i' [] = nxt x (atP t i) l ∧ nextI x t (atP t i) l = i' ∧ atD t i' ≤ atD t i + 1 ∧ atD t i ≤ atD t i' + 1 := fun l hl => by
    obtain ⟨i', a1, a2, a3, a4⟩ := h.step hi hl
    refine ⟨i', a1, a2, ?_, by rw [atD_nat, atD_nat]; exact a3, by rw [atD_nat, atD_nat]; exact a4⟩
    show idxL t.patterns (nxt x (t.patterns.getD i []) l) = i'
    rw [← a2]; exact h.idx a1
  refine ent_nil.2 ⟨fun h0 => ?_, ?_, fun h0 => ?_, fun l hl => ?_, fun h0 => ?_⟩
  · have a := h.bi.d0; have b := h.bi.p0
    simp only at a b
    exact ⟨a, b⟩
  · rw [show atP t i = t.patterns.getD i [] from rfl, h.idx hi]; exact Int.le_refl _
  · have := (h.dep i hi).2.2 h0
    rw [atD_nat]; omega
  · obtain ⟨i', a1, a2, a3, a4, a5⟩ := hstep l hl
    rw [a3]; omega
  · have hi0 : 0 < i := by
      rcases Nat.eq_zero_or_pos i with h1 | h1
      · subst h1
        have := h.bi.d0
        simp only at this
        rw [atD_nat, this] at h0; omega
      · exact h1
    obtain ⟨j, l, a1, a2, a3, a4⟩ := h.bi.par i hi0 hi
    simp only at a3 a4
    have hj : j < t.patterns.length := by omega
    have hjm : t.patterns.getD j [] ∈ t.patterns := by rw [getD_get hj]; exact List.getElem_mem hj
    have hb : nxt x (atP t i) (-l) = t.patterns.getD j [] := by
      rw [show atP t i = t.patterns.getD i [] from rfl, ← a3]
      exact nxt_back h.v (h.bi.pat _ hjm) a2
    refine descL_ne (ltrs_neg a2) (leads_iffD.2 ?_)
    have hn : nextI x t (atP t i) (-l) = j := by
      show idxL t.patterns (nxt x (atP t i) (-l)) = j
      rw [hb]; exact h.idx hj
    rw [hn, atD_nat, atD_nat]
    omega
theorem Built.check (h : Built x t) : checkT x t = true := by
  obtain ⟨h1, h2, h3, h4⟩ := validPz_facts h.v
  have h5 := trackB_iff.1 h.tk
  have hd := h.bi.dl
  simp only at hd
  have h20 : ∀ p, patB x.points t.tracked.length p = true → patB 20 t.tracked.length p = true := fun p hp => by
    obtain ⟨a, b, c⟩ := patB_iff.1 hp
    exact patB_iff.2 ⟨a, fun y hy => by have := b y hy; omega, c⟩
  refine checkT_iff.2 ⟨h.v, wfT_iff.2 ⟨trackB_iff.2 ⟨h5.1, fun y hy => by have := h5.2.1 y hy; omega, h5.2.2⟩, ⟨?_, ?_⟩, hd, fun p hp => h20 p (h.bi.pat p hp), fun d hdm => ?_⟩, h.tk, h.bi.pat⟩
  · have := h.bi.ne; simp only at this; omega
  · have := h.ll; omega
  · obtain ⟨i, hi, rfl⟩ := List.getElem_of_mem hdm
    have hil : i < t.patterns.length := by omega
    have := h.dep i hil
    rw [getD_get hi] at this
    have := h.ll
    rw [inR_iff]; omega
theorem Built.nofaults (h : Built x t) : tableFaults x t = [] := tableFaults_nil.2 ⟨h.check, h.good⟩
theorem Good.adm (h : Good x t) (hc : checkT x t = true) : admB x t = true := by
  unfold admB
  rw [hc, Bool.true_and, List.all_eq_true]
  intro i hi
  rw [h i (List.mem_range.1 hi)]; rfl
theorem Good.dist0 (_ : Good x t) (hc : checkT x t = true) : ∀ i : Nat, i < t.patterns.length → 0 ≤ atD t i := fun i hi => by
  have hw := wfT_iff.1 (checkT_iff.1 hc).2.1
  have hi' : i < t.distances.length := by omega
  rw [atD_nat, getD_get hi']
  have := inR_iff.1 (hw.2.2.2.2 _ (List.getElem_mem hi')); omega
/-- two tables without faults, with the same patterns, have the same distances: one half -/
theorem Good.le (h : Good x t) (hc : checkT x t = true) (h' : Good x t') (hc' : checkT x t' = true) (hp : t'.patterns = t.patterns) : ∀ (n : Nat) (i : Nat), i < t.patterns.length → atD t i = n → atD t' i ≤ n
  | 0, i, hi, hd => by
    have e := ent_nil.1 (h i hi)
    have e' := ent_nil.1 (h' i (by rw [hp]; exact hi))
    have h0 : i = 0 := by
      rcases Nat.eq_zero_or_pos i with h1 | h1
      · exact h1
      · exact absurd (by simpa using hd) (e.2.2.1 h1)
    subst h0
    have := (e'.1 rfl).1
    have e0 : atD t' ((0 : Nat) : Int) = 0 := this
    rw [e0]; exact Int.le_refl _
  | n + 1, i, hi, hd => by
    have e := ent_nil.1 (h i hi)
    have e' := ent_nil.1 (h' i (by rw [hp]; exact hi))
    have hne := e.2.2.2.2 (by rw [hd]; omega)
    obtain ⟨hl, hlead⟩ := descL_leads hne
    obtain ⟨a1, a2⟩ := leads_iffD.1 hlead
    obtain ⟨b1, b2, b3⟩ := e'.2.2.2.1 _ hl
    have hn : nextI x t' (atP t' i) (descL x t (atP t i) (atD t i - 1)) = nextI x t (atP t i) (descL x t (atP t i) (atD t i - 1)) := by
      unfold nextI atP; rw [hp]
    have hlt := (idxL_lt (l := t.patterns) (p := nxt x (atP t i) (descL x t (atP t i) (atD t i - 1)))).2
    obtain ⟨j, hj⟩ : ∃ j : Nat, nextI x t (atP t i) (descL x t (atP t i) (atD t i - 1)) = j := ⟨_, (Int.toNat_of_nonneg a1).symm⟩
    have hjl : j < t.patterns.length := by unfold nextI at hj; omega
    rw [hn, hj] at b2 b3
    rw [hj] at a2
    have := Good.le h hc h' hc' hp n j hjl (by rw [a2, hd]; omega)
    omega
theorem Good.same (h : Good x t) (hc : checkT x t = true) (h' : Good x t') (hc' : checkT x t' = true) (hp : t'.patterns = t.patterns) {i : Nat} (hi : i < t.patterns.length) : atD t i = atD t' i := by
  have h1 := h.dist0 hc i hi
  have h2 := h'.dist0 hc' i (by rw [hp]; exact hi)
  have a := Good.le h hc h' hc' hp (atD t i).toNat i hi (by omega)
  have b := Good.le h' hc' h hc hp.symm (atD t' i).toNat i (by rw [hp]; exact hi) (by omega)
  omega
/-- one distance changed -/
theorem Built.changed (h : Built x t) {k : Nat} (hk : k < t.distances.length) {d : Int} (hd : d ≠ t.distances.getD k 0) : (tableFaults x ⟨t.tracked, t.patterns, t.distances.set k d⟩).length ≠ 0 := by
  intro h0
  obtain ⟨hc, hg⟩ := tableFaults_len0.1 h0
  have hdl := h.bi.dl
  simp only at hdl
  have hi : k < t.patterns.length := by omega
  have := Good.same h.good h.check hg hc rfl hi
  rw [atD_nat, atD_nat] at this
  apply hd
  rw [this]
  show d = (t.distances.set k d).getD k 0
  rw [getD_get (by simpa using hk)]
  simp
/-- the last entry lacking -/
theorem Built.lacks (h : Built x t) (hn : 2 ≤ t.patterns.length) : (tableFaults x ⟨t.tracked, t.patterns.take (t.patterns.length - 1), t.distances.take (t.patterns.length - 1)⟩).length ≠ 0 := by
  intro h0
  obtain ⟨hc, hg⟩ := tableFaults_len0.1 h0
  obtain ⟨n, hn'⟩ : ∃ n, t.patterns.length = n + 1 := ⟨t.patterns.length - 1, by omega⟩
  rw [hn'] at hc hg
  simp only [Nat.add_sub_cancel] at hc hg
  obtain ⟨j, l, a1, a2, a3, -⟩ := h.bi.par n (by omega) (by simp only; omega)
  simp only at a3
  have hg2 := ent_nil.1 (hg j (by simp; omega))
  obtain ⟨b1, -, -⟩ := hg2.2.2.2.1 l a2
  have hm := (idxL_mem b1).1
  simp only at hm
  have hP : atP ⟨t.tracked, t.patterns.take n, t.distances.take n⟩ j = t.patterns.getD j [] := by
    unfold atP
    simp only
    rw [getD_get (by simp; omega), getD_get (by omega), List.getElem_take]
  rw [hP, a3, List.mem_take_iff_getElem] at hm
  obtain ⟨i, hi, e⟩ := hm
  rw [getD_get (by omega)] at e
  have hnd : t.patterns.Nodup := h.bi.nd
  have := nodup_at hnd (by omega) (by omega) e
  omega
end
end Go.Proofs.Ytoinaidncncdhaa

namespace Go.Proofs.Ytoinaidncncdhaa
open Go.RowKit
set_option maxRecDepth 10000

section
variable {x : Puzzle} {t : Table}
theorem idxL_getD {l : List (List Int)} {p : List Int} (h : 0 ≤ idxL l p) : l.getD (idxL l p).toNat [] = p := by
  rcases idxF_nonneg_or (fun q => decide (q = p)) l with h1 | ⟨k, hk, h1, h2⟩
  · unfold idxL at h; omega
  · unfold idxL
    rw [h1, Int.toNat_natCast, getD_get hk]
    exact of_decide_eq_true h2
theorem Built.root (h : Built x t) {i : Nat} (hi : i < t.patterns.length) : t.patterns.getD i [] = t.tracked ↔ i = 0 := by
  have h0 : t.patterns.getD 0 [] = t.tracked := h.bi.p0
  constructor
  · intro e
    rw [← h0, getD_get hi, getD_get (by omega)] at e
    have hnd : t.patterns.Nodup := h.bi.nd
    exact nodup_at hnd hi (by omega) e
  · rintro rfl; exact h0
theorem Built.dLet_ (h : Built x t) {i : Nat} (hi : i < t.patterns.length) : dLet x t (t.patterns.getD i []) = descL x t (t.patterns.getD i []) (atD t i - 1) := by
  have hx := h.idx hi
  rw [dLet_yes h.check (by rw [hx]; omega), hx]
theorem Built.word (h : Built x t) : ∀ (n m i : Nat), i < t.patterns.length → atD t i = n → n ≤ m →
    ∃ w, dW x t m (t.patterns.getD i []) = some w ∧ w.length = n ∧ (∀ l ∈ w, l ∈ ltrs x.moves.length) ∧ w.foldl (nxt x) (t.patterns.getD i []) = t.tracked
  | 0, m, i, hi, hd, hm => by
    have h0 : i = 0 := by
      rcases Nat.eq_zero_or_pos i with h1 | h1
      · exact h1
      · have := (h.dep i hi).2.2 h1
        rw [atD_nat] at hd; omega
    have hr := (h.root hi).2 h0
    refine ⟨[], ?_, rfl, by simp, hr⟩
    cases m <;> (unfold dW; rw [if_pos hr])
  | n + 1, 0, i, hi, hd, hm => by omega
  | n + 1, m + 1, i, hi, hd, hm => by
    have hr : t.patterns.getD i [] ≠ t.tracked := fun e => by
      have := (h.root hi).1 e
      subst this
      have h0 : t.distances.getD 0 0 = 0 := h.bi.d0
      rw [atD_nat, h0] at hd; omega
    have hg := ent_nil.1 (h.good i hi)
    have hne : descL x t (t.patterns.getD i []) (atD t i - 1) ≠ 0 := hg.2.2.2.2 (by rw [hd]; omega)
    obtain ⟨hl, hlead⟩ := descL_leads hne
    obtain ⟨a1, a2⟩ := leads_iffD.1 hlead
    rw [← h.dLet_ hi] at hl a1 a2 hne
    have hj : t.patterns.getD (nextI x t (t.patterns.getD i []) (dLet x t (t.patterns.getD i []))).toNat [] = nxt x (t.patterns.getD i []) (dLet x t (t.patterns.getD i [])) := idxL_getD a1
    have hlt := (idxL_lt (l := t.patterns) (p := nxt x (t.patterns.getD i []) (dLet x t (t.patterns.getD i [])))).2
    obtain ⟨j, hjj⟩ : ∃ j : Nat, nextI x t (t.patterns.getD i []) (dLet x t (t.patterns.getD i [])) = j := ⟨_, (Int.toNat_of_nonneg a1).symm⟩
    rw [hjj] at a2 hj
    rw [Int.toNat_natCast] at hj
    have hjl : j < t.patterns.length := by unfold nextI at hjj; omega
    obtain ⟨w, b1, b2, b3, b4⟩ := Built.word h n m j hjl (by rw [a2, hd]; omega) (by omega)
    refine ⟨dLet x t (t.patterns.getD i []) :: w, ?_, by simp [b2], ?_, ?_⟩
    · show (if _ then _ else _) = _
      rw [if_neg hr, if_neg hne, ← hj, b1]; rfl
    · intro l hl2
      rcases List.mem_cons.1 hl2 with rfl | hl2
      · exact hl
      · exact b3 l hl2
    · rw [List.foldl_cons, ← hj]; exact b4
theorem Built.letter (h : Built x t) {i : Nat} (hi : i < t.patterns.length) : dLet x t (t.patterns.getD i []) = 0 ↔ atD t i = 0 := by
  have h0 := (h.dep i hi).1
  rw [← atD_nat] at h0
  rw [h.dLet_ hi]
  have hg := ent_nil.1 (h.good i hi)
  constructor
  · intro e
    rcases Int.lt_or_le 0 (atD t i) with h1 | h1
    · exact absurd e (hg.2.2.2.2 h1)
    · omega
  · intro e
    rcases Decidable.em (descL x t (t.patterns.getD i []) (atD t i - 1) = 0) with h1 | h1
    · exact h1
    · obtain ⟨-, hlead⟩ := descL_leads h1
      obtain ⟨a1, a2⟩ := leads_iffD.1 hlead
      have hlt := (idxL_lt (l := t.patterns) (p := nxt x (t.patterns.getD i []) (descL x t (t.patterns.getD i []) (atD t i - 1)))).2
      obtain ⟨j, hj⟩ : ∃ j : Nat, nextI x t (t.patterns.getD i []) (descL x t (t.patterns.getD i []) (atD t i - 1)) = j := ⟨_, (Int.toNat_of_nonneg a1).symm⟩
      have hjl : j < t.patterns.length := by unfold nextI at hj; omega
      rw [hj, atD_nat] at a2
      have := (h.dep j hjl).1
      omega
end
/-- so many patterns at most -/
theorem BI.bound {x : Puzzle} {tr : List Int} {k : Nat} {done : List Int} {s : Met16} (h : BI x tr k done s) : s.1.length ≤ (PM.allL (PM.pts x.points.toNat) tr.length).length := by
  refine PM.nodup_sub_len h.nd fun q hq => ?_
  obtain ⟨a, b, -⟩ := patB_iff.1 (h.pat q hq)
  rw [← a]
  exact PM.mem_allL q fun y hy => PM.mem_pts.2 (by have := b y hy; omega)
theorem BI.lets_some {x : Puzzle} {tr : List Int} {k : Nat} (hv : validPz x = true) (hb : (PM.allL (PM.pts x.points.toNat) tr.length).length < 3000) : ∀ {ls done : List Int} {s : Met16}, BI x tr k done s → k < s.1.length → (∀ l ∈ ls, l ∈ ltrs x.moves.length) → (bLets x (s.1.getD k []) (s.2.getD k 0 + 1) ls s).isSome = true
  | [], done, s, h, hk, _ => rfl
  | l :: ls, done, s, h, hk, hl => by
    unfold bLets
    have h1 : ∃ s1, bMeet s (s.2.getD k 0 + 1) (nxt x (s.1.getD k []) l) = some s1 := by
      unfold bMeet
      split
      · exact ⟨_, rfl⟩
      · split
        · have := h.bound; omega
        · exact ⟨_, rfl⟩
    obtain ⟨s1, e1⟩ := h1
    obtain ⟨b1, b2, b3, b4⟩ := h.meet hv hk (hl l (by simp)) e1
    have := BI.lets_some (ls := ls) hv hb b1 b4 (fun l hl2 => hl l (by simp [hl2]))
    rw [b2, b3] at this
    rw [e1]; exact this
theorem BI.from_some {x : Puzzle} {tr : List Int} (hv : validPz x = true) (hb : (PM.allL (PM.pts x.points.toNat) tr.length).length < 3000) : ∀ {n k : Nat} {s : Met16}, BI x tr k [] s → (bFrom x n k s).isSome = true
  | 0, k, s, h => rfl
  | n + 1, k, s, h => by
    unfold bFrom
    split
    · rename_i hk
      obtain ⟨s1, e1⟩ := Option.isSome_iff_exists.1 (BI.lets_some hv hb h hk (fun l hl => hl))
      obtain ⟨done', c1, c2, c3, -⟩ := h.lets hv hk (fun l hl => hl) e1
      rw [e1]
      exact BI.from_some hv hb (c1.next c2 c3)
    · rfl
theorem bTab_some {x : Puzzle} {tr : List Int} (hv : validPz x = true) (ht : trackB x.points tr = true) (hb : (PM.allL (PM.pts x.points.toNat) tr.length).length < 3000) : ∃ t, bTab x tr = some t := by
  have h := BI.from_some hv hb (n := 3001) (BI.start (trackB_pat ht))
  obtain ⟨s, e⟩ := Option.isSome_iff_exists.1 h
  exact ⟨⟨tr, s.1, s.2⟩, by unfold bTab; rw [bfs16_yes (by rw [hv, ht]; rfl), e]; rfl⟩
end Go.Proofs.Ytoinaidncncdhaa

namespace Go.Proofs.Ytoinaidncncdhaa
open Go.RowKit
set_option maxRecDepth 10000

/-- what w6Tracked draws -/
def Trk (tr : List Int) : Prop := (∃ r : Int, 0 ≤ r ∧ r < 3 ∧ tr = [r]) ∨ (∃ r : Int, 0 ≤ r ∧ r < 2 ∧ tr = [r, 2])
theorem Trk.len {tr : List Int} (h : Trk tr) : 1 ≤ tr.length ∧ tr.length ≤ 2 := by
  rcases h with ⟨r, -, -, rfl⟩ | ⟨r, -, -, rfl⟩ <;> simp
theorem Trk.trackB {tr : List Int} {n : Int} (h : Trk tr) (hn : 3 ≤ n) : trackB n tr = true := by
  unfold Go.Proofs.Ytoinaidncncdhaa.trackB
  rw [Bool.and_eq_true, decide_eq_true_iff, decide_eq_true_iff]
  unfold Inc
  rcases h with ⟨r, h0, h1, rfl⟩ | ⟨r, h0, h1, rfl⟩
  · refine ⟨by simp, fun y hy => ?_, by simp⟩
    simp at hy; subst hy; omega
  · refine ⟨by simp, fun y hy => ?_, by simp; omega⟩
    simp at hy; rcases hy with rfl | rfl <;> omega
theorem allL_length {A : List Int} : ∀ k, (PM.allL A k).length = A.length ^ k
  | 0 => by simp [PM.allL]
  | k + 1 => by
    unfold PM.allL
    rw [List.length_flatMap]
    simp only [List.length_map]
    rw [List.map_const', List.sum_replicate_nat, allL_length k, Nat.pow_succ]
theorem drawn_tab {x : Puzzle} {tr : List Int} (hv : validPz x = true) (p3 : 3 ≤ x.points) (p5 : x.points ≤ 5) (h : Trk tr) : ∃ t, bTab x tr = some t ∧ Built x t ∧ t.tracked = tr := by
  have hl : (PM.pts x.points.toNat).length ≤ 5 := by simp [PM.pts]; omega
  have hb : (PM.allL (PM.pts x.points.toNat) tr.length).length < 3000 := by
    rw [allL_length]
    have h1 := Nat.pow_le_pow_left hl tr.length
    have h2 : 5 ^ tr.length ≤ 5 ^ 2 := Nat.pow_le_pow_right (by omega) h.len.2
    omega
  obtain ⟨t, ht⟩ := bTab_some hv (h.trackB p3) hb
  obtain ⟨h1, h2⟩ := bTab_built ht
  exact ⟨t, ht, h1, h2⟩
/-- what the region that builds the table leaves: the table's box, the flag, the dice -/
def VT (W wx : World) (g : Nat) (fc : List Nat) (l : List UInt8) (x : Puzzle) (s5 s6 : Value) : Prop :=
  ∃ gb t A1 A2 A3 C1 C2 C3 f, W.heap.size ≤ gb ∧ s5 = .pointer (some ⟨gb, 0, none⟩) ∧ s6 = .bool true ∧ Blk wx gb [.slice A1 t.tracked.length C1, .slice A2 t.patterns.length C2, .slice A3 t.distances.length C3] ∧
    Rp.rep wx [.slice A1 t.tracked.length C1, .slice A2 t.patterns.length C2, .slice A3 t.distances.length C3] t f ∧ Fresh W.heap.size wx f ∧ gb ∉ f ∧ Built x t ∧ Trk t.tracked ∧ Dice wx g fc l ∧ Only [g] W wx
theorem VT.of {W w6 : World} {g : Nat} {fc : List Nat} {l : List UInt8} {x : Puzzle} {t : Table} {gb : Nat} {A1 A2 A3 : Option Addr} {C1 C2 C3 : Nat} {f : List Nat} {cs : List Value}
    (hz : Blk w6 gb cs) (hcs : cs.length = 3) (hK : Only [g] W w6) (hr : Rp.rep w6 [.slice A1 t.tracked.length C1, .slice A2 t.patterns.length C2, .slice A3 t.distances.length C3] t f) (hF : Fresh W.heap.size w6 f) (hgf : gb ∉ f) (hW : W.heap.size ≤ gb)
    (hb : Built x t) (ht : Trk t.tracked) (hD : Dice w6 g fc l) (hg : g < W.heap.size) (hfc : ∀ b ∈ fc, b < W.heap.size) :
    VT W (((w6.setCell ⟨gb, 0, none⟩ (.slice A1 t.tracked.length C1)).setCell ⟨gb, 1, none⟩ (.slice A2 t.patterns.length C2)).setCell ⟨gb, 2, none⟩ (.slice A3 t.distances.length C3)) g fc l x (.pointer (some ⟨gb, 0, none⟩)) (.bool true) := by
  have ho : Only [gb] w6 (((w6.setCell ⟨gb, 0, none⟩ (.slice A1 t.tracked.length C1)).setCell ⟨gb, 1, none⟩ (.slice A2 t.patterns.length C2)).setCell ⟨gb, 2, none⟩ (.slice A3 t.distances.length C3)) := (((Only.refl _ _).setCell (by simp) _).setCell (by simp) _).setCell (by simp) _
  have hb2 := ((hz.set 0 (.slice A1 t.tracked.length C1)).set 1 (.slice A2 t.patterns.length C2)).set 2 (.slice A3 t.distances.length C3)
  have hnf : ∀ b ∈ f, b ∉ [gb] := fun b hm1 hm => by simp at hm; subst hm; exact hgf hm1
  refine ⟨gb, t, A1, A2, A3, C1, C2, C3, f, hW, rfl, rfl, ?_, Rp.only hr ho hnf, hF.only ho hnf, hgf, hb, ht, hD.only ho (by simp; omega) (fun b hm1 hm => by have := hfc b hm1; simp at hm; omega), hK.then_ ho (by intro b hm hl; simp at hm; omega)⟩
  obtain ⟨u0, u1, u2, rfl⟩ : ∃ u0 u1 u2, cs = [u0, u1, u2] := by
    match cs, hcs with
    | [u0, u1, u2], _ => exact ⟨u0, u1, u2, rfl⟩
  simpa only [List.set] using hb2
theorem VT.of2 {W w6 : World} {g : Nat} {fc : List Nat} {l : List UInt8} {x : Puzzle} {t : Table} {gb : Nat} {A1 A2 A3 : Option Addr} {C1 C2 C3 : Nat} {f : List Nat} {e : TypeId}
    (hK : Only [g] W w6) (hr : Rp.rep w6 [.slice A1 t.tracked.length C1, .slice A2 t.patterns.length C2, .slice A3 t.distances.length C3] t f) (hF : Fresh W.heap.size w6 f) (hg6 : gb = w6.heap.size)
    (hb : Built x t) (ht : Trk t.tracked) (hD : Dice w6 g fc l) :
    VT W (w6.alloc (.cells #[.slice A1 t.tracked.length C1, .slice A2 t.patterns.length C2, .slice A3 t.distances.length C3] e)) g fc l x (.pointer (some ⟨gb, 0, none⟩)) (.bool true) := by
  subst hg6
  have ho : Only [] w6 (w6.alloc (.cells #[.slice A1 t.tracked.length C1, .slice A2 t.patterns.length C2, .slice A3 t.distances.length C3] e)) := (Only.refl _ _).alloc _
  exact ⟨_, t, A1, A2, A3, C1, C2, C3, f, hK.size, rfl, rfl, Blk.new w6 _ e, Rp.keep hr ho, hF.keep ho, (fun hm => by have := hF.lt _ hm; omega), hb, ht, hD.keep ho, hK.keepThen ho⟩
end Go.Proofs.Ytoinaidncncdhaa

namespace Go.Proofs.Ytoinaidncncdhaa
open Go.RowKit
set_option maxRecDepth 10000

theorem Built.len {x : Puzzle} {t : Table} (h : Built x t) : t.distances.length = t.patterns.length := h.bi.dl
theorem Built.pos {x : Puzzle} {t : Table} (h : Built x t) : 1 ≤ t.patterns.length := h.bi.ne
/-- a drawn puzzle's table is small -/
theorem Built.small {x : Puzzle} {t : Table} (h : Built x t) (p5 : x.points ≤ 5) (hT : Trk t.tracked) : t.patterns.length ≤ 25 := by
  have h1 := h.bi.bound
  have hl : (PM.pts x.points.toNat).length ≤ 5 := by simp [PM.pts]; omega
  rw [allL_length] at h1
  have h2 := Nat.pow_le_pow_left hl t.tracked.length
  have h3 : 5 ^ t.tracked.length ≤ 5 ^ 2 := Nat.pow_le_pow_right (by omega) hT.len.2
  exact Nat.le_trans h1 (Nat.le_trans h2 h3)
theorem specBuildDrawn (cs : List Value) (x : Puzzle) (fp : List Nat) (v : Value) (tr : List Int) (ft : List Nat) (w : World) (h : Rp.rep w cs x fp) (hv : Rd w v tr ft) (hx : validPz x = true) (p3 : 3 ≤ x.points) (p5 : x.points ≤ 5) (hT : Trk tr) :
    Calls Try.prog 10 #[.agg cs.toArray, v] w fun e w' => ∃ A1 C1 A2 C2 A3 C3 t fp', e = .returned (.tuple #[.agg #[.slice A1 t.tracked.length C1, .slice A2 t.patterns.length C2, .slice A3 t.distances.length C3], .bool true]) ∧ bTab x tr = some t ∧ Built x t ∧ t.tracked = tr ∧ Rp.rep w' [.slice A1 t.tracked.length C1, .slice A2 t.patterns.length C2, .slice A3 t.distances.length C3] t fp' ∧ Fresh w.heap.size w' fp' ∧ Only [] w w' := by
  obtain ⟨t, ht, hb, htt⟩ := drawn_tab hx p3 p5 hT
  refine (specBuildTable_any cs x fp v tr ft w h hv (by have := hT.len; omega)).mono ?_
  rintro e w' ⟨cs', fp', rfl, r, F, K⟩
  rw [ht] at r
  simp only [Option.getD_some] at r
  have r0 := r
  obtain ⟨u1, u2, u3, e1, e2, e3, rfl, -, s1, s2, s3⟩ := r
  obtain ⟨A1, C1, _, _, rfl, -⟩ := s1.open_
  obtain ⟨A2, C2, _, _, rfl, -⟩ := s2.open_
  obtain ⟨A3, C3, _, _, rfl, -⟩ := s3.open_
  exact ⟨A1, C1, A2, C2, A3, C3, t, fp', by rw [ht]; rfl, ht, hb, htt, r0, F, K⟩
end Go.Proofs.Ytoinaidncncdhaa


namespace Go.Proofs.Ytoinaidncncdhaa
open Go.RowKit
set_option maxRecDepth 10000

theorem nextI_first {x : Puzzle} {t : Table} {p : List Int} {l : Int} (hc : checkT x t = true) (hp : patB x.points t.tracked.length p = true) (hl : l ∈ ltrs x.moves.length) :
    firstG t.patterns (kB (nxt x p l)) = if 0 ≤ nextI x t p l then some (nextI x t p l) else none := by
  obtain ⟨hv, hw, ht, hps⟩ := checkT_iff.1 hc
  obtain ⟨g1, g2, g3, g4⟩ := validPz_facts hv
  exact firstG_idx (fun q hq => patB_byt (hps q hq) (by omega)) (patB_byt (nxt_pat hv hp hl) (by omega))
/-- the distance behind a letter, and whether there is one -/
def toI (t : Table) (n : Int) : Int := if 0 ≤ n then atD t n else 0
def toB (n : Int) : Bool := decide (0 ≤ n)
theorem toI_no {t : Table} {n : Int} (h : n < 0) : toI t n = 0 := by unfold toI; rw [if_neg (by omega)]
theorem toI_yes {t : Table} {n : Int} (h : 0 ≤ n) : toI t n = atD t n := by unfold toI; rw [if_pos h]
theorem toB_no {n : Int} (h : n < 0) : toB n = false := decide_eq_false (by omega)
theorem toB_yes {n : Int} (h : 0 ≤ n) : toB n = true := decide_eq_true h
set_option maxHeartbeats 4000000 in
theorem to_any (g : Nat) (x : Puzzle) (t : Table) (v : Value) (p : List Int) (fp : List Nat) (k : Nat) (w : World) (hP : Prf w g x t) (h : Rd w v p fp) (hc : checkT x t = true) (hp : patB x.points t.tracked.length p = true) (hk : k < (ltrs x.moves.length).length) :
    Calls Try.prog 82 #[.pointer (some ⟨g, 0, none⟩), v, .int .i64 k] w fun e w' => e = .returned (.tuple #[.int .i64 (toI t (nextI x t p (ltrs x.moves.length)[k])), .bool (toB (nextI x t p (ltrs x.moves.length)[k]))]) ∧ Only [] w w' := by
  obtain ⟨hv, hw, ht, hps⟩ := checkT_iff.1 hc
  have hwf := wfT_iff.1 hw
  obtain ⟨g1, g2, g3, g4⟩ := validPz_facts hv
  have hla := List.getElem_mem hk
  have hfirst := nextI_first hc hp hla
  obtain ⟨hn0, hn1⟩ := (show -1 ≤ nextI x t p (ltrs x.moves.length)[k] ∧ nextI x t p (ltrs x.moves.length)[k] < t.patterns.length from idxL_lt)
  have hpn := mv_pn (validPz_pn hv) hla
  obtain ⟨hpl, hpr, -⟩ := patB_iff.1 hp
  have htl := inc_len_le2 ht
  have hnx : nxt x p (ltrs x.moves.length)[k] = PM.comp p (mv x.moves (ltrs x.moves.length)[k]) := rfl
  rw [hnx] at hfirst
  obtain ⟨n, hn⟩ : ∃ n, n = nextI x t p (ltrs x.moves.length)[k] := ⟨_, rfl⟩
  rw [← hn] at hfirst hn0 hn1 ⊢
  obtain ⟨v0, v1, v2, vl, vm, M, f0, f1, f2, fl, fm, km, hB, r0, r1, r2, rl, rm, hM⟩ := hP
  obtain ⟨Am, Cm, obm, fpm, rfl, -, hsm⟩ := rm.open_
  obtain ⟨A2, C2, rfl, I2⟩ := r2.ints
  have hkm : k < ((ltrs x.moves.length).map (mv x.moves)).length := by rw [List.length_map]; exact hk
  obtain ⟨bm, om, um, rfl, -, hcm, hum⟩ := hsm.atRow k hkm
  rw [List.getElem_map] at hum
  have d5 := hB.cell 5 rfl
  have d4 := hB.cell 4 rfl
  have d2 := hB.cell 2 rfl
  have hk1 : (0 : Int) ≤ (k : Int) := by omega
  have hk2 : (k : Int) < (((ltrs x.moves.length).map (mv x.moves)).length : Int) := by omega
  have hk3 : (k : Int) < ((ltrs x.moves.length).length : Int) := by omega
  have hrg : ∀ y ∈ p, 0 ≤ y ∧ y < ((mv x.moves (ltrs x.moves.length)[k]).length : Int) := fun y hy => by have := hpr y hy; have := hpn.1; omega
  have Hrg := Lib.hid hrg
  have hpl2 : p.length ≤ 1000 := by omega
  have hcl : (PM.comp p (mv x.moves (ltrs x.moves.length)[k])).length ≤ 1000 := by rw [PM.comp_len]; exact hpl2
  have hks : (kB (PM.comp p (mv x.moves (ltrs x.moves.length)[k]))).size ≤ maxLen := by rw [kB_size]; unfold maxLen; omega
  have Hcl := Lib.hid hcl
  have Hks := Lib.hid hks
  clear hn hnx hrg hcl hks hpl htl hwf hpn
  by_cases hneg : n < 0
  · rw [if_neg (by omega)] at hfirst
    have Hf := Lib.hid hfirst
    have hres := toB_no hneg
    have Hres := Lib.hid hres
    have Hneg := Lib.hid hneg
    clear hfirst hres hn0 hn1 hneg
    go_enter Try.func82, Try.ntmps82
    go_wp2
    go_region_held3 (fun w' => Only [] w w' ∧ w'.cell? ⟨g, 5, none⟩ = some (.map (some M)) ∧ w'.cell? ⟨g, 4, none⟩ = some (.slice (some ⟨bm, om, none⟩) ((ltrs x.moves.length).map (mv x.moves)).length Cm) ∧ w'.cell? ⟨bm, om + k, none⟩ = some (um)) (((refine and_of ?_ (fun h__ => ⟨h__.cell (by simp) d5, h__.cell (by simp) d4, h__.cell (by simp) hcm⟩)); first | exact (Only.refl _ _).drew | exact ((Only.refl _ _).drewN _).drew | exact Only.trans (And.left (by assumption)) (by assumption) | exact Only.alloc (And.left (by assumption)) _ | assumption)) (first | (go_at_call 41; (with_reducible refine (picked_rd um v (mv x.moves (ltrs x.moves.length)[k]) p _ _ _ (Rp.keep hum (And.left (by assumption))) (Rp.keep h (And.left (by assumption))) Hrg.out hpl2).mono ?_); rintro e w5 ⟨u5, f5, rfl, r5, F5, t5⟩; have hO5 := Only.trans (And.left (by assumption)) t5; have hM5 := hM.keep hO5) | (go_at_call 57; (with_reducible refine (stateKey_rd u5 (PM.comp p (mv x.moves (ltrs x.moves.length)[k])) _ _ r5 Hcl.out).mono ?_); rintro e w6 ⟨rfl, t6⟩; have hO6 := hO5.trans t6; have hrun6 := (hM.keep hO6).run_no Hks.out Hf.out) | fail "no arm")
    go_wp2
    refine bodyPost_ret (v := .tuple #[.int .i64 0, .bool false]) (by simp [results, Try.results82, go_sem]) rfl ⟨by rw [Hres.out, toI_no Hneg.out], (by with_reducible repeat (first | exact Only.refl _ _ | assumption | refine Only.drewN ?_ _ | refine Only.drew ?_ | refine Only.alloc ?_ _ | refine Only.setCell ?_ (by intro hh; exfalso; simp at hh; try omega) _ | refine Only.trans ?_ (by assumption)))⟩
  · rw [if_pos (by omega)] at hfirst
    have Hf := Lib.hid hfirst
    have hres := toB_yes (n := n) (by omega)
    have Hres := Lib.hid hres
    have hdl : t.distances.length = t.patterns.length := (wfT_iff.1 hw).2.2.1
    have hnl : n.toNat < t.distances.length := by omega
    have hnl' : n < (t.distances.length : Int) := by omega
    have hn0' : 0 ≤ n := by omega
    have hat := atD_of (t := t) (j := n) (i := n.toNat) (by omega) hnl
    have Hat := Lib.hid hat
    obtain ⟨b2, o2, rfl, -, hdd⟩ := I2.at_ n.toNat hnl
    clear hfirst hres hat hn0 hn1 hneg hdl
    go_enter Try.func82, Try.ntmps82
    go_wp2
    go_region_held3 (fun w' => Only [] w w' ∧ w'.cell? ⟨g, 5, none⟩ = some (.map (some M)) ∧ w'.cell? ⟨g, 4, none⟩ = some (.slice (some ⟨bm, om, none⟩) ((ltrs x.moves.length).map (mv x.moves)).length Cm) ∧ w'.cell? ⟨bm, om + k, none⟩ = some (um)) (((refine and_of ?_ (fun h__ => ⟨h__.cell (by simp) d5, h__.cell (by simp) d4, h__.cell (by simp) hcm⟩)); first | exact (Only.refl _ _).drew | exact ((Only.refl _ _).drewN _).drew | exact Only.trans (And.left (by assumption)) (by assumption) | exact Only.alloc (And.left (by assumption)) _ | assumption)) (first | (go_at_call 41; (with_reducible refine (picked_rd um v (mv x.moves (ltrs x.moves.length)[k]) p _ _ _ (Rp.keep hum (And.left (by assumption))) (Rp.keep h (And.left (by assumption))) Hrg.out hpl2).mono ?_); rintro e w5 ⟨u5, f5, rfl, r5, F5, t5⟩; have hO5 := Only.trans (And.left (by assumption)) t5; have hM5 := hM.keep hO5) | (go_at_call 57; (with_reducible refine (stateKey_rd u5 (PM.comp p (mv x.moves (ltrs x.moves.length)[k])) _ _ r5 Hcl.out).mono ?_); rintro e w6 ⟨rfl, t6⟩; have hO6 := hO5.trans t6; have hrun6 := (hM.keep hO6).run_yes Hks.out Hf.out; have d26 := hO6.cell (by simp) d2; have hdd6 := hO6.cell (by simp) hdd) | fail "no arm")
    go_wp2
    refine bodyPost_ret (v := .tuple #[.int .i64 t.distances[n.toNat], .bool true]) (by simp [results, Try.results82, go_sem]) rfl ⟨by rw [Hres.out, toI_yes hn0', Hat.out], (by with_reducible repeat (first | exact Only.refl _ _ | assumption | refine Only.drewN ?_ _ | refine Only.drew ?_ | refine Only.alloc ?_ _ | refine Only.setCell ?_ (by intro hh; exfalso; simp at hh; try omega) _ | refine Only.trans ?_ (by assumption)))⟩
end Go.Proofs.Ytoinaidncncdhaa

namespace Go.Proofs.Ytoinaidncncdhaa
open Go.RowKit
set_option maxRecDepth 10000
theorem leads_iff {x : Puzzle} {t : Table} {p : List Int} {d l : Int} : leads x t p d l = true ↔ 0 ≤ nextI x t p l ∧ t.distances.getD (nextI x t p l).toNat 0 = d := by simp [leads]
end Go.Proofs.Ytoinaidncncdhaa

namespace Go.Proofs.Ytoinaidncncdhaa
open Go.RowKit
set_option maxRecDepth 10000

theorem Try.infoFault : (Try.prog.info? 73).map (fun i => (i.zero, i.size, i.bytes)) = some (some (.agg #[.int .i64 0, .int .i64 0, .int .i64 0]), 3, 24) := by kernel_rfl
/-- the faults so far, beside the call's own blocks of G -/
def FR (w : World) (G : List Nat) (W wx : World) (v : Value) (L : List Fault) : Prop := AccK w (w.heap.size + 2) 73 G W wx v L
theorem FR.keep {w W wx wy : World} {G : List Nat} {v : Value} {L : List Fault} (h : FR w G W wx v L) (ho : Only [] wx wy) : FR w G W wy v L := AccK.keep h ho
theorem FR.only {w W wx : World} {G : List Nat} {v : Value} {L : List Fault} (h : FR w G W wx v L) : Only [] w wx := AccK.only h
theorem FR.cell {w W wx : World} {G : List Nat} {v : Value} {L : List Fault} (h : FR w G W wx v L) {p : Addr} {u : Value} (hc : W.cell? p = some u) (hs : p.block ∈ G) : wx.cell? p = some u := AccK.cell h hc hs
theorem one_true (f : Fault) : one true f = [f] := rfl
theorem one_false (f : Fault) : one false f = [] := rfl
theorem letF_miss {x : Puzzle} {t : Table} {i : Nat} {l : Int} (h : nextI x t (atP t i) l < 0) : letF x t i l = [⟨4, i, l⟩] := by unfold letF; rw [if_pos h]
theorem letF_ok {x : Puzzle} {t : Table} {i : Nat} {l : Int} (h : ¬ nextI x t (atP t i) l < 0) (h2 : inR (atD t (nextI x t (atP t i) l) - atD t i) (-1) 1 = true) : letF x t i l = [] := by unfold letF; rw [if_neg h, if_pos h2]
theorem letF_jump {x : Puzzle} {t : Table} {i : Nat} {l : Int} (h : ¬ nextI x t (atP t i) l < 0) (h2 : inR (atD t (nextI x t (atP t i) l) - atD t i) (-1) 1 = false) : letF x t i l = [⟨5, i, l⟩] := by unfold letF; rw [if_neg h, if_neg (by simp [h2])]
theorem flat_take_succ {α β : Type} (f : α → List β) (l : List α) (j : Nat) (h : j < l.length) : (l.take (j + 1)).flatMap f = (l.take j).flatMap f ++ f l[j] := by
  rw [take_succ_get l j h, List.flatMap_append]; simp only [List.flatMap_cons, List.flatMap_nil, List.append_nil]

end Go.Proofs.Ytoinaidncncdhaa
