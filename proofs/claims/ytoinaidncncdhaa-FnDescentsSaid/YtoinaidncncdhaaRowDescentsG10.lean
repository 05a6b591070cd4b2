/- Tables without faults: the built ones, and no others with the same patterns (laws 10, 11, 26). Descents in a table that was built; a search of few patterns ends (laws 10, 11). The laws' drawn puzzle and its built table (laws 10, 11). The reference's table of a drawn puzzle (laws 10, 11). The program's proof of a table: where a letter leads, the faults of an entry. (Written by mkprf2.py.) The program's DescentLetter. (Written by mkdesc.py.) The reference's tables: where a letter leads, the first letter of a descent. The reference's DescentLetter. (Written by mkdesc.py.) The reference's faults of an entry. (Written by mkspecent.py.) Faults in plain words: lists of them in memory; descents. -/
import Derived.Test.YtoinaidncncdhaaRowDescentsG9
import Derived.Test.YtoinaidncncdhaaRowDescentsG6
import Derived.Deep.DeepCutAuto
import Derived.Test.YtoinaidncncdhaaRowDescentsG8
import Derived.Test.YtoinaidncncdhaaRowDescentsG1
namespace Go.Proofs.Ytoinaidncncdhaa
open Go.RowKit
set_option maxRecDepth 10000

def Good (x : Puzzle) (t : Table) : Prop := ∀ i, i < t.patterns.length → entF x t i = []
theorem one_nil {b : Bool} {f : Fault} : one b f = [] ↔ b = false := by unfold one; cases b <;> simp
theorem descL_leads {x : Puzzle} {t : Table} {p : List Int} {d : Int} (h : descL x t p d ≠ 0) : descL x t p d ∈ ltrs x.moves.length ∧ leads x t p d (descL x t p d) = true := by
  unfold descL at h ⊢
  cases hf : (ltrs x.moves.length).find? (leads x t p d) with
  | none => rw [hf] at h; exact absurd rfl h
  | some l => exact ⟨List.mem_of_find?_eq_some hf, List.find?_some hf⟩
theorem descL_ne {x : Puzzle} {t : Table} {p : List Int} {d : Int} {l : Int} (hl : l ∈ ltrs x.moves.length) (h : leads x t p d l = true) : descL x t p d ≠ 0 := by
  unfold descL
  cases hf : (ltrs x.moves.length).find? (leads x t p d) with
  | none => have := List.find?_eq_none.1 hf l hl; rw [h] at this; exact absurd rfl this
  | some l' => exact (mem_ltrs.1 (List.mem_of_find?_eq_some hf)).1
theorem leads_iffD {x : Puzzle} {t : Table} {p : List Int} {d l : Int} : leads x t p d l = true ↔ 0 ≤ nextI x t p l ∧ atD t (nextI x t p l) = d := by
  unfold leads atD
  rw [Bool.and_eq_true, decide_eq_true_iff, decide_eq_true_iff]
section
variable {x : Puzzle} {t t' : Table}
/-- what an entry without faults says -/
theorem ent_nil {i : Nat} : entF x t i = [] ↔ (i = 0 → atD t 0 = 0 ∧ atP t 0 = t.tracked) ∧ (i : Int) ≤ idxL t.patterns (atP t i) ∧ (0 < i → atD t i ≠ 0) ∧
    (∀ l ∈ ltrs x.moves.length, 0 ≤ nextI x t (atP t i) l ∧ -1 ≤ atD t (nextI x t (atP t i) l) - atD t i ∧ atD t (nextI x t (atP t i) l) - atD t i ≤ 1) ∧ (0 < atD t i → descL x t (atP t i) (atD t i - 1) ≠ 0) := by
  unfold entF
  rw [List.append_eq_nil_iff, List.append_eq_nil_iff, List.append_eq_nil_iff, List.append_eq_nil_iff, one_nil, one_nil, one_nil, one_nil, List.flatMap_eq_nil_iff]
  have hl : ∀ l, letF x t i l = [] ↔ 0 ≤ nextI x t (atP t i) l ∧ -1 ≤ atD t (nextI x t (atP t i) l) - atD t i ∧ atD t (nextI x t (atP t i) l) - atD t i ≤ 1 := fun l => by
    unfold letF
    split
    · rename_i h; simp; omega
    · rename_i h
      split
      · rename_i h2; rw [inR_iff] at h2; simp; omega
      · rename_i h2; rw [inR_iff] at h2; simp; omega
  constructor
  · rintro ⟨a, b, c, d, e⟩
    refine ⟨fun h0 => ?_, ?_, fun h0 => ?_, fun l h => (hl l).1 (d l h), fun h0 h1 => ?_⟩
    · subst h0
      simp only [decide_true, Bool.true_and, Bool.or_eq_false_iff, decide_eq_false_iff_not] at a
      exact ⟨Decidable.of_not_not a.1, Decidable.of_not_not a.2⟩
    · have := of_decide_eq_false b; omega
    · intro h1; simp [h0, h1] at c
    · simp [h0, h1] at e
  · rintro ⟨a, b, c, d, e⟩
    refine ⟨?_, decide_eq_false (by omega), ?_, fun l h => (hl l).2 (d l h), ?_⟩
    · by_cases h0 : i = 0
      · subst h0; obtain ⟨a1, a2⟩ := a rfl
        simp [a1, a2]
      · simp [h0]
    · by_cases h0 : 0 < i
      · simp [h0, c h0]
      · simp [h0]
    · by_cases h0 : 0 < atD t i
      · simp [e h0]
      · simp [h0]
theorem atD_nat (i : Nat) : atD t i = t.distances.getD i 0 := by unfold atD; rw [Int.toNat_natCast]
theorem Built.good (h : Built x t) : Good x t := by
  intro i hi
  have hstep : ∀ l ∈ ltrs x.moves.length, ∃ i' : Nat, i' < t.patterns.length ∧ t.patterns.getD i' [] = nxt x (atP t i) l ∧ nextI x t (atP t i) l = i' ∧ atD t i' ≤ atD t i + 1 ∧ atD t i ≤ atD t i' + 1 := fun l hl => by
    obtain ⟨i', a1, a2, a3, a4⟩ := h.step hi hl
    refine ⟨i', a1, a2, ?_, by rw [atD_nat, atD_nat]; exact a3, by rw [atD_nat, atD_nat]; exact a4⟩
    show idxL t.patterns (nxt x (t.patterns.getD i []) l) = i'
    rw [← a2]; exact h.idx a1
  refine ent_nil.2 ⟨fun h0 => ?_, ?_, fun h0 => ?_, fun l hl => ?_, fun h0 => ?_⟩
  · have a := h.bi.d0; have b := h.bi.p0
    simp only at a b
    exact ⟨a, b⟩
  · rw [show atP t i = t.patterns.getD i [] from rfl, h.idx hi]; exact Int.le_refl _
  · have := (h.dep i hi).2.2 h0
    rw [atD_nat]; omega
  · obtain ⟨i', a1, a2, a3, a4, a5⟩ := hstep l hl
    rw [a3]; omega
  · have hi0 : 0 < i := by
      rcases Nat.eq_zero_or_pos i with h1 | h1
      · subst h1
        have := h.bi.d0
        simp only at this
        rw [atD_nat, this] at h0; omega
      · exact h1
    obtain ⟨j, l, a1, a2, a3, a4⟩ := h.bi.par i hi0 hi
    simp only at a3 a4
    have hj : j < t.patterns.length := by omega
    have hjm : t.patterns.getD j [] ∈ t.patterns := by rw [getD_get hj]; exact List.getElem_mem hj
    have hb : nxt x (atP t i) (-l) = t.patterns.getD j [] := by
      rw [show atP t i = t.patterns.getD i [] from rfl, ← a3]
      exact nxt_back h.v (h.bi.pat _ hjm) a2
    refine descL_ne (ltrs_neg a2) (leads_iffD.2 ?_)
    have hn : nextI x t (atP t i) (-l) = j := by
      show idxL t.patterns (nxt x (atP t i) (-l)) = j
      rw [hb]; exact h.idx hj
    rw [hn, atD_nat, atD_nat]
    omega
theorem Built.check (h : Built x t) : checkT x t = true := by
  obtain ⟨h1, h2, h3, h4⟩ := validPz_facts h.v
  have h5 := trackB_iff.1 h.tk
  have hd := h.bi.dl
  simp only at hd
  have h20 : ∀ p, patB x.points t.tracked.length p = true → patB 20 t.tracked.length p = true := fun p hp => by
    obtain ⟨a, b, c⟩ := patB_iff.1 hp
    exact patB_iff.2 ⟨a, fun y hy => by have := b y hy; omega, c⟩
  refine checkT_iff.2 ⟨h.v, wfT_iff.2 ⟨trackB_iff.2 ⟨h5.1, fun y hy => by have := h5.2.1 y hy; omega, h5.2.2⟩, ⟨?_, ?_⟩, hd, fun p hp => h20 p (h.bi.pat p hp), fun d hdm => ?_⟩, h.tk, h.bi.pat⟩
  · have := h.bi.ne; simp only at this; omega
  · have := h.ll; omega
  · obtain ⟨i, hi, rfl⟩ := List.getElem_of_mem hdm
    have hil : i < t.patterns.length := by omega
    have := h.dep i hil
    rw [getD_get hi] at this
    have := h.ll
    rw [inR_iff]; omega
theorem Good.dist0 (_ : Good x t) (hc : checkT x t = true) : ∀ i : Nat, i < t.patterns.length → 0 ≤ atD t i := fun i hi => by
  have hw := wfT_iff.1 (checkT_iff.1 hc).2.1
  have hi' : i < t.distances.length := by omega
  rw [atD_nat, getD_get hi']
  have := inR_iff.1 (hw.2.2.2.2 _ (List.getElem_mem hi')); omega
/-- two tables without faults, with the same patterns, have the same distances: one half -/
theorem Good.le (h : Good x t) (hc : checkT x t = true) (h' : Good x t') (hc' : checkT x t' = true) (hp : t'.patterns = t.patterns) : ∀ (n : Nat) (i : Nat), i < t.patterns.length → atD t i = n → atD t' i ≤ n
  | 0, i, hi, hd => by
    have e := ent_nil.1 (h i hi)
    have e' := ent_nil.1 (h' i (by rw [hp]; exact hi))
    have h0 : i = 0 := by
      rcases Nat.eq_zero_or_pos i with h1 | h1
      · exact h1
      · exact absurd (by simpa using hd) (e.2.2.1 h1)
    subst h0
    have := (e'.1 rfl).1
    have e0 : atD t' ((0 : Nat) : Int) = 0 := this
    rw [e0]; exact Int.le_refl _
  | n + 1, i, hi, hd => by
    have e := ent_nil.1 (h i hi)
    have e' := ent_nil.1 (h' i (by rw [hp]; exact hi))
    have hne := e.2.2.2.2 (by rw [hd]; omega)
    obtain ⟨hl, hlead⟩ := descL_leads hne
    obtain ⟨a1, a2⟩ := leads_iffD.1 hlead
    obtain ⟨b1, b2, b3⟩ := e'.2.2.2.1 _ hl
    have hn : nextI x t' (atP t' i) (descL x t (atP t i) (atD t i - 1)) = nextI x t (atP t i) (descL x t (atP t i) (atD t i - 1)) := by
      unfold nextI atP; rw [hp]
    have hlt := (idxL_lt (l := t.patterns) (p := nxt x (atP t i) (descL x t (atP t i) (atD t i - 1)))).2
    obtain ⟨j, hj⟩ : ∃ j : Nat, nextI x t (atP t i) (descL x t (atP t i) (atD t i - 1)) = j := ⟨_, (Int.toNat_of_nonneg a1).symm⟩
    have hjl : j < t.patterns.length := by unfold nextI at hj; omega
    rw [hn, hj] at b2 b3
    rw [hj] at a2
    have := Good.le h hc h' hc' hp n j hjl (by rw [a2, hd]; omega)
    omega
theorem Good.same (h : Good x t) (hc : checkT x t = true) (h' : Good x t') (hc' : checkT x t' = true) (hp : t'.patterns = t.patterns) {i : Nat} (hi : i < t.patterns.length) : atD t i = atD t' i := by
  have h1 := h.dist0 hc i hi
  have h2 := h'.dist0 hc' i (by rw [hp]; exact hi)
  have a := Good.le h hc h' hc' hp (atD t i).toNat i hi (by omega)
  have b := Good.le h' hc' h hc hp.symm (atD t' i).toNat i (by rw [hp]; exact hi) (by omega)
  omega
end
end Go.Proofs.Ytoinaidncncdhaa

namespace Go.Proofs.Ytoinaidncncdhaa
open Go.RowKit
set_option maxRecDepth 10000

section
variable {x : Puzzle} {t : Table}
theorem idxL_getD {l : List (List Int)} {p : List Int} (h : 0 ≤ idxL l p) : l.getD (idxL l p).toNat [] = p := by
  rcases idxF_nonneg_or (fun q => decide (q = p)) l with h1 | ⟨k, hk, h1, h2⟩
  · unfold idxL at h; omega
  · unfold idxL
    rw [h1, Int.toNat_natCast, getD_get hk]
    exact of_decide_eq_true h2
theorem Built.root (h : Built x t) {i : Nat} (hi : i < t.patterns.length) : t.patterns.getD i [] = t.tracked ↔ i = 0 := by
  have h0 : t.patterns.getD 0 [] = t.tracked := h.bi.p0
  constructor
  · intro e
    rw [← h0, getD_get hi, getD_get (by omega)] at e
    have hnd : t.patterns.Nodup := h.bi.nd
    exact nodup_at hnd hi (by omega) e
  · rintro rfl; exact h0
theorem Built.dLet_ (h : Built x t) {i : Nat} (hi : i < t.patterns.length) : dLet x t (t.patterns.getD i []) = descL x t (t.patterns.getD i []) (atD t i - 1) := by
  have hx := h.idx hi
  rw [dLet_yes h.check (by rw [hx]; omega), hx]
theorem Built.word (h : Built x t) : ∀ (n m i : Nat), i < t.patterns.length → atD t i = n → n ≤ m →
    ∃ w, dW x t m (t.patterns.getD i []) = some w ∧ w.length = n ∧ (∀ l ∈ w, l ∈ ltrs x.moves.length) ∧ w.foldl (nxt x) (t.patterns.getD i []) = t.tracked
  | 0, m, i, hi, hd, hm => by
    have h0 : i = 0 := by
      rcases Nat.eq_zero_or_pos i with h1 | h1
      · exact h1
      · have := (h.dep i hi).2.2 h1
        rw [atD_nat] at hd; omega
    have hr := (h.root hi).2 h0
    refine ⟨[], ?_, rfl, by simp, hr⟩
    cases m <;> (unfold dW; rw [if_pos hr])
  | n + 1, 0, i, hi, hd, hm => by omega
  | n + 1, m + 1, i, hi, hd, hm => by
    have hr : t.patterns.getD i [] ≠ t.tracked := fun e => by
      have := (h.root hi).1 e
      subst this
      have h0 : t.distances.getD 0 0 = 0 := h.bi.d0
      rw [atD_nat, h0] at hd; omega
    have hg := ent_nil.1 (h.good i hi)
    have hne : descL x t (t.patterns.getD i []) (atD t i - 1) ≠ 0 := hg.2.2.2.2 (by rw [hd]; omega)
    obtain ⟨hl, hlead⟩ := descL_leads hne
    obtain ⟨a1, a2⟩ := leads_iffD.1 hlead
    rw [← h.dLet_ hi] at hl a1 a2 hne
    have hj : t.patterns.getD (nextI x t (t.patterns.getD i []) (dLet x t (t.patterns.getD i []))).toNat [] = nxt x (t.patterns.getD i []) (dLet x t (t.patterns.getD i [])) := idxL_getD a1
    have hlt := (idxL_lt (l := t.patterns) (p := nxt x (t.patterns.getD i []) (dLet x t (t.patterns.getD i [])))).2
    obtain ⟨j, hjj⟩ : ∃ j : Nat, nextI x t (t.patterns.getD i []) (dLet x t (t.patterns.getD i [])) = j := ⟨_, (Int.toNat_of_nonneg a1).symm⟩
    rw [hjj] at a2 hj
    rw [Int.toNat_natCast] at hj
    have hjl : j < t.patterns.length := by unfold nextI at hjj; omega
    obtain ⟨w, b1, b2, b3, b4⟩ := Built.word h n m j hjl (by rw [a2, hd]; omega) (by omega)
    refine ⟨dLet x t (t.patterns.getD i []) :: w, ?_, by simp [b2], ?_, ?_⟩
    · show (if _ then _ else _) = _
      rw [if_neg hr, if_neg hne, ← hj, b1]; rfl
    · intro l hl2
      rcases List.mem_cons.1 hl2 with rfl | hl2
      · exact hl
      · exact b3 l hl2
    · rw [List.foldl_cons, ← hj]; exact b4
theorem Built.dWord_ (h : Built x t) {i : Nat} (hi : i < t.patterns.length) (hd : atD t i ≤ 200) :
    ∃ w, dWord x t (t.patterns.getD i []) = some w ∧ (w.length : Int) = atD t i ∧ (∀ l ∈ w, l ∈ ltrs x.moves.length) ∧ w.foldl (nxt x) (t.patterns.getD i []) = t.tracked := by
  have h0 := (h.dep i hi).1
  rw [← atD_nat] at h0
  obtain ⟨w, a1, a2, a3, a4⟩ := h.word (atD t i).toNat 200 i hi (by omega) (by omega)
  refine ⟨w, ?_, by omega, a3, a4⟩
  unfold dWord
  rw [if_pos ⟨h.check, by rw [h.idx hi]; omega⟩]
  exact a1
theorem Built.letter (h : Built x t) {i : Nat} (hi : i < t.patterns.length) : dLet x t (t.patterns.getD i []) = 0 ↔ atD t i = 0 := by
  have h0 := (h.dep i hi).1
  rw [← atD_nat] at h0
  rw [h.dLet_ hi]
  have hg := ent_nil.1 (h.good i hi)
  constructor
  · intro e
    rcases Int.lt_or_le 0 (atD t i) with h1 | h1
    · exact absurd e (hg.2.2.2.2 h1)
    · omega
  · intro e
    rcases Decidable.em (descL x t (t.patterns.getD i []) (atD t i - 1) = 0) with h1 | h1
    · exact h1
    · obtain ⟨-, hlead⟩ := descL_leads h1
      obtain ⟨a1, a2⟩ := leads_iffD.1 hlead
      have hlt := (idxL_lt (l := t.patterns) (p := nxt x (t.patterns.getD i []) (descL x t (t.patterns.getD i []) (atD t i - 1)))).2
      obtain ⟨j, hj⟩ : ∃ j : Nat, nextI x t (t.patterns.getD i []) (descL x t (t.patterns.getD i []) (atD t i - 1)) = j := ⟨_, (Int.toNat_of_nonneg a1).symm⟩
      have hjl : j < t.patterns.length := by unfold nextI at hj; omega
      rw [hj, atD_nat] at a2
      have := (h.dep j hjl).1
      omega
end
/-- so many patterns at most -/
theorem BI.bound {x : Puzzle} {tr : List Int} {k : Nat} {done : List Int} {s : Met16} (h : BI x tr k done s) : s.1.length ≤ (PM.allL (PM.pts x.points.toNat) tr.length).length := by
  refine PM.nodup_sub_len h.nd fun q hq => ?_
  obtain ⟨a, b, -⟩ := patB_iff.1 (h.pat q hq)
  rw [← a]
  exact PM.mem_allL q fun y hy => PM.mem_pts.2 (by have := b y hy; omega)
theorem BI.lets_some {x : Puzzle} {tr : List Int} {k : Nat} (hv : validPz x = true) (hb : (PM.allL (PM.pts x.points.toNat) tr.length).length < 3000) : ∀ {ls done : List Int} {s : Met16}, BI x tr k done s → k < s.1.length → (∀ l ∈ ls, l ∈ ltrs x.moves.length) → (bLets x (s.1.getD k []) (s.2.getD k 0 + 1) ls s).isSome = true
  | [], done, s, h, hk, _ => rfl
  | l :: ls, done, s, h, hk, hl => by
    unfold bLets
    have h1 : ∃ s1, bMeet s (s.2.getD k 0 + 1) (nxt x (s.1.getD k []) l) = some s1 := by
      unfold bMeet
      split
      · exact ⟨_, rfl⟩
      · split
        · have := h.bound; omega
        · exact ⟨_, rfl⟩
    obtain ⟨s1, e1⟩ := h1
    obtain ⟨b1, b2, b3, b4⟩ := h.meet hv hk (hl l (by simp)) e1
    have := BI.lets_some (ls := ls) hv hb b1 b4 (fun l hl2 => hl l (by simp [hl2]))
    rw [b2, b3] at this
    rw [e1]; exact this
theorem BI.from_some {x : Puzzle} {tr : List Int} (hv : validPz x = true) (hb : (PM.allL (PM.pts x.points.toNat) tr.length).length < 3000) : ∀ {n k : Nat} {s : Met16}, BI x tr k [] s → (bFrom x n k s).isSome = true
  | 0, k, s, h => rfl
  | n + 1, k, s, h => by
    unfold bFrom
    split
    · rename_i hk
      obtain ⟨s1, e1⟩ := Option.isSome_iff_exists.1 (BI.lets_some hv hb h hk (fun l hl => hl))
      obtain ⟨done', c1, c2, c3, -⟩ := h.lets hv hk (fun l hl => hl) e1
      rw [e1]
      exact BI.from_some hv hb (c1.next c2 c3)
    · rfl
theorem bTab_some {x : Puzzle} {tr : List Int} (hv : validPz x = true) (ht : trackB x.points tr = true) (hb : (PM.allL (PM.pts x.points.toNat) tr.length).length < 3000) : ∃ t, bTab x tr = some t := by
  have h := BI.from_some hv hb (n := 3001) (BI.start (trackB_pat ht))
  obtain ⟨s, e⟩ := Option.isSome_iff_exists.1 h
  exact ⟨⟨tr, s.1, s.2⟩, by unfold bTab; rw [bfs16_yes (by rw [hv, ht]; rfl), e]; rfl⟩
end Go.Proofs.Ytoinaidncncdhaa

namespace Go.Proofs.Ytoinaidncncdhaa
open Go.RowKit
set_option maxRecDepth 10000

/-- what w6Tracked draws -/
def Trk (tr : List Int) : Prop := (∃ r : Int, 0 ≤ r ∧ r < 3 ∧ tr = [r]) ∨ (∃ r : Int, 0 ≤ r ∧ r < 2 ∧ tr = [r, 2])
theorem Trk.len {tr : List Int} (h : Trk tr) : 1 ≤ tr.length ∧ tr.length ≤ 2 := by
  rcases h with ⟨r, -, -, rfl⟩ | ⟨r, -, -, rfl⟩ <;> simp
theorem Trk.trackB {tr : List Int} {n : Int} (h : Trk tr) (hn : 3 ≤ n) : trackB n tr = true := by
  unfold Go.Proofs.Ytoinaidncncdhaa.trackB
  rw [Bool.and_eq_true, decide_eq_true_iff, decide_eq_true_iff]
  unfold Inc
  rcases h with ⟨r, h0, h1, rfl⟩ | ⟨r, h0, h1, rfl⟩
  · refine ⟨by simp, fun y hy => ?_, by simp⟩
    simp at hy; subst hy; omega
  · refine ⟨by simp, fun y hy => ?_, by simp; omega⟩
    simp at hy; rcases hy with rfl | rfl <;> omega
theorem allL_length {A : List Int} : ∀ k, (PM.allL A k).length = A.length ^ k
  | 0 => by simp [PM.allL]
  | k + 1 => by
    unfold PM.allL
    rw [List.length_flatMap]
    simp only [List.length_map]
    rw [List.map_const', List.sum_replicate_nat, allL_length k, Nat.pow_succ]
theorem drawn_tab {x : Puzzle} {tr : List Int} (hv : validPz x = true) (p3 : 3 ≤ x.points) (p5 : x.points ≤ 5) (h : Trk tr) : ∃ t, bTab x tr = some t ∧ Built x t ∧ t.tracked = tr := by
  have hl : (PM.pts x.points.toNat).length ≤ 5 := by simp [PM.pts]; omega
  have hb : (PM.allL (PM.pts x.points.toNat) tr.length).length < 3000 := by
    rw [allL_length]
    have h1 := Nat.pow_le_pow_left hl tr.length
    have h2 : 5 ^ tr.length ≤ 5 ^ 2 := Nat.pow_le_pow_right (by omega) h.len.2
    omega
  obtain ⟨t, ht⟩ := bTab_some hv (h.trackB p3) hb
  obtain ⟨h1, h2⟩ := bTab_built ht
  exact ⟨t, ht, h1, h2⟩
/-- what the region that builds the table leaves: the table's box, the flag, the dice -/
def VT (W wx : World) (g : Nat) (fc : List Nat) (l : List UInt8) (x : Puzzle) (s5 s6 : Value) : Prop :=
  ∃ gb t A1 A2 A3 C1 C2 C3 f, W.heap.size ≤ gb ∧ s5 = .pointer (some ⟨gb, 0, none⟩) ∧ s6 = .bool true ∧ Blk wx gb [.slice A1 t.tracked.length C1, .slice A2 t.patterns.length C2, .slice A3 t.distances.length C3] ∧
    Rp.rep wx [.slice A1 t.tracked.length C1, .slice A2 t.patterns.length C2, .slice A3 t.distances.length C3] t f ∧ Fresh W.heap.size wx f ∧ gb ∉ f ∧ Built x t ∧ Trk t.tracked ∧ Dice wx g fc l ∧ Only [g] W wx
theorem VT.of {W w6 : World} {g : Nat} {fc : List Nat} {l : List UInt8} {x : Puzzle} {t : Table} {gb : Nat} {A1 A2 A3 : Option Addr} {C1 C2 C3 : Nat} {f : List Nat} {cs : List Value}
    (hz : Blk w6 gb cs) (hcs : cs.length = 3) (hK : Only [g] W w6) (hr : Rp.rep w6 [.slice A1 t.tracked.length C1, .slice A2 t.patterns.length C2, .slice A3 t.distances.length C3] t f) (hF : Fresh W.heap.size w6 f) (hgf : gb ∉ f) (hW : W.heap.size ≤ gb)
    (hb : Built x t) (ht : Trk t.tracked) (hD : Dice w6 g fc l) (hg : g < W.heap.size) (hfc : ∀ b ∈ fc, b < W.heap.size) :
    VT W (((w6.setCell ⟨gb, 0, none⟩ (.slice A1 t.tracked.length C1)).setCell ⟨gb, 1, none⟩ (.slice A2 t.patterns.length C2)).setCell ⟨gb, 2, none⟩ (.slice A3 t.distances.length C3)) g fc l x (.pointer (some ⟨gb, 0, none⟩)) (.bool true) := by
  have ho : Only [gb] w6 (((w6.setCell ⟨gb, 0, none⟩ (.slice A1 t.tracked.length C1)).setCell ⟨gb, 1, none⟩ (.slice A2 t.patterns.length C2)).setCell ⟨gb, 2, none⟩ (.slice A3 t.distances.length C3)) := (((Only.refl _ _).setCell (by simp) _).setCell (by simp) _).setCell (by simp) _
  have hb2 := ((hz.set 0 (.slice A1 t.tracked.length C1)).set 1 (.slice A2 t.patterns.length C2)).set 2 (.slice A3 t.distances.length C3)
  have hnf : ∀ b ∈ f, b ∉ [gb] := fun b hm1 hm => by simp at hm; subst hm; exact hgf hm1
  refine ⟨gb, t, A1, A2, A3, C1, C2, C3, f, hW, rfl, rfl, ?_, Rp.only hr ho hnf, hF.only ho hnf, hgf, hb, ht, hD.only ho (by simp; omega) (fun b hm1 hm => by have := hfc b hm1; simp at hm; omega), hK.then_ ho (by intro b hm hl; simp at hm; omega)⟩
  obtain ⟨u0, u1, u2, rfl⟩ : ∃ u0 u1 u2, cs = [u0, u1, u2] := by
    match cs, hcs with
    | [u0, u1, u2], _ => exact ⟨u0, u1, u2, rfl⟩
  simpa only [List.set] using hb2
theorem VT.of2 {W w6 : World} {g : Nat} {fc : List Nat} {l : List UInt8} {x : Puzzle} {t : Table} {gb : Nat} {A1 A2 A3 : Option Addr} {C1 C2 C3 : Nat} {f : List Nat} {e : TypeId}
    (hK : Only [g] W w6) (hr : Rp.rep w6 [.slice A1 t.tracked.length C1, .slice A2 t.patterns.length C2, .slice A3 t.distances.length C3] t f) (hF : Fresh W.heap.size w6 f) (hg6 : gb = w6.heap.size)
    (hb : Built x t) (ht : Trk t.tracked) (hD : Dice w6 g fc l) :
    VT W (w6.alloc (.cells #[.slice A1 t.tracked.length C1, .slice A2 t.patterns.length C2, .slice A3 t.distances.length C3] e)) g fc l x (.pointer (some ⟨gb, 0, none⟩)) (.bool true) := by
  subst hg6
  have ho : Only [] w6 (w6.alloc (.cells #[.slice A1 t.tracked.length C1, .slice A2 t.patterns.length C2, .slice A3 t.distances.length C3] e)) := (Only.refl _ _).alloc _
  exact ⟨_, t, A1, A2, A3, C1, C2, C3, f, hK.size, rfl, rfl, Blk.new w6 _ e, Rp.keep hr ho, hF.keep ho, (fun hm => by have := hF.lt _ hm; omega), hb, ht, hD.keep ho, hK.keepThen ho⟩
end Go.Proofs.Ytoinaidncncdhaa

namespace Go.Proofs.Ytoinaidncncdhaa
open Go.RowKit
set_option maxRecDepth 10000

theorem Built.len {x : Puzzle} {t : Table} (h : Built x t) : t.distances.length = t.patterns.length := h.bi.dl
theorem Built.pos {x : Puzzle} {t : Table} (h : Built x t) : 1 ≤ t.patterns.length := h.bi.ne
/-- a drawn puzzle's table is small -/
theorem Built.small {x : Puzzle} {t : Table} (h : Built x t) (p5 : x.points ≤ 5) (hT : Trk t.tracked) : t.patterns.length ≤ 25 := by
  have h1 := h.bi.bound
  have hl : (PM.pts x.points.toNat).length ≤ 5 := by simp [PM.pts]; omega
  rw [allL_length] at h1
  have h2 := Nat.pow_le_pow_left hl t.tracked.length
  have h3 : 5 ^ t.tracked.length ≤ 5 ^ 2 := Nat.pow_le_pow_right (by omega) hT.len.2
  exact Nat.le_trans h1 (Nat.le_trans h2 h3)
theorem specBuildDrawn (cs : List Value) (x : Puzzle) (fp : List Nat) (v : Value) (tr : List Int) (ft : List Nat) (w : World) (h : Rp.rep w cs x fp) (hv : Rd w v tr ft) (hx : validPz x = true) (p3 : 3 ≤ x.points) (p5 : x.points ≤ 5) (hT : Trk tr) :
    Calls Try.prog 10 #[.agg cs.toArray, v] w fun e w' => ∃ A1 C1 A2 C2 A3 C3 t fp', e = .returned (.tuple #[.agg #[.slice A1 t.tracked.length C1, .slice A2 t.patterns.length C2, .slice A3 t.distances.length C3], .bool true]) ∧ bTab x tr = some t ∧ Built x t ∧ t.tracked = tr ∧ Rp.rep w' [.slice A1 t.tracked.length C1, .slice A2 t.patterns.length C2, .slice A3 t.distances.length C3] t fp' ∧ Fresh w.heap.size w' fp' ∧ Only [] w w' := by
  obtain ⟨t, ht, hb, htt⟩ := drawn_tab hx p3 p5 hT
  refine (specBuildTable_any cs x fp v tr ft w h hv (by have := hT.len; omega)).mono ?_
  rintro e w' ⟨cs', fp', rfl, r, F, K⟩
  rw [ht] at r
  simp only [Option.getD_some] at r
  have r0 := r
  obtain ⟨u1, u2, u3, e1, e2, e3, rfl, -, s1, s2, s3⟩ := r
  obtain ⟨A1, C1, _, _, rfl, -⟩ := s1.open_
  obtain ⟨A2, C2, _, _, rfl, -⟩ := s2.open_
  obtain ⟨A3, C3, _, _, rfl, -⟩ := s3.open_
  exact ⟨A1, C1, A2, C2, A3, C3, t, fp', by rw [ht]; rfl, ht, hb, htt, r0, F, K⟩
end Go.Proofs.Ytoinaidncncdhaa


namespace Go.Proofs.Ytoinaidncncdhaa
open Go.RowKit
set_option maxRecDepth 10000

theorem nextI_first {x : Puzzle} {t : Table} {p : List Int} {l : Int} (hc : checkT x t = true) (hp : patB x.points t.tracked.length p = true) (hl : l ∈ ltrs x.moves.length) :
    firstG t.patterns (kB (nxt x p l)) = if 0 ≤ nextI x t p l then some (nextI x t p l) else none := by
  obtain ⟨hv, hw, ht, hps⟩ := checkT_iff.1 hc
  obtain ⟨g1, g2, g3, g4⟩ := validPz_facts hv
  exact firstG_idx (fun q hq => patB_byt (hps q hq) (by omega)) (patB_byt (nxt_pat hv hp hl) (by omega))
/-- the distance behind a letter, and whether there is one -/
def toI (t : Table) (n : Int) : Int := if 0 ≤ n then atD t n else 0
def toB (n : Int) : Bool := decide (0 ≤ n)
theorem toI_no {t : Table} {n : Int} (h : n < 0) : toI t n = 0 := by unfold toI; rw [if_neg (by omega)]
theorem toI_yes {t : Table} {n : Int} (h : 0 ≤ n) : toI t n = atD t n := by unfold toI; rw [if_pos h]
theorem toB_no {n : Int} (h : n < 0) : toB n = false := decide_eq_false (by omega)
theorem toB_yes {n : Int} (h : 0 ≤ n) : toB n = true := decide_eq_true h
set_option maxHeartbeats 4000000 in
theorem to_any (g : Nat) (x : Puzzle) (t : Table) (v : Value) (p : List Int) (fp : List Nat) (k : Nat) (w : World) (hP : Prf w g x t) (h : Rd w v p fp) (hc : checkT x t = true) (hp : patB x.points t.tracked.length p = true) (hk : k < (ltrs x.moves.length).length) :
    Calls Try.prog 82 #[.pointer (some ⟨g, 0, none⟩), v, .int .i64 k] w fun e w' => e = .returned (.tuple #[.int .i64 (toI t (nextI x t p (ltrs x.moves.length)[k])), .bool (toB (nextI x t p (ltrs x.moves.length)[k]))]) ∧ Only [] w w' := by
  obtain ⟨hv, hw, ht, hps⟩ := checkT_iff.1 hc
  have hwf := wfT_iff.1 hw
  obtain ⟨g1, g2, g3, g4⟩ := validPz_facts hv
  have hla := List.getElem_mem hk
  have hfirst := nextI_first hc hp hla
  obtain ⟨hn0, hn1⟩ := (show -1 ≤ nextI x t p (ltrs x.moves.length)[k] ∧ nextI x t p (ltrs x.moves.length)[k] < t.patterns.length from idxL_lt)
  have hpn := mv_pn (validPz_pn hv) hla
  obtain ⟨hpl, hpr, -⟩ := patB_iff.1 hp
  have htl := inc_len_le2 ht
  have hnx : nxt x p (ltrs x.moves.length)[k] = PM.comp p (mv x.moves (ltrs x.moves.length)[k]) := rfl
  rw [hnx] at hfirst
  obtain ⟨n, hn⟩ : ∃ n, n = nextI x t p (ltrs x.moves.length)[k] := ⟨_, rfl⟩
  rw [← hn] at hfirst hn0 hn1 ⊢
  obtain ⟨v0, v1, v2, vl, vm, M, f0, f1, f2, fl, fm, km, hB, r0, r1, r2, rl, rm, hM⟩ := hP
  obtain ⟨Am, Cm, obm, fpm, rfl, -, hsm⟩ := rm.open_
  obtain ⟨A2, C2, rfl, I2⟩ := r2.ints
  have hkm : k < ((ltrs x.moves.length).map (mv x.moves)).length := by rw [List.length_map]; exact hk
  obtain ⟨bm, om, um, rfl, -, hcm, hum⟩ := hsm.atRow k hkm
  rw [List.getElem_map] at hum
  have d5 := hB.cell 5 rfl
  have d4 := hB.cell 4 rfl
  have d2 := hB.cell 2 rfl
  have hk1 : (0 : Int) ≤ (k : Int) := by omega
  have hk2 : (k : Int) < (((ltrs x.moves.length).map (mv x.moves)).length : Int) := by omega
  have hk3 : (k : Int) < ((ltrs x.moves.length).length : Int) := by omega
  have hrg : ∀ y ∈ p, 0 ≤ y ∧ y < ((mv x.moves (ltrs x.moves.length)[k]).length : Int) := fun y hy => by have := hpr y hy; have := hpn.1; omega
  have Hrg := Lib.hid hrg
  have hpl2 : p.length ≤ 1000 := by omega
  have hcl : (PM.comp p (mv x.moves (ltrs x.moves.length)[k])).length ≤ 1000 := by rw [PM.comp_len]; exact hpl2
  have hks : (kB (PM.comp p (mv x.moves (ltrs x.moves.length)[k]))).size ≤ maxLen := by rw [kB_size]; unfold maxLen; omega
  have Hcl := Lib.hid hcl
  have Hks := Lib.hid hks
  clear hn hnx hrg hcl hks hpl htl hwf hpn
  by_cases hneg : n < 0
  · rw [if_neg (by omega)] at hfirst
    have Hf := Lib.hid hfirst
    have hres := toB_no hneg
    have Hres := Lib.hid hres
    have Hneg := Lib.hid hneg
    clear hfirst hres hn0 hn1 hneg
    go_enter Try.func82, Try.ntmps82
    go_wp2
    go_region_held3 (fun w' => Only [] w w' ∧ w'.cell? ⟨g, 5, none⟩ = some (.map (some M)) ∧ w'.cell? ⟨g, 4, none⟩ = some (.slice (some ⟨bm, om, none⟩) ((ltrs x.moves.length).map (mv x.moves)).length Cm) ∧ w'.cell? ⟨bm, om + k, none⟩ = some (um)) (((refine and_of ?_ (fun h__ => ⟨h__.cell (by simp) d5, h__.cell (by simp) d4, h__.cell (by simp) hcm⟩)); first | exact (Only.refl _ _).drew | exact ((Only.refl _ _).drewN _).drew | exact Only.trans (And.left (by assumption)) (by assumption) | exact Only.alloc (And.left (by assumption)) _ | assumption)) (first | (go_at_call 41; (with_reducible refine (picked_rd um v (mv x.moves (ltrs x.moves.length)[k]) p _ _ _ (Rp.keep hum (And.left (by assumption))) (Rp.keep h (And.left (by assumption))) Hrg.out hpl2).mono ?_); rintro e w5 ⟨u5, f5, rfl, r5, F5, t5⟩; have hO5 := Only.trans (And.left (by assumption)) t5; have hM5 := hM.keep hO5) | (go_at_call 57; (with_reducible refine (stateKey_rd u5 (PM.comp p (mv x.moves (ltrs x.moves.length)[k])) _ _ r5 Hcl.out).mono ?_); rintro e w6 ⟨rfl, t6⟩; have hO6 := hO5.trans t6; have hrun6 := (hM.keep hO6).run_no Hks.out Hf.out) | fail "no arm")
    go_wp2
    refine bodyPost_ret (v := .tuple #[.int .i64 0, .bool false]) (by simp [results, Try.results82, go_sem]) rfl ⟨by rw [Hres.out, toI_no Hneg.out], (by with_reducible repeat (first | exact Only.refl _ _ | assumption | refine Only.drewN ?_ _ | refine Only.drew ?_ | refine Only.alloc ?_ _ | refine Only.setCell ?_ (by intro hh; exfalso; simp at hh; try omega) _ | refine Only.trans ?_ (by assumption)))⟩
  · rw [if_pos (by omega)] at hfirst
    have Hf := Lib.hid hfirst
    have hres := toB_yes (n := n) (by omega)
    have Hres := Lib.hid hres
    have hdl : t.distances.length = t.patterns.length := (wfT_iff.1 hw).2.2.1
    have hnl : n.toNat < t.distances.length := by omega
    have hnl' : n < (t.distances.length : Int) := by omega
    have hn0' : 0 ≤ n := by omega
    have hat := atD_of (t := t) (j := n) (i := n.toNat) (by omega) hnl
    have Hat := Lib.hid hat
    obtain ⟨b2, o2, rfl, -, hdd⟩ := I2.at_ n.toNat hnl
    clear hfirst hres hat hn0 hn1 hneg hdl
    go_enter Try.func82, Try.ntmps82
    go_wp2
    go_region_held3 (fun w' => Only [] w w' ∧ w'.cell? ⟨g, 5, none⟩ = some (.map (some M)) ∧ w'.cell? ⟨g, 4, none⟩ = some (.slice (some ⟨bm, om, none⟩) ((ltrs x.moves.length).map (mv x.moves)).length Cm) ∧ w'.cell? ⟨bm, om + k, none⟩ = some (um)) (((refine and_of ?_ (fun h__ => ⟨h__.cell (by simp) d5, h__.cell (by simp) d4, h__.cell (by simp) hcm⟩)); first | exact (Only.refl _ _).drew | exact ((Only.refl _ _).drewN _).drew | exact Only.trans (And.left (by assumption)) (by assumption) | exact Only.alloc (And.left (by assumption)) _ | assumption)) (first | (go_at_call 41; (with_reducible refine (picked_rd um v (mv x.moves (ltrs x.moves.length)[k]) p _ _ _ (Rp.keep hum (And.left (by assumption))) (Rp.keep h (And.left (by assumption))) Hrg.out hpl2).mono ?_); rintro e w5 ⟨u5, f5, rfl, r5, F5, t5⟩; have hO5 := Only.trans (And.left (by assumption)) t5; have hM5 := hM.keep hO5) | (go_at_call 57; (with_reducible refine (stateKey_rd u5 (PM.comp p (mv x.moves (ltrs x.moves.length)[k])) _ _ r5 Hcl.out).mono ?_); rintro e w6 ⟨rfl, t6⟩; have hO6 := hO5.trans t6; have hrun6 := (hM.keep hO6).run_yes Hks.out Hf.out; have d26 := hO6.cell (by simp) d2; have hdd6 := hO6.cell (by simp) hdd) | fail "no arm")
    go_wp2
    refine bodyPost_ret (v := .tuple #[.int .i64 t.distances[n.toNat], .bool true]) (by simp [results, Try.results82, go_sem]) rfl ⟨by rw [Hres.out, toI_yes hn0', Hat.out], (by with_reducible repeat (first | exact Only.refl _ _ | assumption | refine Only.drewN ?_ _ | refine Only.drew ?_ | refine Only.alloc ?_ _ | refine Only.setCell ?_ (by intro hh; exfalso; simp at hh; try omega) _ | refine Only.trans ?_ (by assumption)))⟩
end Go.Proofs.Ytoinaidncncdhaa

namespace Go.Proofs.Ytoinaidncncdhaa
open Go.RowKit
set_option maxRecDepth 10000

/-- what 'descent' answers -/
def desI (x : Puzzle) (t : Table) (p : List Int) : Int := if 0 ≤ idxL t.patterns p then dK x t p (atD t (idxL t.patterns p) - 1) else -1
theorem desI_no {x : Puzzle} {t : Table} {p : List Int} (h : idxL t.patterns p < 0) : desI x t p = -1 := by unfold desI; rw [if_neg (by omega)]
theorem desI_yes {x : Puzzle} {t : Table} {p : List Int} (h : 0 ≤ idxL t.patterns p) : desI x t p = dK x t p (atD t (idxL t.patterns p) - 1) := by unfold desI; rw [if_pos h]
theorem leads_noD {x : Puzzle} {t : Table} {p : List Int} {d l : Int} (h : nextI x t p l < 0) : leads x t p d l = false := by
  unfold leads; rw [decide_eq_false (by omega)]; rfl
theorem leads_yesD {x : Puzzle} {t : Table} {p : List Int} {d l : Int} (h : 0 ≤ nextI x t p l) : leads x t p d l = decide (atD t (nextI x t p l) = d) := by
  unfold leads; rw [decide_eq_true h]; rfl
theorem newProof_all (cs ds : List Value) (x : Puzzle) (t : Table) (f1 f2 : List Nat) (w : World) (h : Rp.rep w cs x f1) (h2 : Rp.rep w ds t f2) :
    Calls Try.prog 35 #[.agg cs.toArray, .agg ds.toArray] w fun e w' => ∃ q, e = .returned (.tuple #[.pointer q, .bool (checkT x t)]) ∧ (checkT x t = true → ∃ g, q = some ⟨g, 0, none⟩ ∧ Prf w' g x t) ∧ Only [] w w' := by
  by_cases hc : validPz x = true ∧ wfT t = true ∧ trackB x.points t.tracked = true
  · exact newProof_any cs ds x t f1 f2 w h h2 hc.1 hc.2.1 hc.2.2
  · have hck : checkT x t = false := by
      rw [← Bool.not_eq_true, checkT_iff]; rintro ⟨a, b, c, -⟩; exact hc ⟨a, b, c⟩
    refine (newProof_bad cs ds x t f1 f2 w h h2 hc).mono ?_
    rintro e w' ⟨rfl, hk⟩
    exact ⟨none, by rw [hck], fun hh => (by rw [hck] at hh; cases hh), hk⟩
set_option maxHeartbeats 4000000 in
theorem descent_any (g : Nat) (x : Puzzle) (t : Table) (v : Value) (p : List Int) (fp : List Nat) (w : World) (hP : Prf w g x t) (h : Rd w v p fp) (hc : checkT x t = true) (hp : patB x.points t.tracked.length p = true) :
    Calls Try.prog 39 #[.pointer (some ⟨g, 0, none⟩), v] w fun e w' => e = .returned (.tuple #[.int .i64 (desI x t p), .bool (toB (idxL t.patterns p))]) ∧ Only [] w w' := by
  obtain ⟨hv, hw, ht, hps⟩ := checkT_iff.1 hc
  obtain ⟨g1, g2, g3, g4⟩ := validPz_facts hv
  have hP0 := hP
  have h0 := h
  obtain ⟨hpl, hpr, -⟩ := patB_iff.1 hp
  have htl := inc_len_le2 ht
  have hfirst := firstG_idx (fun q hq => patB_byt (hps q hq) (by omega)) (patB_byt hp (by omega))
  obtain ⟨v0, v1, v2, vl, vm, M, f0, f1, f2, fl, fm, km, hB, r0, r1, r2, rl, rm, hM⟩ := hP
  obtain ⟨Ap, Cp, rfl, Ip⟩ := h.ints
  obtain ⟨A0, C0, rfl, I0⟩ := r0.ints
  obtain ⟨A2, C2, rfl, I2⟩ := r2.ints
  obtain ⟨A3, C3, rfl, I3⟩ := rl.ints
  have d5 := hB.cell 5 rfl
  have d0 := hB.cell 0 rfl
  have d2 := hB.cell 2 rfl
  have d3 := hB.cell 3 rfl
  have bp := Ip.bound
  have b3 := I3.bound
  have hpl2 : p.length ≤ 1000 := by omega
  have hks : (kB p).size ≤ maxLen := by rw [kB_size]; unfold maxLen; omega
  have Hks := Lib.hid hks
  clear hks htl
  obtain ⟨n, hn⟩ : ∃ n, n = idxL t.patterns p := ⟨_, rfl⟩
  have hnlt : n < t.patterns.length := by rw [hn]; exact idxL_lt.2
  by_cases hneg : n < 0
  · rw [if_neg (by omega)] at hfirst
    have Hf := Lib.hid hfirst
    have hr1 := desI_no (x := x) (t := t) (p := p) (by rw [← hn]; exact hneg)
    have hr2 : toB (idxL t.patterns p) = false := toB_no (by rw [← hn]; exact hneg)
    have Hr1 := Lib.hid hr1
    have Hr2 := Lib.hid hr2
    clear hfirst hr1 hr2 hn hneg hpl
    go_enter Try.func39, Try.ntmps39
    go_wp2
    go_region_held3 (fun w' => Only [] w w' ∧ w'.cell? ⟨g, 5, none⟩ = some (.map (some M))) (((refine and_of ?_ (fun h__ => h__.cell (by simp) d5)); first | exact (Only.refl _ _).drew | exact ((Only.refl _ _).drewN _).drew | exact Only.trans (And.left (by assumption)) (by assumption) | exact Only.alloc (And.left (by assumption)) _ | assumption)) (first | (go_at_call 57; (with_reducible refine (stateKey_rd _ p _ _ (Rp.keep h0 (And.left (by assumption))) hpl2).mono ?_); rintro e w6 ⟨rfl, t6⟩; have hO6 := Only.trans (And.left (by assumption)) t6; have hrun6 := (hM.keep hO6).run_no Hks.out Hf.out) | fail "no arm")
    go_wp2
    refine bodyPost_ret (v := .tuple #[.int .i64 (-1), .bool false]) (by simp [results, Try.results39, go_sem]) rfl ⟨by rw [Hr1.out, Hr2.out], (by with_reducible repeat (first | exact Only.refl _ _ | assumption | refine Only.drewN ?_ _ | refine Only.drew ?_ | refine Only.alloc ?_ _ | refine Only.setCell ?_ (by intro hh; exfalso; simp at hh; try omega) _ | refine Only.trans ?_ (by assumption)))⟩
  · rw [if_pos (by omega)] at hfirst
    rw [← hn] at hfirst
    have Hf := Lib.hid hfirst
    have hr1 := desI_yes (x := x) (t := t) (p := p) (by rw [← hn]; omega)
    have hr2 : toB (idxL t.patterns p) = true := toB_yes (by rw [← hn]; omega)
    have hwf := wfT_iff.1 hw
    have hnl : n.toNat < t.distances.length := by have := hwf.2.2.1; omega
    have hnl' : n < (t.distances.length : Int) := by omega
    have hn0 : 0 ≤ n := by omega
    obtain ⟨bd, od, rfl, -, hcD0⟩ := I2.at_ n.toNat hnl
    have hdr := hwf.2.2.2.2 _ (List.getElem_mem hnl)
    rw [inR_iff] at hdr
    have hat := atD_of (t := t) (j := n) (i := n.toNat) (by omega) hnl
    obtain ⟨d, hd⟩ : ∃ d, d = t.distances[n.toNat] := ⟨_, rfl⟩
    rw [← hd] at hcD0 hdr hat
    rw [← hn, hat] at hr1
    have Hr1 := Lib.hid hr1
    have Hr2 := Lib.hid hr2
    have Hpl := Lib.hid hpl
    have hne : ((p.length : Int) != (t.tracked.length : Int)) = false := by simp [hpl]
    have HW := Lib.hid hwf
    clear hfirst hr1 hr2 hn hneg hwf hd hat hpl
    go_enter Try.func39, Try.ntmps39
    go_wp2
    go_region_held3 (fun w' => Only [] w w' ∧ w'.cell? ⟨g, 5, none⟩ = some (.map (some M))) (((refine and_of ?_ (fun h__ => h__.cell (by simp) d5)); first | exact (Only.refl _ _).drew | exact ((Only.refl _ _).drewN _).drew | exact Only.trans (And.left (by assumption)) (by assumption) | exact Only.alloc (And.left (by assumption)) _ | assumption)) (first | (go_at_call 57; (with_reducible refine (stateKey_rd _ p _ _ (Rp.keep h0 (And.left (by assumption))) hpl2).mono ?_); rintro e w6 ⟨rfl, t6⟩; have hO6 := Only.trans (And.left (by assumption)) t6; have hrun6 := (hM.keep hO6).run_yes Hks.out Hf.out; have e0 := hO6.cell (by simp) d0; have e3 := hO6.cell (by simp) d3) | fail "no arm")
    go_wp2
    clear e0 e3 hrun6
    go_loopw [39] (fun i wr => ∃ j : Nat, j ≤ (ltrs x.moves.length).length ∧ i = .int .i64 j ∧ (∀ a ∈ (ltrs x.moves.length).take j, leads x t p (d - 1) a = false) ∧ Only [] w wr)
      (fun i _ => (ltrs x.moves.length).length - (intOf i).toNat)
    case atStart => exact ⟨0, Nat.zero_le _, rfl, by simp, hO6⟩
    case round =>
      obtain ⟨j, hj, rfl, hr, hK⟩ := hrel
      have Hr := Lib.hid hr; clear hr
      by_cases hlt : j < (ltrs x.moves.length).length
      · have hla := List.getElem_mem hlt
        obtain ⟨hm0, hm1⟩ := (show -1 ≤ nextI x t p (ltrs x.moves.length)[j] ∧ nextI x t p (ltrs x.moves.length)[j] < t.patterns.length from idxL_lt)
        have hset := mem_take_step hlt (P := fun a => leads x t p (d - 1) a = false) Hr.out
        have Hset := Lib.hid hset
        have hend : leads x t p (d - 1) (ltrs x.moves.length)[j] = true → dK x t p (d - 1) = j := fun hh => idxF_some hlt Hr.out hh
        have Hend := Lib.hid hend
        obtain ⟨m, hm⟩ : ∃ m, m = nextI x t p (ltrs x.moves.length)[j] := ⟨_, rfl⟩
        rw [← hm] at hm0 hm1
        have HM := Lib.hid hm
        clear hset hend hm
        by_cases hmn : m < 0
        · have hti := toI_no (t := t) hmn
          have htb := toB_no hmn
          have hle := leads_noD (x := x) (t := t) (p := p) (d := d - 1) (l := (ltrs x.moves.length)[j]) (by rw [← HM.out]; exact hmn)
          have Hle := Lib.hid hle
          clear hle
          go_wp2_with ((go_at_call 82; (with_reducible refine (to_any g x t _ p _ j _ (hP0.keep hK) (Rp.keep h0 hK) hc hp hlt).mono ?_); rintro e w7 ⟨he, t7⟩; rw [← HM.out, hti, htb] at he; subst he))
          go_roundw
          case rel => exact ⟨j + 1, by omega, by go_num, Hset.out Hle.out, (by with_reducible repeat (first | exact Only.refl _ _ | assumption | refine Only.drewN ?_ _ | refine Only.drew ?_ | refine Only.alloc ?_ _ | refine Only.setCell ?_ (by intro hh; exfalso; simp at hh; try omega) _ | refine Only.trans ?_ (by assumption)))⟩
          case measure => simp [intOf]; omega
        · have hti := toI_yes (t := t) (n := m) (by omega)
          have htb := toB_yes (n := m) (by omega)
          have hml : m.toNat < t.distances.length := by have := HW.out.2.2.1; omega
          rw [atD_of (t := t) (j := m) (i := m.toNat) (by omega) hml] at hti
          have hle := leads_yesD (x := x) (t := t) (p := p) (d := d - 1) (l := (ltrs x.moves.length)[j]) (by rw [← HM.out]; omega)
          rw [← HM.out, atD_of (t := t) (j := m) (i := m.toNat) (by omega) hml] at hle
          have hw1 : IntKind.i64.wrap (d - 1) = d - 1 := by rw [IntKind.wrap_i64]; omega
          obtain ⟨y, hy⟩ : ∃ y, y = t.distances[m.toNat] := ⟨_, rfl⟩
          rw [← hy] at hti hle
          by_cases heq : y = d - 1
          · have hyy : (y == d - 1) = true := by simp [heq]
            have Hle := Lib.hid (show leads x t p (d - 1) (ltrs x.moves.length)[j] = true by rw [hle, heq]; simp)
            clear hle heq hy
            go_wp2_with ((go_at_call 82; (with_reducible refine (to_any g x t _ p _ j _ (hP0.keep hK) (Rp.keep h0 hK) hc hp hlt).mono ?_); rintro e w7 ⟨he, t7⟩; rw [← HM.out, hti, htb] at he; subst he; have e2 := (hK.trans t7).cell (by simp) d2; have eD := (hK.trans t7).cell (by simp) hcD0))
            refine bodyPost_ret (v := .tuple #[.int .i64 j, .bool true]) (by simp [results, Try.results39, go_sem]) rfl ⟨by rw [Hr1.out, Hr2.out, Hend.out Hle.out], (by with_reducible repeat (first | exact Only.refl _ _ | assumption | refine Only.drewN ?_ _ | refine Only.drew ?_ | refine Only.alloc ?_ _ | refine Only.setCell ?_ (by intro hh; exfalso; simp at hh; try omega) _ | refine Only.trans ?_ (by assumption)))⟩
          · have hyy : (y == d - 1) = false := by simp [heq]
            have Hle := Lib.hid (show leads x t p (d - 1) (ltrs x.moves.length)[j] = false by rw [hle]; simp [heq])
            clear hle heq hy
            go_wp2_with ((go_at_call 82; (with_reducible refine (to_any g x t _ p _ j _ (hP0.keep hK) (Rp.keep h0 hK) hc hp hlt).mono ?_); rintro e w7 ⟨he, t7⟩; rw [← HM.out, hti, htb] at he; subst he; have e2 := (hK.trans t7).cell (by simp) d2; have eD := (hK.trans t7).cell (by simp) hcD0))
            go_roundw
            case rel => exact ⟨j + 1, by omega, by go_num, Hset.out Hle.out, (by with_reducible repeat (first | exact Only.refl _ _ | assumption | refine Only.drewN ?_ _ | refine Only.drew ?_ | refine Only.alloc ?_ _ | refine Only.setCell ?_ (by intro hh; exfalso; simp at hh; try omega) _ | refine Only.trans ?_ (by assumption)))⟩
            case measure => simp [intOf]; omega
      · have hfin : dK x t p (d - 1) = -1 := idxF_none (by have := Hr.out; rwa [List.take_of_length_le (by omega)] at this)
        have Hfin := Lib.hid hfin
        clear hfin
        go_wp2
        refine bodyPost_ret (v := .tuple #[.int .i64 (-1), .bool true]) (by simp [results, Try.results39, go_sem]) rfl ⟨by rw [Hr1.out, Hr2.out, Hfin.out], (by with_reducible repeat (first | exact Only.refl _ _ | assumption | refine Only.drewN ?_ _ | refine Only.drew ?_ | refine Only.alloc ?_ _ | refine Only.setCell ?_ (by intro hh; exfalso; simp at hh; try omega) _ | refine Only.trans ?_ (by assumption)))⟩
set_option maxHeartbeats 4000000 in
theorem proofOf_any (cs ds : List Value) (x : Puzzle) (t : Table) (u : Value) (p : List Int) (f1 f2 f3 : List Nat) (w : World) (h : Rp.rep w cs x f1) (h2 : Rp.rep w ds t f2) (h3 : Rd w u p f3) :
    Calls Try.prog 38 #[.agg cs.toArray, .agg ds.toArray, u] w fun e w' => ∃ q, e = .returned (.tuple #[.pointer q, .bool (checkT x t && patB x.points t.tracked.length p)]) ∧ (checkT x t = true → ∃ g, q = some ⟨g, 0, none⟩ ∧ Prf w' g x t) ∧ Only [] w w' := by
  have h0 := h
  have h20 := h2
  obtain ⟨v2, rfl, p0, p1, hm⟩ := h
  obtain ⟨u0, u1, u2, q0, q1, q2, rfl, rfl, r0, r1, r2⟩ := h2
  obtain ⟨A0, C0, rfl, I0⟩ := r0.ints
  have b0 := I0.bound
  have hB2 := Blk.new_at (w := w.alloc (.cells [.int .i64 x.points, .string x.names, v2].toArray 29)) (g := w.heap.size + 1) (cs := [.slice A0 t.tracked.length C0, u1, u2]) (t := 33) (by simp)
  have hB1 := Blk.keep (Blk.new_at (w := w) (cs := [.int .i64 x.points, .string x.names, v2]) (t := 29) rfl) ((Only.refl [] _).alloc (.cells #[.slice A0 t.tracked.length C0, u1, u2] 33))
  rcases hc : checkT x t
  · go_enter Try.func38, Try.ntmps38
    go_wp2_with ((go_at_call 35; (with_reducible refine (newProof_all [.int .i64 x.points, .string x.names, v2] [.slice A0 t.tracked.length C0, u1, u2] x t _ _ _ (Rp.keep h0 (by with_reducible repeat (first | exact Only.refl _ _ | assumption | refine Only.drewN ?_ _ | refine Only.drew ?_ | refine Only.alloc ?_ _ | refine Only.setCell ?_ (by intro hh; exfalso; simp at hh; try omega) _ | refine Only.trans ?_ (by assumption)))) (Rp.keep h20 (by with_reducible repeat (first | exact Only.refl _ _ | assumption | refine Only.drewN ?_ _ | refine Only.drew ?_ | refine Only.alloc ?_ _ | refine Only.setCell ?_ (by intro hh; exfalso; simp at hh; try omega) _ | refine Only.trans ?_ (by assumption))))).mono ?_); rintro e w1 ⟨q, he, hq, t1⟩; rw [hc] at he; subst he))
    refine bodyPost_ret (v := .tuple #[.pointer q, .bool false]) (by simp [results, Try.results38, go_sem]) rfl ⟨q, rfl, fun hh => (by cases hh), (by with_reducible repeat (first | exact Only.refl _ _ | assumption | refine Only.drewN ?_ _ | refine Only.drew ?_ | refine Only.alloc ?_ _ | refine Only.setCell ?_ (by intro hh; exfalso; simp at hh; try omega) _ | refine Only.trans ?_ (by assumption)))⟩
  obtain ⟨g1, g2, g3, g4⟩ := validPz_facts (checkT_iff.1 hc).1
  go_enter Try.func38, Try.ntmps38
  go_wp2_with (first | (go_at_call 35; (with_reducible refine (newProof_all [.int .i64 x.points, .string x.names, v2] [.slice A0 t.tracked.length C0, u1, u2] x t _ _ _ (Rp.keep h0 (by with_reducible repeat (first | exact Only.refl _ _ | assumption | refine Only.drewN ?_ _ | refine Only.drew ?_ | refine Only.alloc ?_ _ | refine Only.setCell ?_ (by intro hh; exfalso; simp at hh; try omega) _ | refine Only.trans ?_ (by assumption)))) (Rp.keep h20 (by with_reducible repeat (first | exact Only.refl _ _ | assumption | refine Only.drewN ?_ _ | refine Only.drew ?_ | refine Only.alloc ?_ _ | refine Only.setCell ?_ (by intro hh; exfalso; simp at hh; try omega) _ | refine Only.trans ?_ (by assumption))))).mono ?_); rintro e w1 ⟨q, he, hq, t1⟩; rw [hc] at he; subst he; have y0 := (hB1.keep t1).cell 0 rfl; have z0 := (hB2.keep t1).cell 0 rfl) | (go_at_call 78; (with_reducible refine (isPattern_rd x.points t.tracked.length u p _ _ (Rp.keep h3 (by with_reducible repeat (first | exact Only.refl _ _ | assumption | refine Only.drewN ?_ _ | refine Only.drew ?_ | refine Only.alloc ?_ _ | refine Only.setCell ?_ (by intro hh; exfalso; simp at hh; try omega) _ | refine Only.trans ?_ (by assumption)))) (by omega) (by omega) b0).mono ?_); rintro e w2 ⟨rfl, m2, rfl⟩))
  refine bodyPost_ret (v := .tuple #[.pointer q, .bool (patB x.points t.tracked.length p)]) (by simp [results, Try.results38, go_sem]) rfl ⟨q, rfl, fun _ => ?_, (by with_reducible repeat (first | exact Only.refl _ _ | assumption | refine Only.drewN ?_ _ | refine Only.drew ?_ | refine Only.alloc ?_ _ | refine Only.setCell ?_ (by intro hh; exfalso; simp at hh; try omega) _ | refine Only.trans ?_ (by assumption)))⟩
  obtain ⟨g, hg, hP⟩ := hq hc
  exact ⟨g, hg, hP.keep (by with_reducible repeat (first | exact Only.refl _ _ | assumption | refine Only.drewN ?_ _ | refine Only.drew ?_ | refine Only.alloc ?_ _ | refine Only.setCell ?_ (by intro hh; exfalso; simp at hh; try omega) _ | refine Only.trans ?_ (by assumption)))⟩
set_option maxHeartbeats 4000000 in
theorem implDescentLetter_any (cs ds : List Value) (x : Puzzle) (t : Table) (u : Value) (p : List Int) (f1 f2 f3 : List Nat) (w : World) (h : Rp.rep w cs x f1) (h2 : Rp.rep w ds t f2) (h3 : Rd w u p f3) :
    Calls Try.prog 18 #[.agg cs.toArray, .agg ds.toArray, u] w fun e w' => e = .returned (.int .i64 (dLet x t p)) ∧ Only [] w w' := by
  have h0 := h
  have h20 := h2
  obtain ⟨v2, rfl, p0, p1, hm⟩ := h
  obtain ⟨u0, u1, u2, q0, q1, q2, rfl, rfl, r0, r1, r2⟩ := h2
  rcases hcp : checkT x t && patB x.points t.tracked.length p
  · have hd : dLet x t p = 0 := by
      rw [Bool.and_eq_false_iff] at hcp
      apply dLet_no
      rintro ⟨hc, hi⟩
      rcases hcp with h9 | h9
      · rw [hc] at h9; cases h9
      · have := idxL_no hc h9; omega
    have Hd := Lib.hid hd
    clear hd
    go_enter Try.func18, Try.ntmps18
    go_wp2_with ((go_at_call 38; (with_reducible refine (proofOf_any [.int .i64 x.points, .string x.names, v2] [u0, u1, u2] x t u p _ _ _ _ (Rp.keep h0 (by with_reducible repeat (first | exact Only.refl _ _ | assumption | refine Only.drewN ?_ _ | refine Only.drew ?_ | refine Only.alloc ?_ _ | refine Only.setCell ?_ (by intro hh; exfalso; simp at hh; try omega) _ | refine Only.trans ?_ (by assumption)))) (Rp.keep h20 (by with_reducible repeat (first | exact Only.refl _ _ | assumption | refine Only.drewN ?_ _ | refine Only.drew ?_ | refine Only.alloc ?_ _ | refine Only.setCell ?_ (by intro hh; exfalso; simp at hh; try omega) _ | refine Only.trans ?_ (by assumption)))) (Rp.keep h3 (by with_reducible repeat (first | exact Only.refl _ _ | assumption | refine Only.drewN ?_ _ | refine Only.drew ?_ | refine Only.alloc ?_ _ | refine Only.setCell ?_ (by intro hh; exfalso; simp at hh; try omega) _ | refine Only.trans ?_ (by assumption))))).mono ?_); rintro e w1 ⟨q, he, hq, t1⟩; rw [hcp] at he; subst he))
    go_ret
    exact ⟨ret_int Hd.out.symm, (by with_reducible repeat (first | exact Only.refl _ _ | assumption | refine Only.drewN ?_ _ | refine Only.drew ?_ | refine Only.alloc ?_ _ | refine Only.setCell ?_ (by intro hh; exfalso; simp at hh; try omega) _ | refine Only.trans ?_ (by assumption)))⟩
  obtain ⟨hc, hp⟩ := Bool.and_eq_true_iff.1 hcp
  rcases Int.lt_or_le (idxL t.patterns p) 0 with hneg | hneg
  · have hd : dLet x t p = 0 := dLet_no (by omega)
    have hdes := desI_no (x := x) hneg
    have Hd := Lib.hid hd
    have Hdes := Lib.hid hdes
    clear hd hdes hneg
    go_enter Try.func18, Try.ntmps18
    go_wp2_with (first | (go_at_call 38; (with_reducible refine (proofOf_any [.int .i64 x.points, .string x.names, v2] [u0, u1, u2] x t u p _ _ _ _ (Rp.keep h0 (by with_reducible repeat (first | exact Only.refl _ _ | assumption | refine Only.drewN ?_ _ | refine Only.drew ?_ | refine Only.alloc ?_ _ | refine Only.setCell ?_ (by intro hh; exfalso; simp at hh; try omega) _ | refine Only.trans ?_ (by assumption)))) (Rp.keep h20 (by with_reducible repeat (first | exact Only.refl _ _ | assumption | refine Only.drewN ?_ _ | refine Only.drew ?_ | refine Only.alloc ?_ _ | refine Only.setCell ?_ (by intro hh; exfalso; simp at hh; try omega) _ | refine Only.trans ?_ (by assumption)))) (Rp.keep h3 (by with_reducible repeat (first | exact Only.refl _ _ | assumption | refine Only.drewN ?_ _ | refine Only.drew ?_ | refine Only.alloc ?_ _ | refine Only.setCell ?_ (by intro hh; exfalso; simp at hh; try omega) _ | refine Only.trans ?_ (by assumption))))).mono ?_); rintro e w1 ⟨q, he, hq, t1⟩; rw [hcp] at he; subst he; obtain ⟨g, rfl, hP⟩ := hq hc; have hK1 : Only [] w w1 := (by with_reducible repeat (first | exact Only.refl _ _ | assumption | refine Only.drewN ?_ _ | refine Only.drew ?_ | refine Only.alloc ?_ _ | refine Only.setCell ?_ (by intro hh; exfalso; simp at hh; try omega) _ | refine Only.trans ?_ (by assumption)))) | (go_at_call 39; (with_reducible refine (descent_any g x t u p _ _ hP (Rp.keep h3 hK1) hc hp).mono ?_); rintro e w2 ⟨he, t2⟩; rw [Hdes.out] at he; subst he))
    go_ret
    exact ⟨ret_int Hd.out.symm, (by with_reducible repeat (first | exact Only.refl _ _ | assumption | refine Only.drewN ?_ _ | refine Only.drew ?_ | refine Only.alloc ?_ _ | refine Only.setCell ?_ (by intro hh; exfalso; simp at hh; try omega) _ | refine Only.trans ?_ (by assumption)))⟩
  have hd := dLet_yes hc hneg
  have hdes := desI_yes (x := x) hneg
  rcases descL_of_dK (x := x) (t := t) (p := p) (d := atD t (idxL t.patterns p) - 1) with ⟨e1, e2⟩ | ⟨k, hk, e1, e2⟩
  · rw [e1] at hdes
    rw [e2] at hd
    have Hd := Lib.hid hd
    have Hdes := Lib.hid hdes
    clear hd hdes hneg e1 e2
    go_enter Try.func18, Try.ntmps18
    go_wp2_with (first | (go_at_call 38; (with_reducible refine (proofOf_any [.int .i64 x.points, .string x.names, v2] [u0, u1, u2] x t u p _ _ _ _ (Rp.keep h0 (by with_reducible repeat (first | exact Only.refl _ _ | assumption | refine Only.drewN ?_ _ | refine Only.drew ?_ | refine Only.alloc ?_ _ | refine Only.setCell ?_ (by intro hh; exfalso; simp at hh; try omega) _ | refine Only.trans ?_ (by assumption)))) (Rp.keep h20 (by with_reducible repeat (first | exact Only.refl _ _ | assumption | refine Only.drewN ?_ _ | refine Only.drew ?_ | refine Only.alloc ?_ _ | refine Only.setCell ?_ (by intro hh; exfalso; simp at hh; try omega) _ | refine Only.trans ?_ (by assumption)))) (Rp.keep h3 (by with_reducible repeat (first | exact Only.refl _ _ | assumption | refine Only.drewN ?_ _ | refine Only.drew ?_ | refine Only.alloc ?_ _ | refine Only.setCell ?_ (by intro hh; exfalso; simp at hh; try omega) _ | refine Only.trans ?_ (by assumption))))).mono ?_); rintro e w1 ⟨q, he, hq, t1⟩; rw [hcp] at he; subst he; obtain ⟨g, rfl, hP⟩ := hq hc; have hK1 : Only [] w w1 := (by with_reducible repeat (first | exact Only.refl _ _ | assumption | refine Only.drewN ?_ _ | refine Only.drew ?_ | refine Only.alloc ?_ _ | refine Only.setCell ?_ (by intro hh; exfalso; simp at hh; try omega) _ | refine Only.trans ?_ (by assumption)))) | (go_at_call 39; (with_reducible refine (descent_any g x t u p _ _ hP (Rp.keep h3 hK1) hc hp).mono ?_); rintro e w2 ⟨he, t2⟩; rw [Hdes.out] at he; subst he))
    go_ret
    exact ⟨ret_int Hd.out.symm, (by with_reducible repeat (first | exact Only.refl _ _ | assumption | refine Only.drewN ?_ _ | refine Only.drew ?_ | refine Only.alloc ?_ _ | refine Only.setCell ?_ (by intro hh; exfalso; simp at hh; try omega) _ | refine Only.trans ?_ (by assumption)))⟩
  · rw [e1] at hdes
    rw [e2] at hd
    have Hd := Lib.hid hd
    have Hdes := Lib.hid hdes
    have hk1 : ¬ (k : Int) < 0 := by omega
    clear hd hdes hneg e1 e2
    go_enter Try.func18, Try.ntmps18
    go_wp2_with (first | (go_at_call 38; (with_reducible refine (proofOf_any [.int .i64 x.points, .string x.names, v2] [u0, u1, u2] x t u p _ _ _ _ (Rp.keep h0 (by with_reducible repeat (first | exact Only.refl _ _ | assumption | refine Only.drewN ?_ _ | refine Only.drew ?_ | refine Only.alloc ?_ _ | refine Only.setCell ?_ (by intro hh; exfalso; simp at hh; try omega) _ | refine Only.trans ?_ (by assumption)))) (Rp.keep h20 (by with_reducible repeat (first | exact Only.refl _ _ | assumption | refine Only.drewN ?_ _ | refine Only.drew ?_ | refine Only.alloc ?_ _ | refine Only.setCell ?_ (by intro hh; exfalso; simp at hh; try omega) _ | refine Only.trans ?_ (by assumption)))) (Rp.keep h3 (by with_reducible repeat (first | exact Only.refl _ _ | assumption | refine Only.drewN ?_ _ | refine Only.drew ?_ | refine Only.alloc ?_ _ | refine Only.setCell ?_ (by intro hh; exfalso; simp at hh; try omega) _ | refine Only.trans ?_ (by assumption))))).mono ?_); rintro e w1 ⟨q, he, hq, t1⟩; rw [hcp] at he; subst he; obtain ⟨g, rfl, hP⟩ := hq hc; have hK1 : Only [] w w1 := (by with_reducible repeat (first | exact Only.refl _ _ | assumption | refine Only.drewN ?_ _ | refine Only.drew ?_ | refine Only.alloc ?_ _ | refine Only.setCell ?_ (by intro hh; exfalso; simp at hh; try omega) _ | refine Only.trans ?_ (by assumption)))) | (go_at_call 39; (with_reducible refine (descent_any g x t u p _ _ hP (Rp.keep h3 hK1) hc hp).mono ?_); rintro e w2 ⟨he, t2⟩; rw [Hdes.out] at he; subst he; obtain ⟨v0', v1', v2', vl', vm', M', g0', g1', g2', gl', gm', km', hB', -, -, -, rl', -, -⟩ := hP.keep t2; obtain ⟨A3, C3, rfl, I3⟩ := rl'.ints; obtain ⟨bl, ol, rfl, -, hcl⟩ := I3.at_ k hk; have d3 := hB'.cell 3 rfl; have hk2 : (k : Int) < ((ltrs x.moves.length).length : Int) := (by omega)))
    go_ret
    exact ⟨ret_int Hd.out.symm, (by with_reducible repeat (first | exact Only.refl _ _ | assumption | refine Only.drewN ?_ _ | refine Only.drew ?_ | refine Only.alloc ?_ _ | refine Only.setCell ?_ (by intro hh; exfalso; simp at hh; try omega) _ | refine Only.trans ?_ (by assumption)))⟩
end Go.Proofs.Ytoinaidncncdhaa

namespace Go.Proofs.Ytoinaidncncdhaa
open Go.RowKit
set_option maxRecDepth 10000

theorem patB_rng {n : Int} {k : Nat} {l : List Int} (h : patB n k l = true) : ∀ y ∈ l, 0 ≤ y ∧ y < n := (patB_iff.1 h).2.1
theorem inc_len_le {n : Int} {l : List Int} (h : trackB n l = true) : (l.length : Int) ≤ n := by
  obtain ⟨h0, h1⟩ := trackB_iff.1 h
  rcases h1.len with h2 | h2 <;> omega
theorem foldl_take_succ {α β : Type} (f : β → α → β) (b : β) (l : List α) (j : Nat) (h : j < l.length) : (l.take (j + 1)).foldl f b = f ((l.take j).foldl f b) l[j] := by
  rw [take_succ_get l j h, List.foldl_append]; rfl
theorem foldl_pat {x : Puzzle} {k : Nat} (hv : validPz x = true) : ∀ (wl : List Int) (l : List Int), patB x.points k l = true → (∀ a ∈ wl, a ∈ ltrs x.moves.length) → patB x.points k (wl.foldl (nxt x) l) = true
  | [], l, h, _ => h
  | a :: wl, l, h, hw => foldl_pat hv wl _ (nxt_pat hv h (hw a (by simp))) fun b hb => hw b (by simp [hb])
theorem validW_ltrsI {n : Nat} (hn : n ≤ 8) {wl : List Int} : validW n wl = true ↔ wl.length ≤ 200 ∧ ∀ a ∈ wl, a ∈ ltrs n := by
  unfold validW
  rw [Bool.and_eq_true, decide_eq_true_iff, List.all_eq_true]
  have : ∀ a, okLetter n a = true ↔ a ∈ ltrs n := by
    intro a; rw [okLetter_iff, mem_ltrs]; omega
  simp only [this]
set_option maxHeartbeats 2000000 in
theorem applyLetters_any (cs : List Value) (x : Puzzle) (fp : List Nat) (v u : Value) (l wl : List Int) (f2 f3 : List Nat) (k : Nat) (w : World) (h : Rp.rep w cs x fp) (h2 : Rd w v l f2) (h3 : Rd w u wl f3)
    (hv : validPz x = true) (hl : ∀ a ∈ wl, a ∈ ltrs x.moves.length) (hx : patB x.points k l = true) (hk : k ≤ 1000) (hwl : wl.length ≤ 200) :
    Calls Try.prog 44 #[.agg cs.toArray, v, u] w fun e w' => ∃ v fp', e = .returned v ∧ Rd w' v (wl.foldl (nxt x) l) fp' ∧ Fresh w.heap.size w' fp' ∧ Only [] w w' := by
  have h0 := h
  obtain ⟨v2, rfl, p0, p1, hm⟩ := h
  obtain ⟨A3, C3, rfl, I3⟩ := h3.ints
  have hlk := (patB_iff.1 hx).1
  have Hlk := Lib.hid hlk; clear hlk
  have hB := Blk.new_at (w := w) (cs := [.int .i64 x.points, .string x.names, v2]) (t := 29) rfl
  go_enter Try.func44, Try.ntmps44
  go_wp2_with ((go_at_call 33; (with_reducible refine (copyInts_rd v l _ _ (Rp.keep h2 (by with_reducible repeat (first | exact Only.refl _ _ | assumption | refine Only.drewN ?_ _ | refine Only.drew ?_ | refine Only.alloc ?_ _ | refine Only.setCell ?_ (by intro hh; exfalso; simp at hh; try omega) _ | refine Only.trans ?_ (by assumption)))) (by have := Hlk.out; omega)).mono ?_); rintro e w1 ⟨u1, f1, rfl, r1, F1, t1⟩))
  have hB1 := hB.keep t1
  have hKw : Only [] w w1 := (by with_reducible repeat (first | exact Only.refl _ _ | assumption | refine Only.drewN ?_ _ | refine Only.drew ?_ | refine Only.alloc ?_ _ | refine Only.setCell ?_ (by intro hh; exfalso; simp at hh; try omega) _ | refine Only.trans ?_ (by assumption)))
  have F1' := F1.mono (B' := w.heap.size) (by simp)
  clear hB F1
  go_loopw [7, 8] (fun o i wr => ∃ (j : Nat) (fo : List Nat), j ≤ wl.length ∧ i = .int .i64 j ∧ Rd wr o ((wl.take j).foldl (nxt x) l) fo ∧ Fresh w.heap.size wr fo ∧ Only [] w1 wr)
    (fun _ i _ => wl.length - (intOf i).toNat)
  case atStart => exact ⟨0, _, Nat.zero_le _, rfl, r1, F1', Only.refl _ _⟩
  case round =>
    obtain ⟨j, fo, hj, rfl, hr, hF, hK⟩ := hrel
    have y0 := (hB1.keep hK).cell 0 rfl
    have y1 := (hB1.keep hK).cell 1 rfl
    have y2 := (hB1.keep hK).cell 2 rfl
    have hKz : Only [] w wr := hKw.trans hK
    by_cases hlt : j < wl.length
    · obtain ⟨b, off, rfl, -, hc0⟩ := I3.at_ j hlt
      have hc := hKz.cell (by simp) hc0
      have hp := foldl_pat (k := k) hv (wl.take j) l hx (fun a ha => hl a (List.mem_of_mem_take ha))
      have hla := hl wl[j] (List.getElem_mem _)
      have Hlen := Lib.hid (patB_iff.1 hp).1
      have hs := foldl_take_succ (nxt x) l wl j hlt
      have Hs := Lib.hid hs
      generalize hcur : (wl.take j).foldl (nxt x) l = cur at *
      have Hcur := Lib.hid hcur
      clear hcur hs hc0
      go_wp2
      go_region_held3 (fun w' => Only [] wr w' ∧ w'.cell? ⟨w.heap.size, 0, none⟩ = some (.int .i64 x.points) ∧ w'.cell? ⟨w.heap.size, 1, none⟩ = some (.string x.names) ∧ w'.cell? ⟨w.heap.size, 2, none⟩ = some (v2) ∧ w'.cell? ⟨b, off + j, none⟩ = some (.int .i64 wl[j])) (((refine and_of ?_ (fun h__ => ⟨h__.cell (by simp) y0, h__.cell (by simp) y1, h__.cell (by simp) y2, h__.cell (by simp) hc⟩)); first | exact (Only.refl _ _).drew | exact ((Only.refl _ _).drewN _).drew | exact Only.trans (And.left (by assumption)) (by assumption) | exact Only.alloc (And.left (by assumption)) _ | assumption)) (first | (go_at_call 85; (with_reducible refine (applyLetter_any [.int .i64 x.points, .string x.names, v2] x _ _ cur _ wl[j] _ (Rp.keep h0 (hKz.trans (And.left (by assumption)))) (Rp.keep hr (And.left (by assumption))) hv hla (patB_rng hp) (by have := Hlen.out; omega)).mono ?_); rintro e w4 ⟨u4, f4, rfl, r4, F4, t4⟩; have F4' := F4.mono (hKz.trans (And.left (by assumption))).size) | fail "no arm")
      go_wp2
      go_roundw
      case rel => exact ⟨j + 1, _, by omega, by go_num, by rw [Hs.out]; exact r4, F4', (by with_reducible repeat (first | exact Only.refl _ _ | assumption | refine Only.drewN ?_ _ | refine Only.drew ?_ | refine Only.alloc ?_ _ | refine Only.setCell ?_ (by intro hh; exfalso; simp at hh; try omega) _ | refine Only.trans ?_ (by assumption)))⟩
      case measure => simp [intOf]; omega
    · have hjl : j = wl.length := by omega
      rw [hjl, List.take_length] at hr
      have HR := Lib.hid hr
      clear hjl hr
      go_wp2
      go_ret
      exact ⟨_, _, rfl, HR.out, hF, (by with_reducible repeat (first | exact Only.refl _ _ | assumption | refine Only.drewN ?_ _ | refine Only.drew ?_ | refine Only.alloc ?_ _ | refine Only.setCell ?_ (by intro hh; exfalso; simp at hh; try omega) _ | refine Only.trans ?_ (by assumption)))⟩
theorem specIsValidWord_rd (g : Int) (v : Value) (l : List Int) (fp : List Nat) (w : World) (h : Rd w v l fp) (g0 : 0 ≤ g) (g1 : g ≤ 4611686018427387904) :
    Calls Try.prog 43 #[.int .i64 g, v] w fun e w' => e = .returned (.bool (validW g l)) ∧ Drew w w' := by
  go_enter Try.func43, Try.ntmps43
  go_wp2_with ((go_at_call 84; (with_reducible refine (isWordOf_rd g v l _ _ h g0 g1).mono ?_); rintro e w1 ⟨rfl, n1, rfl⟩))
  go_ret
  exact ⟨rfl, ⟨_, rfl⟩⟩
set_option maxHeartbeats 1000000 in
theorem specPatternAfter_any (cs : List Value) (x : Puzzle) (fp : List Nat) (v u s : Value) (l p wl : List Int) (f2 f3 f4 : List Nat) (w : World) (h : Rp.rep w cs x fp) (h2 : Rd w v l f2) (h3 : Rd w u p f3) (h4 : Rd w s wl f4)
    (hv : validPz x = true) (ht : trackB x.points l = true) (hp : patB x.points l.length p = true) (hl : ∀ a ∈ wl, a ∈ ltrs x.moves.length) (hwl : wl.length ≤ 200) :
    Calls Try.prog 17 #[.agg cs.toArray, v, u, s] w fun e w' => ∃ v fp', e = .returned (.tuple #[v, .bool true]) ∧ Rd w' v (wl.foldl (nxt x) p) fp' ∧ Fresh w.heap.size w' fp' ∧ Only [] w w' := by
  have h0 := h
  obtain ⟨v2, rfl, p0, p1, hm⟩ := h
  obtain ⟨g1, g2, g3, g4⟩ := validPz_facts hv
  obtain ⟨AG, CG, ob, fps, rfl, -, hs⟩ := hm.open_
  have hB := Blk.new_at (w := w) (cs := [.int .i64 x.points, .string x.names, .slice AG x.moves.length CG]) (t := 29) rfl
  have hvw : validW x.moves.length wl = true := (validW_ltrsI g3).2 ⟨hwl, hl⟩
  have hll := inc_len_le ht
  go_enter Try.func17, Try.ntmps17
  go_wp2_with (first | (go_at_call 42; (with_reducible refine (specIsPattern_any [.int .i64 x.points, .string x.names, .slice AG x.moves.length CG] x _ _ _ l p _ _ _ (Rp.keep h0 (by with_reducible repeat (first | exact Only.refl _ _ | assumption | refine Only.drewN ?_ _ | refine Only.drew ?_ | refine Only.alloc ?_ _ | refine Only.setCell ?_ (by intro hh; exfalso; simp at hh; try omega) _ | refine Only.trans ?_ (by assumption)))) (Rp.keep h2 (by with_reducible repeat (first | exact Only.refl _ _ | assumption | refine Only.drewN ?_ _ | refine Only.drew ?_ | refine Only.alloc ?_ _ | refine Only.setCell ?_ (by intro hh; exfalso; simp at hh; try omega) _ | refine Only.trans ?_ (by assumption)))) (Rp.keep h3 (by with_reducible repeat (first | exact Only.refl _ _ | assumption | refine Only.drewN ?_ _ | refine Only.drew ?_ | refine Only.alloc ?_ _ | refine Only.setCell ?_ (by intro hh; exfalso; simp at hh; try omega) _ | refine Only.trans ?_ (by assumption))))).mono ?_); rintro e w1 ⟨he, t1⟩; rw [hv, ht, hp] at he; subst he; have y0 := (hB.keep t1).cell 0 rfl; have y1 := (hB.keep t1).cell 1 rfl; have y2 := (hB.keep t1).cell 2 rfl) | (go_at_call 43; (with_reducible refine (specIsValidWord_rd x.moves.length s wl _ _ (Rp.keep h4 (by with_reducible repeat (first | exact Only.refl _ _ | assumption | refine Only.drewN ?_ _ | refine Only.drew ?_ | refine Only.alloc ?_ _ | refine Only.setCell ?_ (by intro hh; exfalso; simp at hh; try omega) _ | refine Only.trans ?_ (by assumption)))) (by omega) (by omega)).mono ?_); rintro e w2 ⟨he, m2, rfl⟩; rw [hvw] at he; subst he) | (go_at_call 44; (with_reducible refine (applyLetters_any [.int .i64 x.points, .string x.names, .slice AG x.moves.length CG] x _ _ _ p wl _ _ l.length _ (Rp.keep h0 (by with_reducible repeat (first | exact Only.refl _ _ | assumption | refine Only.drewN ?_ _ | refine Only.drew ?_ | refine Only.alloc ?_ _ | refine Only.setCell ?_ (by intro hh; exfalso; simp at hh; try omega) _ | refine Only.trans ?_ (by assumption)))) (Rp.keep h3 (by with_reducible repeat (first | exact Only.refl _ _ | assumption | refine Only.drewN ?_ _ | refine Only.drew ?_ | refine Only.alloc ?_ _ | refine Only.setCell ?_ (by intro hh; exfalso; simp at hh; try omega) _ | refine Only.trans ?_ (by assumption)))) (Rp.keep h4 (by with_reducible repeat (first | exact Only.refl _ _ | assumption | refine Only.drewN ?_ _ | refine Only.drew ?_ | refine Only.alloc ?_ _ | refine Only.setCell ?_ (by intro hh; exfalso; simp at hh; try omega) _ | refine Only.trans ?_ (by assumption)))) hv hl hp (by omega) hwl).mono ?_); rintro e w3 ⟨u3, f3', rfl, r3, F3, t3⟩; obtain ⟨A3, C3, rfl, -⟩ := r3.ints))
  have hK : Only [] w w1 := (by with_reducible repeat (first | exact Only.refl _ _ | assumption | refine Only.drewN ?_ _ | refine Only.drew ?_ | refine Only.alloc ?_ _ | refine Only.setCell ?_ (by intro hh; exfalso; simp at hh; try omega) _ | refine Only.trans ?_ (by assumption)))
  refine bodyPost_ret (v := .tuple #[.slice A3 (wl.foldl (nxt x) p).length C3, .bool true]) (by simp [results, Try.results17, go_sem]) rfl ⟨_, _, rfl, r3, F3.mono hK.size, (by with_reducible repeat (first | exact Only.refl _ _ | assumption | refine Only.drewN ?_ _ | refine Only.drew ?_ | refine Only.alloc ?_ _ | refine Only.setCell ?_ (by intro hh; exfalso; simp at hh; try omega) _ | refine Only.trans ?_ (by assumption)))⟩
theorem leads_iff {x : Puzzle} {t : Table} {p : List Int} {d l : Int} : leads x t p d l = true ↔ 0 ≤ nextI x t p l ∧ t.distances.getD (nextI x t p l).toNat 0 = d := by simp [leads]
end Go.Proofs.Ytoinaidncncdhaa

namespace Go.Proofs.Ytoinaidncncdhaa
open Go.RowKit
set_option maxRecDepth 10000


end Go.Proofs.Ytoinaidncncdhaa

namespace Go.Proofs.Ytoinaidncncdhaa
open Go.RowKit
set_option maxRecDepth 10000
/-- the faults so far, beside the call's own blocks of G -/
def FR (w : World) (G : List Nat) (W wx : World) (v : Value) (L : List Fault) : Prop := AccK w (w.heap.size + 2) 73 G W wx v L
theorem FR.keep {w W wx wy : World} {G : List Nat} {v : Value} {L : List Fault} (h : FR w G W wx v L) (ho : Only [] wx wy) : FR w G W wy v L := AccK.keep h ho
theorem FR.only {w W wx : World} {G : List Nat} {v : Value} {L : List Fault} (h : FR w G W wx v L) : Only [] w wx := AccK.only h
theorem FR.cell {w W wx : World} {G : List Nat} {v : Value} {L : List Fault} (h : FR w G W wx v L) {p : Addr} {u : Value} (hc : W.cell? p = some u) (hs : p.block ∈ G) : wx.cell? p = some u := AccK.cell h hc hs
end Go.Proofs.Ytoinaidncncdhaa

namespace Go.Proofs.Ytoinaidncncdhaa
open Go.RowKit
set_option maxRecDepth 10000
end Go.Proofs.Ytoinaidncncdhaa
