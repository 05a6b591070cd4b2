/- What breadth-first search finds: the patterns that the letters lead to, their distances. Lower bounds out of tables, in plain words (laws 40, 42, 43, 52). Tables without faults: the built ones, and no others with the same patterns (laws 10, 11, 26). Descents in a table that was built; a search of few patterns ends (laws 10, 11). The states of a puzzle: how many there are, what the search of them finds (laws 20, 38). The program's group order and number of states (laws 20, 38). The smallest optimal word of a state, in plain words (laws 20, 38). Maps from strings to numbers that a call makes; the key of a list of small numbers. Maps from strings to truth values that a call makes. -/
import Derived.Test.YtlcoejncdbkhcaaGreatRowSolveCertifiedG12
import Derived.Test.YtlcoejncdbkhcaaGreatRowSolveCertifiedG9
import Derived.Test.YtlcoejncdbkhcaaGreatRowSolveCertifiedG4
import Derived.Test.YtlcoejncdbkhcaaGreatRowSolveCertifiedG10
import Derived.Maps.OwnSet
import Derived.StringKeys
import Derived.Laws.BytesArg
namespace Go.Proofs.YtlcoejncdbkhcaaGreat
open Go.RowKit
set_option maxRecDepth 10000

theorem getD_last {α : Type} (l : List α) (a z : α) : (l ++ [a]).getD l.length z = a := by
  simp [List.getD_eq_getElem?_getD]
theorem getD_get {α : Type} {l : List α} {z : α} {k : Nat} (h : k < l.length) : l.getD k z = l[k] := by
  rw [List.getD_eq_getElem?_getD, List.getElem?_eq_getElem h]; rfl
theorem nodup_at {α : Type} {l : List α} (h : l.Nodup) {i j : Nat} (hi : i < l.length) (hj : j < l.length) (e : l[i] = l[j]) : i = j := by
  rcases Nat.lt_trichotomy i j with h1 | h1 | h1
  · exact absurd e (List.pairwise_iff_getElem.1 h i j hi hj h1)
  · exact h1
  · exact absurd e.symm (List.pairwise_iff_getElem.1 h j i hj hi h1)
theorem ltrs_neg {n : Nat} {l : Int} (h : l ∈ ltrs n) : -l ∈ ltrs n := by
  rw [mem_ltrs] at h ⊢; omega
theorem mv_opp {n : Nat} {gens : List (List Int)} (hg : ∀ g ∈ gens, PM.PN n g) {l : Int} (h : l ∈ ltrs gens.length) : mv gens (-l) = PM.inv (mv gens l) := by
  rcases letter_cases h with ⟨k, hk, rfl⟩ | ⟨k, hk, rfl⟩
  · rw [mv_pos rfl hk, mv_neg (k := k) rfl hk]
  · rw [mv_neg rfl hk, mv_pos (k := k) (by omega) hk, PM.inv_inv (hg _ (List.getElem_mem hk))]
/-- a letter and its inverse -/
theorem nxt_back {x : Puzzle} {k : Nat} {q : List Int} {l : Int} (hv : validPz x = true) (hq : patB x.points k q = true) (h : l ∈ ltrs x.moves.length) : nxt x (nxt x q l) (-l) = q := by
  have hg := validPz_pn hv
  have hm := mv_pn hg h
  have hf := validPz_facts hv
  have hr := (patB_iff.1 hq).2.1
  unfold nxt
  rw [mv_opp hg h]
  show (q.map (PM.at_ (mv x.moves l))).map (PM.at_ (PM.inv (mv x.moves l))) = q
  rw [List.map_map]
  refine (List.map_congr_left fun z hz => ?_).trans (List.map_id q)
  have := hr z hz
  exact PM.at_inv hm this.1 (by omega)
/-- a search under way: the entries ahead of k are done, of the k-th the letters of done -/
structure BI (x : Puzzle) (tr : List Int) (k : Nat) (done : List Int) (s : Met16) : Prop where
  nd : s.1.Nodup
  dl : s.2.length = s.1.length
  p0 : s.1.getD 0 [] = tr
  d0 : s.2.getD 0 0 = 0
  ne : 0 < s.1.length
  mono : ∀ i j, i ≤ j → j < s.1.length → s.2.getD i 0 ≤ s.2.getD j 0
  top : k < s.1.length → ∀ i, i < s.1.length → s.2.getD i 0 ≤ s.2.getD k 0 + 1
  par : ∀ i, 0 < i → i < s.1.length → ∃ j l, j < i ∧ l ∈ ltrs x.moves.length ∧ nxt x (s.1.getD j []) l = s.1.getD i [] ∧ s.2.getD i 0 = s.2.getD j 0 + 1
  clo : ∀ j l, l ∈ ltrs x.moves.length → (j < k ∨ (j = k ∧ l ∈ done)) → j < s.1.length → ∃ i, i < s.1.length ∧ s.1.getD i [] = nxt x (s.1.getD j []) l ∧ s.2.getD i 0 ≤ s.2.getD j 0 + 1
  kl : k ≤ s.1.length
  pat : ∀ q ∈ s.1, patB x.points tr.length q = true
section
variable {x : Puzzle} {tr : List Int} {k : Nat} {done : List Int} {s s' : Met16}
theorem BI.start (hp : patB x.points tr.length tr = true) : BI x tr 0 [] ([tr], [0]) := by
  refine ⟨by simp, rfl, rfl, rfl, by simp, fun i j h1 h2 => ?_, fun _ i hi => ?_, fun i h1 h2 => ?_, fun j l h1 h2 => ?_, by simp, by simpa using hp⟩
  · have : j = 0 := by simpa using h2
    subst this
    have : i = 0 := by omega
    subst this; exact Int.le_refl _
  · have : i = 0 := by simpa using hi
    subst this; simp
  · have : i = 0 := by simpa using h2
    omega
  · rcases h2 with h2 | ⟨-, h2⟩
    · omega
    · cases h2
theorem BI.meet (h : BI x tr k done s) (hv : validPz x = true) (hk : k < s.1.length) {l : Int} (hl : l ∈ ltrs x.moves.length) (hm : bMeet s (s.2.getD k 0 + 1) (nxt x (s.1.getD k []) l) = some s') :
    BI x tr k (l :: done) s' ∧ s'.1.getD k [] = s.1.getD k [] ∧ s'.2.getD k 0 = s.2.getD k 0 ∧ k < s'.1.length := by
  have hkm : s.1.getD k [] ∈ s.1 := by rw [getD_get hk]; exact List.getElem_mem hk
  have hpn := nxt_pat hv (h.pat _ hkm) hl
  unfold bMeet at hm
  split at hm
  · rename_i hmem
    injection hm with hm
    subst hm
    refine ⟨⟨h.nd, h.dl, h.p0, h.d0, h.ne, h.mono, h.top, h.par, fun j l' h1 h2 h3 => ?_, h.kl, h.pat⟩, rfl, rfl, hk⟩
    rcases h2 with h2 | ⟨rfl, h2⟩
    · exact h.clo j l' h1 (.inl h2) h3
    · rcases List.mem_cons.1 h2 with rfl | h2
      · obtain ⟨i, hi, e⟩ := List.getElem_of_mem hmem
        exact ⟨i, hi, by rw [getD_get hi, e], h.top hk i hi⟩
      · exact h.clo j l' h1 (.inr ⟨rfl, h2⟩) h3
  · rename_i hmem
    split at hm
    · cases hm
    · injection hm with hm
      have hkd : k < s.2.length := by rw [h.dl]; exact hk
      have hle : ∀ i, i < s.1.length → s.2.getD i 0 ≤ s.2.getD k 0 + 1 := h.top hk
      have g1 : ∀ i, i < s.1.length → (s.1 ++ [nxt x (s.1.getD k []) l]).getD i [] = s.1.getD i [] := fun i hi => getD_snoc hi
      have g2 : ∀ i, i < s.1.length → (s.2 ++ [s.2.getD k 0 + 1]).getD i 0 = s.2.getD i 0 := fun i hi => getD_snoc (by rw [h.dl]; exact hi)
      have e1 : (s.1 ++ [nxt x (s.1.getD k []) l]).getD s.1.length [] = nxt x (s.1.getD k []) l := getD_last _ _ _
      have e2 : (s.2 ++ [s.2.getD k 0 + 1]).getD s.1.length 0 = s.2.getD k 0 + 1 := by rw [← h.dl]; exact getD_last _ _ _
      subst hm
      refine ⟨⟨?_, by simp [h.dl], by rw [g1 0 h.ne]; exact h.p0, by rw [g2 0 h.ne]; exact h.d0, by simp, fun i j h1 h2 => ?_, fun _ i hi => ?_, fun i h1 h2 => ?_, fun j l' h1 h2 h3 => ?_, by simp; omega, fun q hq => ?_⟩, g1 k hk, g2 k hk, by simp; omega⟩
      · rw [List.nodup_append]
        exact ⟨h.nd, by simp, fun a ha b hb e => hmem (by rw [← List.mem_singleton.1 hb, ← e]; exact ha)⟩
      · simp only [List.length_append, List.length_singleton] at h2
        by_cases hj : j < s.1.length
        · show (s.2 ++ _).getD i 0 ≤ (s.2 ++ _).getD j 0
          rw [g2 i (by omega), g2 j hj]; exact h.mono i j h1 hj
        · obtain rfl : j = s.1.length := by omega
          show (s.2 ++ _).getD i 0 ≤ (s.2 ++ _).getD _ 0
          rw [e2]
          by_cases hi : i < s.1.length
          · rw [g2 i hi]; exact hle i hi
          · obtain rfl : i = s.1.length := by omega
            rw [e2]; exact Int.le_refl _
      · simp only [List.length_append, List.length_singleton] at hi
        show (s.2 ++ _).getD i 0 ≤ (s.2 ++ _).getD k 0 + 1
        rw [g2 k hk]
        by_cases hi2 : i < s.1.length
        · rw [g2 i hi2]; exact hle i hi2
        · obtain rfl : i = s.1.length := by omega
          rw [e2]; exact Int.le_refl _
      · simp only [List.length_append, List.length_singleton] at h2
        by_cases hi : i < s.1.length
        · obtain ⟨j, l', a1, a2, a3, a4⟩ := h.par i h1 hi
          refine ⟨j, l', a1, a2, ?_, ?_⟩
          · show nxt x ((s.1 ++ _).getD j []) l' = (s.1 ++ _).getD i []
            rw [g1 j (by omega), g1 i hi]; exact a3
          · show (s.2 ++ _).getD i 0 = (s.2 ++ _).getD j 0 + 1
            rw [g2 j (by omega), g2 i hi]; exact a4
        · obtain rfl : i = s.1.length := by omega
          refine ⟨k, l, hk, hl, ?_, ?_⟩
          · show nxt x ((s.1 ++ _).getD k []) l = (s.1 ++ _).getD _ []
            rw [g1 k hk, e1]
          · show (s.2 ++ _).getD _ 0 = (s.2 ++ _).getD k 0 + 1
            rw [g2 k hk, e2]
      · simp only [List.length_append, List.length_singleton] at h3
        have hj : j < s.1.length := by rcases h2 with h2 | ⟨rfl, -⟩ <;> omega
        have hold : (j < k ∨ (j = k ∧ l' ∈ done)) → ∃ i, i < (s.1 ++ [nxt x (s.1.getD k []) l]).length ∧ (s.1 ++ [nxt x (s.1.getD k []) l]).getD i [] = nxt x ((s.1 ++ [nxt x (s.1.getD k []) l]).getD j []) l' ∧ (s.2 ++ [s.2.getD k 0 + 1]).getD i 0 ≤ (s.2 ++ [s.2.getD k 0 + 1]).getD j 0 + 1 := fun h4 => by
          obtain ⟨i, b1, b2, b3⟩ := h.clo j l' h1 h4 hj
          exact ⟨i, by simp; omega, by rw [g1 i b1, g1 j hj]; exact b2, by rw [g2 i b1, g2 j hj]; exact b3⟩
        rcases h2 with h2 | ⟨rfl, h2⟩
        · exact hold (.inl h2)
        · rcases List.mem_cons.1 h2 with rfl | h2
          · exact ⟨s.1.length, by simp, by show (s.1 ++ _).getD _ [] = nxt x ((s.1 ++ _).getD j []) l'; rw [e1, g1 j hk], by show (s.2 ++ _).getD _ 0 ≤ (s.2 ++ _).getD j 0 + 1; rw [e2, g2 j hk]; exact Int.le_refl _⟩
          · exact hold (.inr ⟨rfl, h2⟩)
      · rcases List.mem_append.1 hq with hq | hq
        · exact h.pat q hq
        · simp at hq; subst hq; exact hpn
theorem BI.lets (hv : validPz x = true) : ∀ {ls done : List Int} {s s' : Met16}, BI x tr k done s → k < s.1.length → (∀ l ∈ ls, l ∈ ltrs x.moves.length) → bLets x (s.1.getD k []) (s.2.getD k 0 + 1) ls s = some s' →
    ∃ done', BI x tr k done' s' ∧ k < s'.1.length ∧ (∀ l ∈ ls, l ∈ done') ∧ ∀ l ∈ done, l ∈ done'
  | [], done, s, s', h, hk, _, he => by
    unfold bLets at he; injection he with he; subst he
    exact ⟨done, h, hk, by simp, fun _ h => h⟩
  | l :: ls, done, s, s', h, hk, hl, he => by
    unfold bLets at he
    rw [Option.bind_eq_some_iff] at he
    obtain ⟨s1, e1, e2⟩ := he
    obtain ⟨b1, b2, b3, b4⟩ := h.meet hv hk (hl l (by simp)) e1
    rw [← b2, ← b3] at e2
    obtain ⟨done', c1, c2, c3, c4⟩ := BI.lets hv b1 b4 (fun l hl2 => hl l (by simp [hl2])) e2
    refine ⟨done', c1, c2, fun l' hl' => ?_, fun l' hl' => c4 l' (by simp [hl'])⟩
    rcases List.mem_cons.1 hl' with rfl | hl'
    · exact c4 _ (by simp)
    · exact c3 l' hl'
theorem BI.next (h : BI x tr k done s) (hk : k < s.1.length) (ha : ∀ l ∈ ltrs x.moves.length, l ∈ done) : BI x tr (k + 1) [] s := by
  refine ⟨h.nd, h.dl, h.p0, h.d0, h.ne, h.mono, fun h1 i hi => ?_, h.par, fun j l h1 h2 h3 => ?_, hk, h.pat⟩
  · have h2 := h.top hk i hi
    have h3 := h.mono k (k + 1) (by omega) h1
    omega
  · rcases h2 with h2 | ⟨-, h2⟩
    · by_cases hj : j < k
      · exact h.clo j l h1 (.inl hj) h3
      · obtain rfl : j = k := by omega
        exact h.clo j l h1 (.inr ⟨rfl, ha l h1⟩) h3
    · cases h2
theorem BI.from_ (hv : validPz x = true) : ∀ {n k : Nat} {s s' : Met16}, bFrom x n k s = some s' → BI x tr k [] s → s.1.length ≤ 3000 → 3001 ≤ n + k → BI x tr s'.1.length [] s'
  | 0, k, s, s', he, h, h1, h2 => by have := h.kl; omega
  | n + 1, k, s, s', he, h, h1, h2 => by
    unfold bFrom at he
    split at he
    · rename_i hk
      rw [Option.bind_eq_some_iff] at he
      obtain ⟨s1, e1, e2⟩ := he
      obtain ⟨done', c1, c2, c3, -⟩ := h.lets hv hk (fun l hl => hl) e1
      have hlen := bLets_len e1 h.dl.symm h1
      exact BI.from_ hv e2 (c1.next c2 c3) hlen.2.1 (by omega)
    · injection he with he; subst he
      have : k = s.1.length := by have := h.kl; omega
      subst this; exact h
end
/-- a table that was built -/
structure Built (x : Puzzle) (t : Table) : Prop where
  v : validPz x = true
  tk : trackB x.points t.tracked = true
  bi : BI x t.tracked t.patterns.length [] (t.patterns, t.distances)
  ll : t.patterns.length ≤ 3000
theorem bTab_built {x : Puzzle} {tr : List Int} {t : Table} (h : bTab x tr = some t) : Built x t ∧ t.tracked = tr := by
  obtain ⟨h1, h2, h3, h4, h5, h6, h7⟩ := bTab_facts h
  subst h3
  refine ⟨⟨h1, h2, ?_, h6⟩, rfl⟩
  rw [bfs16_yes (by rw [h1, h2]; rfl)] at h4
  exact BI.from_ h1 h4 (BI.start (trackB_pat h2)) (by simp) (by omega)
section
variable {x : Puzzle} {t : Table}
theorem Built.dep (h : Built x t) : ∀ i : Nat, i < t.patterns.length → 0 ≤ t.distances.getD i 0 ∧ t.distances.getD i 0 ≤ i ∧ (0 < i → 0 < t.distances.getD i 0) := by
  intro i
  induction i using Nat.strongRecOn with
  | ind i ih =>
    intro hi
    by_cases h0 : i = 0
    · subst h0
      have : t.distances.getD 0 0 = 0 := h.bi.d0
      omega
    · obtain ⟨j, l, a1, a2, a3, a4⟩ := h.bi.par i (by omega) hi
      have h1 := ih j a1 (Nat.lt_trans a1 hi)
      simp only at a4
      omega
/-- the entry of a letter -/
theorem Built.step (h : Built x t) {j : Nat} (hj : j < t.patterns.length) {l : Int} (hl : l ∈ ltrs x.moves.length) :
    ∃ i : Nat, i < t.patterns.length ∧ t.patterns.getD i [] = nxt x (t.patterns.getD j []) l ∧ t.distances.getD i 0 ≤ t.distances.getD j 0 + 1 ∧ t.distances.getD j 0 ≤ t.distances.getD i 0 + 1 := by
  obtain ⟨i, b1, b2, b3⟩ := h.bi.clo j l hl (.inl hj) hj
  obtain ⟨j', c1, c2, c3⟩ := h.bi.clo i (-l) (ltrs_neg hl) (.inl b1) b1
  simp only at b1 b2 b3 c1 c2 c3
  rw [b2, nxt_back h.v (h.bi.pat _ (by rw [getD_get hj]; exact List.getElem_mem hj)) hl] at c2
  have : j' = j := by
    rw [getD_get c1, getD_get hj] at c2
    have hnd : t.patterns.Nodup := h.bi.nd
    exact nodup_at hnd c1 hj c2
  subst this
  exact ⟨i, b1, b2, b3, c3⟩
theorem Built.idx (h : Built x t) {i : Nat} (hi : i < t.patterns.length) : idxL t.patterns (t.patterns.getD i []) = i := by
  refine idxF_some (j := i) hi (fun q hq => ?_) ?_
  · rw [List.mem_take_iff_getElem] at hq
    obtain ⟨k, hk, rfl⟩ := hq
    refine decide_eq_false fun e => ?_
    rw [getD_get hi] at e
    have hnd : t.patterns.Nodup := h.bi.nd
    have := nodup_at hnd (by omega) hi e
    omega
  · exact decide_eq_true (getD_get hi).symm
end
end Go.Proofs.YtlcoejncdbkhcaaGreat

namespace Go.Proofs.YtlcoejncdbkhcaaGreat
open Go.RowKit
set_option maxRecDepth 10000
/-- the patterns of reachable states are entries -/
theorem Built.reach {x : Puzzle} {t : Table} (h : Built x t) {s : List Int} (hs : reachB x s = true) : PM.comp t.tracked s ∈ t.patterns := by
  have hg := validPz_pn h.v
  have hf := validPz_facts h.v
  have htr := trackB_iff.1 h.tk
  have hG : PM.Grp x.points.toNat x.moves s := by
    unfold reachB memB at hs
    rw [Bool.and_eq_true] at hs
    exact @of_decide_eq_true _ (Classical.propDecidable _) hs.2
  have hr : ∀ z ∈ t.tracked, 0 ≤ z ∧ z < x.points.toNat := fun z hz => by have := htr.2.1 z hz; omega
  have h0 : t.patterns.getD 0 [] = t.tracked := h.bi.p0
  have hne : 0 < t.patterns.length := h.bi.ne
  have := PM.grp_sub (n := x.points.toNat) (G := x.moves) hg (S := fun p => PM.PN x.points.toNat p ∧ PM.comp t.tracked p ∈ t.patterns) (fun p hp => hp.1) ⟨PM.PN.id _, ?_⟩ ?_ hG
  · exact this.2
  · have e : PM.comp t.tracked (PM.pts x.points.toNat) = t.tracked := by
      unfold PM.comp
      refine (List.map_congr_left fun z hz => ?_).trans (List.map_id _)
      exact PM.at_pts (hr z hz).1 (hr z hz).2
    rw [e, ← h0, getD_get hne]
    exact List.getElem_mem hne
  · rintro p g ⟨hp, hm⟩ hgm
    refine ⟨hp.comp (hg g hgm), ?_⟩
    obtain ⟨k, hk, rfl⟩ := List.getElem_of_mem hgm
    obtain ⟨j, hj, e⟩ := List.getElem_of_mem hm
    have hl : ((k : Int) + 1) ∈ ltrs x.moves.length := mem_ltrs.2 ⟨by omega, by omega, by omega⟩
    obtain ⟨i, hi, e2, -⟩ := h.step hj hl
    have e3 : PM.comp t.tracked (PM.comp p x.moves[k]) = nxt x (PM.comp t.tracked p) ((k : Int) + 1) := by
      unfold nxt
      rw [mv_pos rfl hk]
      unfold PM.comp
      rw [List.map_map]
      refine List.map_congr_left fun z hz => ?_
      have := hr z hz
      exact PM.at_comp this.1 (by rw [hp.1]; omega)
    rw [e3, ← e, ← getD_get (z := []) hj, ← e2, getD_get hi]
    exact List.getElem_mem hi
end Go.Proofs.YtlcoejncdbkhcaaGreat

namespace Go.Proofs.YtlcoejncdbkhcaaGreat
open Go.RowKit
set_option maxRecDepth 10000

def Good (x : Puzzle) (t : Table) : Prop := ∀ i, i < t.patterns.length → entF x t i = []
theorem one_nil {b : Bool} {f : Fault} : one b f = [] ↔ b = false := by unfold one; cases b <;> simp
theorem descL_leads {x : Puzzle} {t : Table} {p : List Int} {d : Int} (h : descL x t p d ≠ 0) : descL x t p d ∈ ltrs x.moves.length ∧ leads x t p d (descL x t p d) = true := by
  unfold descL at h ⊢
  cases hf : (ltrs x.moves.length).find? (leads x t p d) with
  | none => rw [hf] at h; exact absurd rfl h
  | some l => exact ⟨List.mem_of_find?_eq_some hf, List.find?_some hf⟩
theorem descL_ne {x : Puzzle} {t : Table} {p : List Int} {d : Int} {l : Int} (hl : l ∈ ltrs x.moves.length) (h : leads x t p d l = true) : descL x t p d ≠ 0 := by
  unfold descL
  cases hf : (ltrs x.moves.length).find? (leads x t p d) with
  | none => have := List.find?_eq_none.1 hf l hl; rw [h] at this; exact absurd rfl this
  | some l' => exact (mem_ltrs.1 (List.mem_of_find?_eq_some hf)).1
theorem leads_iffD {x : Puzzle} {t : Table} {p : List Int} {d l : Int} : leads x t p d l = true ↔ 0 ≤ nextI x t p l ∧ atD t (nextI x t p l) = d := by
  unfold leads atD
  rw [Bool.and_eq_true, decide_eq_true_iff, decide_eq_true_iff]
section
variable {x : Puzzle} {t t' : Table}
/-- what an entry without faults says -/
theorem ent_nil {i : Nat} : entF x t i = [] ↔ (i = 0 → atD t 0 = 0 ∧ atP t 0 = t.tracked) ∧ (i : Int) ≤ idxL t.patterns (atP t i) ∧ (0 < i → atD t i ≠ 0) ∧
    (∀ l ∈ ltrs x.moves.length, 0 ≤ nextI x t (atP t i) l ∧ -1 ≤ atD t (nextI x t (atP t i) l) - atD t i ∧ atD t (nextI x t (atP t i) l) - atD t i ≤ 1) ∧ (0 < atD t i → descL x t (atP t i) (atD t i - 1) ≠ 0) := by
  unfold entF
  rw [List.append_eq_nil_iff, List.append_eq_nil_iff, List.append_eq_nil_iff, List.append_eq_nil_iff, one_nil, one_nil, one_nil, one_nil, List.flatMap_eq_nil_iff]
  have hl : ∀ l, letF x t i l = [] ↔ 0 ≤ nextI x t (atP t i) l ∧ -1 ≤ atD t (nextI x t (atP t i) l) - atD t i ∧ atD t (nextI x t (atP t i) l) - atD t i ≤ 1 := fun l => by
    unfold letF
    split
    · rename_i h; simp; omega
    · rename_i h
      split
      · rename_i h2; rw [inR_iff] at h2; simp; omega
      · rename_i h2; rw [inR_iff] at h2; simp; omega
  constructor
  · rintro ⟨a, b, c, d, e⟩
    refine ⟨fun h0 => ?_, ?_, fun h0 => ?_, fun l h => (hl l).1 (d l h), fun h0 h1 => ?_⟩
    · subst h0
      simp only [decide_true, Bool.true_and, Bool.or_eq_false_iff, decide_eq_false_iff_not] at a
      exact ⟨Decidable.of_not_not a.1, Decidable.of_not_not a.2⟩
    · have := of_decide_eq_false b; omega
    · intro h1; simp [h0, h1] at c
    · simp [h0, h1] at e
  · rintro ⟨a, b, c, d, e⟩
    refine ⟨?_, decide_eq_false (by omega), ?_, fun l h => (hl l).2 (d l h), ?_⟩
    · by_cases h0 : i = 0
      · subst h0; obtain ⟨a1, a2⟩ := a rfl
        simp [a1, a2]
      · simp [h0]
    · by_cases h0 : 0 < i
      · simp [h0, c h0]
      · simp [h0]
    · by_cases h0 : 0 < atD t i
      · simp [e h0]
      · simp [h0]
theorem atD_nat (i : Nat) : atD t i = t.distances.getD i 0 := by unfold atD; rw [Int.toNat_natCast]
theorem Built.good (h : Built x t) : Good x t := by
  intro i hi
  have hstep : ∀ l ∈ ltrs x.moves.length, ∃ i' : Nat, i' < t.patterns.length ∧ t.patterns.getD i' [] = nxt x (atP t i) l ∧ nextI x t (atP t i) l = i' ∧ atD t i' ≤ atD t i + 1 ∧ atD t i ≤ atD t i' + 1 := fun l hl => by
    obtain ⟨i', a1, a2, a3, a4⟩ := h.step hi hl
    refine ⟨i', a1, a2, ?_, by rw [atD_nat, atD_nat]; exact a3, by rw [atD_nat, atD_nat]; exact a4⟩
    show idxL t.patterns (nxt x (t.patterns.getD i []) l) = i'
    rw [← a2]; exact h.idx a1
  refine ent_nil.2 ⟨fun h0 => ?_, ?_, fun h0 => ?_, fun l hl => ?_, fun h0 => ?_⟩
  · have a := h.bi.d0; have b := h.bi.p0
    simp only at a b
    exact ⟨a, b⟩
  · rw [show atP t i = t.patterns.getD i [] from rfl, h.idx hi]; exact Int.le_refl _
  · have := (h.dep i hi).2.2 h0
    rw [atD_nat]; omega
  · obtain ⟨i', a1, a2, a3, a4, a5⟩ := hstep l hl
    rw [a3]; omega
  · have hi0 : 0 < i := by
      rcases Nat.eq_zero_or_pos i with h1 | h1
      · subst h1
        have := h.bi.d0
        simp only at this
        rw [atD_nat, this] at h0; omega
      · exact h1
    obtain ⟨j, l, a1, a2, a3, a4⟩ := h.bi.par i hi0 hi
    simp only at a3 a4
    have hj : j < t.patterns.length := by omega
    have hjm : t.patterns.getD j [] ∈ t.patterns := by rw [getD_get hj]; exact List.getElem_mem hj
    have hb : nxt x (atP t i) (-l) = t.patterns.getD j [] := by
      rw [show atP t i = t.patterns.getD i [] from rfl, ← a3]
      exact nxt_back h.v (h.bi.pat _ hjm) a2
    refine descL_ne (ltrs_neg a2) (leads_iffD.2 ?_)
    have hn : nextI x t (atP t i) (-l) = j := by
      show idxL t.patterns (nxt x (atP t i) (-l)) = j
      rw [hb]; exact h.idx hj
    rw [hn, atD_nat, atD_nat]
    omega
theorem Built.check (h : Built x t) : checkT x t = true := by
  obtain ⟨h1, h2, h3, h4⟩ := validPz_facts h.v
  have h5 := trackB_iff.1 h.tk
  have hd := h.bi.dl
  simp only at hd
  have h20 : ∀ p, patB x.points t.tracked.length p = true → patB 20 t.tracked.length p = true := fun p hp => by
    obtain ⟨a, b, c⟩ := patB_iff.1 hp
    exact patB_iff.2 ⟨a, fun y hy => by have := b y hy; omega, c⟩
  refine checkT_iff.2 ⟨h.v, wfT_iff.2 ⟨trackB_iff.2 ⟨h5.1, fun y hy => by have := h5.2.1 y hy; omega, h5.2.2⟩, ⟨?_, ?_⟩, hd, fun p hp => h20 p (h.bi.pat p hp), fun d hdm => ?_⟩, h.tk, h.bi.pat⟩
  · have := h.bi.ne; simp only at this; omega
  · have := h.ll; omega
  · obtain ⟨i, hi, rfl⟩ := List.getElem_of_mem hdm
    have hil : i < t.patterns.length := by omega
    have := h.dep i hil
    rw [getD_get hi] at this
    have := h.ll
    rw [inR_iff]; omega
theorem Good.dist0 (_ : Good x t) (hc : checkT x t = true) : ∀ i : Nat, i < t.patterns.length → 0 ≤ atD t i := fun i hi => by
  have hw := wfT_iff.1 (checkT_iff.1 hc).2.1
  have hi' : i < t.distances.length := by omega
  rw [atD_nat, getD_get hi']
  have := inR_iff.1 (hw.2.2.2.2 _ (List.getElem_mem hi')); omega
/-- two tables without faults, with the same patterns, have the same distances: one half -/
theorem Good.le (h : Good x t) (hc : checkT x t = true) (h' : Good x t') (hc' : checkT x t' = true) (hp : t'.patterns = t.patterns) : ∀ (n : Nat) (i : Nat), i < t.patterns.length → atD t i = n → atD t' i ≤ n
  | 0, i, hi, hd => by
    have e := ent_nil.1 (h i hi)
    have e' := ent_nil.1 (h' i (by rw [hp]; exact hi))
    have h0 : i = 0 := by
      rcases Nat.eq_zero_or_pos i with h1 | h1
      · exact h1
      · exact absurd (by simpa using hd) (e.2.2.1 h1)
    subst h0
    have := (e'.1 rfl).1
    have e0 : atD t' ((0 : Nat) : Int) = 0 := this
    rw [e0]; exact Int.le_refl _
  | n + 1, i, hi, hd => by
    have e := ent_nil.1 (h i hi)
    have e' := ent_nil.1 (h' i (by rw [hp]; exact hi))
    have hne := e.2.2.2.2 (by rw [hd]; omega)
    obtain ⟨hl, hlead⟩ := descL_leads hne
    obtain ⟨a1, a2⟩ := leads_iffD.1 hlead
    obtain ⟨b1, b2, b3⟩ := e'.2.2.2.1 _ hl
    have hn : nextI x t' (atP t' i) (descL x t (atP t i) (atD t i - 1)) = nextI x t (atP t i) (descL x t (atP t i) (atD t i - 1)) := by
      unfold nextI atP; rw [hp]
    have hlt := (idxL_lt (l := t.patterns) (p := nxt x (atP t i) (descL x t (atP t i) (atD t i - 1)))).2
    obtain ⟨j, hj⟩ : ∃ j : Nat, nextI x t (atP t i) (descL x t (atP t i) (atD t i - 1)) = j := ⟨_, (Int.toNat_of_nonneg a1).symm⟩
    have hjl : j < t.patterns.length := by unfold nextI at hj; omega
    rw [hn, hj] at b2 b3
    rw [hj] at a2
    have := Good.le h hc h' hc' hp n j hjl (by rw [a2, hd]; omega)
    omega
theorem Good.same (h : Good x t) (hc : checkT x t = true) (h' : Good x t') (hc' : checkT x t' = true) (hp : t'.patterns = t.patterns) {i : Nat} (hi : i < t.patterns.length) : atD t i = atD t' i := by
  have h1 := h.dist0 hc i hi
  have h2 := h'.dist0 hc' i (by rw [hp]; exact hi)
  have a := Good.le h hc h' hc' hp (atD t i).toNat i hi (by omega)
  have b := Good.le h' hc' h hc hp.symm (atD t' i).toNat i (by rw [hp]; exact hi) (by omega)
  omega
end
end Go.Proofs.YtlcoejncdbkhcaaGreat

namespace Go.Proofs.YtlcoejncdbkhcaaGreat
open Go.RowKit
set_option maxRecDepth 10000

section
variable {x : Puzzle} {t : Table}
theorem idxL_getD {l : List (List Int)} {p : List Int} (h : 0 ≤ idxL l p) : l.getD (idxL l p).toNat [] = p := by
  rcases idxF_nonneg_or (fun q => decide (q = p)) l with h1 | ⟨k, hk, h1, h2⟩
  · unfold idxL at h; omega
  · unfold idxL
    rw [h1, Int.toNat_natCast, getD_get hk]
    exact of_decide_eq_true h2
theorem Built.root (h : Built x t) {i : Nat} (hi : i < t.patterns.length) : t.patterns.getD i [] = t.tracked ↔ i = 0 := by
  have h0 : t.patterns.getD 0 [] = t.tracked := h.bi.p0
  constructor
  · intro e
    rw [← h0, getD_get hi, getD_get (by omega)] at e
    have hnd : t.patterns.Nodup := h.bi.nd
    exact nodup_at hnd hi (by omega) e
  · rintro rfl; exact h0
theorem Built.dLet_ (h : Built x t) {i : Nat} (hi : i < t.patterns.length) : dLet x t (t.patterns.getD i []) = descL x t (t.patterns.getD i []) (atD t i - 1) := by
  have hx := h.idx hi
  rw [dLet_yes h.check (by rw [hx]; omega), hx]
theorem Built.word (h : Built x t) : ∀ (n m i : Nat), i < t.patterns.length → atD t i = n → n ≤ m →
    ∃ w, dW x t m (t.patterns.getD i []) = some w ∧ w.length = n ∧ (∀ l ∈ w, l ∈ ltrs x.moves.length) ∧ w.foldl (nxt x) (t.patterns.getD i []) = t.tracked
  | 0, m, i, hi, hd, hm => by
    have h0 : i = 0 := by
      rcases Nat.eq_zero_or_pos i with h1 | h1
      · exact h1
      · have := (h.dep i hi).2.2 h1
        rw [atD_nat] at hd; omega
    have hr := (h.root hi).2 h0
    refine ⟨[], ?_, rfl, by simp, hr⟩
    cases m <;> (unfold dW; rw [if_pos hr])
  | n + 1, 0, i, hi, hd, hm => by omega
  | n + 1, m + 1, i, hi, hd, hm => by
    have hr : t.patterns.getD i [] ≠ t.tracked := fun e => by
      have := (h.root hi).1 e
      subst this
      have h0 : t.distances.getD 0 0 = 0 := h.bi.d0
      rw [atD_nat, h0] at hd; omega
    have hg := ent_nil.1 (h.good i hi)
    have hne : descL x t (t.patterns.getD i []) (atD t i - 1) ≠ 0 := hg.2.2.2.2 (by rw [hd]; omega)
    obtain ⟨hl, hlead⟩ := descL_leads hne
    obtain ⟨a1, a2⟩ := leads_iffD.1 hlead
    rw [← h.dLet_ hi] at hl a1 a2 hne
    have hj : t.patterns.getD (nextI x t (t.patterns.getD i []) (dLet x t (t.patterns.getD i []))).toNat [] = nxt x (t.patterns.getD i []) (dLet x t (t.patterns.getD i [])) := idxL_getD a1
    have hlt := (idxL_lt (l := t.patterns) (p := nxt x (t.patterns.getD i []) (dLet x t (t.patterns.getD i [])))).2
    obtain ⟨j, hjj⟩ : ∃ j : Nat, nextI x t (t.patterns.getD i []) (dLet x t (t.patterns.getD i [])) = j := ⟨_, (Int.toNat_of_nonneg a1).symm⟩
    rw [hjj] at a2 hj
    rw [Int.toNat_natCast] at hj
    have hjl : j < t.patterns.length := by unfold nextI at hjj; omega
    obtain ⟨w, b1, b2, b3, b4⟩ := Built.word h n m j hjl (by rw [a2, hd]; omega) (by omega)
    refine ⟨dLet x t (t.patterns.getD i []) :: w, ?_, by simp [b2], ?_, ?_⟩
    · show (if _ then _ else _) = _
      rw [if_neg hr, if_neg hne, ← hj, b1]; rfl
    · intro l hl2
      rcases List.mem_cons.1 hl2 with rfl | hl2
      · exact hl
      · exact b3 l hl2
    · rw [List.foldl_cons, ← hj]; exact b4
theorem Built.letter (h : Built x t) {i : Nat} (hi : i < t.patterns.length) : dLet x t (t.patterns.getD i []) = 0 ↔ atD t i = 0 := by
  have h0 := (h.dep i hi).1
  rw [← atD_nat] at h0
  rw [h.dLet_ hi]
  have hg := ent_nil.1 (h.good i hi)
  constructor
  · intro e
    rcases Int.lt_or_le 0 (atD t i) with h1 | h1
    · exact absurd e (hg.2.2.2.2 h1)
    · omega
  · intro e
    rcases Decidable.em (descL x t (t.patterns.getD i []) (atD t i - 1) = 0) with h1 | h1
    · exact h1
    · obtain ⟨-, hlead⟩ := descL_leads h1
      obtain ⟨a1, a2⟩ := leads_iffD.1 hlead
      have hlt := (idxL_lt (l := t.patterns) (p := nxt x (t.patterns.getD i []) (descL x t (t.patterns.getD i []) (atD t i - 1)))).2
      obtain ⟨j, hj⟩ : ∃ j : Nat, nextI x t (t.patterns.getD i []) (descL x t (t.patterns.getD i []) (atD t i - 1)) = j := ⟨_, (Int.toNat_of_nonneg a1).symm⟩
      have hjl : j < t.patterns.length := by unfold nextI at hj; omega
      rw [hj, atD_nat] at a2
      have := (h.dep j hjl).1
      omega
end
/-- so many patterns at most -/
theorem BI.bound {x : Puzzle} {tr : List Int} {k : Nat} {done : List Int} {s : Met16} (h : BI x tr k done s) : s.1.length ≤ (PM.allL (PM.pts x.points.toNat) tr.length).length := by
  refine PM.nodup_sub_len h.nd fun q hq => ?_
  obtain ⟨a, b, -⟩ := patB_iff.1 (h.pat q hq)
  rw [← a]
  exact PM.mem_allL q fun y hy => PM.mem_pts.2 (by have := b y hy; omega)
end Go.Proofs.YtlcoejncdbkhcaaGreat

namespace Go.Proofs.YtlcoejncdbkhcaaGreat
open Go.RowKit
set_option maxRecDepth 10000

/-- the members of a group, each once -/
noncomputable def grpL (n : Nat) (gens : List (List Int)) : List (List Int) := Classical.choose (PM.nodup_exists (PM.allL (PM.pts n) n) (PM.Grp n gens))
theorem grpL_nodup (n : Nat) (gens : List (List Int)) : (grpL n gens).Nodup := (Classical.choose_spec (PM.nodup_exists (PM.allL (PM.pts n) n) (PM.Grp n gens))).1
theorem mem_grpL {n : Nat} {gens : List (List Int)} (hp : ∀ g ∈ gens, PM.PN n g) {p : List Int} : p ∈ grpL n gens ↔ PM.Grp n gens p := by
  have h := (Classical.choose_spec (PM.nodup_exists (PM.allL (PM.pts n) n) (PM.Grp n gens))).2 p
  show p ∈ Classical.choose _ ↔ _
  rw [h]
  refine ⟨fun h => h.2, fun hg => ⟨?_, hg⟩⟩
  have hpn := PM.Grp.pn hp hg
  have := PM.mem_allL (A := PM.pts n) p fun x hx => PM.mem_pts.2 (by have := hpn.2.1 x hx; rw [hpn.1] at this; exact this)
  rwa [hpn.1] at this
/-- how many states can be reached -/
noncomputable def cardG (x : Puzzle) : Nat := (grpL x.points.toNat x.moves).length
theorem chain_card {n : Nat} {gens : List (List Int)} {G : PM.Gens} {T : PM.Rows} (h : PM.Chain n gens G T) (hn : 0 < n) (hp : ∀ g ∈ gens, PM.PN n g) : PM.ordM T n n = (grpL n gens).length :=
  Nat.le_antisymm (h.order_ge hn hp fun _ hg => (mem_grpL hp).2 hg) (h.order_le hn hp (grpL_nodup _ _) fun _ hx => (mem_grpL hp).1 hx)
theorem cardG_pos {x : Puzzle} (hv : validPz x = true) : 1 ≤ cardG x := List.length_pos_of_mem ((mem_grpL (validPz_pn hv)).2 .id)
theorem pts_inc (n : Nat) : Inc (n : Int) (PM.pts n) := by
  refine ⟨fun z hz => PM.mem_pts.1 hz, ?_⟩
  unfold PM.pts
  rw [List.pairwise_map]
  exact List.Pairwise.imp (fun h => by omega) (List.pairwise_lt_range (n := n))
theorem pts_track {x : Puzzle} (hv : validPz x = true) : trackB x.points (PM.pts x.points.toNat) = true := by
  have := validPz_facts hv
  rw [trackB_iff]
  refine ⟨by rw [PM.pts_len]; omega, ?_⟩
  have h := pts_inc x.points.toNat
  rwa [show ((x.points.toNat : Nat) : Int) = x.points by omega] at h
/-- the search of all states -/
def expl (x : Puzzle) : Option Table := bTab x (PM.pts x.points.toNat)
theorem grp_nxt {x : Puzzle} (hv : validPz x = true) {s : List Int} (hs : PM.Grp x.points.toNat x.moves s) {l : Int} (hl : l ∈ ltrs x.moves.length) : PM.Grp x.points.toNat x.moves (nxt x s l) := by
  have h3 := validPz_pn hv
  refine PM.Grp.comp h3 hs ?_
  rcases letter_cases hl with ⟨k, hk, rfl⟩ | ⟨k, hk, rfl⟩
  · rw [mv_pos rfl hk]; exact PM.Grp.gen h3 (List.getElem_mem hk)
  · rw [mv_neg (k := k) rfl hk]; exact PM.Grp.gen_inv h3 (List.getElem_mem hk)
theorem BI.grp {x : Puzzle} {k : Nat} {done : List Int} {s : Met16} (hv : validPz x = true) (h : BI x (PM.pts x.points.toNat) k done s) : ∀ i, i < s.1.length → PM.Grp x.points.toNat x.moves (s.1.getD i []) := by
  intro i
  induction i using Nat.strongRecOn with
  | ind i ih =>
    intro hi
    by_cases h0 : i = 0
    · subst h0; rw [h.p0]; exact .id
    · obtain ⟨j, l, a1, a2, a3, -⟩ := h.par i (by omega) hi
      rw [← a3]
      exact grp_nxt hv (ih j a1 (Nat.lt_trans a1 hi)) a2
theorem BI.full {x : Puzzle} {k : Nat} {done : List Int} {s : Met16} (hv : validPz x = true) (hc : cardG x ≤ 3000) (h : BI x (PM.pts x.points.toNat) k done s) (hk : k < s.1.length) {l : Int} (hl : l ∈ ltrs x.moves.length) (hn : nxt x (s.1.getD k []) l ∉ s.1) : s.1.length ≠ 3000 := by
  intro h3
  have hg := h.grp hv
  have hall : ∀ p ∈ s.1 ++ [nxt x (s.1.getD k []) l], PM.Grp x.points.toNat x.moves p := fun p hp => by
    rcases List.mem_append.1 hp with hp | hp
    · obtain ⟨i, hi, rfl⟩ := List.getElem_of_mem hp
      have := hg i hi
      rwa [getD_get hi] at this
    · simp at hp; subst hp
      exact grp_nxt hv (hg k hk) hl
  have hnd : (s.1 ++ [nxt x (s.1.getD k []) l]).Nodup := by
    rw [List.nodup_append]
    exact ⟨h.nd, by simp, fun a ha b hb e => hn (by rw [← List.mem_singleton.1 hb, ← e]; exact ha)⟩
  have := PM.nodup_sub_len hnd fun p hp => (mem_grpL (validPz_pn hv)).2 (hall p hp)
  unfold cardG at hc
  simp only [List.length_append, List.length_singleton] at this
  omega
theorem BI.lets_some2 {x : Puzzle} {k : Nat} (hv : validPz x = true) (hc : cardG x ≤ 3000) : ∀ {ls done : List Int} {s : Met16}, BI x (PM.pts x.points.toNat) k done s → k < s.1.length → (∀ l ∈ ls, l ∈ ltrs x.moves.length) → (bLets x (s.1.getD k []) (s.2.getD k 0 + 1) ls s).isSome = true
  | [], done, s, h, hk, _ => rfl
  | l :: ls, done, s, h, hk, hl => by
    unfold bLets
    have h1 : ∃ s1, bMeet s (s.2.getD k 0 + 1) (nxt x (s.1.getD k []) l) = some s1 := by
      unfold bMeet
      split
      · exact ⟨_, rfl⟩
      · rename_i hn
        rw [if_neg (h.full hv hc hk (hl l (by simp)) hn)]
        exact ⟨_, rfl⟩
    obtain ⟨s1, e1⟩ := h1
    obtain ⟨b1, b2, b3, b4⟩ := h.meet hv hk (hl l (by simp)) e1
    have := BI.lets_some2 (ls := ls) hv hc b1 b4 (fun l hl2 => hl l (by simp [hl2]))
    rw [b2, b3] at this
    rw [e1]; exact this
theorem BI.from_some2 {x : Puzzle} (hv : validPz x = true) (hc : cardG x ≤ 3000) : ∀ {n k : Nat} {s : Met16}, BI x (PM.pts x.points.toNat) k [] s → (bFrom x n k s).isSome = true
  | 0, k, s, h => rfl
  | n + 1, k, s, h => by
    unfold bFrom
    split
    · rename_i hk
      obtain ⟨s1, e1⟩ := Option.isSome_iff_exists.1 (BI.lets_some2 hv hc h hk (fun l hl => hl))
      obtain ⟨done', c1, c2, c3, -⟩ := h.lets hv hk (fun l hl => hl) e1
      rw [e1]
      exact BI.from_some2 hv hc (c1.next c2 c3)
    · rfl
theorem expl_some {x : Puzzle} (hv : validPz x = true) (hc : cardG x ≤ 3000) : ∃ t, expl x = some t := by
  have h := BI.from_some2 (n := 3001) hv hc (BI.start (trackB_pat (pts_track hv)))
  obtain ⟨s, hs⟩ := Option.isSome_iff_exists.1 h
  refine ⟨⟨PM.pts x.points.toNat, s.1, s.2⟩, ?_⟩
  unfold expl bTab
  rw [bfs16_yes (by rw [hv, pts_track hv]; rfl), hs]; rfl
theorem expl_none {x : Puzzle} (h : validPz x = false) : expl x = none := by
  unfold expl bTab
  rw [bfs16_no (by rw [h]; rfl)]; rfl
section
variable {x : Puzzle} {t : Table}
theorem expl_built (h : expl x = some t) : Built x t ∧ t.tracked = PM.pts x.points.toNat := bTab_built h
theorem expl_mem (h : expl x = some t) {q : List Int} : q ∈ t.patterns ↔ PM.Grp x.points.toNat x.moves q := by
  obtain ⟨hb, ht⟩ := expl_built h
  have hi := hb.bi
  rw [ht] at hi
  constructor
  · intro hq
    obtain ⟨i, hil, rfl⟩ := List.getElem_of_mem hq
    have := hi.grp hb.v i hil
    rwa [getD_get hil] at this
  · intro hg
    have hpn := PM.Grp.pn (validPz_pn hb.v) hg
    have hf := validPz_facts hb.v
    have hr : reachB x q = true := by
      unfold reachB stateB memB
      rw [Bool.and_eq_true, Bool.and_eq_true]
      exact ⟨⟨hb.v, (genB_iff hf.1 hf.2.1).2 hpn⟩, @decide_eq_true _ (Classical.propDecidable _) hg⟩
    have := hb.reach hr
    rwa [ht, PM.id_comp hpn] at this
theorem expl_len (h : expl x = some t) : t.patterns.length = cardG x := by
  obtain ⟨hb, -⟩ := expl_built h
  have hnd : t.patterns.Nodup := hb.bi.nd
  exact Nat.le_antisymm (PM.nodup_sub_len hnd fun q hq => (mem_grpL (validPz_pn hb.v)).2 ((expl_mem h).1 hq)) (PM.nodup_sub_len (grpL_nodup _ _) fun q hq => (expl_mem h).2 ((mem_grpL (validPz_pn hb.v)).1 hq))
theorem expl_iff (hv : validPz x = true) : (∃ t, expl x = some t) ↔ cardG x ≤ 3000 :=
  ⟨fun ⟨_, ht⟩ => by rw [← expl_len ht]; exact (expl_built ht).1.ll, expl_some hv⟩
theorem expl_reach (h : expl x = some t) {q : List Int} : q ∈ t.patterns ↔ reachB x q = true := by
  obtain ⟨hb, -⟩ := expl_built h
  have hf := validPz_facts hb.v
  rw [expl_mem h]
  unfold reachB stateB memB
  rw [Bool.and_eq_true, Bool.and_eq_true]
  constructor
  · intro hg
    exact ⟨⟨hb.v, (genB_iff hf.1 hf.2.1).2 (PM.Grp.pn (validPz_pn hb.v) hg)⟩, @decide_eq_true _ (Classical.propDecidable _) hg⟩
  · rintro ⟨-, hg⟩
    exact @of_decide_eq_true _ (Classical.propDecidable _) hg
end
/-- the distance of a state, -1 if it has none -/
noncomputable def distX (x : Puzzle) (s : List Int) : Int := match expl x with
  | some t => if reachB x s = true then atD t (idxL t.patterns s) else -1
  | none => -1
theorem distX_none {x : Puzzle} {s : List Int} (h : expl x = none) : distX x s = -1 := by unfold distX; rw [h]
theorem distX_no {x : Puzzle} {s : List Int} (h : reachB x s = false) : distX x s = -1 := by
  unfold distX
  rw [h]
  cases expl x <;> rfl
theorem distX_yes {x : Puzzle} {t : Table} {s : List Int} (h : expl x = some t) (hs : reachB x s = true) : ∃ i : Nat, i < t.patterns.length ∧ t.patterns.getD i [] = s ∧ idxL t.patterns s = i ∧ distX x s = t.distances.getD i 0 ∧ 0 ≤ t.distances.getD i 0 ∧ t.distances.getD i 0 ≤ 3000 := by
  obtain ⟨hb, -⟩ := expl_built h
  obtain ⟨i, hi, e⟩ := List.getElem_of_mem ((expl_reach h).2 hs)
  have e2 : t.patterns.getD i [] = s := by rw [getD_get hi, e]
  have hx := hb.idx hi
  rw [e2] at hx
  have hd := hb.dep i hi
  have := hb.ll
  refine ⟨i, hi, e2, hx, ?_, hd.1, by omega⟩
  unfold distX
  rw [h]
  show (if reachB x s = true then atD t (idxL t.patterns s) else -1) = _
  rw [if_pos hs, hx]
  unfold atD
  rw [Int.toNat_natCast]
theorem distX_or (x : Puzzle) (s : List Int) : distX x s = -1 ∨ (0 ≤ distX x s ∧ distX x s ≤ 3000 ∧ reachB x s = true ∧ ∃ t, expl x = some t) := by
  rcases he : expl x with _ | t
  · exact .inl (distX_none he)
  · rcases hr : reachB x s
    · exact .inl (distX_no hr)
    · obtain ⟨i, -, -, -, h1, h2, h3⟩ := distX_yes he hr
      exact .inr ⟨by omega, by omega, rfl, t, rfl⟩
end Go.Proofs.YtlcoejncdbkhcaaGreat

namespace Go.Proofs.YtlcoejncdbkhcaaGreat
open Go.RowKit
set_option maxRecDepth 10000

theorem ord_step {T : PM.Rows} {n i : Nat} (hi : i < n) : PM.ordM T n (n - i) = PM.cntR n T i * PM.ordM T n (n - (i + 1)) := by
  have h1 : n - i = (n - (i + 1)) + 1 := by omega
  have h2 : n - (n - (i + 1) + 1) = i := by omega
  rw [h1]; simp only [PM.ordM, h2]
theorem ord_end {T : PM.Rows} {n i : Nat} (hi : n ≤ i) : PM.ordM T n (n - i) = 1 := by
  rw [show n - i = 0 by omega]; rfl
theorem orb_cnt (n : Nat) (T : PM.Rows) (k : Nat) : (orb n T k).length = PM.cntR n T k := rfl
set_option maxHeartbeats 2000000 in
theorem implOrder_any {e : TypeId} {B : Nat} {L : Lay} {gv : Nat → Value} {n : Nat} {G : PM.Gens} {T : PM.Rows} {M F : List Nat} (w : World) (hC : Ch e B w L gv n G T M F) (hw : PM.WF n T) (hT : L.oT = 2) (k : Nat) (hk : k ≤ n) :
    Calls Tryz.prog 238 #[.pointer (some ⟨L.g, 0, none⟩), .int .i64 k] w fun e w' => e = .returned (.int .i64 (PM.ordM T n (n - k) : Nat)) ∧ Only [] w w' := by
  have hn20 := hC.le
  have hct := hC.ct
  rw [hT] at hct
  have hcn := hC.cn
  have HC := Lib.hid hC
  have Hw := Lib.hid hw
  clear hC hw
  go_enter Tryz.func238, Tryz.ntmps238
  go_wp2
  go_loopw [5, 6] (fun o i wr => ∃ (j m : Nat), k ≤ j ∧ j ≤ n ∧ i = .int .i64 j ∧ o = .int .i64 (m : Nat) ∧ 1 ≤ m ∧ m * PM.ordM T n (n - j) = PM.ordM T n (n - k) ∧ Only [] w wr)
    (fun _ i _ => n - (intOf i).toNat)
  case atStart => exact ⟨k, 1, Nat.le_refl _, hk, rfl, rfl, Nat.le_refl _, Nat.one_mul _, Only.refl _ _⟩
  case round =>
    obtain ⟨W2, hnew⟩ : ∃ W, W = wr := ⟨_, rfl⟩
    subst hnew
    obtain ⟨j, m, hkj, hj, rfl, rfl, hm1, hm, hK⟩ := hrel
    have Hm := Lib.hid hm
    clear hm
    have y0 := hK.cell (by simp) hcn
    have y1 := hK.cell (by simp) hct
    by_cases hlt : j < n
    · have hC2 := HC.out.keep hK
      have y2 := hC2.row j hlt
      have hstep := ord_step (T := T) hlt
      have hoc := orb_cnt n T j
      have hcp := PM.cntR_pos Hw.out hlt
      have hor := PM.ordM_rng Hw.out (n - (j + 1)) (by omega)
      have hmul : (m * PM.cntR n T j) * PM.ordM T n (n - (j + 1)) = PM.ordM T n (n - k) := by rw [Nat.mul_assoc, ← hstep]; exact Hm.out
      have hle : m * PM.cntR n T j ≤ 2432902008176640000 := by
        have h1 := PM.ordM_le Hw.out hn20 (m := n - k) (by omega)
        have h2 : m * PM.cntR n T j ≤ (m * PM.cntR n T j) * PM.ordM T n (n - (j + 1)) := Nat.le_mul_of_pos_right _ hor.1
        omega
      have hpos : 1 ≤ m * PM.cntR n T j := Nat.mul_le_mul hm1 hcp
      obtain ⟨cn, hcnn⟩ : ∃ cn, cn = PM.cntR n T j := ⟨_, rfl⟩
      rw [← hcnn] at hmul hle hoc hpos
      have Hmul := Lib.hid hmul
      have Hoc := Lib.hid hoc
      have hwr : IntKind.i64.wrap ((m : Int) * (cn : Int)) = ((m * cn : Nat) : Int) := by rw [IntKind.wrap_i64]; push_cast; omega
      clear hstep hor hmul hoc hcnn hcp
      go_wp2_with (first
        | (go_at_call 218; (with_reducible refine (orbitOf_any _ (hC2.keep (by with_reducible repeat (first | exact Only.refl _ _ | assumption | refine Only.drewN ?_ _ | refine Only.drew ?_ | refine Only.alloc ?_ _ | refine Only.setCell ?_ (by intro hh; exfalso; simp at hh; try omega) _ | refine Only.trans ?_ (by assumption)))) j hlt).mono ?_); rintro e w3 ⟨v3, f3, rfl, A3, F3, t3⟩; have r3 := A3.rd (by decide))
        | (go_at_call 97; (with_reducible refine (lengthInt_rd v3 (orb n T j) _ _ (Rp.keep r3 (by with_reducible repeat (first | exact Only.refl _ _ | assumption | refine Only.drewN ?_ _ | refine Only.drew ?_ | refine Only.alloc ?_ _ | refine Only.setCell ?_ (by intro hh; exfalso; simp at hh; try omega) _ | refine Only.trans ?_ (by assumption))))).mono ?_); rintro e w4 ⟨he, rfl⟩; rw [Hoc.out] at he; subst he)
        | fail "no arm")
      go_roundw
      case rel => exact ⟨j + 1, m * cn, by omega, by omega, by go_num, rfl, hpos, Hmul.out, (by with_reducible repeat (first | exact Only.refl _ _ | assumption | refine Only.drewN ?_ _ | refine Only.drew ?_ | refine Only.alloc ?_ _ | refine Only.setCell ?_ (by intro hh; exfalso; simp at hh; try omega) _ | refine Only.trans ?_ (by assumption)))⟩
      case measure => simp [intOf]; omega
    · have he : j = n := by omega
      have hend := ord_end (T := T) (n := n) (i := j) (by omega)
      have hfin : m = PM.ordM T n (n - k) := by have := Hm.out; rw [hend, Nat.mul_one] at this; exact this
      have Hfin := Lib.hid hfin
      clear he hend hfin
      go_wp2
      go_ret
      exact ⟨ret_int (by rw [Hfin.out]), hK⟩
theorem implOrder0 {e : TypeId} {B : Nat} {L : Lay} {gv : Nat → Value} {n : Nat} {G : PM.Gens} {T : PM.Rows} {M F : List Nat} {w : World} (hC : Ch e B w L gv n G T M F) (hw : PM.WF n T) (hT : L.oT = 2) :
    Calls Tryz.prog 238 #[.pointer (some ⟨L.g, 0, none⟩), .int .i64 0] w fun e w' => e = .returned (.int .i64 (PM.ordM T n n : Nat)) ∧ Only [] w w' :=
  implOrder_any w hC hw hT 0 (Nat.zero_le _)
set_option maxHeartbeats 1000000 in
theorem implStateCount_any (cs : List Value) (x : Puzzle) (fp : List Nat) (w : World) (h : Rp.rep w cs x fp) :
    Calls Tryz.prog 219 #[.agg cs.toArray] w fun e w' => e = .returned (.int .i64 (if validPz x = true then (cardG x : Int) else 0)) ∧ Only [] w w' := by
  have h0 := h
  obtain ⟨v2, rfl, p0, p1, h2⟩ := h
  obtain ⟨A2, C2, ob, fps, rfl, -, -⟩ := h2.open_
  rcases hq : validPz x
  · go_enter Tryz.func219, Tryz.ntmps219
    go_wp2_with (first
      | (go_at_call 122; (with_reducible refine (implIsValidPuzzle_any [.int .i64 x.points, .string x.names, .slice A2 x.moves.length C2] x _ _ (Rp.keep h0 (by with_reducible repeat (first | exact Only.refl _ _ | assumption | refine Only.drewN ?_ _ | refine Only.drew ?_ | refine Only.alloc ?_ _ | refine Only.setCell ?_ (by intro hh; exfalso; simp at hh; try omega) _ | refine Only.trans ?_ (by assumption))))).mono ?_); rintro e w1 ⟨he, t1⟩; rw [hq] at he; subst he) | fail "no arm")
    go_ret
    exact ⟨rfl, (by with_reducible repeat (first | exact Only.refl _ _ | assumption | refine Only.drewN ?_ _ | refine Only.drew ?_ | refine Only.alloc ?_ _ | refine Only.setCell ?_ (by intro hh; exfalso; simp at hh; try omega) _ | refine Only.trans ?_ (by assumption)))⟩
  · obtain ⟨n1, n20, hml, -⟩ := validPz_facts hq
    have hmp := validPz_pn hq
    have Hmp := Lib.hid hmp
    clear hmp
    have X0 := Blk.new w [.int .i64 x.points, .string x.names, .slice A2 x.moves.length C2] 37
    simp only [List.toArray] at X0
    go_enter Tryz.func219, Tryz.ntmps219
    go_wp2_with (first
      | (go_at_call 122; (with_reducible refine (implIsValidPuzzle_any [.int .i64 x.points, .string x.names, .slice A2 x.moves.length C2] x _ _ (Rp.keep h0 (by with_reducible repeat (first | exact Only.refl _ _ | assumption | refine Only.drewN ?_ _ | refine Only.drew ?_ | refine Only.alloc ?_ _ | refine Only.setCell ?_ (by intro hh; exfalso; simp at hh; try omega) _ | refine Only.trans ?_ (by assumption))))).mono ?_); rintro e w1 ⟨he, t1⟩; rw [hq] at he; subst he; have X1 := X0.keep t1; have y0 := X1.cell 0 rfl; have y1 := X1.cell 1 rfl; have y2 := X1.cell 2 rfl)
      | (go_at_call 124; (with_reducible refine (implNewChain_i x.points n1 n20 _ x.moves _ _ (Rp.keep h2 (by with_reducible repeat (first | exact Only.refl _ _ | assumption | refine Only.drewN ?_ _ | refine Only.drew ?_ | refine Only.alloc ?_ _ | refine Only.setCell ?_ (by intro hh; exfalso; simp at hh; try omega) _ | refine Only.trans ?_ (by assumption)))) Hmp.out (by omega)).mono ?_); rintro en w3 ⟨L, gv, G, T, M, F, rfl, hoG, hoT, hC, hCh, t3⟩; have HC := Lib.hid hC; have HCh := Lib.hid hCh; have HoT := Lib.hid hoT; clear hC hCh hoT hoG)
      | (go_at_call 238; (with_reducible refine (implOrder0 HC.out HCh.out.inv.wf HoT.out).mono ?_); rintro en w4 ⟨he, t4⟩; rw [chain_card HCh.out (by omega) Hmp.out] at he; subst he) | fail "no arm")
    go_ret
    exact ⟨rfl, (by with_reducible repeat (first | exact Only.refl _ _ | assumption | refine Only.drewN ?_ _ | refine Only.drew ?_ | refine Only.alloc ?_ _ | refine Only.setCell ?_ (by intro hh; exfalso; simp at hh; try omega) _ | refine Only.trans ?_ (by assumption)))⟩
end Go.Proofs.YtlcoejncdbkhcaaGreat

namespace Go.Proofs.YtlcoejncdbkhcaaGreat
open Go.RowKit
set_option maxRecDepth 10000

/-- n letters, each the first that leads closer -/
def oW (x : Puzzle) (t : Table) : Nat → List Int → List Int
  | 0, _ => []
  | n + 1, p => descL x t p n :: oW x t n (nxt x p (descL x t p n))
theorem oW_len (x : Puzzle) (t : Table) : ∀ (n : Nat) (p : List Int), (oW x t n p).length = n
  | 0, _ => rfl
  | n + 1, p => by unfold oW; rw [List.length_cons, oW_len x t n]
/-- one letter of the way down -/
structure Down (x : Puzzle) (t : Table) (i : Nat) (n : Nat) (k : Nat) (j : Nat) : Prop where
  hk : k < (ltrs x.moves.length).length
  l : descL x t (t.patterns.getD i []) n = (ltrs x.moves.length)[k]
  hj : j < t.patterns.length
  nx : t.patterns.getD j [] = nxt x (t.patterns.getD i []) (ltrs x.moves.length)[k]
  ds : t.distances.getD j 0 = n
  no : ∀ m (hm : m < k), ∀ i', i' < t.patterns.length → t.patterns.getD i' [] = nxt x (t.patterns.getD i []) ((ltrs x.moves.length)[m]'(Nat.lt_trans hm hk)) → t.distances.getD i' 0 ≠ n ∧ ¬ t.distances.getD i' 0 < (n : Int) + 1
section
variable {x : Puzzle} {t : Table}
theorem Built.mem_of (_ : Built x t) {i : Nat} (hi : i < t.patterns.length) : t.patterns.getD i [] ∈ t.patterns := by rw [getD_get hi]; exact List.getElem_mem hi
theorem Built.down (h : Built x t) {i : Nat} (hi : i < t.patterns.length) {n : Nat} (hd : t.distances.getD i 0 = (n : Int) + 1) : ∃ k j, Down x t i n k j := by
  have hg := ent_nil.1 (h.good i hi)
  have hda : atD t i - 1 = (n : Int) := by rw [atD_nat, hd]; omega
  have hne : descL x t (t.patterns.getD i []) (atD t i - 1) ≠ 0 := hg.2.2.2.2 (by rw [atD_nat, hd]; omega)
  rw [hda] at hne
  rcases @descL_of_dK x t (t.patterns.getD i []) n with ⟨-, h1⟩ | ⟨k, hk, h1, h2⟩
  · exact absurd h1 hne
  · obtain ⟨-, hlead⟩ := descL_leads hne
    obtain ⟨a1, a2⟩ := leads_iffD.1 hlead
    rw [h2] at a1 a2
    have hlt := (idxL_lt (l := t.patterns) (p := nxt x (t.patterns.getD i []) (ltrs x.moves.length)[k])).2
    obtain ⟨j, hj⟩ : ∃ j : Nat, nextI x t (t.patterns.getD i []) (ltrs x.moves.length)[k] = j := ⟨_, (Int.toNat_of_nonneg a1).symm⟩
    have hjl : j < t.patterns.length := by unfold nextI at hj; omega
    have hn := idxL_getD a1
    unfold nextI at hj
    rw [hj, Int.toNat_natCast] at hn
    refine ⟨k, j, hk, h2, hjl, hn, ?_, ?_⟩
    · unfold nextI at a2; rw [hj, atD_nat] at a2; exact a2
    · intro m hm i' hi' e
      have hml : (ltrs x.moves.length)[m]'(Nat.lt_trans hm hk) ∈ ltrs x.moves.length := List.getElem_mem _
      have hne2 : t.distances.getD i' 0 ≠ n := by
        intro e2
        have hl : leads x t (t.patterns.getD i []) n ((ltrs x.moves.length)[m]'(Nat.lt_trans hm hk)) = true := by
          rw [leads_iffD]
          unfold nextI
          rw [← e, h.idx hi', atD_nat]
          exact ⟨by omega, e2⟩
        have hno : ∀ q ∈ (ltrs x.moves.length).take k, leads x t (t.patterns.getD i []) n q = false := by
          have hf : dK x t (t.patterns.getD i []) n = k := h1
          unfold dK idxF at hf
          cases hq : (ltrs x.moves.length).findIdx? (leads x t (t.patterns.getD i []) n) with
          | none => rw [hq] at hf; simp at hf
          | some k' =>
            rw [hq] at hf
            have hf2 : (k' : Int) = k := hf
            have : k' = k := by omega
            subst this
            obtain ⟨_, _, hall⟩ := List.findIdx?_eq_some_iff_getElem.1 hq
            intro q hqm
            rw [List.mem_take_iff_getElem] at hqm
            obtain ⟨m', hm', rfl⟩ := hqm
            simpa using hall m' (by omega)
        have := hno _ (List.mem_take_iff_getElem.2 ⟨m, by omega, rfl⟩)
        rw [hl] at this; cases this
      refine ⟨hne2, fun hlt2 => hne2 ?_⟩
      obtain ⟨i2, b1, b2, b3, b4⟩ := h.step hi hml
      have : i2 = i' := by
        have e3 := b2.trans e.symm
        rw [getD_get b1, getD_get hi'] at e3
        have hnd : t.patterns.Nodup := h.bi.nd
        exact nodup_at hnd b1 hi' e3
      subst this
      omega
theorem Down.oW_ {i n k j : Nat} (h : Down x t i n k j) : oW x t (n + 1) (t.patterns.getD i []) = (ltrs x.moves.length)[k]'h.hk :: oW x t n (t.patterns.getD j []) := by
  show descL x t (t.patterns.getD i []) n :: oW x t n (nxt x (t.patterns.getD i []) (descL x t (t.patterns.getD i []) n)) = _
  rw [h.l, h.nx]
end
theorem expl_pat {x : Puzzle} {t : Table} (he : expl x = some t) {i : Nat} (hi : i < t.patterns.length) : patB x.points x.points.toNat (t.patterns.getD i []) = true := by
  obtain ⟨hb, ht⟩ := expl_built he
  have := hb.bi.pat (t.patterns.getD i []) (hb.mem_of hi)
  rwa [ht, PM.pts_len] at this
theorem expl_len1 {x : Puzzle} {t : Table} (he : expl x = some t) {i : Nat} (hi : i < t.patterns.length) : (t.patterns.getD i []).length = x.points.toNat := (patB_iff.1 (expl_pat he hi)).1
/-- the smallest optimal word, if it is not too long -/
noncomputable def optX (x : Puzzle) (s : List Int) : Option (List Int) := if 0 ≤ distX x s ∧ distX x s ≤ 200 then some (oW x ((expl x).getD noTab) (distX x s).toNat s) else none
theorem optX_no {x : Puzzle} {s : List Int} (h : ¬ (0 ≤ distX x s ∧ distX x s ≤ 200)) : optX x s = none := by unfold optX; rw [if_neg h]
theorem optX_yes {x : Puzzle} {s : List Int} {t : Table} (ht : expl x = some t) (h : 0 ≤ distX x s ∧ distX x s ≤ 200) : optX x s = some (oW x t (distX x s).toNat s) := by unfold optX; rw [if_pos h, ht]; rfl
theorem optX_len {x : Puzzle} {s w : List Int} (h : optX x s = some w) : (w.length : Int) = distX x s ∧ w.length ≤ 200 := by
  unfold optX at h
  split at h
  · rename_i hc
    injection h with h
    subst h
    rw [oW_len]
    omega
  · cases h
end Go.Proofs.YtlcoejncdbkhcaaGreat

namespace Go.Proofs.YtlcoejncdbkhcaaGreat
open Go.RowKit
set_option maxRecDepth 10000
open Go.Maps (Keyed)

/-- the key of a list: a byte each -/
def kB (l : List Int) : ByteArray := strOfNums (l.map fun x => x % 256)
theorem kB_size (l : List Int) : (kB l).size = l.length := by unfold kB; rw [strOfNums_size, List.length_map]
theorem kB_inj : ∀ {l l' : List Int}, (∀ x ∈ l, 0 ≤ x ∧ x < 256) → (∀ x ∈ l', 0 ≤ x ∧ x < 256) → kB l = kB l' → l = l' := by
  intro l l' h h' he
  have hd : (kB l).data.toList = (kB l').data.toList := by rw [he]
  unfold kB at hd
  rw [strOfNums_data, strOfNums_data, List.map_map, List.map_map] at hd
  clear he
  induction l generalizing l' with
  | nil => cases l' with
    | nil => rfl
    | cons y l' => simp at hd
  | cons x l ih => cases l' with
    | nil => simp at hd
    | cons y l' =>
      simp only [List.map_cons, List.cons.injEq] at hd
      have hx := h x (by simp); have hy := h' y (by simp)
      have e1 : x % 256 = x := Int.emod_eq_of_lt hx.1 hx.2
      have e2 : y % 256 = y := Int.emod_eq_of_lt hy.1 hy.2
      have h1 := hd.1
      simp only [Function.comp, e1, e2] at h1
      have h2 := congrArg UInt8.toNat h1
      rw [UInt8.toNat_ofNat', UInt8.toNat_ofNat'] at h2
      have : x = y := by omega
      subst this
      rw [ih (fun z hz => h z (by simp [hz])) (fun z hz => h' z (by simp [hz])) hd.2]
theorem kB_eq {l l' : List Int} (h : ∀ x ∈ l, 0 ≤ x ∧ x < 256) (h' : ∀ x ∈ l', 0 ≤ x ∧ x < 256) : kB l = kB l' ↔ l = l' := ⟨kB_inj h h', fun e => by rw [e]⟩

theorem Tryz.lawStr : Keyed Tryz.prog 9 := Go.Maps.string_keyed Tryz.underlying9
theorem Tryz.infoByte : (Tryz.prog.info? 5).map (fun i => (i.zero, i.size, i.bytes)) = some (some (.int .u8 0), 1, 1) := by kernel_rfl
theorem madeBytes (n : Nat) : (madeCells (Value.cells (.int .u8 0)) n).toList = List.replicate n (.int .u8 0) := by
  apply List.ext_getElem (by simp [madeCells])
  intro i h1 h2
  simp [madeCells, Value.cells, Nat.mod_one]
theorem step_bytes (l : List Int) (j : Nat) (hj : j < l.length) : ((l.take j).map (fun x => Value.int .u8 (x % 256)) ++ List.replicate (l.length - j) (Value.int .u8 0)).set j (.int .u8 (l[j] % 256)) = (l.take (j + 1)).map (fun x => Value.int .u8 (x % 256)) ++ List.replicate (l.length - (j + 1)) (.int .u8 0) := by
  have hl : ((l.take j).map (fun x => Value.int .u8 (x % 256))).length = j := by rw [List.length_map, List.length_take]; omega
  rw [show l.length - j = (l.length - (j + 1)) + 1 by omega, List.replicate_succ, List.set_append_right _ _ (by omega), hl, Nat.sub_self, take_succ_get l j hj]
  simp only [List.map_append, List.map_cons, List.map_nil, List.append_assoc, List.cons_append, List.nil_append, List.set_cons_zero]
set_option maxHeartbeats 1000000 in
theorem stateKey_rd (v : Value) (l : List Int) (fp : List Nat) (w : World) (h : Rd w v l fp) (hl : l.length ≤ 1000) :
    Calls Tryz.prog 158 #[v] w fun e w' => e = .returned (.string (kB l)) ∧ Only [] w w' := by
  obtain ⟨a, cap, rfl, hI⟩ := h.ints
  obtain ⟨i0, hi, hz0, hz1, hz2⟩ := info_parts Tryz.infoByte
  go_enter Tryz.func158, Tryz.ntmps158
  go_wp2_with (at_make; refine wpList_make_full _ rfl _ _ 209 rfl w.heap.size 5 i0 _ 1 Tryz.underlying209 hi hz0 hz1 _ _ _ _ l.length rfl rfl rfl rfl (by rw [hz2]; omega) (by unfold maxLen; omega) (Nat.le_refl _) ?_; intro w1 hown hg)
  rw [madeBytes, Nat.mul_one] at hown
  go_loopw [11] (fun i wr => ∃ j : Nat, j ≤ l.length ∧ i = .int .i64 j ∧
      wr.ownsRow w.heap.size 5 1 (.slice (some ⟨w.heap.size, 0, none⟩) l.length l.length) l.length ((l.take j).map (fun x => Value.int .u8 (x % 256)) ++ List.replicate (l.length - j) (.int .u8 0)) ∧ Only [] w wr)
    (fun i _ => l.length - (intOf i).toNat)
  case atStart => exact ⟨0, Nat.zero_le _, rfl, by simpa using hown, (Only.refl _ _).grown hg (by simp)⟩
  case round =>
    obtain ⟨j, hj, rfl, hO, hK⟩ := hrel
    by_cases hlt : j < l.length
    · obtain ⟨b, off, rfl, -, hc0⟩ := hI.at_ j hlt
      have hc := hK.cell (by simp) hc0
      have hO2 := (hO.stored j (.int .u8 (l[j] % 256))).1
      rw [step_bytes l j hlt] at hO2
      obtain ⟨z2, hc2⟩ : ∃ z, wr.cell? ⟨w.heap.size, j, none⟩ = some z := by
        rw [hO.cellAt j (by omega)]
        exact ⟨_, List.getElem?_eq_getElem (by simp; omega)⟩
      have hf2 := hO.frozenAt j
      have hK2 := hK.setCell (p := ⟨w.heap.size, j, none⟩) (by simp) (.int .u8 (l[j] % 256))
      have HO := Lib.hid hO2
      clear hO hO2 hown hc0
      go_wp2
      go_roundw
      case rel => exact ⟨j + 1, by omega, by go_num, HO.out, hK2⟩
      case measure => simp [intOf]; omega
    · have hjl : j = l.length := by omega
      rw [hjl] at hO
      simp only [Nat.sub_self, List.replicate_zero, List.append_nil, List.take_length] at hO
      have hcv := run_convert_bytes_arg (P := Tryz.prog) wr 209 5 Tryz.underlying209 Tryz.underlying5 w.heap.size 0 l.length l.length (l.map fun x => x % 256) (by simp) (fun i hi => by
        rw [Nat.zero_add, hO.cellAt i (by omega)]
        simp [hi]) 9 Tryz.underlying9
      have hKB : strOfNums (l.map fun x => x % 256) = kB l := rfl
      rw [hKB] at hcv
      clear hjl hO hown hKB
      go_wp2
      go_ret
      exact ⟨rfl, hK⟩
end Go.Proofs.YtlcoejncdbkhcaaGreat

namespace Go.Proofs.YtlcoejncdbkhcaaGreat
open Go.RowKit
set_option maxRecDepth 10000
open Go.Maps (Keyed)

theorem Tryz.zeroBool (w : World) : (zeroValue 4).run Tryz.prog w = .ok (.bool false) w := by kernel_rfl
theorem plainElem_bool_inv {P : Program} {e : TypeId} {H : Type} (he : P.underlying e = some .bool) {v : Value} {z : DataW H × List MemPlace} (h : plainElem P e v = some z) : ∃ a, v = .bool a ∧ z = (.lit (.bool a), []) := by
  unfold plainElem at h
  rw [he] at h
  cases v <;> simp at h
  obtain rfl := h
  exact ⟨_, rfl, rfl⟩
/-- block M is a map of at most k entries; g: the truth value at a key -/
def MpB (w : World) (M k : Nat) (g : ByteArray → Bool) : Prop :=
  ∃ D : DataW Unit, w.ownsMap Tryz.prog 9 (plainElem Tryz.prog 4) M k D ∧ ∀ s : ByteArray, s.size ≤ maxLen →
    D.atKey (.string s.data.toList) (.lit (.bool false)) = .lit (.bool (g s))
theorem MpB.lt {w : World} {M k : Nat} {g : ByteArray → Bool} (h : MpB w M k g) : M < w.heap.size := by
  obtain ⟨D, h1, -⟩ := h; exact h1.lt
theorem MpB.frame {w w' : World} {M k : Nat} {g : ByteArray → Bool} (h : MpB w M k g) (hf : w'.heap[M]? = w.heap[M]?) : MpB w' M k g := by
  obtain ⟨D, ⟨es, c, h1, h2⟩, h3⟩ := h
  exact ⟨D, ⟨es, c, by rw [hf]; exact h1, h2⟩, h3⟩
theorem MpB.only {w w' : World} {fp : List Nat} {M k : Nat} {g : ByteArray → Bool} (h : MpB w M k g) (ho : Only fp w w') (hn : M ∉ fp) : MpB w' M k g := h.frame (ho.block M h.lt hn)
theorem MpB.keep {w w' : World} {M k : Nat} {g : ByteArray → Bool} (h : MpB w M k g) (ho : Only [] w w') : MpB w' M k g := h.only ho (by simp)
theorem MpB.made (w : World) {M : Nat} (hM : M = w.heap.size) : MpB (w.alloc (.map #[] 0)) M 0 (fun _ => false) := by
  subst hM
  exact ⟨.map [], World.ownsMap_made _ _ _ _, fun s _ => rfl⟩
theorem MpB.congr {w : World} {M k : Nat} {g g' : ByteArray → Bool} (h : MpB w M k g) (hg : ∀ s, g s = g' s) : MpB w M k g' := by
  have : g = g' := funext hg
  rw [← this]; exact h
section
variable {w : World} {M k : Nat} {g : ByteArray → Bool}
/-- m[k] -/
theorem MpB.run_at (h : MpB w M k g) {s : ByteArray} (hs : s.size ≤ maxLen) : (Instr.lookup 86 (.map (some M)) (.string s) false).run Tryz.prog w = .ok (.bool (g s)) w := by
  obtain ⟨D, hown, hg⟩ := h
  obtain ⟨v, ps, hrun, hv⟩ := hown.lookup Tryz.lawStr Tryz.underlying86 (Tryz.zeroBool w) (plainElem_bool Tryz.underlying4 false) (Go.WideMaps.keyOf_string_mk Tryz.underlying9 hs)
  obtain ⟨c, rfl, hc⟩ := plainElem_bool_inv Tryz.underlying4 hv
  have hc1 := congrArg Prod.fst hc
  simp only at hc1
  rw [hg s hs] at hc1
  injection hc1 with hc1; injection hc1 with hc1
  rw [hrun, hc1]
/-- m[k] = v -/
theorem MpB.run_put (h : MpB w M k g) {s : ByteArray} (hs : s.size ≤ maxLen) (b : Bool) (hk : k < maxLen) :
    ∃ w', (Instr.mapUpdate 86 (.map (some M)) (.string s) (.bool b)).run Tryz.prog w = .ok () w' ∧ MpB w' M (k + 1) (fun s' => if s' = s then b else g s') ∧ Only [M] w w' := by
  obtain ⟨D, hown, hg⟩ := h
  obtain ⟨w', hrun, r1, r2⟩ := hown.store Tryz.lawStr Tryz.underlying86 hk (Go.WideMaps.keyOf_string_mk Tryz.underlying9 hs) (plainElem_bool Tryz.underlying4 b)
  have hmap := hown.isMap
  refine ⟨w', hrun, ⟨_, r1, fun s' hs' => ?_⟩, ?_⟩
  · by_cases he : s' = s
    · subst he
      have hkl : WideAt.IsKeyLit (Lit.string s'.data.toList) := trivial
      rw [Go.Maps.atKey_put_same hmap hkl]; simp
    · have hne : (Lit.string s'.data.toList) ≠ .string s.data.toList := by
        intro e; injection e with e
        apply he
        have : s'.data = s.data := Array.toList_inj.1 e
        cases s'; cases s; simp at this; rw [this]
      rw [Go.Maps.atKey_put_other hne]; simp [he]; exact hg s' hs'
  · exact (Only.refl _ _).grown r2.grown (by intro j hj _; injection hj with hj; subst hj; simp)
end
end Go.Proofs.YtlcoejncdbkhcaaGreat
