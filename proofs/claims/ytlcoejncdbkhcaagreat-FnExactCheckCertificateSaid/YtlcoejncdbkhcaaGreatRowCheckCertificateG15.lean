/- What a search of patterns has met: lengths; a table's count. Descents in plain words. What breadth-first search finds: the patterns that the letters lead to, their distances. Lower bounds out of tables, in plain words (laws 40, 42, 43, 52). Valid tables, sets of tables: the reference's and the program's functions (laws 40, 42, 43, 52). (Printed by mkvtab.py.) -/
import Derived.Test.YtlcoejncdbkhcaaGreatRowCheckCertificateG14
import Derived.Test.YtlcoejncdbkhcaaGreatRowCheckCertificateG11
import Derived.Test.YtlcoejncdbkhcaaGreatRowCheckCertificateG9
import Derived.Test.YtlcoejncdbkhcaaGreatRowCheckCertificateG10
namespace Go.Proofs.YtlcoejncdbkhcaaGreat
open Go.RowKit
set_option maxRecDepth 10000

/-- what a search has met: lists of one length, as many depths -/
def Met16.ok (m : Nat) (s : Met16) : Prop := s.1.length = s.2.length ∧ s.1.length ≤ 3000 ∧ ∀ q ∈ s.1, q.length = m
theorem bMeet_ok {m : Nat} {s s' : Met16} {d : Int} {y : List Int} (h : bMeet s d y = some s') (hs : s.ok m) (hy : y.length = m) : s'.ok m := by
  obtain ⟨a, b, -⟩ := bMeet_len h hs.1 hs.2.1
  refine ⟨a, b, fun q hq => ?_⟩
  unfold bMeet at h
  split at h
  · injection h with h; subst h; exact hs.2.2 q hq
  · split at h
    · cases h
    · injection h with h; subst h
      rcases List.mem_append.1 hq with hq | hq
      · exact hs.2.2 q hq
      · simp at hq; subst hq; exact hy
theorem bLets_ok {x : Puzzle} {m : Nat} {q : List Int} {d : Int} (hq : q.length = m) : ∀ {ls : List Int} {s s' : Met16}, bLets x q d ls s = some s' → s.ok m → s'.ok m
  | [], s, s', h, hs => by unfold bLets at h; injection h with h; subst h; exact hs
  | l :: ls, s, s', h, hs => by
    unfold bLets at h
    rw [Option.bind_eq_some_iff] at h
    obtain ⟨s1, e1, e2⟩ := h
    exact bLets_ok hq e2 (bMeet_ok e1 hs (by unfold nxt; rw [PM.comp_len]; exact hq))
theorem bFrom_ok {x : Puzzle} {m : Nat} : ∀ {n k : Nat} {s s' : Met16}, bFrom x n k s = some s' → s.ok m → s'.ok m
  | 0, _, s, s', h, hs => by unfold bFrom at h; injection h with h; subst h; exact hs
  | n + 1, k, s, s', h, hs => by
    unfold bFrom at h
    split at h
    · rename_i hk
      rw [Option.bind_eq_some_iff] at h
      obtain ⟨s1, e1, e2⟩ := h
      refine bFrom_ok e2 (bLets_ok ?_ e1 hs)
      rw [List.getD_eq_getElem?_getD, List.getElem?_eq_getElem hk]
      exact hs.2.2 _ (List.getElem_mem hk)
    · injection h with h; subst h; exact hs
theorem bTab_facts {x : Puzzle} {tr : List Int} {t : Table} (h : bTab x tr = some t) : validPz x = true ∧ trackB x.points tr = true ∧ t.tracked = tr ∧ bfs16 x tr = some (t.patterns, t.distances) ∧ Met16.ok tr.length (t.patterns, t.distances) := by
  unfold bTab at h
  rcases hb : bfs16 x tr with _ | s
  · rw [hb] at h; cases h
  · rw [hb] at h
    injection h with h
    subst h
    rcases hq : validPz x && trackB x.points tr
    · rw [bfs16_no hq] at hb; cases hb
    · obtain ⟨q1, q2⟩ := (Bool.and_eq_true _ _).mp hq
      refine ⟨q1, q2, rfl, rfl, ?_⟩
      rw [bfs16_yes hq] at hb
      exact bFrom_ok hb ⟨rfl, by simp, by simp⟩
end Go.Proofs.YtlcoejncdbkhcaaGreat

namespace Go.Proofs.YtlcoejncdbkhcaaGreat
open Go.RowKit
set_option maxRecDepth 10000
theorem idxL_mem {l : List (List Int)} {p : List Int} (h : 0 ≤ idxL l p) : p ∈ l ∧ (idxL l p).toNat < l.length := by
  rcases idxF_nonneg_or (fun q => decide (q = p)) l with h1 | ⟨k, hk, h1, h2⟩
  · unfold idxL at h; omega
  · have : l[k] = p := of_decide_eq_true h2
    unfold idxL
    rw [h1]
    exact ⟨by rw [← this]; exact List.getElem_mem hk, by simpa using hk⟩
end Go.Proofs.YtlcoejncdbkhcaaGreat

namespace Go.Proofs.YtlcoejncdbkhcaaGreat
open Go.RowKit
set_option maxRecDepth 10000

theorem getD_last {α : Type} (l : List α) (a z : α) : (l ++ [a]).getD l.length z = a := by
  simp [List.getD_eq_getElem?_getD]
theorem getD_get {α : Type} {l : List α} {z : α} {k : Nat} (h : k < l.length) : l.getD k z = l[k] := by
  rw [List.getD_eq_getElem?_getD, List.getElem?_eq_getElem h]; rfl
theorem nodup_at {α : Type} {l : List α} (h : l.Nodup) {i j : Nat} (hi : i < l.length) (hj : j < l.length) (e : l[i] = l[j]) : i = j := by
  rcases Nat.lt_trichotomy i j with h1 | h1 | h1
  · exact absurd e (List.pairwise_iff_getElem.1 h i j hi hj h1)
  · exact h1
  · exact absurd e.symm (List.pairwise_iff_getElem.1 h j i hj hi h1)
theorem ltrs_neg {n : Nat} {l : Int} (h : l ∈ ltrs n) : -l ∈ ltrs n := by
  rw [mem_ltrs] at h ⊢; omega
theorem mv_opp {n : Nat} {gens : List (List Int)} (hg : ∀ g ∈ gens, PM.PN n g) {l : Int} (h : l ∈ ltrs gens.length) : mv gens (-l) = PM.inv (mv gens l) := by
  rcases letter_cases h with ⟨k, hk, rfl⟩ | ⟨k, hk, rfl⟩
  · rw [mv_pos rfl hk, mv_neg (k := k) rfl hk]
  · rw [mv_neg rfl hk, mv_pos (k := k) (by omega) hk, PM.inv_inv (hg _ (List.getElem_mem hk))]
/-- a letter and its inverse -/
theorem nxt_back {x : Puzzle} {k : Nat} {q : List Int} {l : Int} (hv : validPz x = true) (hq : patB x.points k q = true) (h : l ∈ ltrs x.moves.length) : nxt x (nxt x q l) (-l) = q := by
  have hg := validPz_pn hv
  have hm := mv_pn hg h
  have hf := validPz_facts hv
  have hr := (patB_iff.1 hq).2.1
  unfold nxt
  rw [mv_opp hg h]
  show (q.map (PM.at_ (mv x.moves l))).map (PM.at_ (PM.inv (mv x.moves l))) = q
  rw [List.map_map]
  refine (List.map_congr_left fun z hz => ?_).trans (List.map_id q)
  have := hr z hz
  exact PM.at_inv hm this.1 (by omega)
/-- a search under way: the entries ahead of k are done, of the k-th the letters of done -/
structure BI (x : Puzzle) (tr : List Int) (k : Nat) (done : List Int) (s : Met16) : Prop where
  nd : s.1.Nodup
  dl : s.2.length = s.1.length
  p0 : s.1.getD 0 [] = tr
  d0 : s.2.getD 0 0 = 0
  ne : 0 < s.1.length
  mono : ∀ i j, i ≤ j → j < s.1.length → s.2.getD i 0 ≤ s.2.getD j 0
  top : k < s.1.length → ∀ i, i < s.1.length → s.2.getD i 0 ≤ s.2.getD k 0 + 1
  par : ∀ i, 0 < i → i < s.1.length → ∃ j l, j < i ∧ l ∈ ltrs x.moves.length ∧ nxt x (s.1.getD j []) l = s.1.getD i [] ∧ s.2.getD i 0 = s.2.getD j 0 + 1
  clo : ∀ j l, l ∈ ltrs x.moves.length → (j < k ∨ (j = k ∧ l ∈ done)) → j < s.1.length → ∃ i, i < s.1.length ∧ s.1.getD i [] = nxt x (s.1.getD j []) l ∧ s.2.getD i 0 ≤ s.2.getD j 0 + 1
  kl : k ≤ s.1.length
  pat : ∀ q ∈ s.1, patB x.points tr.length q = true
section
variable {x : Puzzle} {tr : List Int} {k : Nat} {done : List Int} {s s' : Met16}
theorem BI.start (hp : patB x.points tr.length tr = true) : BI x tr 0 [] ([tr], [0]) := by
  refine ⟨by simp, rfl, rfl, rfl, by simp, fun i j h1 h2 => ?_, fun _ i hi => ?_, fun i h1 h2 => ?_, fun j l h1 h2 => ?_, by simp, by simpa using hp⟩
  · have : j = 0 := by simpa using h2
    subst this
    have : i = 0 := by omega
    subst this; exact Int.le_refl _
  · have : i = 0 := by simpa using hi
    subst this; simp
  · have : i = 0 := by simpa using h2
    omega
  · rcases h2 with h2 | ⟨-, h2⟩
    · omega
    · cases h2
theorem BI.meet (h : BI x tr k done s) (hv : validPz x = true) (hk : k < s.1.length) {l : Int} (hl : l ∈ ltrs x.moves.length) (hm : bMeet s (s.2.getD k 0 + 1) (nxt x (s.1.getD k []) l) = some s') :
    BI x tr k (l :: done) s' ∧ s'.1.getD k [] = s.1.getD k [] ∧ s'.2.getD k 0 = s.2.getD k 0 ∧ k < s'.1.length := by
  have hkm : s.1.getD k [] ∈ s.1 := by rw [getD_get hk]; exact List.getElem_mem hk
  have hpn := nxt_pat hv (h.pat _ hkm) hl
  unfold bMeet at hm
  split at hm
  · rename_i hmem
    injection hm with hm
    subst hm
    refine ⟨⟨h.nd, h.dl, h.p0, h.d0, h.ne, h.mono, h.top, h.par, fun j l' h1 h2 h3 => ?_, h.kl, h.pat⟩, rfl, rfl, hk⟩
    rcases h2 with h2 | ⟨rfl, h2⟩
    · exact h.clo j l' h1 (.inl h2) h3
    · rcases List.mem_cons.1 h2 with rfl | h2
      · obtain ⟨i, hi, e⟩ := List.getElem_of_mem hmem
        exact ⟨i, hi, by rw [getD_get hi, e], h.top hk i hi⟩
      · exact h.clo j l' h1 (.inr ⟨rfl, h2⟩) h3
  · rename_i hmem
    split at hm
    · cases hm
    · injection hm with hm
      have hkd : k < s.2.length := by rw [h.dl]; exact hk
      have hle : ∀ i, i < s.1.length → s.2.getD i 0 ≤ s.2.getD k 0 + 1 := h.top hk
      have g1 : ∀ i, i < s.1.length → (s.1 ++ [nxt x (s.1.getD k []) l]).getD i [] = s.1.getD i [] := fun i hi => getD_snoc hi
      have g2 : ∀ i, i < s.1.length → (s.2 ++ [s.2.getD k 0 + 1]).getD i 0 = s.2.getD i 0 := fun i hi => getD_snoc (by rw [h.dl]; exact hi)
      have e1 : (s.1 ++ [nxt x (s.1.getD k []) l]).getD s.1.length [] = nxt x (s.1.getD k []) l := getD_last _ _ _
      have e2 : (s.2 ++ [s.2.getD k 0 + 1]).getD s.1.length 0 = s.2.getD k 0 + 1 := by rw [← h.dl]; exact getD_last _ _ _
      subst hm
      refine ⟨⟨?_, by simp [h.dl], by rw [g1 0 h.ne]; exact h.p0, by rw [g2 0 h.ne]; exact h.d0, by simp, fun i j h1 h2 => ?_, fun _ i hi => ?_, fun i h1 h2 => ?_, fun j l' h1 h2 h3 => ?_, by simp; omega, fun q hq => ?_⟩, g1 k hk, g2 k hk, by simp; omega⟩
      · rw [List.nodup_append]
        exact ⟨h.nd, by simp, fun a ha b hb e => hmem (by rw [← List.mem_singleton.1 hb, ← e]; exact ha)⟩
      · simp only [List.length_append, List.length_singleton] at h2
        by_cases hj : j < s.1.length
        · show (s.2 ++ _).getD i 0 ≤ (s.2 ++ _).getD j 0
          rw [g2 i (by omega), g2 j hj]; exact h.mono i j h1 hj
        · obtain rfl : j = s.1.length := by omega
          show (s.2 ++ _).getD i 0 ≤ (s.2 ++ _).getD _ 0
          rw [e2]
          by_cases hi : i < s.1.length
          · rw [g2 i hi]; exact hle i hi
          · obtain rfl : i = s.1.length := by omega
            rw [e2]; exact Int.le_refl _
      · simp only [List.length_append, List.length_singleton] at hi
        show (s.2 ++ _).getD i 0 ≤ (s.2 ++ _).getD k 0 + 1
        rw [g2 k hk]
        by_cases hi2 : i < s.1.length
        · rw [g2 i hi2]; exact hle i hi2
        · obtain rfl : i = s.1.length := by omega
          rw [e2]; exact Int.le_refl _
      · simp only [List.length_append, List.length_singleton] at h2
        by_cases hi : i < s.1.length
        · obtain ⟨j, l', a1, a2, a3, a4⟩ := h.par i h1 hi
          refine ⟨j, l', a1, a2, ?_, ?_⟩
          · show nxt x ((s.1 ++ _).getD j []) l' = (s.1 ++ _).getD i []
            rw [g1 j (by omega), g1 i hi]; exact a3
          · show (s.2 ++ _).getD i 0 = (s.2 ++ _).getD j 0 + 1
            rw [g2 j (by omega), g2 i hi]; exact a4
        · obtain rfl : i = s.1.length := by omega
          refine ⟨k, l, hk, hl, ?_, ?_⟩
          · show nxt x ((s.1 ++ _).getD k []) l = (s.1 ++ _).getD _ []
            rw [g1 k hk, e1]
          · show (s.2 ++ _).getD _ 0 = (s.2 ++ _).getD k 0 + 1
            rw [g2 k hk, e2]
      · simp only [List.length_append, List.length_singleton] at h3
        have hj : j < s.1.length := by rcases h2 with h2 | ⟨rfl, -⟩ <;> omega
        have hold : (j < k ∨ (j = k ∧ l' ∈ done)) → ∃ i, i < (s.1 ++ [nxt x (s.1.getD k []) l]).length ∧ (s.1 ++ [nxt x (s.1.getD k []) l]).getD i [] = nxt x ((s.1 ++ [nxt x (s.1.getD k []) l]).getD j []) l' ∧ (s.2 ++ [s.2.getD k 0 + 1]).getD i 0 ≤ (s.2 ++ [s.2.getD k 0 + 1]).getD j 0 + 1 := fun h4 => by
          obtain ⟨i, b1, b2, b3⟩ := h.clo j l' h1 h4 hj
          exact ⟨i, by simp; omega, by rw [g1 i b1, g1 j hj]; exact b2, by rw [g2 i b1, g2 j hj]; exact b3⟩
        rcases h2 with h2 | ⟨rfl, h2⟩
        · exact hold (.inl h2)
        · rcases List.mem_cons.1 h2 with rfl | h2
          · exact ⟨s.1.length, by simp, by show (s.1 ++ _).getD _ [] = nxt x ((s.1 ++ _).getD j []) l'; rw [e1, g1 j hk], by show (s.2 ++ _).getD _ 0 ≤ (s.2 ++ _).getD j 0 + 1; rw [e2, g2 j hk]; exact Int.le_refl _⟩
          · exact hold (.inr ⟨rfl, h2⟩)
      · rcases List.mem_append.1 hq with hq | hq
        · exact h.pat q hq
        · simp at hq; subst hq; exact hpn
theorem BI.lets (hv : validPz x = true) : ∀ {ls done : List Int} {s s' : Met16}, BI x tr k done s → k < s.1.length → (∀ l ∈ ls, l ∈ ltrs x.moves.length) → bLets x (s.1.getD k []) (s.2.getD k 0 + 1) ls s = some s' →
    ∃ done', BI x tr k done' s' ∧ k < s'.1.length ∧ (∀ l ∈ ls, l ∈ done') ∧ ∀ l ∈ done, l ∈ done'
  | [], done, s, s', h, hk, _, he => by
    unfold bLets at he; injection he with he; subst he
    exact ⟨done, h, hk, by simp, fun _ h => h⟩
  | l :: ls, done, s, s', h, hk, hl, he => by
    unfold bLets at he
    rw [Option.bind_eq_some_iff] at he
    obtain ⟨s1, e1, e2⟩ := he
    obtain ⟨b1, b2, b3, b4⟩ := h.meet hv hk (hl l (by simp)) e1
    rw [← b2, ← b3] at e2
    obtain ⟨done', c1, c2, c3, c4⟩ := BI.lets hv b1 b4 (fun l hl2 => hl l (by simp [hl2])) e2
    refine ⟨done', c1, c2, fun l' hl' => ?_, fun l' hl' => c4 l' (by simp [hl'])⟩
    rcases List.mem_cons.1 hl' with rfl | hl'
    · exact c4 _ (by simp)
    · exact c3 l' hl'
theorem BI.next (h : BI x tr k done s) (hk : k < s.1.length) (ha : ∀ l ∈ ltrs x.moves.length, l ∈ done) : BI x tr (k + 1) [] s := by
  refine ⟨h.nd, h.dl, h.p0, h.d0, h.ne, h.mono, fun h1 i hi => ?_, h.par, fun j l h1 h2 h3 => ?_, hk, h.pat⟩
  · have h2 := h.top hk i hi
    have h3 := h.mono k (k + 1) (by omega) h1
    omega
  · rcases h2 with h2 | ⟨-, h2⟩
    · by_cases hj : j < k
      · exact h.clo j l h1 (.inl hj) h3
      · obtain rfl : j = k := by omega
        exact h.clo j l h1 (.inr ⟨rfl, ha l h1⟩) h3
    · cases h2
theorem BI.from_ (hv : validPz x = true) : ∀ {n k : Nat} {s s' : Met16}, bFrom x n k s = some s' → BI x tr k [] s → s.1.length ≤ 3000 → 3001 ≤ n + k → BI x tr s'.1.length [] s'
  | 0, k, s, s', he, h, h1, h2 => by have := h.kl; omega
  | n + 1, k, s, s', he, h, h1, h2 => by
    unfold bFrom at he
    split at he
    · rename_i hk
      rw [Option.bind_eq_some_iff] at he
      obtain ⟨s1, e1, e2⟩ := he
      obtain ⟨done', c1, c2, c3, -⟩ := h.lets hv hk (fun l hl => hl) e1
      have hlen := bLets_len e1 h.dl.symm h1
      exact BI.from_ hv e2 (c1.next c2 c3) hlen.2.1 (by omega)
    · injection he with he; subst he
      have : k = s.1.length := by have := h.kl; omega
      subst this; exact h
end
/-- a table that was built -/
structure Built (x : Puzzle) (t : Table) : Prop where
  v : validPz x = true
  tk : trackB x.points t.tracked = true
  bi : BI x t.tracked t.patterns.length [] (t.patterns, t.distances)
  ll : t.patterns.length ≤ 3000
theorem bTab_built {x : Puzzle} {tr : List Int} {t : Table} (h : bTab x tr = some t) : Built x t ∧ t.tracked = tr := by
  obtain ⟨h1, h2, h3, h4, h5, h6, h7⟩ := bTab_facts h
  subst h3
  refine ⟨⟨h1, h2, ?_, h6⟩, rfl⟩
  rw [bfs16_yes (by rw [h1, h2]; rfl)] at h4
  exact BI.from_ h1 h4 (BI.start (trackB_pat h2)) (by simp) (by omega)
section
variable {x : Puzzle} {t : Table}
theorem Built.dep (h : Built x t) : ∀ i : Nat, i < t.patterns.length → 0 ≤ t.distances.getD i 0 ∧ t.distances.getD i 0 ≤ i ∧ (0 < i → 0 < t.distances.getD i 0) := by
  intro i
  induction i using Nat.strongRecOn with
  | ind i ih =>
    intro hi
    by_cases h0 : i = 0
    · subst h0
      have : t.distances.getD 0 0 = 0 := h.bi.d0
      omega
    · obtain ⟨j, l, a1, a2, a3, a4⟩ := h.bi.par i (by omega) hi
      have h1 := ih j a1 (Nat.lt_trans a1 hi)
      simp only at a4
      omega
/-- the entry of a letter -/
theorem Built.step (h : Built x t) {j : Nat} (hj : j < t.patterns.length) {l : Int} (hl : l ∈ ltrs x.moves.length) :
    ∃ i : Nat, i < t.patterns.length ∧ t.patterns.getD i [] = nxt x (t.patterns.getD j []) l ∧ t.distances.getD i 0 ≤ t.distances.getD j 0 + 1 ∧ t.distances.getD j 0 ≤ t.distances.getD i 0 + 1 := by
  obtain ⟨i, b1, b2, b3⟩ := h.bi.clo j l hl (.inl hj) hj
  obtain ⟨j', c1, c2, c3⟩ := h.bi.clo i (-l) (ltrs_neg hl) (.inl b1) b1
  simp only at b1 b2 b3 c1 c2 c3
  rw [b2, nxt_back h.v (h.bi.pat _ (by rw [getD_get hj]; exact List.getElem_mem hj)) hl] at c2
  have : j' = j := by
    rw [getD_get c1, getD_get hj] at c2
    have hnd : t.patterns.Nodup := h.bi.nd
    exact nodup_at hnd c1 hj c2
  subst this
  exact ⟨i, b1, b2, b3, c3⟩
theorem Built.idx (h : Built x t) {i : Nat} (hi : i < t.patterns.length) : idxL t.patterns (t.patterns.getD i []) = i := by
  refine idxF_some (j := i) hi (fun q hq => ?_) ?_
  · rw [List.mem_take_iff_getElem] at hq
    obtain ⟨k, hk, rfl⟩ := hq
    refine decide_eq_false fun e => ?_
    rw [getD_get hi] at e
    have hnd : t.patterns.Nodup := h.bi.nd
    have := nodup_at hnd (by omega) hi e
    omega
  · exact decide_eq_true (getD_get hi).symm
end
end Go.Proofs.YtlcoejncdbkhcaaGreat

namespace Go.Proofs.YtlcoejncdbkhcaaGreat
open Go.RowKit
set_option maxRecDepth 10000

/-- the table that is built for its tracked points -/
noncomputable def validT (x : Puzzle) (t : Table) : Bool := (bTab x t.tracked).isSome && eqV ((bTab x t.tracked).getD noTab) t
noncomputable def tabSet (x : Puzzle) (ts : List Table) : Bool := validPz x && (decide (ts.length ≤ 4) && ts.all (validT x))
/-- the distance of a state's pattern -/
def lookT (t : Table) (s : List Int) : Int := t.distances.getD (idxL t.patterns (PM.comp t.tracked s)).toNat 0
def lbs (ts : List Table) (s : List Int) : List Int := ts.map fun t => lookT t s
def lbMax (ts : List Table) (s : List Int) : Int := (lbs ts s).foldl max 0
noncomputable def lb (x : Puzzle) (ts : List Table) (s : List Int) : Int := if (tabSet x ts && reachB x s) = true then lbMax ts s else -1
theorem validT_built {x : Puzzle} {t : Table} (h : validT x t = true) : Built x t := by
  unfold validT at h
  rw [Bool.and_eq_true] at h
  obtain ⟨u, hu⟩ := Option.isSome_iff_exists.1 h.1
  have h2 := h.2
  rw [hu] at h2
  have e : u = t := eqV_iff.1 h2
  subst e
  exact (bTab_built hu).1
theorem tabSet_iff {x : Puzzle} {ts : List Table} : tabSet x ts = true ↔ validPz x = true ∧ ts.length ≤ 4 ∧ ∀ t ∈ ts, validT x t = true := by
  unfold tabSet
  rw [Bool.and_eq_true, Bool.and_eq_true, decide_eq_true_iff, List.all_eq_true]
/-- the patterns of reachable states are entries -/
theorem Built.reach {x : Puzzle} {t : Table} (h : Built x t) {s : List Int} (hs : reachB x s = true) : PM.comp t.tracked s ∈ t.patterns := by
  have hg := validPz_pn h.v
  have hf := validPz_facts h.v
  have htr := trackB_iff.1 h.tk
  have hG : PM.Grp x.points.toNat x.moves s := by
    unfold reachB memB at hs
    rw [Bool.and_eq_true] at hs
    exact @of_decide_eq_true _ (Classical.propDecidable _) hs.2
  have hr : ∀ z ∈ t.tracked, 0 ≤ z ∧ z < x.points.toNat := fun z hz => by have := htr.2.1 z hz; omega
  have h0 : t.patterns.getD 0 [] = t.tracked := h.bi.p0
  have hne : 0 < t.patterns.length := h.bi.ne
  have := PM.grp_sub (n := x.points.toNat) (G := x.moves) hg (S := fun p => PM.PN x.points.toNat p ∧ PM.comp t.tracked p ∈ t.patterns) (fun p hp => hp.1) ⟨PM.PN.id _, ?_⟩ ?_ hG
  · exact this.2
  · have e : PM.comp t.tracked (PM.pts x.points.toNat) = t.tracked := by
      unfold PM.comp
      refine (List.map_congr_left fun z hz => ?_).trans (List.map_id _)
      exact PM.at_pts (hr z hz).1 (hr z hz).2
    rw [e, ← h0, getD_get hne]
    exact List.getElem_mem hne
  · rintro p g ⟨hp, hm⟩ hgm
    refine ⟨hp.comp (hg g hgm), ?_⟩
    obtain ⟨k, hk, rfl⟩ := List.getElem_of_mem hgm
    obtain ⟨j, hj, e⟩ := List.getElem_of_mem hm
    have hl : ((k : Int) + 1) ∈ ltrs x.moves.length := mem_ltrs.2 ⟨by omega, by omega, by omega⟩
    obtain ⟨i, hi, e2, -⟩ := h.step hj hl
    have e3 : PM.comp t.tracked (PM.comp p x.moves[k]) = nxt x (PM.comp t.tracked p) ((k : Int) + 1) := by
      unfold nxt
      rw [mv_pos rfl hk]
      unfold PM.comp
      rw [List.map_map]
      refine List.map_congr_left fun z hz => ?_
      have := hr z hz
      exact PM.at_comp this.1 (by rw [hp.1]; omega)
    rw [e3, ← e, ← getD_get (z := []) hj, ← e2, getD_get hi]
    exact List.getElem_mem hi
theorem lookT_entry {x : Puzzle} {t : Table} (h : validT x t = true) {s : List Int} (hs : reachB x s = true) : ∃ i : Nat, i < t.patterns.length ∧ i < t.distances.length ∧ idxL t.patterns (PM.comp t.tracked s) = i ∧ t.patterns.getD i [] = PM.comp t.tracked s ∧ lookT t s = t.distances.getD i 0 := by
  have hb := validT_built h
  obtain ⟨i, hi, e⟩ := List.getElem_of_mem (hb.reach hs)
  have hx := hb.idx hi
  have hdl := hb.bi.dl
  simp only at hdl
  rw [getD_get hi, e] at hx
  refine ⟨i, hi, by omega, hx, by rw [getD_get hi, e], ?_⟩
  unfold lookT
  rw [hx, Int.toNat_natCast]
theorem lookT_rng {x : Puzzle} {t : Table} (h : validT x t = true) {s : List Int} (hs : reachB x s = true) : 0 ≤ lookT t s ∧ lookT t s ≤ 3000 := by
  obtain ⟨i, hi, -, -, -, e⟩ := lookT_entry h hs
  have hb := validT_built h
  have := hb.dep i hi
  have := hb.ll
  rw [e]; omega
end Go.Proofs.YtlcoejncdbkhcaaGreat

namespace Go.Proofs.YtlcoejncdbkhcaaGreat
open Go.RowKit
set_option maxRecDepth 10000

set_option maxHeartbeats 2000000 in
theorem specIsValidTable_any (cs ds : List Value) (x : Puzzle) (t : Table) (fp f2 : List Nat) (w : World) (h : Rp.rep w cs x fp) (h2 : Rp.rep w ds t f2) (htl : t.tracked.length ≤ 2097152) :
    Calls Tryz.prog 224 #[.agg cs.toArray, .agg ds.toArray] w fun e w' => e = .returned (.bool (validT x t)) ∧ Only [] w w' := by
  have h0 := h
  have h20 := h2
  obtain ⟨v2, rfl, p0, p1, hm⟩ := h
  obtain ⟨A3, C3, _, _, rfl, -, -⟩ := hm.open_
  obtain ⟨u0, u1, u2, q0, q1, q2, rfl, rfl, r0, r1, r2⟩ := h2
  obtain ⟨A0, C0, _, _, rfl, -, -⟩ := r0.open_
  obtain ⟨A1, C1, _, _, rfl, -, -⟩ := r1.open_
  obtain ⟨A2, C2, _, _, rfl, -, -⟩ := r2.open_
  have h20' : Rp.rep w [.slice A0 t.tracked.length C0, .slice A1 t.patterns.length C1, .slice A2 t.distances.length C2] t (q0 ++ (q1 ++ q2)) := h20
  have Y0 : Blk ((w.alloc (.cells #[.int .i64 x.points, .string x.names, .slice A3 x.moves.length C3] 37)).alloc (.cells #[.slice A0 t.tracked.length C0, .slice A1 t.patterns.length C1, .slice A2 t.distances.length C2] 32)) (w.heap.size + 1) [.slice A0 t.tracked.length C0, .slice A1 t.patterns.length C1, .slice A2 t.distances.length C2] := Blk.new_at (by simp)
  have y0 := Y0.cell 0 rfl
  clear p0 p1 r1 r2
  rcases hb : bTab x t.tracked with _ | u
  · have hv : validT x t = false := by unfold validT; rw [hb]; rfl
    have Hb := Lib.hid hb
    have Hv := Lib.hid hv
    clear hb hv
    go_enter Tryz.func224, Tryz.ntmps224
    go_wp2_with (first
      | (go_at_call 71; (with_reducible refine (specBuildTable_any [.int .i64 x.points, .string x.names, .slice A3 x.moves.length C3] x _ _ t.tracked _ _ (Rp.keep h0 (by with_reducible repeat (first | exact Only.refl _ _ | assumption | refine Only.drewN ?_ _ | refine Only.drew ?_ | refine Only.alloc ?_ _ | refine Only.setCell ?_ (by intro hh; exfalso; simp at hh; try omega) _ | refine Only.trans ?_ (by assumption)))) (Rp.keep r0 (by with_reducible repeat (first | exact Only.refl _ _ | assumption | refine Only.drewN ?_ _ | refine Only.drew ?_ | refine Only.alloc ?_ _ | refine Only.setCell ?_ (by intro hh; exfalso; simp at hh; try omega) _ | refine Only.trans ?_ (by assumption)))) htl).mono ?_); rintro e w4 ⟨cs4, f4, he4, r4, F4, t4⟩; rw [Hb.out] at he4 r4; obtain ⟨u1, u2, u3, e1, e2, e3, rfl, -, s1, s2, s3⟩ := r4; obtain ⟨a1, k1, _, _, rfl, -, -⟩ := s1.open_; obtain ⟨a2, k2, _, _, rfl, -, -⟩ := s2.open_; obtain ⟨a3, k3, _, _, rfl, -, -⟩ := s3.open_; subst he4; have Z := Blk.new w4 [.slice none 0 0, .slice none 0 0, .slice none 0 0] 32; have g0 := Z.cell 0 rfl; have g1 := Z.cell 1 rfl; have g2 := Z.cell 2 rfl; have p0 := Z.frozen 0; have p1 := Z.frozen 1; have p2 := Z.frozen 2)
      | fail "no arm")
    go_ret
    exact ⟨ret_bool Hv.out.symm, (by with_reducible repeat (first | exact Only.refl _ _ | assumption | refine Only.drewN ?_ _ | refine Only.drew ?_ | refine Only.alloc ?_ _ | refine Only.setCell ?_ (by intro hh; exfalso; simp at hh; try omega) _ | refine Only.trans ?_ (by assumption)))⟩
  · have hv : validT x t = eqV u t := by unfold validT; rw [hb]; rfl
    have Hb := Lib.hid hb
    have Hv := Lib.hid hv
    clear hb hv
    go_enter Tryz.func224, Tryz.ntmps224
    go_wp2_with (first
      | (go_at_call 71; (with_reducible refine (specBuildTable_any [.int .i64 x.points, .string x.names, .slice A3 x.moves.length C3] x _ _ t.tracked _ _ (Rp.keep h0 (by with_reducible repeat (first | exact Only.refl _ _ | assumption | refine Only.drewN ?_ _ | refine Only.drew ?_ | refine Only.alloc ?_ _ | refine Only.setCell ?_ (by intro hh; exfalso; simp at hh; try omega) _ | refine Only.trans ?_ (by assumption)))) (Rp.keep r0 (by with_reducible repeat (first | exact Only.refl _ _ | assumption | refine Only.drewN ?_ _ | refine Only.drew ?_ | refine Only.alloc ?_ _ | refine Only.setCell ?_ (by intro hh; exfalso; simp at hh; try omega) _ | refine Only.trans ?_ (by assumption)))) htl).mono ?_); rintro e w4 ⟨cs4, f4, he4, r4, F4, t4⟩; rw [Hb.out] at he4 r4; have rr := id r4; obtain ⟨u1, u2, u3, e1, e2, e3, rfl, -, s1, s2, s3⟩ := r4; simp only [List.cons_append, List.nil_append, Option.getD] at rr; obtain ⟨a1, k1, _, _, rfl, -, -⟩ := s1.open_; obtain ⟨a2, k2, _, _, rfl, -, -⟩ := s2.open_; obtain ⟨a3, k3, _, _, rfl, -, -⟩ := s3.open_; subst he4; have Z := Blk.new w4 [.slice none 0 0, .slice none 0 0, .slice none 0 0] 32; have g0 := Z.cell 0 rfl; have g1 := Z.cell 1 rfl; have g2 := Z.cell 2 rfl; have p0 := Z.frozen 0; have p1 := Z.frozen 1; have p2 := Z.frozen 2; have Zn := Blk.new w4 [.slice a1 u.tracked.length k1, .slice a2 u.patterns.length k2, .slice a3 u.distances.length k3] 32; have n0 := Zn.cell 0 rfl; have n1 := Zn.cell 1 rfl; have n2 := Zn.cell 2 rfl; have Yn := (Y0.keep t4).keep ((Only.refl [] w4).alloc (.cells #[.slice a1 u.tracked.length k1, .slice a2 u.patterns.length k2, .slice a3 u.distances.length k3] 32)); have m0 := Yn.cell 0 rfl; have m1 := Yn.cell 1 rfl; have m2 := Yn.cell 2 rfl; have rn := Rp.keep rr ((Only.refl [] w4).alloc (.cells #[.slice a1 u.tracked.length k1, .slice a2 u.patterns.length k2, .slice a3 u.distances.length k3] 32)))
      | (go_at_call 153; (with_reducible refine (specSameTable_any [.slice a1 u.tracked.length k1, .slice a2 u.patterns.length k2, .slice a3 u.distances.length k3] [.slice A0 t.tracked.length C0, .slice A1 t.patterns.length C1, .slice A2 t.distances.length C2] u t _ _ _ rn (Rp.keep h20' (by with_reducible repeat (first | exact Only.refl _ _ | assumption | refine Only.drewN ?_ _ | refine Only.drew ?_ | refine Only.alloc ?_ _ | refine Only.setCell ?_ (by intro hh; exfalso; simp at hh; try omega) _ | refine Only.trans ?_ (by assumption))))).mono ?_); rintro e w5 ⟨rfl, t5⟩)
      | fail "no arm")
    go_ret
    exact ⟨ret_bool Hv.out.symm, (by with_reducible repeat (first | exact Only.refl _ _ | assumption | refine Only.drewN ?_ _ | refine Only.drew ?_ | refine Only.alloc ?_ _ | refine Only.setCell ?_ (by intro hh; exfalso; simp at hh; try omega) _ | refine Only.trans ?_ (by assumption)))⟩
set_option maxHeartbeats 2000000 in
theorem implIsValidTable_any (cs ds : List Value) (x : Puzzle) (t : Table) (fp f2 : List Nat) (w : World) (h : Rp.rep w cs x fp) (h2 : Rp.rep w ds t f2) (htl : t.tracked.length ≤ 2097152) :
    Calls Tryz.prog 229 #[.agg cs.toArray, .agg ds.toArray] w fun e w' => e = .returned (.bool (validT x t)) ∧ Only [] w w' := by
  have h0 := h
  have h20 := h2
  obtain ⟨v2, rfl, p0, p1, hm⟩ := h
  obtain ⟨A3, C3, _, _, rfl, -, -⟩ := hm.open_
  obtain ⟨u0, u1, u2, q0, q1, q2, rfl, rfl, r0, r1, r2⟩ := h2
  obtain ⟨A0, C0, _, _, rfl, -, -⟩ := r0.open_
  obtain ⟨A1, C1, _, _, rfl, -, -⟩ := r1.open_
  obtain ⟨A2, C2, _, _, rfl, -, -⟩ := r2.open_
  have h20' : Rp.rep w [.slice A0 t.tracked.length C0, .slice A1 t.patterns.length C1, .slice A2 t.distances.length C2] t (q0 ++ (q1 ++ q2)) := h20
  have Y0 : Blk ((w.alloc (.cells #[.int .i64 x.points, .string x.names, .slice A3 x.moves.length C3] 37)).alloc (.cells #[.slice A0 t.tracked.length C0, .slice A1 t.patterns.length C1, .slice A2 t.distances.length C2] 32)) (w.heap.size + 1) [.slice A0 t.tracked.length C0, .slice A1 t.patterns.length C1, .slice A2 t.distances.length C2] := Blk.new_at (by simp)
  have y0 := Y0.cell 0 rfl
  clear p0 p1 r1 r2
  rcases hb : bTab x t.tracked with _ | u
  · have hv : validT x t = false := by unfold validT; rw [hb]; rfl
    have Hb := Lib.hid hb
    have Hv := Lib.hid hv
    clear hb hv
    go_enter Tryz.func229, Tryz.ntmps229
    go_wp2_with (first
      | (go_at_call 77; (with_reducible refine (implBuildTable_any [.int .i64 x.points, .string x.names, .slice A3 x.moves.length C3] x _ _ t.tracked _ _ (Rp.keep h0 (by with_reducible repeat (first | exact Only.refl _ _ | assumption | refine Only.drewN ?_ _ | refine Only.drew ?_ | refine Only.alloc ?_ _ | refine Only.setCell ?_ (by intro hh; exfalso; simp at hh; try omega) _ | refine Only.trans ?_ (by assumption)))) (Rp.keep r0 (by with_reducible repeat (first | exact Only.refl _ _ | assumption | refine Only.drewN ?_ _ | refine Only.drew ?_ | refine Only.alloc ?_ _ | refine Only.setCell ?_ (by intro hh; exfalso; simp at hh; try omega) _ | refine Only.trans ?_ (by assumption)))) htl).mono ?_); rintro e w4 ⟨cs4, f4, he4, r4, F4, t4⟩; rw [Hb.out] at he4 r4; obtain ⟨u1, u2, u3, e1, e2, e3, rfl, -, s1, s2, s3⟩ := r4; obtain ⟨a1, k1, _, _, rfl, -, -⟩ := s1.open_; obtain ⟨a2, k2, _, _, rfl, -, -⟩ := s2.open_; obtain ⟨a3, k3, _, _, rfl, -, -⟩ := s3.open_; subst he4; have Z := Blk.new w4 [.slice none 0 0, .slice none 0 0, .slice none 0 0] 32; have g0 := Z.cell 0 rfl; have g1 := Z.cell 1 rfl; have g2 := Z.cell 2 rfl; have p0 := Z.frozen 0; have p1 := Z.frozen 1; have p2 := Z.frozen 2)
      | fail "no arm")
    go_ret
    exact ⟨ret_bool Hv.out.symm, (by with_reducible repeat (first | exact Only.refl _ _ | assumption | refine Only.drewN ?_ _ | refine Only.drew ?_ | refine Only.alloc ?_ _ | refine Only.setCell ?_ (by intro hh; exfalso; simp at hh; try omega) _ | refine Only.trans ?_ (by assumption)))⟩
  · have hv : validT x t = eqV u t := by unfold validT; rw [hb]; rfl
    have Hb := Lib.hid hb
    have Hv := Lib.hid hv
    clear hb hv
    go_enter Tryz.func229, Tryz.ntmps229
    go_wp2_with (first
      | (go_at_call 77; (with_reducible refine (implBuildTable_any [.int .i64 x.points, .string x.names, .slice A3 x.moves.length C3] x _ _ t.tracked _ _ (Rp.keep h0 (by with_reducible repeat (first | exact Only.refl _ _ | assumption | refine Only.drewN ?_ _ | refine Only.drew ?_ | refine Only.alloc ?_ _ | refine Only.setCell ?_ (by intro hh; exfalso; simp at hh; try omega) _ | refine Only.trans ?_ (by assumption)))) (Rp.keep r0 (by with_reducible repeat (first | exact Only.refl _ _ | assumption | refine Only.drewN ?_ _ | refine Only.drew ?_ | refine Only.alloc ?_ _ | refine Only.setCell ?_ (by intro hh; exfalso; simp at hh; try omega) _ | refine Only.trans ?_ (by assumption)))) htl).mono ?_); rintro e w4 ⟨cs4, f4, he4, r4, F4, t4⟩; rw [Hb.out] at he4 r4; have rr := id r4; obtain ⟨u1, u2, u3, e1, e2, e3, rfl, -, s1, s2, s3⟩ := r4; simp only [List.cons_append, List.nil_append, Option.getD] at rr; obtain ⟨a1, k1, _, _, rfl, -, -⟩ := s1.open_; obtain ⟨a2, k2, _, _, rfl, -, -⟩ := s2.open_; obtain ⟨a3, k3, _, _, rfl, -, -⟩ := s3.open_; subst he4; have Z := Blk.new w4 [.slice none 0 0, .slice none 0 0, .slice none 0 0] 32; have g0 := Z.cell 0 rfl; have g1 := Z.cell 1 rfl; have g2 := Z.cell 2 rfl; have p0 := Z.frozen 0; have p1 := Z.frozen 1; have p2 := Z.frozen 2; have Zn := Blk.new w4 [.slice a1 u.tracked.length k1, .slice a2 u.patterns.length k2, .slice a3 u.distances.length k3] 32; have n0 := Zn.cell 0 rfl; have n1 := Zn.cell 1 rfl; have n2 := Zn.cell 2 rfl; have Yn := (Y0.keep t4).keep ((Only.refl [] w4).alloc (.cells #[.slice a1 u.tracked.length k1, .slice a2 u.patterns.length k2, .slice a3 u.distances.length k3] 32)); have m0 := Yn.cell 0 rfl; have m1 := Yn.cell 1 rfl; have m2 := Yn.cell 2 rfl; have rn := Rp.keep rr ((Only.refl [] w4).alloc (.cells #[.slice a1 u.tracked.length k1, .slice a2 u.patterns.length k2, .slice a3 u.distances.length k3] 32)))
      | (go_at_call 107; (with_reducible refine (implSameTable_any [.slice a1 u.tracked.length k1, .slice a2 u.patterns.length k2, .slice a3 u.distances.length k3] [.slice A0 t.tracked.length C0, .slice A1 t.patterns.length C1, .slice A2 t.distances.length C2] u t _ _ _ rn (Rp.keep h20' (by with_reducible repeat (first | exact Only.refl _ _ | assumption | refine Only.drewN ?_ _ | refine Only.drew ?_ | refine Only.alloc ?_ _ | refine Only.setCell ?_ (by intro hh; exfalso; simp at hh; try omega) _ | refine Only.trans ?_ (by assumption))))).mono ?_); rintro e w5 ⟨rfl, t5⟩)
      | fail "no arm")
    go_ret
    exact ⟨ret_bool Hv.out.symm, (by with_reducible repeat (first | exact Only.refl _ _ | assumption | refine Only.drewN ?_ _ | refine Only.drew ?_ | refine Only.alloc ?_ _ | refine Only.setCell ?_ (by intro hh; exfalso; simp at hh; try omega) _ | refine Only.trans ?_ (by assumption)))⟩
set_option maxHeartbeats 2000000 in
theorem specIsTableSet_any (cs : List Value) (x : Puzzle) (fp : List Nat) (v : Value) (ts : List Table) (ft : List Nat) (w : World) (h : Rp.rep w cs x fp) (hv : Rd w v ts ft) (hsm : ∀ t ∈ ts, t.tracked.length ≤ 2097152) :
    Calls Tryz.prog 187 #[.agg cs.toArray, v] w fun e w' => e = .returned (.bool (tabSet x ts)) ∧ Only [] w w' := by
  have h0 := h
  obtain ⟨v2, rfl, p0, p1, h2⟩ := h
  obtain ⟨A3, C3, _, _, rfl, -, -⟩ := h2.open_
  obtain ⟨a, cap, ob, fps, rfl, -, hS⟩ := hv.open_
  have hb := hS.bound
  clear p0 p1
  have X0 := Blk.new w [.int .i64 x.points, .string x.names, .slice A3 x.moves.length C3] 37
  rcases hq : validPz x
  · have Hn := Lib.hid (by unfold tabSet; rw [hq]; rfl : tabSet x ts = false)
    go_enter Tryz.func187, Tryz.ntmps187
    go_wp2_with ((go_at_call 112; (with_reducible refine (specIsValidPuzzle_any [.int .i64 x.points, .string x.names, .slice A3 x.moves.length C3] x _ _ (Rp.keep h0 (by with_reducible repeat (first | exact Only.refl _ _ | assumption | refine Only.drewN ?_ _ | refine Only.drew ?_ | refine Only.alloc ?_ _ | refine Only.setCell ?_ (by intro hh; exfalso; simp at hh; try omega) _ | refine Only.trans ?_ (by assumption))))).mono ?_); rintro e w1 ⟨he, t1⟩; rw [hq] at he; subst he))
    go_ret
    exact ⟨ret_bool Hn.out.symm, (by with_reducible repeat (first | exact Only.refl _ _ | assumption | refine Only.drewN ?_ _ | refine Only.drew ?_ | refine Only.alloc ?_ _ | refine Only.setCell ?_ (by intro hh; exfalso; simp at hh; try omega) _ | refine Only.trans ?_ (by assumption)))⟩
  by_cases hl : ts.length ≤ 4
  · have hn : tabSet x ts = ts.all (validT x) := by unfold tabSet; rw [hq, decide_eq_true hl]; rfl
    have Hn := Lib.hid hn
    have Hsm := Lib.hid hsm
    clear hn hsm
    go_enter Tryz.func187, Tryz.ntmps187
    go_wp2_with ((go_at_call 112; (with_reducible refine (specIsValidPuzzle_any [.int .i64 x.points, .string x.names, .slice A3 x.moves.length C3] x _ _ (Rp.keep h0 (by with_reducible repeat (first | exact Only.refl _ _ | assumption | refine Only.drewN ?_ _ | refine Only.drew ?_ | refine Only.alloc ?_ _ | refine Only.setCell ?_ (by intro hh; exfalso; simp at hh; try omega) _ | refine Only.trans ?_ (by assumption))))).mono ?_); rintro e w1 ⟨he, t1⟩; rw [hq] at he; subst he))
    have K1 : Only [] w w1 := (by with_reducible repeat (first | exact Only.refl _ _ | assumption | refine Only.drewN ?_ _ | refine Only.drew ?_ | refine Only.alloc ?_ _ | refine Only.setCell ?_ (by intro hh; exfalso; simp at hh; try omega) _ | refine Only.trans ?_ (by assumption)))
    have X1 := X0.keep t1
    clear X0 t1
    go_loopw [5] (fun i wr => ∃ j : Nat, j ≤ ts.length ∧ i = .int .i64 j ∧ (∀ t ∈ ts.take j, validT x t = true) ∧ Only [] w1 wr)
      (fun i _ => ts.length - (intOf i).toNat)
    case atStart => exact ⟨0, Nat.zero_le _, rfl, by simp, Only.refl _ _⟩
    case round =>
      obtain ⟨W2, hnew⟩ : ∃ W, W = wr := ⟨_, rfl⟩
      subst hnew
      obtain ⟨j, hj, rfl, hr, hK⟩ := hrel
      have Hr := Lib.hid hr
      clear hr
      by_cases hlt : j < ts.length
      · obtain ⟨b, off, v1, v2, v3, rfl, -, c1, c2, c3, hv0⟩ := hS.at3 j hlt
        have KK := K1.trans hK
        have d1 := KK.cell (by simp) c1
        have d2 := KK.cell (by simp) c2
        have d3 := KK.cell (by simp) c3
        have X2 := X1.keep hK
        have x0 := X2.cell 0 rfl
        have x1 := X2.cell 1 rfl
        have x2 := X2.cell 2 rfl
        have Hc := Lib.hid (fun (W : World) (hh : Only [] W2 W) => specIsValidTable_any [.int .i64 x.points, .string x.names, .slice A3 x.moves.length C3] [v1, v2, v3] x ts[j] _ _ W (Rp.keep h0 (KK.trans hh)) (Rp.keep hv0 (KK.trans hh)) (Hsm.out _ (List.getElem_mem hlt)))
        have Hmem := Lib.hid (List.getElem_mem hlt)
        clear c1 c2 c3 hv0
        rcases hp : validT x ts[j]
        all_goals go_wp2
        all_goals go_region_held3 (fun w' => Only [] W2 w' ∧ w'.cell? ⟨w.heap.size, 0, none⟩ = some (.int .i64 x.points) ∧ w'.cell? ⟨w.heap.size, 1, none⟩ = some (.string x.names) ∧ w'.cell? ⟨w.heap.size, 2, none⟩ = some (.slice A3 x.moves.length C3) ∧ w'.cell? ⟨b, off + j * 3, none⟩ = some (v1) ∧ w'.cell? ⟨b, off + j * 3 + 1, none⟩ = some (v2) ∧ w'.cell? ⟨b, off + j * 3 + 2, none⟩ = some (v3)) (((refine and_of ?_ (fun h__ => ⟨h__.cell (by simp) x0, h__.cell (by simp) x1, h__.cell (by simp) x2, h__.cell (by simp) d1, h__.cell (by simp) d2, h__.cell (by simp) d3⟩)); first | exact (Only.refl _ _).drew | exact ((Only.refl _ _).drewN _).drew | exact Only.trans (And.left (by assumption)) (by assumption) | exact Only.alloc (And.left (by assumption)) _ | assumption)) (first | (go_at_call 224; (with_reducible refine (Hc.out _ (And.left (by assumption))).mono ?_); rintro e w4 ⟨he, t4⟩; rw [hp] at he; subst he) | fail "no arm")
        all_goals have k4 : Only [] W2 w4 := (Only.refl [] W2).trans (And.left (by assumption))
        all_goals go_wp2
        · go_ret
          exact ⟨ret_bool (by rw [Hn.out]; exact (List.all_eq_false.2 ⟨_, Hmem.out, by simp [hp]⟩).symm), KK.trans k4⟩
        · go_roundw
          case rel => exact ⟨j + 1, by omega, by go_num, by
            rw [take_succ_get ts j hlt]; intro t ht
            rcases List.mem_append.1 ht with ht | ht
            · exact Hr.out t ht
            · simp at ht; subst ht; exact hp, hK.trans k4⟩
          case measure => simp [intOf]; omega
      · go_wp2
        go_ret
        exact ⟨ret_bool (by rw [Hn.out]; exact (List.all_eq_true.2 (by have := Hr.out; rwa [List.take_of_length_le (by omega)] at this)).symm), K1.trans hK⟩
  · have Hn := Lib.hid (by unfold tabSet; rw [hq, decide_eq_false hl]; rfl : tabSet x ts = false)
    go_enter Tryz.func187, Tryz.ntmps187
    go_wp2_with ((go_at_call 112; (with_reducible refine (specIsValidPuzzle_any [.int .i64 x.points, .string x.names, .slice A3 x.moves.length C3] x _ _ (Rp.keep h0 (by with_reducible repeat (first | exact Only.refl _ _ | assumption | refine Only.drewN ?_ _ | refine Only.drew ?_ | refine Only.alloc ?_ _ | refine Only.setCell ?_ (by intro hh; exfalso; simp at hh; try omega) _ | refine Only.trans ?_ (by assumption))))).mono ?_); rintro e w1 ⟨he, t1⟩; rw [hq] at he; subst he))
    go_ret
    exact ⟨ret_bool Hn.out.symm, (by with_reducible repeat (first | exact Only.refl _ _ | assumption | refine Only.drewN ?_ _ | refine Only.drew ?_ | refine Only.alloc ?_ _ | refine Only.setCell ?_ (by intro hh; exfalso; simp at hh; try omega) _ | refine Only.trans ?_ (by assumption)))⟩
set_option maxHeartbeats 400000 in
theorem IndexFunc_tabs (f : FuncId) (caps : Array Value) (pr : Table → Bool) (hcf : ∀ args w, (callFunc f args).run Tryz.prog w = .ok (.enter f args) w)
    (v : Value) (l : List Table) (fp : List Nat) (w : World) (h : Rd w v l fp)
    (hc : ∀ x ∈ l, ∀ v1 v2 v3 f' w', Only [] w w' → Rp.rep w' [v1, v2, v3] x f' → Calls Tryz.prog f (#[.agg #[v1, v2, v3]] ++ caps) w' fun e w'' => e = .returned (.bool (pr x)) ∧ Only [] w' w'') :
    Calls Tryz.prog 241 #[v, .func (.func f) #[] caps] w fun e w' => e = .returned (.int .i64 (idxF pr l)) ∧ Only [] w w' := by
  obtain ⟨a, cap, ob, fps, rfl, -, hI⟩ := h.open_
  have hb := hI.bound
  have HC := Lib.hid hc
  clear hc
  go_enter Tryz.func241, Tryz.ntmps241
  go_wp2
  go_loopw [5, 8] (fun i t wr => ∃ j : Nat, j ≤ l.length ∧ t = .int .i64 j ∧ (∀ x ∈ l.take j, pr x = false) ∧ Only [] w wr)
    (fun _ t _ => l.length - (intOf t).toNat)
  case atStart => exact ⟨0, Nat.zero_le _, rfl, by simp, Only.refl _ _⟩
  case round =>
    obtain ⟨j, hj, rfl, hr, hK⟩ := hrel
    have Hr := Lib.hid hr; clear hr
    by_cases hlt : j < l.length
    · obtain ⟨b, off, v1, v2, v3, rfl, -, c1, c2, c3, hv0⟩ := hI.at3 j hlt
      have d1 := hK.cell (by simp) c1
      have d2 := hK.cell (by simp) c2
      have d3 := hK.cell (by simp) c3
      have hv := Rp.keep hv0 hK
      clear c1 c2 c3 hv0
      rcases hp : pr l[j]
      all_goals go_wp2_with (with_reducible refine (HC.out l[j] (List.getElem_mem _) v1 v2 v3 _ wr hK hv).mono ?_; rintro e w1 ⟨rfl, hk1⟩)
      · go_roundw
        case rel => exact ⟨j + 1, by omega, by go_num, by
          rw [take_succ_get l j hlt]; intro x hx
          rcases List.mem_append.1 hx with hx | hx
          · exact Hr.out x hx
          · simp at hx; subst hx; exact hp, hK.trans hk1⟩
        case measure => simp [intOf]; omega
      · go_ret
        exact ⟨ret_int (idxF_some hlt Hr.out hp).symm, hK.trans hk1⟩
    · go_wp2
      go_ret
      exact ⟨ret_int (idxF_none (by have := Hr.out; rwa [List.take_of_length_le (by omega)] at this)).symm, hK⟩
set_option maxHeartbeats 400000 in
theorem ContainsFunc_tabs (f : FuncId) (caps : Array Value) (pr : Table → Bool) (hcf : ∀ args w, (callFunc f args).run Tryz.prog w = .ok (.enter f args) w)
    (v : Value) (l : List Table) (fp : List Nat) (w : World) (h : Rd w v l fp)
    (hc : ∀ x ∈ l, ∀ v1 v2 v3 f' w', Only [] w w' → Rp.rep w' [v1, v2, v3] x f' → Calls Tryz.prog f (#[.agg #[v1, v2, v3]] ++ caps) w' fun e w'' => e = .returned (.bool (pr x)) ∧ Only [] w' w'') :
    Calls Tryz.prog 227 #[v, .func (.func f) #[] caps] w fun e w' => e = .returned (.bool (l.any pr)) ∧ Only [] w w' := by
  have HC := Lib.hid hc
  clear hc
  go_enter Tryz.func227, Tryz.ntmps227
  go_wp2_with ((go_at_call 241; (with_reducible refine (IndexFunc_tabs f caps pr hcf v l _ w h HC.out).mono ?_); rintro e w1 ⟨rfl, hk⟩))
  go_ret
  exact ⟨ret_bool idxF_ge, hk⟩
set_option maxHeartbeats 1000000 in
theorem TabSet_closure (v2 : Value) (x : Puzzle) (fp : List Nat) (v1 v3 v4 : Value) (t : Table) (ft : List Nat) (b : Nat) (w : World) (h : Rp.rep w [.int .i64 x.points, .string x.names, v2] x fp) (hB : Blk w b [.int .i64 x.points, .string x.names, v2]) (ht : Rp.rep w [v1, v3, v4] t ft) (htl : t.tracked.length ≤ 2097152) :
    Calls Tryz.prog 228 #[.agg #[v1, v3, v4], .pointer (some ⟨b, 0, none⟩)] w fun e w' => e = .returned (.bool (!validT x t)) ∧ Only [] w w' := by
  have Y := hB.keep ((Only.refl [] w).alloc (.cells #[v1, v3, v4] 32))
  have y0 := Y.cell 0 rfl
  have y1 := Y.cell 1 rfl
  have y2 := Y.cell 2 rfl
  go_enter Tryz.func228, Tryz.ntmps228
  go_wp2_with ((go_at_call 229; (with_reducible refine (implIsValidTable_any [.int .i64 x.points, .string x.names, v2] [v1, v3, v4] x t _ _ _ (Rp.keep h (by with_reducible repeat (first | exact Only.refl _ _ | assumption | refine Only.drewN ?_ _ | refine Only.drew ?_ | refine Only.alloc ?_ _ | refine Only.setCell ?_ (by intro hh; exfalso; simp at hh; try omega) _ | refine Only.trans ?_ (by assumption)))) (Rp.keep ht (by with_reducible repeat (first | exact Only.refl _ _ | assumption | refine Only.drewN ?_ _ | refine Only.drew ?_ | refine Only.alloc ?_ _ | refine Only.setCell ?_ (by intro hh; exfalso; simp at hh; try omega) _ | refine Only.trans ?_ (by assumption)))) htl).mono ?_); rintro e w1 ⟨rfl, t1⟩))
  go_ret
  exact ⟨rfl, (by with_reducible repeat (first | exact Only.refl _ _ | assumption | refine Only.drewN ?_ _ | refine Only.drew ?_ | refine Only.alloc ?_ _ | refine Only.setCell ?_ (by intro hh; exfalso; simp at hh; try omega) _ | refine Only.trans ?_ (by assumption)))⟩
set_option maxHeartbeats 1000000 in
theorem implIsTableSet_any (cs : List Value) (x : Puzzle) (fp : List Nat) (v : Value) (ts : List Table) (ft : List Nat) (w : World) (h : Rp.rep w cs x fp) (hv : Rd w v ts ft) (hsm : ∀ t ∈ ts, t.tracked.length ≤ 2097152) :
    Calls Tryz.prog 189 #[.agg cs.toArray, v] w fun e w' => e = .returned (.bool (tabSet x ts)) ∧ Only [] w w' := by
  have h0 := h
  obtain ⟨v2, rfl, p0, p1, h2⟩ := h
  obtain ⟨A3, C3, _, _, rfl, -, -⟩ := h2.open_
  obtain ⟨a, cap, ob, fps, rfl, -, hS⟩ := hv.open_
  have hb := hS.bound
  clear p0 p1
  have X0 := Blk.new w [.int .i64 x.points, .string x.names, .slice A3 x.moves.length C3] 37
  rcases hq : validPz x
  · have Hn := Lib.hid (by unfold tabSet; rw [hq]; rfl : tabSet x ts = false)
    go_enter Tryz.func189, Tryz.ntmps189
    go_wp2_with ((go_at_call 122; (with_reducible refine (implIsValidPuzzle_any [.int .i64 x.points, .string x.names, .slice A3 x.moves.length C3] x _ _ (Rp.keep h0 (by with_reducible repeat (first | exact Only.refl _ _ | assumption | refine Only.drewN ?_ _ | refine Only.drew ?_ | refine Only.alloc ?_ _ | refine Only.setCell ?_ (by intro hh; exfalso; simp at hh; try omega) _ | refine Only.trans ?_ (by assumption))))).mono ?_); rintro e w1 ⟨he, t1⟩; rw [hq] at he; subst he))
    go_ret
    exact ⟨ret_bool Hn.out.symm, (by with_reducible repeat (first | exact Only.refl _ _ | assumption | refine Only.drewN ?_ _ | refine Only.drew ?_ | refine Only.alloc ?_ _ | refine Only.setCell ?_ (by intro hh; exfalso; simp at hh; try omega) _ | refine Only.trans ?_ (by assumption)))⟩
  by_cases hl : ts.length ≤ 4
  · have hn : tabSet x ts = !(ts.any fun t => !validT x t) := by unfold tabSet; rw [hq, decide_eq_true hl, List.not_any_eq_all_not]; simp
    have Hn := Lib.hid hn
    have hl' : (ts.length : Int) ≤ 4 := by omega
    have Hc := Lib.hid (fun (W : World) (hh : Only [] (w.alloc (.cells #[.int .i64 x.points, .string x.names, .slice A3 x.moves.length C3] 37)) W) => ContainsFunc_tabs 228 #[.pointer (some ⟨w.heap.size, 0, none⟩)] (fun t => !validT x t) Tryz.call228 (.slice a ts.length cap) ts _ W (Rp.keep hv (((Only.refl [] w).alloc _).trans hh))
      (fun t ht v1 v3 v4 f' w' hw hu => TabSet_closure _ x fp v1 v3 v4 t f' w.heap.size w' (Rp.keep h0 ((((Only.refl [] w).alloc _).trans hh).trans hw)) ((X0.keep hh).keep hw) hu (hsm t ht)))
    clear hn hsm
    rcases hany : ts.any fun t => !validT x t
    all_goals go_enter Tryz.func189, Tryz.ntmps189
    all_goals go_wp2_with (first
      | (go_at_call 122; (with_reducible refine (implIsValidPuzzle_any [.int .i64 x.points, .string x.names, .slice A3 x.moves.length C3] x _ _ (Rp.keep h0 (by with_reducible repeat (first | exact Only.refl _ _ | assumption | refine Only.drewN ?_ _ | refine Only.drew ?_ | refine Only.alloc ?_ _ | refine Only.setCell ?_ (by intro hh; exfalso; simp at hh; try omega) _ | refine Only.trans ?_ (by assumption))))).mono ?_); rintro e w1 ⟨he, t1⟩; rw [hq] at he; subst he)
      | (go_at_call 227; (with_reducible refine (Hc.out _ (by with_reducible repeat (first | exact Only.refl _ _ | assumption | refine Only.drewN ?_ _ | refine Only.drew ?_ | refine Only.alloc ?_ _ | refine Only.setCell ?_ (by intro hh; exfalso; simp at hh; try omega) _ | refine Only.trans ?_ (by assumption)))).mono ?_); rintro e w2 ⟨he, t2⟩; rw [hany] at he; subst he)
      | fail "no arm")
    all_goals go_ret
    all_goals exact ⟨ret_bool (by rw [Hn.out, hany]; rfl), (by with_reducible repeat (first | exact Only.refl _ _ | assumption | refine Only.drewN ?_ _ | refine Only.drew ?_ | refine Only.alloc ?_ _ | refine Only.setCell ?_ (by intro hh; exfalso; simp at hh; try omega) _ | refine Only.trans ?_ (by assumption)))⟩
  · have Hn := Lib.hid (by unfold tabSet; rw [hq, decide_eq_false hl]; rfl : tabSet x ts = false)
    have hl' : ¬ (ts.length : Int) ≤ 4 := by omega
    go_enter Tryz.func189, Tryz.ntmps189
    go_wp2_with ((go_at_call 122; (with_reducible refine (implIsValidPuzzle_any [.int .i64 x.points, .string x.names, .slice A3 x.moves.length C3] x _ _ (Rp.keep h0 (by with_reducible repeat (first | exact Only.refl _ _ | assumption | refine Only.drewN ?_ _ | refine Only.drew ?_ | refine Only.alloc ?_ _ | refine Only.setCell ?_ (by intro hh; exfalso; simp at hh; try omega) _ | refine Only.trans ?_ (by assumption))))).mono ?_); rintro e w1 ⟨he, t1⟩; rw [hq] at he; subst he))
    go_ret
    exact ⟨ret_bool Hn.out.symm, (by with_reducible repeat (first | exact Only.refl _ _ | assumption | refine Only.drewN ?_ _ | refine Only.drew ?_ | refine Only.alloc ?_ _ | refine Only.setCell ?_ (by intro hh; exfalso; simp at hh; try omega) _ | refine Only.trans ?_ (by assumption)))⟩
end Go.Proofs.YtlcoejncdbkhcaaGreat
