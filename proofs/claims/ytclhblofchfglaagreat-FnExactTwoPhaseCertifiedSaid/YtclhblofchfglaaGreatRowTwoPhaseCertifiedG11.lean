/- Descents in a table that was built; a search of few patterns ends (laws 10, 11). The states of a puzzle: how many there are, what the search of them finds (laws 20, 38). Breadth-first distances to a set of numbers, by rows of neighbours: plain facts (laws 41, 46). The smallest optimal word of a state, in plain words (laws 20, 38). RedoWord: the reference's and the program's. (Printed by mkredo.py.) Inverse words: the reference's and the program's. UndoWord: the reference's and the program's. (Printed by mkredo.py.) Equality of puzzles and of sessions: the reference's and the program's functions. (Printed by mksame.py.) Words on sessions, played, taken back and played again: plain laws (laws 50, 55). A table's distances bound a state's from below; what an accepted certificate claims is true (law 59). Plain. Distances to a set of states, and words by them: plain facts (laws 41, 46). The words of a method, in plain words (laws 41, 51, 57, 58). The two phases: the puzzle of a move subset, its members among the states, words in plain terms (laws 46, 51, 57, 58). The depth-first search with a limit, and the searches with increasing limits, in plain words (law 52). The word that iterative deepening finds is a shortest one: plain law (law 56). A search of the patterns of a puzzle with at most five points ends (laws 26, 49): plain facts. The words of the method and of the two phases solve; how long they are: plain laws (laws 46, 51, 57, 58). -/
import Derived.Test.YtclhblofchfglaaGreatRowTwoPhaseCertifiedG10
import Derived.Test.YtclhblofchfglaaGreatRowTwoPhaseCertifiedG1
import Derived.Test.YtclhblofchfglaaGreatRowTwoPhaseCertifiedG9
import Derived.RangeFuncBox
import Derived.RangeFuncLeaves
import Derived.RangeFuncWrites
import Derived.RangeFuncNested
import Derived.Shelf.Abstract
import Derived.OwnWalkIn
import Derived.TacticsInMore
import Derived.LoopNIn
import Derived.LoopIn
import Derived.Maps.AppendAt
import Derived.Test.YtclhblofchfglaaGreatRowTwoPhaseCertifiedG8
import Derived.Test.YtclhblofchfglaaGreatRowTwoPhaseCertifiedG5
namespace Go.Proofs.YtclhblofchfglaaGreat
open Go.RowKit
set_option maxRecDepth 10000

section
variable {x : Puzzle} {t : Table}
theorem idxL_getD {l : List (List Int)} {p : List Int} (h : 0 ≤ idxL l p) : l.getD (idxL l p).toNat [] = p := by
  rcases idxF_nonneg_or (fun q => decide (q = p)) l with h1 | ⟨k, hk, h1, h2⟩
  · unfold idxL at h; omega
  · unfold idxL
    rw [h1, Int.toNat_natCast, getD_get hk]
    exact of_decide_eq_true h2
theorem Built.root (h : Built x t) {i : Nat} (hi : i < t.patterns.length) : t.patterns.getD i [] = t.tracked ↔ i = 0 := by
  have h0 : t.patterns.getD 0 [] = t.tracked := h.bi.p0
  constructor
  · intro e
    rw [← h0, getD_get hi, getD_get (by omega)] at e
    have hnd : t.patterns.Nodup := h.bi.nd
    exact nodup_at hnd hi (by omega) e
  · rintro rfl; exact h0
theorem Built.dLet_ (h : Built x t) {i : Nat} (hi : i < t.patterns.length) : dLet x t (t.patterns.getD i []) = descL x t (t.patterns.getD i []) (atD t i - 1) := by
  have hx := h.idx hi
  rw [dLet_yes h.check (by rw [hx]; omega), hx]
theorem Built.word (h : Built x t) : ∀ (n m i : Nat), i < t.patterns.length → atD t i = n → n ≤ m →
    ∃ w, dW x t m (t.patterns.getD i []) = some w ∧ w.length = n ∧ (∀ l ∈ w, l ∈ ltrs x.moves.length) ∧ w.foldl (nxt x) (t.patterns.getD i []) = t.tracked
  | 0, m, i, hi, hd, hm => by
    have h0 : i = 0 := by
      rcases Nat.eq_zero_or_pos i with h1 | h1
      · exact h1
      · have := (h.dep i hi).2.2 h1
        rw [atD_nat] at hd; omega
    have hr := (h.root hi).2 h0
    refine ⟨[], ?_, rfl, by simp, hr⟩
    cases m <;> (unfold dW; rw [if_pos hr])
  | n + 1, 0, i, hi, hd, hm => by omega
  | n + 1, m + 1, i, hi, hd, hm => by
    have hr : t.patterns.getD i [] ≠ t.tracked := fun e => by
      have := (h.root hi).1 e
      subst this
      have h0 : t.distances.getD 0 0 = 0 := h.bi.d0
      rw [atD_nat, h0] at hd; omega
    have hg := ent_nil.1 (h.good i hi)
    have hne : descL x t (t.patterns.getD i []) (atD t i - 1) ≠ 0 := hg.2.2.2.2 (by rw [hd]; omega)
    obtain ⟨hl, hlead⟩ := descL_leads hne
    obtain ⟨a1, a2⟩ := leads_iffD.1 hlead
    rw [← h.dLet_ hi] at hl a1 a2 hne
    have hj : t.patterns.getD (nextI x t (t.patterns.getD i []) (dLet x t (t.patterns.getD i []))).toNat [] = nxt x (t.patterns.getD i []) (dLet x t (t.patterns.getD i [])) := idxL_getD a1
    have hlt := (idxL_lt (l := t.patterns) (p := nxt x (t.patterns.getD i []) (dLet x t (t.patterns.getD i [])))).2
    obtain ⟨j, hjj⟩ : ∃ j : Nat, nextI x t (t.patterns.getD i []) (dLet x t (t.patterns.getD i [])) = j := ⟨_, (Int.toNat_of_nonneg a1).symm⟩
    rw [hjj] at a2 hj
    rw [Int.toNat_natCast] at hj
    have hjl : j < t.patterns.length := by unfold nextI at hjj; omega
    obtain ⟨w, b1, b2, b3, b4⟩ := Built.word h n m j hjl (by rw [a2, hd]; omega) (by omega)
    refine ⟨dLet x t (t.patterns.getD i []) :: w, ?_, by simp [b2], ?_, ?_⟩
    · show (if _ then _ else _) = _
      rw [if_neg hr, if_neg hne, ← hj, b1]; rfl
    · intro l hl2
      rcases List.mem_cons.1 hl2 with rfl | hl2
      · exact hl
      · exact b3 l hl2
    · rw [List.foldl_cons, ← hj]; exact b4
theorem Built.letter (h : Built x t) {i : Nat} (hi : i < t.patterns.length) : dLet x t (t.patterns.getD i []) = 0 ↔ atD t i = 0 := by
  have h0 := (h.dep i hi).1
  rw [← atD_nat] at h0
  rw [h.dLet_ hi]
  have hg := ent_nil.1 (h.good i hi)
  constructor
  · intro e
    rcases Int.lt_or_le 0 (atD t i) with h1 | h1
    · exact absurd e (hg.2.2.2.2 h1)
    · omega
  · intro e
    rcases Decidable.em (descL x t (t.patterns.getD i []) (atD t i - 1) = 0) with h1 | h1
    · exact h1
    · obtain ⟨-, hlead⟩ := descL_leads h1
      obtain ⟨a1, a2⟩ := leads_iffD.1 hlead
      have hlt := (idxL_lt (l := t.patterns) (p := nxt x (t.patterns.getD i []) (descL x t (t.patterns.getD i []) (atD t i - 1)))).2
      obtain ⟨j, hj⟩ : ∃ j : Nat, nextI x t (t.patterns.getD i []) (descL x t (t.patterns.getD i []) (atD t i - 1)) = j := ⟨_, (Int.toNat_of_nonneg a1).symm⟩
      have hjl : j < t.patterns.length := by unfold nextI at hj; omega
      rw [hj, atD_nat] at a2
      have := (h.dep j hjl).1
      omega
end
/-- so many patterns at most -/
theorem BI.bound {x : Puzzle} {tr : List Int} {k : Nat} {done : List Int} {s : Met16} (h : BI x tr k done s) : s.1.length ≤ (PM.allL (PM.pts x.points.toNat) tr.length).length := by
  refine PM.nodup_sub_len h.nd fun q hq => ?_
  obtain ⟨a, b, -⟩ := patB_iff.1 (h.pat q hq)
  rw [← a]
  exact PM.mem_allL q fun y hy => PM.mem_pts.2 (by have := b y hy; omega)
end Go.Proofs.YtclhblofchfglaaGreat

namespace Go.Proofs.YtclhblofchfglaaGreat
open Go.RowKit
set_option maxRecDepth 10000

/-- the members of a group, each once -/
noncomputable def grpL (n : Nat) (gens : List (List Int)) : List (List Int) := Classical.choose (PM.nodup_exists (PM.allL (PM.pts n) n) (PM.Grp n gens))
theorem grpL_nodup (n : Nat) (gens : List (List Int)) : (grpL n gens).Nodup := (Classical.choose_spec (PM.nodup_exists (PM.allL (PM.pts n) n) (PM.Grp n gens))).1
theorem mem_grpL {n : Nat} {gens : List (List Int)} (hp : ∀ g ∈ gens, PM.PN n g) {p : List Int} : p ∈ grpL n gens ↔ PM.Grp n gens p := by
  have h := (Classical.choose_spec (PM.nodup_exists (PM.allL (PM.pts n) n) (PM.Grp n gens))).2 p
  show p ∈ Classical.choose _ ↔ _
  rw [h]
  refine ⟨fun h => h.2, fun hg => ⟨?_, hg⟩⟩
  have hpn := PM.Grp.pn hp hg
  have := PM.mem_allL (A := PM.pts n) p fun x hx => PM.mem_pts.2 (by have := hpn.2.1 x hx; rw [hpn.1] at this; exact this)
  rwa [hpn.1] at this
/-- how many states can be reached -/
noncomputable def cardG (x : Puzzle) : Nat := (grpL x.points.toNat x.moves).length
theorem chain_card {n : Nat} {gens : List (List Int)} {G : PM.Gens} {T : PM.Rows} (h : PM.Chain n gens G T) (hn : 0 < n) (hp : ∀ g ∈ gens, PM.PN n g) : PM.ordM T n n = (grpL n gens).length :=
  Nat.le_antisymm (h.order_ge hn hp fun _ hg => (mem_grpL hp).2 hg) (h.order_le hn hp (grpL_nodup _ _) fun _ hx => (mem_grpL hp).1 hx)
theorem cardG_pos {x : Puzzle} (hv : validPz x = true) : 1 ≤ cardG x := List.length_pos_of_mem ((mem_grpL (validPz_pn hv)).2 .id)
theorem pts_inc (n : Nat) : Inc (n : Int) (PM.pts n) := by
  refine ⟨fun z hz => PM.mem_pts.1 hz, ?_⟩
  unfold PM.pts
  rw [List.pairwise_map]
  exact List.Pairwise.imp (fun h => by omega) (List.pairwise_lt_range (n := n))
theorem pts_track {x : Puzzle} (hv : validPz x = true) : trackB x.points (PM.pts x.points.toNat) = true := by
  have := validPz_facts hv
  rw [trackB_iff]
  refine ⟨by rw [PM.pts_len]; omega, ?_⟩
  have h := pts_inc x.points.toNat
  rwa [show ((x.points.toNat : Nat) : Int) = x.points by omega] at h
/-- the search of all states -/
def expl (x : Puzzle) : Option Table := bTab x (PM.pts x.points.toNat)
theorem grp_nxt {x : Puzzle} (hv : validPz x = true) {s : List Int} (hs : PM.Grp x.points.toNat x.moves s) {l : Int} (hl : l ∈ ltrs x.moves.length) : PM.Grp x.points.toNat x.moves (nxt x s l) := by
  have h3 := validPz_pn hv
  refine PM.Grp.comp h3 hs ?_
  rcases letter_cases hl with ⟨k, hk, rfl⟩ | ⟨k, hk, rfl⟩
  · rw [mv_pos rfl hk]; exact PM.Grp.gen h3 (List.getElem_mem hk)
  · rw [mv_neg (k := k) rfl hk]; exact PM.Grp.gen_inv h3 (List.getElem_mem hk)
theorem BI.grp {x : Puzzle} {k : Nat} {done : List Int} {s : Met16} (hv : validPz x = true) (h : BI x (PM.pts x.points.toNat) k done s) : ∀ i, i < s.1.length → PM.Grp x.points.toNat x.moves (s.1.getD i []) := by
  intro i
  induction i using Nat.strongRecOn with
  | ind i ih =>
    intro hi
    by_cases h0 : i = 0
    · subst h0; rw [h.p0]; exact .id
    · obtain ⟨j, l, a1, a2, a3, -⟩ := h.par i (by omega) hi
      rw [← a3]
      exact grp_nxt hv (ih j a1 (Nat.lt_trans a1 hi)) a2
theorem BI.full {x : Puzzle} {k : Nat} {done : List Int} {s : Met16} (hv : validPz x = true) (hc : cardG x ≤ 3000) (h : BI x (PM.pts x.points.toNat) k done s) (hk : k < s.1.length) {l : Int} (hl : l ∈ ltrs x.moves.length) (hn : nxt x (s.1.getD k []) l ∉ s.1) : s.1.length ≠ 3000 := by
  intro h3
  have hg := h.grp hv
  have hall : ∀ p ∈ s.1 ++ [nxt x (s.1.getD k []) l], PM.Grp x.points.toNat x.moves p := fun p hp => by
    rcases List.mem_append.1 hp with hp | hp
    · obtain ⟨i, hi, rfl⟩ := List.getElem_of_mem hp
      have := hg i hi
      rwa [getD_get hi] at this
    · simp at hp; subst hp
      exact grp_nxt hv (hg k hk) hl
  have hnd : (s.1 ++ [nxt x (s.1.getD k []) l]).Nodup := by
    rw [List.nodup_append]
    exact ⟨h.nd, by simp, fun a ha b hb e => hn (by rw [← List.mem_singleton.1 hb, ← e]; exact ha)⟩
  have := PM.nodup_sub_len hnd fun p hp => (mem_grpL (validPz_pn hv)).2 (hall p hp)
  unfold cardG at hc
  simp only [List.length_append, List.length_singleton] at this
  omega
theorem BI.lets_some2 {x : Puzzle} {k : Nat} (hv : validPz x = true) (hc : cardG x ≤ 3000) : ∀ {ls done : List Int} {s : Met16}, BI x (PM.pts x.points.toNat) k done s → k < s.1.length → (∀ l ∈ ls, l ∈ ltrs x.moves.length) → (bLets x (s.1.getD k []) (s.2.getD k 0 + 1) ls s).isSome = true
  | [], done, s, h, hk, _ => rfl
  | l :: ls, done, s, h, hk, hl => by
    unfold bLets
    have h1 : ∃ s1, bMeet s (s.2.getD k 0 + 1) (nxt x (s.1.getD k []) l) = some s1 := by
      unfold bMeet
      split
      · exact ⟨_, rfl⟩
      · rename_i hn
        rw [if_neg (h.full hv hc hk (hl l (by simp)) hn)]
        exact ⟨_, rfl⟩
    obtain ⟨s1, e1⟩ := h1
    obtain ⟨b1, b2, b3, b4⟩ := h.meet hv hk (hl l (by simp)) e1
    have := BI.lets_some2 (ls := ls) hv hc b1 b4 (fun l hl2 => hl l (by simp [hl2]))
    rw [b2, b3] at this
    rw [e1]; exact this
theorem BI.from_some2 {x : Puzzle} (hv : validPz x = true) (hc : cardG x ≤ 3000) : ∀ {n k : Nat} {s : Met16}, BI x (PM.pts x.points.toNat) k [] s → (bFrom x n k s).isSome = true
  | 0, k, s, h => rfl
  | n + 1, k, s, h => by
    unfold bFrom
    split
    · rename_i hk
      obtain ⟨s1, e1⟩ := Option.isSome_iff_exists.1 (BI.lets_some2 hv hc h hk (fun l hl => hl))
      obtain ⟨done', c1, c2, c3, -⟩ := h.lets hv hk (fun l hl => hl) e1
      rw [e1]
      exact BI.from_some2 hv hc (c1.next c2 c3)
    · rfl
theorem expl_some {x : Puzzle} (hv : validPz x = true) (hc : cardG x ≤ 3000) : ∃ t, expl x = some t := by
  have h := BI.from_some2 (n := 3001) hv hc (BI.start (trackB_pat (pts_track hv)))
  obtain ⟨s, hs⟩ := Option.isSome_iff_exists.1 h
  refine ⟨⟨PM.pts x.points.toNat, s.1, s.2⟩, ?_⟩
  unfold expl bTab
  rw [bfs16_yes (by rw [hv, pts_track hv]; rfl), hs]; rfl
theorem expl_none {x : Puzzle} (h : validPz x = false) : expl x = none := by
  unfold expl bTab
  rw [bfs16_no (by rw [h]; rfl)]; rfl
section
variable {x : Puzzle} {t : Table}
theorem expl_built (h : expl x = some t) : Built x t ∧ t.tracked = PM.pts x.points.toNat := bTab_built h
theorem expl_mem (h : expl x = some t) {q : List Int} : q ∈ t.patterns ↔ PM.Grp x.points.toNat x.moves q := by
  obtain ⟨hb, ht⟩ := expl_built h
  have hi := hb.bi
  rw [ht] at hi
  constructor
  · intro hq
    obtain ⟨i, hil, rfl⟩ := List.getElem_of_mem hq
    have := hi.grp hb.v i hil
    rwa [getD_get hil] at this
  · intro hg
    have hpn := PM.Grp.pn (validPz_pn hb.v) hg
    have hf := validPz_facts hb.v
    have hr : reachB x q = true := by
      unfold reachB stateB memB
      rw [Bool.and_eq_true, Bool.and_eq_true]
      exact ⟨⟨hb.v, (genB_iff hf.1 hf.2.1).2 hpn⟩, @decide_eq_true _ (Classical.propDecidable _) hg⟩
    have := hb.reach hr
    rwa [ht, PM.id_comp hpn] at this
theorem expl_len (h : expl x = some t) : t.patterns.length = cardG x := by
  obtain ⟨hb, -⟩ := expl_built h
  have hnd : t.patterns.Nodup := hb.bi.nd
  exact Nat.le_antisymm (PM.nodup_sub_len hnd fun q hq => (mem_grpL (validPz_pn hb.v)).2 ((expl_mem h).1 hq)) (PM.nodup_sub_len (grpL_nodup _ _) fun q hq => (expl_mem h).2 ((mem_grpL (validPz_pn hb.v)).1 hq))
theorem expl_iff (hv : validPz x = true) : (∃ t, expl x = some t) ↔ cardG x ≤ 3000 :=
  ⟨fun ⟨_, ht⟩ => by rw [← expl_len ht]; exact (expl_built ht).1.ll, expl_some hv⟩
theorem expl_reach (h : expl x = some t) {q : List Int} : q ∈ t.patterns ↔ reachB x q = true := by
  obtain ⟨hb, -⟩ := expl_built h
  have hf := validPz_facts hb.v
  rw [expl_mem h]
  unfold reachB stateB memB
  rw [Bool.and_eq_true, Bool.and_eq_true]
  constructor
  · intro hg
    exact ⟨⟨hb.v, (genB_iff hf.1 hf.2.1).2 (PM.Grp.pn (validPz_pn hb.v) hg)⟩, @decide_eq_true _ (Classical.propDecidable _) hg⟩
  · rintro ⟨-, hg⟩
    exact @of_decide_eq_true _ (Classical.propDecidable _) hg
end
end Go.Proofs.YtclhblofchfglaaGreat

namespace Go.Proofs.YtclhblofchfglaaGreat
open Go.RowKit
set_option maxRecDepth 10000

/-- distances and the queue -/
abbrev MbS := List Int × List Nat
def mRel (v : Nat) (s : MbS) (tt : Nat) : MbS := if s.1.getD tt 0 < 0 then (s.1.set tt (s.1.getD v 0 + 1), s.2 ++ [tt]) else s
def mVis (row : Nat → List Nat) (v : Nat) (s : MbS) : MbS := (row v).foldl (mRel v) s
def mRun (row : Nat → List Nat) : Nat → Nat → MbS → MbS
  | 0, _, s => s
  | f + 1, k, s => if k < s.2.length then mRun row f (k + 1) (mVis row (s.2.getD k 0) s) else s
def mSrc (src : Nat → Bool) (N : Nat) : MbS := ((List.range N).map (fun i => if src i then 0 else -1), (List.range N).filter src)
def mDist (src : Nat → Bool) (row : Nat → List Nat) (N : Nat) : List Int := (mRun row (N + 1) 0 (mSrc src N)).1
theorem mRun_go {row : Nat → List Nat} {f k : Nat} {s : MbS} (h : k < s.2.length) : mRun row (f + 1) k s = mRun row f (k + 1) (mVis row (s.2.getD k 0) s) := by rw [mRun, if_pos h]
theorem mRun_end {row : Nat → List Nat} {f k : Nat} {s : MbS} (h : ¬ k < s.2.length) : mRun row f k s = s := by
  cases f with
  | zero => rfl
  | succ f => rw [mRun, if_neg h]
theorem getD_set9 {l : List Int} {i j : Nat} {a d : Int} (h : i < l.length) : (l.set i a).getD j d = if j = i then a else l.getD j d := by
  rw [List.getD_eq_getElem?_getD, List.getD_eq_getElem?_getD, List.getElem?_set]
  by_cases hij : i = j
  · subst hij; simp [h]
  · rw [if_neg hij, if_neg (Ne.symm hij)]
theorem getD_app9 {l : List Nat} {x j d : Nat} (h : j < l.length) : (l ++ [x]).getD j d = l.getD j d := by
  rw [List.getD_eq_getElem?_getD, List.getD_eq_getElem?_getD, List.getElem?_append_left h]
theorem getD_last9 {l : List Nat} {x d : Nat} : (l ++ [x]).getD l.length d = x := by
  rw [List.getD_eq_getElem?_getD, List.getElem?_append_right (Nat.le_refl _)]; simp
theorem getD_mem9 {l : List Nat} {j d : Nat} (h : j < l.length) : l.getD j d ∈ l := by
  rw [List.getD_eq_getElem?_getD, List.getElem?_eq_getElem h]; exact List.getElem_mem h
theorem mem_getD9 {l : List Nat} {x : Nat} (d : Nat) (h : x ∈ l) : ∃ j, j < l.length ∧ l.getD j d = x := by
  obtain ⟨j, hj, e⟩ := List.getElem_of_mem h
  exact ⟨j, hj, by rw [List.getD_eq_getElem?_getD, List.getElem?_eq_getElem hj]; exact e⟩
section
variable {src : Nat → Bool} {row : Nat → List Nat} {N : Nat}
/-- the search under way: the k-th of the queue is at hand, and those of its neighbours in done are seen -/
structure MbI (src : Nat → Bool) (row : Nat → List Nat) (N k : Nat) (done : List Nat) (s : MbS) : Prop where
  dl : s.1.length = N
  nd : s.2.Nodup
  rng : ∀ v ∈ s.2, v < N
  mem : ∀ v, v < N → (v ∈ s.2 ↔ 0 ≤ s.1.getD v 0)
  neg : ∀ v, v < N → -1 ≤ s.1.getD v 0
  zero : ∀ v, v < N → (s.1.getD v 0 = 0 ↔ src v = true)
  mono : ∀ i j, i ≤ j → j < s.2.length → s.1.getD (s.2.getD i 0) 0 ≤ s.1.getD (s.2.getD j 0) 0
  near : ∀ j, j < s.2.length → k < s.2.length → s.1.getD (s.2.getD j 0) 0 ≤ s.1.getD (s.2.getD k 0) 0 + 1
  cl : ∀ i, i < k → i < s.2.length → ∀ tt ∈ row (s.2.getD i 0), 0 ≤ s.1.getD tt 0 ∧ s.1.getD tt 0 ≤ s.1.getD (s.2.getD i 0) 0 + 1
  clk : k < s.2.length → ∀ tt ∈ done, 0 ≤ s.1.getD tt 0 ∧ s.1.getD tt 0 ≤ s.1.getD (s.2.getD k 0) 0 + 1
  par : ∀ v, v < N → 0 < s.1.getD v 0 → ∃ u, u < N ∧ v ∈ row u ∧ 0 ≤ s.1.getD u 0 ∧ s.1.getD v 0 = s.1.getD u 0 + 1
theorem MbI.start : MbI src row N 0 [] (mSrc src N) := by
  have hg : ∀ v, v < N → (mSrc src N).1.getD v 0 = if src v = true then 0 else -1 := fun v hv => by
    unfold mSrc
    rw [List.getD_eq_getElem?_getD, List.getElem?_map, List.getElem?_range hv]; rfl
  have hm : ∀ v, v ∈ (mSrc src N).2 ↔ v < N ∧ src v = true := fun v => by
    unfold mSrc
    rw [List.mem_filter, List.mem_range]
  have h0 : ∀ j, j < (mSrc src N).2.length → (mSrc src N).1.getD ((mSrc src N).2.getD j 0) 0 = 0 := fun j hj => by
    obtain ⟨a, b⟩ := (hm _).1 (getD_mem9 (d := 0) hj)
    rw [hg _ a, if_pos b]
  refine ⟨by simp [mSrc], ?_, fun v hv => ((hm v).1 hv).1, fun v hv => ?_, fun v hv => ?_, fun v hv => ?_, fun i j hi hj => ?_, fun j hj hk => ?_, fun i hi => by omega, fun _ tt hto => by simp at hto, fun v hv h => ?_⟩
  · unfold mSrc; exact List.Nodup.sublist List.filter_sublist List.nodup_range
  · rw [hm, hg v hv]; split <;> simp_all
  · rw [hg v hv]; split <;> omega
  · rw [hg v hv]; split <;> simp_all
  · rw [h0 i (by omega), h0 j hj]; exact Int.le_refl _
  · rw [h0 j hj, h0 0 hk]; omega
  · rw [hg v hv] at h; split at h <;> omega
theorem MbI.rel {k : Nat} {done : List Nat} {s : MbS} (h : MbI src row N k done s) (hk : k < s.2.length) {tt : Nat} (ht : tt < N) (hr : tt ∈ row (s.2.getD k 0)) : MbI src row N k (done ++ [tt]) (mRel (s.2.getD k 0) s tt) ∧ k < (mRel (s.2.getD k 0) s tt).2.length ∧ (mRel (s.2.getD k 0) s tt).2.getD k 0 = s.2.getD k 0 := by
  unfold mRel
  by_cases hd : s.1.getD tt 0 < 0
  · rw [if_pos hd]
    have hkv : s.2.getD k 0 ∈ s.2 := getD_mem9 hk
    have hkN := h.rng _ hkv
    have hk0 := (h.mem _ hkN).1 hkv
    have hnm : tt ∉ s.2 := fun hm => by have := (h.mem tt ht).1 hm; omega
    have hne : s.2.getD k 0 ≠ tt := fun e => hnm (e ▸ hkv)
    have hl := h.dl
    have hs : ∀ v, (s.1.set tt (s.1.getD (s.2.getD k 0) 0 + 1)).getD v 0 = if v = tt then s.1.getD (s.2.getD k 0) 0 + 1 else s.1.getD v 0 := fun v => getD_set9 (by omega)
    have hq : ∀ j, j < s.2.length → (s.2 ++ [tt]).getD j 0 = s.2.getD j 0 ∧ s.2.getD j 0 ≠ tt := fun j hj => ⟨getD_app9 hj, fun e => hnm (e ▸ getD_mem9 hj)⟩
    have hsq : ∀ j, j < s.2.length → (s.1.set tt (s.1.getD (s.2.getD k 0) 0 + 1)).getD ((s.2 ++ [tt]).getD j 0) 0 = s.1.getD (s.2.getD j 0) 0 := fun j hj => by
      rw [(hq j hj).1, hs, if_neg (hq j hj).2]
    have hsl : (s.1.set tt (s.1.getD (s.2.getD k 0) 0 + 1)).getD ((s.2 ++ [tt]).getD s.2.length 0) 0 = s.1.getD (s.2.getD k 0) 0 + 1 := by
      rw [getD_last9, hs, if_pos rfl]
    have hup : ∀ z, 0 ≤ s.1.getD z 0 → (s.1.set tt (s.1.getD (s.2.getD k 0) 0 + 1)).getD z 0 = s.1.getD z 0 := fun z hz => by
      rw [hs, if_neg (fun e => by subst e; omega)]
    refine ⟨⟨by rw [List.length_set]; exact hl, ?_, fun v hv => ?_, fun v hv => ?_, fun v hv => ?_, fun v hv => ?_, fun i j hi hj => ?_, fun j hj _ => ?_, fun i hi hil tt' hto => ?_, fun _ tt' hto => ?_, fun v hv hp => ?_⟩, by simp; omega, (hq k hk).1⟩
    · exact List.nodup_append.2 ⟨h.nd, by simp, fun a ha b hb e => by simp at hb; subst hb; exact hnm (e ▸ ha)⟩
    · rcases List.mem_append.1 hv with hv | hv
      · exact h.rng v hv
      · simp at hv; subst hv; exact ht
    · simp only
      rw [hs, List.mem_append, List.mem_singleton]
      split
      · rename_i e
        exact ⟨fun _ => by omega, fun _ => .inr e⟩
      · rename_i e
        rw [← h.mem v hv]
        exact ⟨fun hh => hh.elim id (fun hh => absurd hh e), .inl⟩
    · simp only
      rw [hs]; split
      · omega
      · exact h.neg v hv
    · simp only
      rw [hs]; split
      · rename_i e
        subst e
        have := (h.zero v hv).2
        constructor
        · intro hh; omega
        · intro hh; have := this hh; omega
      · exact h.zero v hv
    · simp only at hj ⊢
      rw [List.length_append, List.length_singleton] at hj
      rcases Nat.lt_or_ge j s.2.length with hj2 | hj2
      · rw [hsq i (by omega), hsq j hj2]; exact h.mono i j hi hj2
      · obtain rfl : j = s.2.length := by omega
        rw [hsl]
        rcases Nat.lt_or_ge i s.2.length with hi2 | hi2
        · rw [hsq i hi2]; exact h.near i hi2 hk
        · obtain rfl : i = s.2.length := by omega
          rw [hsl]; exact Int.le_refl _
    · simp only at hj ⊢
      rw [List.length_append, List.length_singleton] at hj
      rw [hsq k hk]
      rcases Nat.lt_or_ge j s.2.length with hj2 | hj2
      · rw [hsq j hj2]; exact h.near j hj2 hk
      · obtain rfl : j = s.2.length := by omega
        rw [hsl]; exact Int.le_refl _
    · simp only at hto ⊢
      rw [(hq i (by omega)).1] at hto
      obtain ⟨a, b⟩ := h.cl i hi (by omega) tt' hto
      rw [hsq i (by omega), hup _ a]
      exact ⟨a, b⟩
    · simp only
      rw [hsq k hk]
      rcases List.mem_append.1 hto with hto | hto
      · obtain ⟨a, b⟩ := h.clk hk tt' hto
        rw [hup _ a]
        exact ⟨a, b⟩
      · simp at hto; subst hto
        rw [hs, if_pos rfl]
        omega
    · simp only at hp ⊢
      rw [hs] at hp
      rw [hs]
      split at hp
      · rename_i e
        subst e
        rw [if_pos rfl]
        exact ⟨s.2.getD k 0, hkN, hr, by rw [hup _ hk0]; exact hk0, by rw [hup _ hk0]⟩
      · rename_i e
        rw [if_neg e]
        obtain ⟨u, u1, u2, u3, u4⟩ := h.par v hv hp
        exact ⟨u, u1, u2, by rw [hup _ u3]; exact u3, by rw [hup _ u3]; exact u4⟩
  · rw [if_neg hd]
    have hm : tt ∈ s.2 := (h.mem tt ht).2 (by omega)
    obtain ⟨j, hj, hjt⟩ := mem_getD9 0 hm
    refine ⟨⟨h.dl, h.nd, h.rng, h.mem, h.neg, h.zero, h.mono, h.near, h.cl, fun _ tt' hto => ?_, h.par⟩, hk, rfl⟩
    rcases List.mem_append.1 hto with hto | hto
    · exact h.clk hk tt' hto
    · simp at hto; subst hto
      have := h.near j hj hk
      rw [hjt] at this
      exact ⟨by omega, this⟩
theorem MbI.fold {k : Nat} (hN : ∀ v, v < N → ∀ tt ∈ row v, tt < N) : ∀ (ls done : List Nat) (s : MbS) (v : Nat), MbI src row N k done s → k < s.2.length → s.2.getD k 0 = v → (∀ tt ∈ ls, tt ∈ row v) → MbI src row N k (done ++ ls) (ls.foldl (mRel v) s) ∧ k < (ls.foldl (mRel v) s).2.length ∧ (ls.foldl (mRel v) s).2.getD k 0 = v
  | [], done, s, v, h, hk, hv, _ => by rw [List.append_nil]; exact ⟨h, hk, hv⟩
  | tt :: ls, done, s, v, h, hk, hv, hs => by
    have h1 := hs tt (by simp)
    have hvN : v < N := by rw [← hv]; exact h.rng _ (getD_mem9 hk)
    obtain ⟨a, b, c⟩ := h.rel hk (hN v hvN tt h1) (by rw [hv]; exact h1)
    rw [hv] at a b c
    have := MbI.fold hN ls (done ++ [tt]) _ v a b c (fun t ht => hs t (by simp [ht]))
    rw [List.append_assoc] at this
    exact this
theorem MbI.next {k : Nat} {s : MbS} {done : List Nat} (h : MbI src row N k done s) (hk : k < s.2.length) (hd : ∀ tt ∈ row (s.2.getD k 0), tt ∈ done) : MbI src row N (k + 1) [] s := by
  refine ⟨h.dl, h.nd, h.rng, h.mem, h.neg, h.zero, h.mono, fun j hj hk1 => ?_, fun i hi hil tt hto => ?_, fun _ tt hto => by simp at hto, h.par⟩
  · have a := h.near j hj hk
    have b := h.mono k (k + 1) (by omega) hk1
    omega
  · rcases Nat.lt_or_ge i k with h1 | h1
    · exact h.cl i h1 hil tt hto
    · obtain rfl : i = k := by omega
      exact h.clk hk tt (hd tt hto)
theorem MbI.len {k : Nat} {s : MbS} {done : List Nat} (h : MbI src row N k done s) : s.2.length ≤ N := by
  have := PM.nodup_sub_len (l2 := List.range N) h.nd fun v hv => List.mem_range.2 (h.rng v hv)
  rwa [List.length_range] at this
theorem MbI.run (hN : ∀ v, v < N → ∀ tt ∈ row v, tt < N) : ∀ (f k : Nat) (s : MbS), MbI src row N k [] s → N < f + k → ∃ k', MbI src row N k' [] (mRun row f k s) ∧ (mRun row f k s).2.length ≤ k'
  | 0, k, s, h, hf => ⟨k, h, by have := h.len; show s.2.length ≤ k; omega⟩
  | f + 1, k, s, h, hf => by
    by_cases hk : k < s.2.length
    · rw [mRun_go hk]
      obtain ⟨a, b, c⟩ := MbI.fold hN (row (s.2.getD k 0)) [] s _ h hk rfl (fun _ ht => ht)
      rw [List.nil_append] at a
      exact MbI.run hN f (k + 1) _ (a.next b (by rw [c]; exact fun _ ht => ht)) (by omega)
    · rw [mRun_end hk]
      exact ⟨k, h, by omega⟩
/-- what the distances are -/
structure MbF (src : Nat → Bool) (row : Nat → List Nat) (N : Nat) (D : List Int) : Prop where
  dl : D.length = N
  neg : ∀ v, v < N → -1 ≤ D.getD v 0
  zero : ∀ v, v < N → (D.getD v 0 = 0 ↔ src v = true)
  cl : ∀ v, v < N → 0 ≤ D.getD v 0 → ∀ tt ∈ row v, 0 ≤ D.getD tt 0 ∧ D.getD tt 0 ≤ D.getD v 0 + 1
  par : ∀ v, v < N → 0 < D.getD v 0 → ∃ u, u < N ∧ v ∈ row u ∧ 0 ≤ D.getD u 0 ∧ D.getD v 0 = D.getD u 0 + 1
theorem mDist_facts (hN : ∀ v, v < N → ∀ tt ∈ row v, tt < N) : MbF src row N (mDist src row N) := by
  obtain ⟨k, h, hk⟩ := MbI.run hN (N + 1) 0 (mSrc src N) MbI.start (by omega)
  refine ⟨h.dl, h.neg, h.zero, fun v hv h0 tt hto => ?_, h.par⟩
  obtain ⟨i, hi, e⟩ := mem_getD9 0 ((h.mem v hv).2 h0)
  have := h.cl i (by omega) hi tt (by rw [e]; exact hto)
  rw [e] at this
  exact this
/-- distances from above: a function that falls along neighbours bounds one that rises by at most one -/
theorem dist_le {D E : Nat → Int} (hD0 : ∀ v, v < N → src v = true → D v = 0) (hDc : ∀ v, v < N → 0 ≤ D v → ∀ tt ∈ row v, 0 ≤ D tt ∧ D tt ≤ D v + 1) (hE0 : ∀ v, v < N → E v = 0 → src v = true)
    (hEp : ∀ v, v < N → 0 < E v → ∃ u, u < N ∧ v ∈ row u ∧ 0 ≤ E u ∧ E v = E u + 1) : ∀ (m v : Nat), v < N → E v = m → 0 ≤ D v ∧ D v ≤ E v
  | 0, v, hv, he => by
    have := hD0 v hv (hE0 v hv (by omega))
    omega
  | m + 1, v, hv, he => by
    obtain ⟨u, u1, u2, u3, u4⟩ := hEp v hv (by omega)
    obtain ⟨a, b⟩ := dist_le hD0 hDc hE0 hEp m u u1 (by omega)
    obtain ⟨c, d⟩ := hDc u u1 a v u2
    omega
/-- the distances are told by three laws -/
theorem MbF.eq {D : List Int} (h : MbF src row N D) {E : Nat → Int} (hE0 : ∀ v, v < N → 0 ≤ E v) (hEz : ∀ v, v < N → (E v = 0 ↔ src v = true)) (hEc : ∀ v, v < N → ∀ tt ∈ row v, E tt ≤ E v + 1)
    (hEp : ∀ v, v < N → 0 < E v → ∃ u, u < N ∧ v ∈ row u ∧ E v = E u + 1) (hN : ∀ v, v < N → ∀ tt ∈ row v, tt < N) {v : Nat} (hv : v < N) : D.getD v 0 = E v := by
  have a := dist_le (D := fun v => D.getD v 0) (E := E) (fun v hv hs => (h.zero v hv).2 hs) h.cl (fun v hv he => (hEz v hv).1 he) (fun v hv hp => by
    obtain ⟨u, u1, u2, u3⟩ := hEp v hv hp
    exact ⟨u, u1, u2, hE0 u u1, u3⟩) (E v).toNat v hv (by have := hE0 v hv; omega)
  have b := dist_le (D := E) (E := fun v => D.getD v 0) (fun v hv hs => (hEz v hv).2 hs) (fun v hv _ tt ht => ⟨hE0 tt (hN v hv tt ht), hEc v hv tt ht⟩) (fun v hv he => (h.zero v hv).1 he) h.par (D.getD v 0).toNat v hv (by have := a.1; omega)
  omega
end
end Go.Proofs.YtclhblofchfglaaGreat

namespace Go.Proofs.YtclhblofchfglaaGreat
open Go.RowKit
set_option maxRecDepth 10000

/-- n letters, each the first that leads closer -/
def oW (x : Puzzle) (t : Table) : Nat → List Int → List Int
  | 0, _ => []
  | n + 1, p => descL x t p n :: oW x t n (nxt x p (descL x t p n))
theorem oW_len (x : Puzzle) (t : Table) : ∀ (n : Nat) (p : List Int), (oW x t n p).length = n
  | 0, _ => rfl
  | n + 1, p => by unfold oW; rw [List.length_cons, oW_len x t n]
/-- one letter of the way down -/
structure Down (x : Puzzle) (t : Table) (i : Nat) (n : Nat) (k : Nat) (j : Nat) : Prop where
  hk : k < (ltrs x.moves.length).length
  l : descL x t (t.patterns.getD i []) n = (ltrs x.moves.length)[k]
  hj : j < t.patterns.length
  nx : t.patterns.getD j [] = nxt x (t.patterns.getD i []) (ltrs x.moves.length)[k]
  ds : t.distances.getD j 0 = n
  no : ∀ m (hm : m < k), ∀ i', i' < t.patterns.length → t.patterns.getD i' [] = nxt x (t.patterns.getD i []) ((ltrs x.moves.length)[m]'(Nat.lt_trans hm hk)) → t.distances.getD i' 0 ≠ n ∧ ¬ t.distances.getD i' 0 < (n : Int) + 1
section
variable {x : Puzzle} {t : Table}
theorem Built.mem_of (_ : Built x t) {i : Nat} (hi : i < t.patterns.length) : t.patterns.getD i [] ∈ t.patterns := by rw [getD_get hi]; exact List.getElem_mem hi
theorem Built.down (h : Built x t) {i : Nat} (hi : i < t.patterns.length) {n : Nat} (hd : t.distances.getD i 0 = (n : Int) + 1) : ∃ k j, Down x t i n k j := by
  have hg := ent_nil.1 (h.good i hi)
  have hda : atD t i - 1 = (n : Int) := by rw [atD_nat, hd]; omega
  have hne : descL x t (t.patterns.getD i []) (atD t i - 1) ≠ 0 := hg.2.2.2.2 (by rw [atD_nat, hd]; omega)
  rw [hda] at hne
  rcases @descL_of_dK x t (t.patterns.getD i []) n with ⟨-, h1⟩ | ⟨k, hk, h1, h2⟩
  · exact absurd h1 hne
  · obtain ⟨-, hlead⟩ := descL_leads hne
    obtain ⟨a1, a2⟩ := leads_iffD.1 hlead
    rw [h2] at a1 a2
    have hlt := (idxL_lt (l := t.patterns) (p := nxt x (t.patterns.getD i []) (ltrs x.moves.length)[k])).2
    obtain ⟨j, hj⟩ : ∃ j : Nat, nextI x t (t.patterns.getD i []) (ltrs x.moves.length)[k] = j := ⟨_, (Int.toNat_of_nonneg a1).symm⟩
    have hjl : j < t.patterns.length := by unfold nextI at hj; omega
    have hn := idxL_getD a1
    unfold nextI at hj
    rw [hj, Int.toNat_natCast] at hn
    refine ⟨k, j, hk, h2, hjl, hn, ?_, ?_⟩
    · unfold nextI at a2; rw [hj, atD_nat] at a2; exact a2
    · intro m hm i' hi' e
      have hml : (ltrs x.moves.length)[m]'(Nat.lt_trans hm hk) ∈ ltrs x.moves.length := List.getElem_mem _
      have hne2 : t.distances.getD i' 0 ≠ n := by
        intro e2
        have hl : leads x t (t.patterns.getD i []) n ((ltrs x.moves.length)[m]'(Nat.lt_trans hm hk)) = true := by
          rw [leads_iffD]
          unfold nextI
          rw [← e, h.idx hi', atD_nat]
          exact ⟨by omega, e2⟩
        have hno : ∀ q ∈ (ltrs x.moves.length).take k, leads x t (t.patterns.getD i []) n q = false := by
          have hf : dK x t (t.patterns.getD i []) n = k := h1
          unfold dK idxF at hf
          cases hq : (ltrs x.moves.length).findIdx? (leads x t (t.patterns.getD i []) n) with
          | none => rw [hq] at hf; simp at hf
          | some k' =>
            rw [hq] at hf
            have hf2 : (k' : Int) = k := hf
            have : k' = k := by omega
            subst this
            obtain ⟨_, _, hall⟩ := List.findIdx?_eq_some_iff_getElem.1 hq
            intro q hqm
            rw [List.mem_take_iff_getElem] at hqm
            obtain ⟨m', hm', rfl⟩ := hqm
            simpa using hall m' (by omega)
        have := hno _ (List.mem_take_iff_getElem.2 ⟨m, by omega, rfl⟩)
        rw [hl] at this; cases this
      refine ⟨hne2, fun hlt2 => hne2 ?_⟩
      obtain ⟨i2, b1, b2, b3, b4⟩ := h.step hi hml
      have : i2 = i' := by
        have e3 := b2.trans e.symm
        rw [getD_get b1, getD_get hi'] at e3
        have hnd : t.patterns.Nodup := h.bi.nd
        exact nodup_at hnd b1 hi' e3
      subst this
      omega
theorem Down.oW_ {i n k j : Nat} (h : Down x t i n k j) : oW x t (n + 1) (t.patterns.getD i []) = (ltrs x.moves.length)[k]'h.hk :: oW x t n (t.patterns.getD j []) := by
  show descL x t (t.patterns.getD i []) n :: oW x t n (nxt x (t.patterns.getD i []) (descL x t (t.patterns.getD i []) n)) = _
  rw [h.l, h.nx]
end
theorem expl_pat {x : Puzzle} {t : Table} (he : expl x = some t) {i : Nat} (hi : i < t.patterns.length) : patB x.points x.points.toNat (t.patterns.getD i []) = true := by
  obtain ⟨hb, ht⟩ := expl_built he
  have := hb.bi.pat (t.patterns.getD i []) (hb.mem_of hi)
  rwa [ht, PM.pts_len] at this
theorem expl_len1 {x : Puzzle} {t : Table} (he : expl x = some t) {i : Nat} (hi : i < t.patterns.length) : (t.patterns.getD i []).length = x.points.toNat := (patB_iff.1 (expl_pat he hi)).1
theorem oW_letters {x : Puzzle} {t : Table} (h : Built x t) : ∀ (n i : Nat), i < t.patterns.length → t.distances.getD i 0 = n → ∀ l ∈ oW x t n (t.patterns.getD i []), l ∈ ltrs x.moves.length
  | 0, _, _, _ => by intro l hl; cases hl
  | n + 1, i, hi, hd => by
    obtain ⟨k, j, hD⟩ := h.down hi (n := n) (by rw [hd]; rfl)
    rw [hD.oW_]
    intro l hl
    rcases List.mem_cons.1 hl with rfl | hl
    · exact List.getElem_mem _
    · exact oW_letters h n j hD.hj hD.ds l hl
end Go.Proofs.YtclhblofchfglaaGreat

namespace Go.Proofs.YtclhblofchfglaaGreat
open Go.RowKit
set_option maxRecDepth 10000
end Go.Proofs.YtclhblofchfglaaGreat

namespace Go.Proofs.YtclhblofchfglaaGreat
open Go.RowKit Go.Shelf
set_option maxRecDepth 10000
/-- what a round of the loop leaves alone -/
def KeepB (n₀ m : Nat) (A B : World) : Prop := ∀ k, k < n₀ → k ≠ m → B.heap[k]? = A.heap[k]?
theorem KeepB.refl (n₀ m : Nat) (A : World) : KeepB n₀ m A A := fun _ _ _ => rfl
theorem KeepB.trans {n₀ m : Nat} {A B C : World} (h : KeepB n₀ m A B) (k : KeepB n₀ m B C) : KeepB n₀ m A C := fun i hi hn => (k i hi hn).trans (h i hi hn)
theorem KeepB.cell {n₀ m : Nat} {A B : World} (h : KeepB n₀ m A B) {b o : Nat} (hb : b < n₀) (hm : b ≠ m) {v : Value} (hc : A.cell? ⟨b, o, none⟩ = some v) : B.cell? ⟨b, o, none⟩ = some v :=
  (World.cell?_of_block (h b hb hm)).trans hc
end Go.Proofs.YtclhblofchfglaaGreat

namespace Go.Proofs.YtclhblofchfglaaGreat
open Go.RowKit
set_option maxRecDepth 10000
end Go.Proofs.YtclhblofchfglaaGreat

namespace Go.Proofs.YtclhblofchfglaaGreat
open Go.RowKit
set_option maxRecDepth 10000
end Go.Proofs.YtclhblofchfglaaGreat

namespace Go.Proofs.YtclhblofchfglaaGreat
open Go.RowKit
set_option maxRecDepth 10000

theorem snocInd {P : List Int → Prop} (h0 : P []) (h1 : ∀ l x, P l → P (l ++ [x])) (l : List Int) : P l := by
  have key : ∀ m : List Int, P m.reverse := by
    intro m
    induction m with
    | nil => exact h0
    | cons x m ih => rw [List.reverse_cons]; exact h1 _ _ ih
  have := key l.reverse
  rwa [List.reverse_reverse] at this
section
variable {n : Nat} {gens : List (List Int)}
/-- the group is closed under words -/
theorem Grp.words (h : ∀ g ∈ gens, PM.PN n g) {s : List Int} (hs : PM.Grp n gens s) : ∀ (l : List Int), (∀ x ∈ l, x ∈ ltrs gens.length) → PM.Grp n gens (PM.comp s (evW n gens l)) := by
  intro l
  refine snocInd (P := fun l => (∀ x ∈ l, x ∈ ltrs gens.length) → PM.Grp n gens (PM.comp s (evW n gens l))) ?_ ?_ l
  · intro _; rw [evW_nil, PM.comp_id (PM.Grp.pn h hs)]; exact hs
  · intro a x ih hl
    have ha : ∀ y ∈ a, y ∈ ltrs gens.length := fun y hy => hl y (by simp [hy])
    have hx : x ∈ ltrs gens.length := hl x (by simp)
    rw [evW_snoc, ← PM.comp_assoc (PM.Grp.pn h hs) (evW_pn h a ha)]
    obtain ⟨hx0, hx1, hx2⟩ := mem_ltrs.1 hx
    rcases Int.lt_or_gt_of_ne hx0 with hneg | hpos
    · obtain ⟨k, hk⟩ : ∃ k : Nat, x = -((k : Int) + 1) := ⟨(-x - 1).toNat, by omega⟩
      rw [mv_neg hk (by omega)]
      exact (ih ha).div (List.getElem_mem _)
    · obtain ⟨k, hk⟩ : ∃ k : Nat, x = (k : Int) + 1 := ⟨(x - 1).toNat, by omega⟩
      rw [mv_pos hk (by omega)]
      exact (ih ha).mul (List.getElem_mem _)
end
section
variable {x : Session} {l : List Int} (hx : validSe x = true) (hl : validW x.puzzle.moves.length l = true)
end
end Go.Proofs.YtclhblofchfglaaGreat

namespace Go.Proofs.YtclhblofchfglaaGreat
open Go.RowKit
set_option maxRecDepth 10000

theorem comp3 {tr p m : List Int} (hz : ∀ z ∈ tr, 0 ≤ z ∧ z < p.length) : PM.comp (PM.comp tr p) m = PM.comp tr (PM.comp p m) := by
  unfold PM.comp
  rw [List.map_map]
  refine List.map_congr_left fun z hm => ?_
  have := hz z hm
  exact (PM.at_comp this.1 this.2).symm
theorem appW_snoc {x : Puzzle} {s w : List Int} {l : Int} (hg : ∀ g ∈ x.moves, PM.PN x.points.toNat g) (hs : PM.PN x.points.toNat s) (hw : ∀ q ∈ w, q ∈ ltrs x.moves.length) : appW x s (w ++ [l]) = nxt x (appW x s w) l := by
  unfold appW nxt
  rw [evW_snoc]
  exact (PM.comp_assoc hs (evW_pn hg w hw)).symm
theorem appW_pn2 {x : Puzzle} {s w : List Int} (hg : ∀ g ∈ x.moves, PM.PN x.points.toNat g) (hs : PM.PN x.points.toNat s) (hw : ∀ q ∈ w, q ∈ ltrs x.moves.length) : PM.PN x.points.toNat (appW x s w) := hs.comp (evW_pn hg w hw)
theorem appW_nil {x : Puzzle} {s : List Int} (hs : PM.PN x.points.toNat s) : appW x s [] = s := PM.comp_id hs
section
variable {x : Puzzle} {t : Table}
theorem Built.trk (h : Built x t) {s : List Int} (hs : PM.PN x.points.toNat s) : ∀ z ∈ t.tracked, 0 ≤ z ∧ z < s.length := fun z hz => by
  have := (trackB_iff.1 h.tk).2.1 z hz
  rw [hs.1]
  omega
/-- the entries along a word -/
theorem Built.along (h : Built x t) (hg : ∀ g ∈ x.moves, PM.PN x.points.toNat g) {s : List Int} (hs : PM.PN x.points.toNat s) {j : Nat} (hj : j < t.patterns.length) (e : t.patterns.getD j [] = PM.comp t.tracked s) :
    ∀ (w : List Int), (∀ l ∈ w, l ∈ ltrs x.moves.length) → ∃ i : Nat, i < t.patterns.length ∧ t.patterns.getD i [] = PM.comp t.tracked (appW x s w) ∧ t.distances.getD j 0 ≤ t.distances.getD i 0 + w.length := by
  intro w
  induction w using snocInd with
  | h0 => intro _; exact ⟨j, hj, by rw [appW_nil hs]; exact e, by simp⟩
  | h1 w l ih =>
    intro hw
    have hw1 : ∀ q ∈ w, q ∈ ltrs x.moves.length := fun q hq => hw q (by simp [hq])
    obtain ⟨i, a1, a2, a3⟩ := ih hw1
    obtain ⟨k, b1, b2, b3, b4⟩ := h.step a1 (hw l (by simp))
    refine ⟨k, b1, ?_, ?_⟩
    · rw [b2, a2, appW_snoc hg hs hw1]
      exact comp3 (h.trk (appW_pn2 hg hs hw1))
    · rw [List.length_append, List.length_singleton]; omega
theorem Built.comp_pts (h : Built x t) : PM.comp t.tracked (PM.pts x.points.toNat) = t.tracked := by
  unfold PM.comp
  refine (List.map_congr_left fun z hz => ?_).trans (List.map_id _)
  have := (trackB_iff.1 h.tk).2.1 z hz
  exact PM.at_pts (by omega) (by omega)
/-- the distance of the solved state's entry -/
theorem Built.zero (h : Built x t) {i : Nat} (hi : i < t.patterns.length) (e : t.patterns.getD i [] = t.tracked) : t.distances.getD i 0 = 0 := by
  have h0 : t.patterns.getD 0 [] = t.tracked := h.bi.p0
  have hne : 0 < t.patterns.length := h.bi.ne
  have a := h.idx hi
  have b := h.idx hne
  rw [e] at a
  rw [h0, a] at b
  have : i = 0 := by omega
  subst this
  exact h.bi.d0
/-- a word that solves is no shorter than an entry's distance -/
theorem Built.low (h : Built x t) {s w : List Int} (hs : stateB x s = true) (hr : reachB x s = true) (hw : ∀ l ∈ w, l ∈ ltrs x.moves.length) (hsol : appW x s w = PM.pts x.points.toNat) : ∃ j : Nat, j < t.patterns.length ∧ t.patterns.getD j [] = PM.comp t.tracked s ∧ t.distances.getD j 0 ≤ w.length := by
  obtain ⟨-, -, hg, hp⟩ := stateB_pn hs
  obtain ⟨j, hj, e⟩ := List.getElem_of_mem (h.reach hr)
  have e2 : t.patterns.getD j [] = PM.comp t.tracked s := by rw [getD_get hj, e]
  obtain ⟨i, a1, a2, a3⟩ := h.along hg hp hj e2 w hw
  rw [hsol, h.comp_pts] at a2
  rw [h.zero a1 a2] at a3
  exact ⟨j, hj, e2, by omega⟩
end
end Go.Proofs.YtclhblofchfglaaGreat

namespace Go.Proofs.YtclhblofchfglaaGreat
open Go.RowKit
set_option maxRecDepth 10000

def mRow (x : Puzzle) (t : Table) (v : Nat) : List Nat := (ltrs x.moves.length).map fun l => (idxL t.patterns (nxt x (t.patterns.getD v []) l)).toNat
/-- the distances of the states to those that src tells -/
def mD (x : Puzzle) (t : Table) (src : List Int → Bool) : List Int := mDist (fun v => src (t.patterns.getD v [])) (mRow x t) t.patterns.length
/-- the states with these distances -/
def tD (x : Puzzle) (t : Table) (src : List Int → Bool) : Table := ⟨t.tracked, t.patterns, mD x t src⟩
/-- where a word leads -/
def wEnd (x : Puzzle) (s w : List Int) : List Int := w.foldl (nxt x) s
section
variable {x : Puzzle} {t : Table} {src : List Int → Bool} (hb : Built x t)
include hb
theorem mRow_mem {v : Nat} (hv : v < t.patterns.length) {tt : Nat} : tt ∈ mRow x t v ↔ ∃ l ∈ ltrs x.moves.length, tt < t.patterns.length ∧ t.patterns.getD tt [] = nxt x (t.patterns.getD v []) l := by
  unfold mRow
  rw [List.mem_map]
  constructor
  · rintro ⟨l, hl, rfl⟩
    obtain ⟨i, a, b, -, -⟩ := hb.step hv hl
    have := hb.idx a
    rw [b] at this
    rw [this, Int.toNat_natCast]
    exact ⟨l, hl, a, b⟩
  · rintro ⟨l, hl, a, b⟩
    refine ⟨l, hl, ?_⟩
    rw [← b, hb.idx a, Int.toNat_natCast]
theorem mRow_lt {v : Nat} (hv : v < t.patterns.length) : ∀ tt ∈ mRow x t v, tt < t.patterns.length := fun tt h => by
  obtain ⟨l, -, a, -⟩ := (mRow_mem hb hv).1 h
  exact a
theorem pat_of {v : Nat} (hv : v < t.patterns.length) : patB x.points t.tracked.length (t.patterns.getD v []) = true := hb.bi.pat _ (hb.mem_of hv)
theorem mRow_sym {v tt : Nat} (hv : v < t.patterns.length) (h : tt ∈ mRow x t v) : v ∈ mRow x t tt := by
  obtain ⟨l, hl, a, b⟩ := (mRow_mem hb hv).1 h
  refine (mRow_mem hb a).2 ⟨-l, ltrs_neg hl, hv, ?_⟩
  rw [b, nxt_back hb.v (pat_of hb hv) hl]
theorem mD_F : MbF (fun v => src (t.patterns.getD v [])) (mRow x t) t.patterns.length (mD x t src) := mDist_facts fun _ hv => mRow_lt hb hv
theorem mD_nonneg (h0 : src t.tracked = true) : ∀ v : Nat, v < t.patterns.length → 0 ≤ (mD x t src).getD v 0 := by
  intro v
  have hF := mD_F (src := src) hb
  induction v using Nat.strongRecOn with
  | ind v ih =>
    intro hv
    by_cases hz : v = 0
    · subst hz
      have e : t.patterns.getD 0 [] = t.tracked := hb.bi.p0
      have := (hF.zero 0 hv).2 (by rw [e]; exact h0)
      omega
    · obtain ⟨j, l, a1, a2, a3, -⟩ := hb.bi.par v (by omega) hv
      simp only at a3
      have hj : j < t.patterns.length := by omega
      exact (hF.cl j hj (ih j a1 hj) v ((mRow_mem hb hj).2 ⟨l, a2, hv, a3.symm⟩)).1
theorem mD_near (h0 : src t.tracked = true) {v tt : Nat} (hv : v < t.patterns.length) (ht : tt ∈ mRow x t v) : (mD x t src).getD tt 0 ≤ (mD x t src).getD v 0 + 1 ∧ (mD x t src).getD v 0 ≤ (mD x t src).getD tt 0 + 1 := by
  have hF := mD_F (src := src) hb
  have a := mRow_lt hb hv tt ht
  exact ⟨(hF.cl v hv (mD_nonneg hb h0 v hv) tt ht).2, (hF.cl tt a (mD_nonneg hb h0 tt a) v (mRow_sym hb hv ht)).2⟩
theorem mDown (h0 : src t.tracked = true) {i : Nat} (hi : i < t.patterns.length) {n : Nat} (hd : (mD x t src).getD i 0 = (n : Int) + 1) : ∃ k j, Down x (tD x t src) i n k j := by
  have hF := mD_F (src := src) hb
  have hnd : t.patterns.Nodup := hb.bi.nd
  have hne : descL x (tD x t src) ((tD x t src).patterns.getD i []) n ≠ 0 := by
    obtain ⟨u, u1, u2, u3, u4⟩ := hF.par i hi (by omega)
    obtain ⟨l, hl, a, b⟩ := (mRow_mem hb hi).1 (mRow_sym hb u1 u2)
    refine descL_ne hl (leads_iffD.2 ?_)
    have e : nextI x (tD x t src) ((tD x t src).patterns.getD i []) l = u := by
      show idxL t.patterns (nxt x (t.patterns.getD i []) l) = u
      rw [← b]; exact hb.idx a
    rw [e]
    refine ⟨by omega, ?_⟩
    rw [atD_nat]
    show (mD x t src).getD u 0 = n
    omega
  rcases @descL_of_dK x (tD x t src) ((tD x t src).patterns.getD i []) n with ⟨-, h1⟩ | ⟨k, hk, h1, h2⟩
  · exact absurd h1 hne
  · obtain ⟨-, hlead⟩ := descL_leads hne
    obtain ⟨a1, a2⟩ := leads_iffD.1 hlead
    rw [h2] at a1 a2
    have hkm : (ltrs x.moves.length)[k] ∈ ltrs x.moves.length := List.getElem_mem _
    obtain ⟨j, b1, b2, -, -⟩ := hb.step hi hkm
    have hj : nextI x (tD x t src) ((tD x t src).patterns.getD i []) (ltrs x.moves.length)[k] = j := by
      show idxL t.patterns (nxt x (t.patterns.getD i []) (ltrs x.moves.length)[k]) = j
      rw [← b2]; exact hb.idx b1
    rw [hj, atD_nat] at a2
    refine ⟨k, j, hk, h2, b1, b2, a2, ?_⟩
    intro m hm i' hi' e
    have hml : (ltrs x.moves.length)[m]'(Nat.lt_trans hm hk) ∈ ltrs x.moves.length := List.getElem_mem _
    have hx : nextI x (tD x t src) ((tD x t src).patterns.getD i []) ((ltrs x.moves.length)[m]'(Nat.lt_trans hm hk)) = i' := by
      show idxL t.patterns (nxt x (t.patterns.getD i []) _) = i'
      have e' : t.patterns.getD i' [] = nxt x (t.patterns.getD i []) ((ltrs x.moves.length)[m]'(Nat.lt_trans hm hk)) := e
      rw [← e']; exact hb.idx hi'
    have hne2 : (tD x t src).distances.getD i' 0 ≠ n := by
      intro e2
      have hl : leads x (tD x t src) ((tD x t src).patterns.getD i []) n ((ltrs x.moves.length)[m]'(Nat.lt_trans hm hk)) = true := by
        rw [leads_iffD, hx, atD_nat]
        exact ⟨by omega, e2⟩
      have hno : ∀ q ∈ (ltrs x.moves.length).take k, leads x (tD x t src) ((tD x t src).patterns.getD i []) n q = false := by
        have hf : dK x (tD x t src) ((tD x t src).patterns.getD i []) n = k := h1
        unfold dK idxF at hf
        cases hq : (ltrs x.moves.length).findIdx? (leads x (tD x t src) ((tD x t src).patterns.getD i []) n) with
        | none => rw [hq] at hf; simp at hf
        | some k' =>
          rw [hq] at hf
          have hf2 : (k' : Int) = k := hf
          have : k' = k := by omega
          subst this
          obtain ⟨_, _, hall⟩ := List.findIdx?_eq_some_iff_getElem.1 hq
          intro q hqm
          rw [List.mem_take_iff_getElem] at hqm
          obtain ⟨m', hm', rfl⟩ := hqm
          simpa using hall m' (by omega)
      have := hno _ (List.mem_take_iff_getElem.2 ⟨m, by omega, rfl⟩)
      rw [hl] at this; cases this
    refine ⟨hne2, fun hlt2 => hne2 ?_⟩
    have hmem : i' ∈ mRow x t i := (mRow_mem hb hi).2 ⟨_, hml, hi', e⟩
    have := mD_near (src := src) hb h0 hi hmem
    show (mD x t src).getD i' 0 = n
    have h9 : (mD x t src).getD i' 0 < (n : Int) + 1 := hlt2
    omega
/-- the word by the distances: its letters, and where it leads -/
theorem mW_end (h0 : src t.tracked = true) : ∀ (n i : Nat), i < t.patterns.length → (mD x t src).getD i 0 = n →
    (∀ l ∈ oW x (tD x t src) n (t.patterns.getD i []), l ∈ ltrs x.moves.length) ∧ ∃ j : Nat, j < t.patterns.length ∧ t.patterns.getD j [] = wEnd x (t.patterns.getD i []) (oW x (tD x t src) n (t.patterns.getD i [])) ∧ (mD x t src).getD j 0 = 0
  | 0, i, hi, hd => ⟨(fun l hl => by cases hl), i, hi, rfl, hd⟩
  | n + 1, i, hi, hd => by
    obtain ⟨k, j, hD⟩ := mDown (n := n) hb h0 hi hd
    obtain ⟨h1, j2, h2, h3, h4⟩ := mW_end h0 n j hD.hj hD.ds
    have e := hD.oW_
    have e2 : (tD x t src).patterns = t.patterns := rfl
    rw [e2] at e
    rw [e]
    refine ⟨fun l hl => ?_, j2, h2, ?_, h4⟩
    · rcases List.mem_cons.1 hl with rfl | hl
      · exact List.getElem_mem _
      · exact h1 l hl
    · rw [h3]
      have e3 : t.patterns.getD j [] = nxt x (t.patterns.getD i []) ((ltrs x.moves.length)[k]'hD.hk) := hD.nx
      unfold wEnd
      rw [List.foldl_cons, e3]
end
/-- a state meets a goal -/
def gS (goal s : List Int) : Bool := decide (PM.comp goal s = goal)
section
variable {x : Puzzle} {tr : List Int} {Z : List (List Int)}
theorem BI.in_ {k : Nat} {done : List Int} {s : Met16} (h : BI x tr k done s) (h0 : tr ∈ Z) (hc : ∀ q ∈ Z, ∀ l ∈ ltrs x.moves.length, nxt x q l ∈ Z) : ∀ i, i < s.1.length → s.1.getD i [] ∈ Z := by
  intro i
  induction i using Nat.strongRecOn with
  | ind i ih =>
    intro hi
    by_cases hz : i = 0
    · subst hz; rw [h.p0]; exact h0
    · obtain ⟨j, l, a1, a2, a3, -⟩ := h.par i (by omega) hi
      rw [← a3]
      exact hc _ (ih j a1 (Nat.lt_trans a1 hi)) l a2
end
section
variable {x : Puzzle} {t tg : Table} {goal : List Int} (he : expl x = some t) (hg : trackB x.points goal = true)
end
end Go.Proofs.YtclhblofchfglaaGreat

namespace Go.Proofs.YtclhblofchfglaaGreat
open Go.RowKit
set_option maxRecDepth 10000

/-- how far a state is from a goal -/
def mN (x : Puzzle) (t : Table) (g s : List Int) : Nat := ((mD x t (gS g)).getD (idxL t.patterns s).toNat 0).toNat
/-- the stage word -/
def mW1 (x : Puzzle) (t : Table) (g s : List Int) : List Int := oW x (tD x t (gS g)) (mN x t g s) s
def mthW (x : Puzzle) (t : Table) : List (List Int) → List Int → Option (List (List Int))
  | [], _ => some []
  | g :: gs, s => if 200 < mN x t g s then none else (mthW x t gs (wEnd x s (mW1 x t g s))).map (mW1 x t g s :: ·)
section
variable {x : Puzzle} {t : Table} (he : expl x = some t)
end
end Go.Proofs.YtclhblofchfglaaGreat

namespace Go.Proofs.YtclhblofchfglaaGreat
open Go.RowKit
set_option maxRecDepth 10000

/-- the names of a move subset -/
def subNm (s : ByteArray) (sub : List Int) : ByteArray := ⟨(sub.map fun k => s.data.getD k.toNat 0).toArray⟩
/-- the puzzle of a move subset -/
def subP (x : Puzzle) (sub : List Int) : Puzzle := ⟨x.points, subNm x.names sub, sub.map fun k => x.moves.getD k.toNat []⟩
/-- a letter of the subset's puzzle as one of the puzzle -/
def mapL (sub : List Int) (l : Int) : Int := if 0 < l then sub.getD (l - 1).toNat 0 + 1 else -(sub.getD (-l - 1).toNat 0 + 1)
theorem bl_sub (s : ByteArray) (sub : List Int) : bl (subNm s sub) = sub.map fun k => ((s.data.getD k.toNat 0).toNat : Int) := by
  unfold bl subNm
  simp
section
variable {x : Puzzle} {sub : List Int} (hv : validPz x = true) (hs : trackB x.moves.length sub = true)
include hv hs
theorem sub_len : 1 ≤ sub.length ∧ sub.length ≤ x.moves.length ∧ x.moves.length ≤ 8 := by
  have h := trackB_iff.1 hs
  have h1 := h.2.len
  have h2 := validPz_facts hv
  omega
omit hv in
theorem sub_in {k : Int} (hk : k ∈ sub) : 0 ≤ k ∧ k < x.moves.length := (trackB_iff.1 hs).2.1 k hk
omit hv in
theorem sub_mem {g : List Int} (hg : g ∈ (subP x sub).moves) : g ∈ x.moves := by
  obtain ⟨k, hk, rfl⟩ := List.mem_map.1 hg
  have := sub_in hs hk
  rw [getD_get (by omega)]
  exact List.getElem_mem _
theorem valid_subP : validPz (subP x sub) = true := by
  obtain ⟨l1, l2, l3⟩ := sub_len hv hs
  have hg := gensB_iff.1 (validPz_gensB hv)
  have hv' := hv
  unfold validPz at hv'
  rw [Bool.and_eq_true, Bool.and_eq_true, decide_eq_true_iff] at hv'
  obtain ⟨-, hn, hl⟩ := hv'
  unfold namesB at hn
  rw [Bool.and_eq_true, names_of] at hn
  obtain ⟨hn0, hn1, hn2⟩ := hn
  have hbl : (bl x.names).length = x.moves.length := by rw [bl_len, hl]
  have hb : ∀ k ∈ sub, ∃ h : k.toNat < (bl x.names).length, ((x.names.data.getD k.toNat 0).toNat : Int) = (bl x.names)[k.toNat] := fun k hk => by
    have h1 := sub_in hs hk
    have h2 : k.toNat < x.names.size := by omega
    refine ⟨by omega, ?_⟩
    have h3 : k.toNat < x.names.data.size := h2
    rw [bl_get _ _ h2]
    rw [Array.getD, dif_pos h3]
    rfl
  unfold validPz
  rw [Bool.and_eq_true, Bool.and_eq_true, decide_eq_true_iff]
  refine ⟨gensB_iff.2 ⟨hg.1, by show (List.map _ sub).length ≤ 8; rw [List.length_map]; omega, fun g hm => hg.2.2 g (sub_mem hs hm)⟩, ?_, ?_⟩
  · unfold namesB
    have hsz : ((subP x sub).names).size = sub.length := by
      show (subNm x.names sub).size = _
      rw [← bl_len, bl_sub, List.length_map]
    rw [Bool.and_eq_true, hsz]
    refine ⟨inR_iff.2 (by omega), names_of.2 ⟨?_, ?_⟩⟩
    · intro y hy
      have hy' : y ∈ bl (subNm x.names sub) := hy
      rw [bl_sub] at hy'
      obtain ⟨k, hk, rfl⟩ := List.mem_map.1 hy'
      obtain ⟨h1, h2⟩ := hb k hk
      rw [h2]
      exact hn1 _ (List.getElem_mem _)
    · show (bl (subNm x.names sub)).Nodup
      rw [bl_sub]
      refine List.pairwise_map.2 ((trackB_iff.1 hs).2.2.imp_of_mem fun {a b} ha hb' hlt e => ?_)
      obtain ⟨a1, a2⟩ := hb a ha
      obtain ⟨b1, b2⟩ := hb b hb'
      rw [a2, b2] at e
      have := nodup_at hn2 a1 b1 e
      have := sub_in hs ha
      have := sub_in hs hb'
      omega
  · show (subNm x.names sub).size = (List.map _ sub).length
    rw [← bl_len, bl_sub, List.length_map, List.length_map]
theorem sub_grp {p : List Int} (hp : PM.Grp x.points.toNat (subP x sub).moves p) : PM.Grp x.points.toNat x.moves p :=
  PM.Grp.mono (validPz_pn hv) (fun _ hg => PM.Grp.gen (validPz_pn hv) (sub_mem hs hg)) hp
theorem sub_expl {t : Table} (he : expl x = some t) : ∃ ts, expl (subP x sub) = some ts := by
  have hv2 := valid_subP hv hs
  refine (expl_iff hv2).2 ?_
  have h1 := (expl_iff hv).1 ⟨t, he⟩
  refine Nat.le_trans ?_ h1
  exact PM.nodup_sub_len (grpL_nodup _ _) fun p hp => (mem_grpL (validPz_pn hv)).2 (sub_grp hv hs ((mem_grpL (validPz_pn hv2)).1 hp))
omit hv in
theorem mapL_mem {l : Int} (hl : l ∈ ltrs (subP x sub).moves.length) : mapL sub l ∈ ltrs x.moves.length := by
  have h1 := mem_ltrs.1 hl
  have hlen : (subP x sub).moves.length = sub.length := by show (List.map _ sub).length = _; rw [List.length_map]
  rw [hlen] at h1
  unfold mapL
  rw [mem_ltrs]
  split
  · have hk : (l - 1).toNat < sub.length := by omega
    rw [getD_get hk]
    have := sub_in hs (List.getElem_mem hk)
    omega
  · have hk : (-l - 1).toNat < sub.length := by omega
    rw [getD_get hk]
    have := sub_in hs (List.getElem_mem hk)
    omega
omit hv in
theorem mv_sub {l : Int} (hl : l ∈ ltrs (subP x sub).moves.length) : mv (subP x sub).moves l = mv x.moves (mapL sub l) := by
  have h1 := mem_ltrs.1 hl
  have hlen : (subP x sub).moves.length = sub.length := by show (List.map _ sub).length = _; rw [List.length_map]
  have h2 := h1
  rw [hlen] at h2
  by_cases hp : 0 < l
  · have hk : (l - 1).toNat < sub.length := by omega
    have hin := sub_in hs (List.getElem_mem hk)
    have e : mapL sub l = sub[(l - 1).toNat] + 1 := by unfold mapL; rw [if_pos hp, getD_get hk]
    rw [e, mv_pos (k := (l - 1).toNat) (by omega) (by omega), mv_pos (k := sub[(l - 1).toNat].toNat) (by omega) (by omega)]
    show (List.map _ sub)[(l - 1).toNat]'(by rw [List.length_map]; omega) = _
    rw [List.getElem_map, getD_get (by omega)]
  · have hk : (-l - 1).toNat < sub.length := by omega
    have hin := sub_in hs (List.getElem_mem hk)
    have e : mapL sub l = -(sub[(-l - 1).toNat] + 1) := by unfold mapL; rw [if_neg hp, getD_get hk]
    rw [e, mv_neg (k := (-l - 1).toNat) (by omega) (by omega), mv_neg (k := sub[(-l - 1).toNat].toNat) (by omega) (by omega)]
    congr 1
    show (List.map _ sub)[(-l - 1).toNat]'(by rw [List.length_map]; omega) = _
    rw [List.getElem_map, getD_get (by omega)]
omit hv in
/-- a word of the subset's puzzle leads the same way -/
theorem wEnd_sub : ∀ (w : List Int) (s : List Int), (∀ l ∈ w, l ∈ ltrs (subP x sub).moves.length) → wEnd x s (w.map (mapL sub)) = wEnd (subP x sub) s w
  | [], _, _ => rfl
  | l :: w, s, hw => by
    unfold wEnd
    rw [List.map_cons, List.foldl_cons, List.foldl_cons]
    have e : nxt x s (mapL sub l) = nxt (subP x sub) s l := by
      unfold nxt
      rw [mv_sub hs (hw l (by simp))]
    rw [e]
    exact wEnd_sub w _ fun l hl => hw l (by simp [hl])
end
/-- a state is a member of the subset's group -/
def subS (ts : Table) (s : List Int) : Bool := decide (s ∈ ts.patterns)
section
variable {x : Puzzle} {t ts : Table} {sub : List Int} (he : expl x = some t) (h2 : expl (subP x sub) = some ts)
include he h2
theorem subS_start : subS ts t.tracked = true := by
  obtain ⟨-, ht⟩ := expl_built he
  rw [ht]
  exact decide_eq_true ((expl_mem h2).2 .id)
/-- the first phase ends in the subset's group -/
theorem phase_one {v n : Nat} (hv : v < t.patterns.length) (hd : (mD x t (subS ts)).getD v 0 = n) :
    (∀ l ∈ oW x (tD x t (subS ts)) n (t.patterns.getD v []), l ∈ ltrs x.moves.length) ∧ ∃ i j : Nat, i < t.patterns.length ∧ t.patterns.getD i [] = wEnd x (t.patterns.getD v []) (oW x (tD x t (subS ts)) n (t.patterns.getD v [])) ∧ (mD x t (subS ts)).getD i 0 = 0 ∧ j < ts.patterns.length ∧ ts.patterns.getD j [] = t.patterns.getD i [] := by
  obtain ⟨hb, -⟩ := expl_built he
  obtain ⟨a, i, b, c, d⟩ := mW_end hb (subS_start he h2) n v hv hd
  have hF := mD_F (src := subS ts) hb
  have hm : t.patterns.getD i [] ∈ ts.patterns := of_decide_eq_true ((hF.zero i b).1 d)
  obtain ⟨j, hj, e⟩ := List.getElem_of_mem hm
  exact ⟨a, i, j, b, c, d, hj, by rw [getD_get hj, e]⟩
end
end Go.Proofs.YtclhblofchfglaaGreat

namespace Go.Proofs.YtclhblofchfglaaGreat
open Go.RowKit
set_option maxRecDepth 10000
end Go.Proofs.YtclhblofchfglaaGreat

namespace Go.Proofs.YtclhblofchfglaaGreat
open Go.RowKit
set_option maxRecDepth 10000

theorem wEnd_snoc (x : Puzzle) (s w : List Int) (l : Int) : wEnd x s (w ++ [l]) = nxt x (wEnd x s w) l := by
  unfold wEnd
  rw [List.foldl_append]; rfl
theorem wEnd_cat (x : Puzzle) (s a b : List Int) : wEnd x s (a ++ b) = wEnd x (wEnd x s a) b := by
  unfold wEnd
  rw [List.foldl_append]
end Go.Proofs.YtclhblofchfglaaGreat

namespace Go.Proofs.YtclhblofchfglaaGreat
open Go.RowKit
set_option maxRecDepth 10000
end Go.Proofs.YtclhblofchfglaaGreat

namespace Go.Proofs.YtclhblofchfglaaGreat
open Go.RowKit
set_option maxRecDepth 10000

theorem oW_end {x : Puzzle} {t : Table} (h : Built x t) : ∀ (n i : Nat), i < t.patterns.length → t.distances.getD i 0 = n → wEnd x (t.patterns.getD i []) (oW x t n (t.patterns.getD i [])) = t.tracked
  | 0, i, hi, hd => by
    have hdep := (h.dep i hi).2.2
    have : i = 0 := by
      rcases Nat.eq_zero_or_pos i with h0 | h0
      · exact h0
      · have := hdep h0; omega
    subst this
    exact h.bi.p0
  | n + 1, i, hi, hd => by
    obtain ⟨k, j, hD⟩ := h.down hi (n := n) (by rw [hd]; rfl)
    rw [hD.oW_]
    unfold wEnd
    rw [List.foldl_cons, ← hD.nx]
    exact oW_end h n j hD.hj hD.ds
section
variable {x : Puzzle} {t : Table} (he : expl x = some t)
end
/-- the first phase: how far, the word, where it leads -/
def twN1 (x : Puzzle) (t ts : Table) (s : List Int) : Nat := ((mD x t (subS ts)).getD (idxL t.patterns s).toNat 0).toNat
def twW1 (x : Puzzle) (t ts : Table) (s : List Int) : List Int := oW x (tD x t (subS ts)) (twN1 x t ts s) s
def twS1 (x : Puzzle) (t ts : Table) (s : List Int) : List Int := wEnd x s (twW1 x t ts s)
/-- the second phase -/
def twN2 (x : Puzzle) (t ts : Table) (s : List Int) : Nat := (atD ts (idxL ts.patterns (twS1 x t ts s))).toNat
def twW2 (x : Puzzle) (sub : List Int) (t ts : Table) (s : List Int) : List Int := (oW (subP x sub) ts (twN2 x t ts s) (twS1 x t ts s)).map (mapL sub)
/-- the words of both phases -/
noncomputable def twX (x : Puzzle) (sub s : List Int) : Option (List Int × List Int) := match expl x, expl (subP x sub) with
  | some t, some ts => if (reachB x s && trackB x.moves.length sub) = true then (if twN1 x t ts s ≤ 200 ∧ twN2 x t ts s ≤ 200 then some (twW1 x t ts s, twW2 x sub t ts s) else none) else none
  | _, _ => none
/-- the word of both phases, if it is not too long -/
noncomputable def twC (x : Puzzle) (sub s : List Int) : Option (List Int) := (twX x sub s).bind fun p => if (p.1 ++ p.2).length ≤ 200 then some (p.1 ++ p.2) else none
theorem twW1_len (x : Puzzle) (t ts : Table) (s : List Int) : (twW1 x t ts s).length = twN1 x t ts s := oW_len _ _ _ _
theorem twW2_len (x : Puzzle) (sub : List Int) (t ts : Table) (s : List Int) : (twW2 x sub t ts s).length = twN2 x t ts s := by unfold twW2; rw [List.length_map, oW_len]
section
variable {x : Puzzle} {t ts : Table} {sub : List Int} (he : expl x = some t) (hs : trackB x.moves.length sub = true) (h2 : expl (subP x sub) = some ts)
include he hs h2
/-- what the phases do from a state -/
theorem tw_facts {v : Nat} (hv : v < t.patterns.length) : (mD x t (subS ts)).getD v 0 = twN1 x t ts (t.patterns.getD v []) ∧ (∀ l ∈ twW1 x t ts (t.patterns.getD v []), l ∈ ltrs x.moves.length) ∧ ∃ i j : Nat, i < t.patterns.length ∧ t.patterns.getD i [] = twS1 x t ts (t.patterns.getD v []) ∧ (mD x t (subS ts)).getD i 0 = 0 ∧
    j < ts.patterns.length ∧ ts.patterns.getD j [] = twS1 x t ts (t.patterns.getD v []) ∧ ts.distances.getD j 0 = twN2 x t ts (t.patterns.getD v []) ∧ (∀ l ∈ oW (subP x sub) ts (twN2 x t ts (t.patterns.getD v [])) (twS1 x t ts (t.patterns.getD v [])), l ∈ ltrs (subP x sub).moves.length) ∧
    wEnd x (t.patterns.getD v []) (twW1 x t ts (t.patterns.getD v []) ++ twW2 x sub t ts (t.patterns.getD v [])) = PM.pts x.points.toNat := by
  obtain ⟨hb, -⟩ := expl_built he
  obtain ⟨hb2, ht2⟩ := expl_built h2
  have h0 := mD_nonneg hb (subS_start he h2) v hv
  have h1 : (mD x t (subS ts)).getD v 0 = twN1 x t ts (t.patterns.getD v []) := by
    unfold twN1
    rw [hb.idx hv, Int.toNat_natCast]; omega
  obtain ⟨a, i, j, b, c, d, e, f⟩ := phase_one he h2 hv h1
  have hsj : ts.patterns.getD j [] = twS1 x t ts (t.patterns.getD v []) := f.trans c
  have hd2 : ts.distances.getD j 0 = twN2 x t ts (t.patterns.getD v []) := by
    unfold twN2
    rw [← hsj, hb2.idx e, atD_nat]
    have := (hb2.dep j e).1
    omega
  have hl2 := oW_letters hb2 _ j e hd2
  have he2 := oW_end hb2 _ j e hd2
  rw [hsj] at hl2 he2
  refine ⟨h1, a, i, j, b, c, d, e, hsj, hd2, hl2, ?_⟩
  rw [wEnd_cat]
  show wEnd x (twS1 x t ts (t.patterns.getD v [])) (twW2 x sub t ts (t.patterns.getD v [])) = _
  unfold twW2
  rw [wEnd_sub hs _ _ hl2, he2, ht2]
  rfl
end
end Go.Proofs.YtclhblofchfglaaGreat
