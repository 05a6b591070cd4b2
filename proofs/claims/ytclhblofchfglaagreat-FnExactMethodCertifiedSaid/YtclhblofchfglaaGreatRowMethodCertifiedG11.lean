/- Descents in a table that was built; a search of few patterns ends (laws 10, 11). The states of a puzzle: how many there are, what the search of them finds (laws 20, 38). The reference's search of all states (laws 20, 38). The reference's depth of a state, its distance (laws 20, 38). The reference's search of a goal's patterns, and their depths (laws 41, 51, 57, 58). The smallest optimal word of a state, in plain words (laws 20, 38). Maps from strings to numbers that a call makes; the key of a list of small numbers. Maps from strings to truth values that a call makes. The program's search of patterns: its state (law 16). -/
import Derived.Test.YtclhblofchfglaaGreatRowMethodCertifiedG10
import Derived.Test.YtclhblofchfglaaGreatRowMethodCertifiedG1
import Derived.Deep.DeepCutAuto
import Derived.Deep.RegionLaw
import Derived.Test.YtclhblofchfglaaGreatRowMethodCertifiedG5
import Derived.Maps.OwnSet
import Derived.StringKeys
import Derived.Laws.BytesArg
import Derived.Test.YtclhblofchfglaaGreatRowMethodCertifiedG6
namespace Go.Proofs.YtclhblofchfglaaGreat
open Go.RowKit
set_option maxRecDepth 10000

section
variable {x : Puzzle} {t : Table}
theorem idxL_getD {l : List (List Int)} {p : List Int} (h : 0 ≤ idxL l p) : l.getD (idxL l p).toNat [] = p := by
  rcases idxF_nonneg_or (fun q => decide (q = p)) l with h1 | ⟨k, hk, h1, h2⟩
  · unfold idxL at h; omega
  · unfold idxL
    rw [h1, Int.toNat_natCast, getD_get hk]
    exact of_decide_eq_true h2
theorem Built.root (h : Built x t) {i : Nat} (hi : i < t.patterns.length) : t.patterns.getD i [] = t.tracked ↔ i = 0 := by
  have h0 : t.patterns.getD 0 [] = t.tracked := h.bi.p0
  constructor
  · intro e
    rw [← h0, getD_get hi, getD_get (by omega)] at e
    have hnd : t.patterns.Nodup := h.bi.nd
    exact nodup_at hnd hi (by omega) e
  · rintro rfl; exact h0
theorem Built.dLet_ (h : Built x t) {i : Nat} (hi : i < t.patterns.length) : dLet x t (t.patterns.getD i []) = descL x t (t.patterns.getD i []) (atD t i - 1) := by
  have hx := h.idx hi
  rw [dLet_yes h.check (by rw [hx]; omega), hx]
theorem Built.word (h : Built x t) : ∀ (n m i : Nat), i < t.patterns.length → atD t i = n → n ≤ m →
    ∃ w, dW x t m (t.patterns.getD i []) = some w ∧ w.length = n ∧ (∀ l ∈ w, l ∈ ltrs x.moves.length) ∧ w.foldl (nxt x) (t.patterns.getD i []) = t.tracked
  | 0, m, i, hi, hd, hm => by
    have h0 : i = 0 := by
      rcases Nat.eq_zero_or_pos i with h1 | h1
      · exact h1
      · have := (h.dep i hi).2.2 h1
        rw [atD_nat] at hd; omega
    have hr := (h.root hi).2 h0
    refine ⟨[], ?_, rfl, by simp, hr⟩
    cases m <;> (unfold dW; rw [if_pos hr])
  | n + 1, 0, i, hi, hd, hm => by omega
  | n + 1, m + 1, i, hi, hd, hm => by
    have hr : t.patterns.getD i [] ≠ t.tracked := fun e => by
      have := (h.root hi).1 e
      subst this
      have h0 : t.distances.getD 0 0 = 0 := h.bi.d0
      rw [atD_nat, h0] at hd; omega
    have hg := ent_nil.1 (h.good i hi)
    have hne : descL x t (t.patterns.getD i []) (atD t i - 1) ≠ 0 := hg.2.2.2.2 (by rw [hd]; omega)
    obtain ⟨hl, hlead⟩ := descL_leads hne
    obtain ⟨a1, a2⟩ := leads_iffD.1 hlead
    rw [← h.dLet_ hi] at hl a1 a2 hne
    have hj : t.patterns.getD (nextI x t (t.patterns.getD i []) (dLet x t (t.patterns.getD i []))).toNat [] = nxt x (t.patterns.getD i []) (dLet x t (t.patterns.getD i [])) := idxL_getD a1
    have hlt := (idxL_lt (l := t.patterns) (p := nxt x (t.patterns.getD i []) (dLet x t (t.patterns.getD i [])))).2
    obtain ⟨j, hjj⟩ : ∃ j : Nat, nextI x t (t.patterns.getD i []) (dLet x t (t.patterns.getD i [])) = j := ⟨_, (Int.toNat_of_nonneg a1).symm⟩
    rw [hjj] at a2 hj
    rw [Int.toNat_natCast] at hj
    have hjl : j < t.patterns.length := by unfold nextI at hjj; omega
    obtain ⟨w, b1, b2, b3, b4⟩ := Built.word h n m j hjl (by rw [a2, hd]; omega) (by omega)
    refine ⟨dLet x t (t.patterns.getD i []) :: w, ?_, by simp [b2], ?_, ?_⟩
    · show (if _ then _ else _) = _
      rw [if_neg hr, if_neg hne, ← hj, b1]; rfl
    · intro l hl2
      rcases List.mem_cons.1 hl2 with rfl | hl2
      · exact hl
      · exact b3 l hl2
    · rw [List.foldl_cons, ← hj]; exact b4
theorem Built.letter (h : Built x t) {i : Nat} (hi : i < t.patterns.length) : dLet x t (t.patterns.getD i []) = 0 ↔ atD t i = 0 := by
  have h0 := (h.dep i hi).1
  rw [← atD_nat] at h0
  rw [h.dLet_ hi]
  have hg := ent_nil.1 (h.good i hi)
  constructor
  · intro e
    rcases Int.lt_or_le 0 (atD t i) with h1 | h1
    · exact absurd e (hg.2.2.2.2 h1)
    · omega
  · intro e
    rcases Decidable.em (descL x t (t.patterns.getD i []) (atD t i - 1) = 0) with h1 | h1
    · exact h1
    · obtain ⟨-, hlead⟩ := descL_leads h1
      obtain ⟨a1, a2⟩ := leads_iffD.1 hlead
      have hlt := (idxL_lt (l := t.patterns) (p := nxt x (t.patterns.getD i []) (descL x t (t.patterns.getD i []) (atD t i - 1)))).2
      obtain ⟨j, hj⟩ : ∃ j : Nat, nextI x t (t.patterns.getD i []) (descL x t (t.patterns.getD i []) (atD t i - 1)) = j := ⟨_, (Int.toNat_of_nonneg a1).symm⟩
      have hjl : j < t.patterns.length := by unfold nextI at hj; omega
      rw [hj, atD_nat] at a2
      have := (h.dep j hjl).1
      omega
end
/-- so many patterns at most -/
theorem BI.bound {x : Puzzle} {tr : List Int} {k : Nat} {done : List Int} {s : Met16} (h : BI x tr k done s) : s.1.length ≤ (PM.allL (PM.pts x.points.toNat) tr.length).length := by
  refine PM.nodup_sub_len h.nd fun q hq => ?_
  obtain ⟨a, b, -⟩ := patB_iff.1 (h.pat q hq)
  rw [← a]
  exact PM.mem_allL q fun y hy => PM.mem_pts.2 (by have := b y hy; omega)
end Go.Proofs.YtclhblofchfglaaGreat

namespace Go.Proofs.YtclhblofchfglaaGreat
open Go.RowKit
set_option maxRecDepth 10000

/-- the members of a group, each once -/
noncomputable def grpL (n : Nat) (gens : List (List Int)) : List (List Int) := Classical.choose (PM.nodup_exists (PM.allL (PM.pts n) n) (PM.Grp n gens))
theorem grpL_nodup (n : Nat) (gens : List (List Int)) : (grpL n gens).Nodup := (Classical.choose_spec (PM.nodup_exists (PM.allL (PM.pts n) n) (PM.Grp n gens))).1
theorem mem_grpL {n : Nat} {gens : List (List Int)} (hp : ∀ g ∈ gens, PM.PN n g) {p : List Int} : p ∈ grpL n gens ↔ PM.Grp n gens p := by
  have h := (Classical.choose_spec (PM.nodup_exists (PM.allL (PM.pts n) n) (PM.Grp n gens))).2 p
  show p ∈ Classical.choose _ ↔ _
  rw [h]
  refine ⟨fun h => h.2, fun hg => ⟨?_, hg⟩⟩
  have hpn := PM.Grp.pn hp hg
  have := PM.mem_allL (A := PM.pts n) p fun x hx => PM.mem_pts.2 (by have := hpn.2.1 x hx; rw [hpn.1] at this; exact this)
  rwa [hpn.1] at this
/-- how many states can be reached -/
noncomputable def cardG (x : Puzzle) : Nat := (grpL x.points.toNat x.moves).length
theorem chain_card {n : Nat} {gens : List (List Int)} {G : PM.Gens} {T : PM.Rows} (h : PM.Chain n gens G T) (hn : 0 < n) (hp : ∀ g ∈ gens, PM.PN n g) : PM.ordM T n n = (grpL n gens).length :=
  Nat.le_antisymm (h.order_ge hn hp fun _ hg => (mem_grpL hp).2 hg) (h.order_le hn hp (grpL_nodup _ _) fun _ hx => (mem_grpL hp).1 hx)
theorem cardG_pos {x : Puzzle} (hv : validPz x = true) : 1 ≤ cardG x := List.length_pos_of_mem ((mem_grpL (validPz_pn hv)).2 .id)
theorem pts_inc (n : Nat) : Inc (n : Int) (PM.pts n) := by
  refine ⟨fun z hz => PM.mem_pts.1 hz, ?_⟩
  unfold PM.pts
  rw [List.pairwise_map]
  exact List.Pairwise.imp (fun h => by omega) (List.pairwise_lt_range (n := n))
theorem pts_track {x : Puzzle} (hv : validPz x = true) : trackB x.points (PM.pts x.points.toNat) = true := by
  have := validPz_facts hv
  rw [trackB_iff]
  refine ⟨by rw [PM.pts_len]; omega, ?_⟩
  have h := pts_inc x.points.toNat
  rwa [show ((x.points.toNat : Nat) : Int) = x.points by omega] at h
/-- the search of all states -/
def expl (x : Puzzle) : Option Table := bTab x (PM.pts x.points.toNat)
theorem grp_nxt {x : Puzzle} (hv : validPz x = true) {s : List Int} (hs : PM.Grp x.points.toNat x.moves s) {l : Int} (hl : l ∈ ltrs x.moves.length) : PM.Grp x.points.toNat x.moves (nxt x s l) := by
  have h3 := validPz_pn hv
  refine PM.Grp.comp h3 hs ?_
  rcases letter_cases hl with ⟨k, hk, rfl⟩ | ⟨k, hk, rfl⟩
  · rw [mv_pos rfl hk]; exact PM.Grp.gen h3 (List.getElem_mem hk)
  · rw [mv_neg (k := k) rfl hk]; exact PM.Grp.gen_inv h3 (List.getElem_mem hk)
theorem BI.grp {x : Puzzle} {k : Nat} {done : List Int} {s : Met16} (hv : validPz x = true) (h : BI x (PM.pts x.points.toNat) k done s) : ∀ i, i < s.1.length → PM.Grp x.points.toNat x.moves (s.1.getD i []) := by
  intro i
  induction i using Nat.strongRecOn with
  | ind i ih =>
    intro hi
    by_cases h0 : i = 0
    · subst h0; rw [h.p0]; exact .id
    · obtain ⟨j, l, a1, a2, a3, -⟩ := h.par i (by omega) hi
      rw [← a3]
      exact grp_nxt hv (ih j a1 (Nat.lt_trans a1 hi)) a2
theorem BI.full {x : Puzzle} {k : Nat} {done : List Int} {s : Met16} (hv : validPz x = true) (hc : cardG x ≤ 3000) (h : BI x (PM.pts x.points.toNat) k done s) (hk : k < s.1.length) {l : Int} (hl : l ∈ ltrs x.moves.length) (hn : nxt x (s.1.getD k []) l ∉ s.1) : s.1.length ≠ 3000 := by
  intro h3
  have hg := h.grp hv
  have hall : ∀ p ∈ s.1 ++ [nxt x (s.1.getD k []) l], PM.Grp x.points.toNat x.moves p := fun p hp => by
    rcases List.mem_append.1 hp with hp | hp
    · obtain ⟨i, hi, rfl⟩ := List.getElem_of_mem hp
      have := hg i hi
      rwa [getD_get hi] at this
    · simp at hp; subst hp
      exact grp_nxt hv (hg k hk) hl
  have hnd : (s.1 ++ [nxt x (s.1.getD k []) l]).Nodup := by
    rw [List.nodup_append]
    exact ⟨h.nd, by simp, fun a ha b hb e => hn (by rw [← List.mem_singleton.1 hb, ← e]; exact ha)⟩
  have := PM.nodup_sub_len hnd fun p hp => (mem_grpL (validPz_pn hv)).2 (hall p hp)
  unfold cardG at hc
  simp only [List.length_append, List.length_singleton] at this
  omega
theorem BI.lets_some2 {x : Puzzle} {k : Nat} (hv : validPz x = true) (hc : cardG x ≤ 3000) : ∀ {ls done : List Int} {s : Met16}, BI x (PM.pts x.points.toNat) k done s → k < s.1.length → (∀ l ∈ ls, l ∈ ltrs x.moves.length) → (bLets x (s.1.getD k []) (s.2.getD k 0 + 1) ls s).isSome = true
  | [], done, s, h, hk, _ => rfl
  | l :: ls, done, s, h, hk, hl => by
    unfold bLets
    have h1 : ∃ s1, bMeet s (s.2.getD k 0 + 1) (nxt x (s.1.getD k []) l) = some s1 := by
      unfold bMeet
      split
      · exact ⟨_, rfl⟩
      · rename_i hn
        rw [if_neg (h.full hv hc hk (hl l (by simp)) hn)]
        exact ⟨_, rfl⟩
    obtain ⟨s1, e1⟩ := h1
    obtain ⟨b1, b2, b3, b4⟩ := h.meet hv hk (hl l (by simp)) e1
    have := BI.lets_some2 (ls := ls) hv hc b1 b4 (fun l hl2 => hl l (by simp [hl2]))
    rw [b2, b3] at this
    rw [e1]; exact this
theorem BI.from_some2 {x : Puzzle} (hv : validPz x = true) (hc : cardG x ≤ 3000) : ∀ {n k : Nat} {s : Met16}, BI x (PM.pts x.points.toNat) k [] s → (bFrom x n k s).isSome = true
  | 0, k, s, h => rfl
  | n + 1, k, s, h => by
    unfold bFrom
    split
    · rename_i hk
      obtain ⟨s1, e1⟩ := Option.isSome_iff_exists.1 (BI.lets_some2 hv hc h hk (fun l hl => hl))
      obtain ⟨done', c1, c2, c3, -⟩ := h.lets hv hk (fun l hl => hl) e1
      rw [e1]
      exact BI.from_some2 hv hc (c1.next c2 c3)
    · rfl
theorem expl_some {x : Puzzle} (hv : validPz x = true) (hc : cardG x ≤ 3000) : ∃ t, expl x = some t := by
  have h := BI.from_some2 (n := 3001) hv hc (BI.start (trackB_pat (pts_track hv)))
  obtain ⟨s, hs⟩ := Option.isSome_iff_exists.1 h
  refine ⟨⟨PM.pts x.points.toNat, s.1, s.2⟩, ?_⟩
  unfold expl bTab
  rw [bfs16_yes (by rw [hv, pts_track hv]; rfl), hs]; rfl
theorem expl_none {x : Puzzle} (h : validPz x = false) : expl x = none := by
  unfold expl bTab
  rw [bfs16_no (by rw [h]; rfl)]; rfl
section
variable {x : Puzzle} {t : Table}
theorem expl_built (h : expl x = some t) : Built x t ∧ t.tracked = PM.pts x.points.toNat := bTab_built h
theorem expl_mem (h : expl x = some t) {q : List Int} : q ∈ t.patterns ↔ PM.Grp x.points.toNat x.moves q := by
  obtain ⟨hb, ht⟩ := expl_built h
  have hi := hb.bi
  rw [ht] at hi
  constructor
  · intro hq
    obtain ⟨i, hil, rfl⟩ := List.getElem_of_mem hq
    have := hi.grp hb.v i hil
    rwa [getD_get hil] at this
  · intro hg
    have hpn := PM.Grp.pn (validPz_pn hb.v) hg
    have hf := validPz_facts hb.v
    have hr : reachB x q = true := by
      unfold reachB stateB memB
      rw [Bool.and_eq_true, Bool.and_eq_true]
      exact ⟨⟨hb.v, (genB_iff hf.1 hf.2.1).2 hpn⟩, @decide_eq_true _ (Classical.propDecidable _) hg⟩
    have := hb.reach hr
    rwa [ht, PM.id_comp hpn] at this
theorem expl_len (h : expl x = some t) : t.patterns.length = cardG x := by
  obtain ⟨hb, -⟩ := expl_built h
  have hnd : t.patterns.Nodup := hb.bi.nd
  exact Nat.le_antisymm (PM.nodup_sub_len hnd fun q hq => (mem_grpL (validPz_pn hb.v)).2 ((expl_mem h).1 hq)) (PM.nodup_sub_len (grpL_nodup _ _) fun q hq => (expl_mem h).2 ((mem_grpL (validPz_pn hb.v)).1 hq))
theorem expl_iff (hv : validPz x = true) : (∃ t, expl x = some t) ↔ cardG x ≤ 3000 :=
  ⟨fun ⟨_, ht⟩ => by rw [← expl_len ht]; exact (expl_built ht).1.ll, expl_some hv⟩
theorem expl_reach (h : expl x = some t) {q : List Int} : q ∈ t.patterns ↔ reachB x q = true := by
  obtain ⟨hb, -⟩ := expl_built h
  have hf := validPz_facts hb.v
  rw [expl_mem h]
  unfold reachB stateB memB
  rw [Bool.and_eq_true, Bool.and_eq_true]
  constructor
  · intro hg
    exact ⟨⟨hb.v, (genB_iff hf.1 hf.2.1).2 (PM.Grp.pn (validPz_pn hb.v) hg)⟩, @decide_eq_true _ (Classical.propDecidable _) hg⟩
  · rintro ⟨-, hg⟩
    exact @of_decide_eq_true _ (Classical.propDecidable _) hg
end
end Go.Proofs.YtclhblofchfglaaGreat

namespace Go.Proofs.YtclhblofchfglaaGreat
open Go.RowKit
set_option maxRecDepth 10000

theorem expl_from {x : Puzzle} (hv : validPz x = true) {wh : Bool} {L : List (List Int)} {D : List Int} (h : bFrom x 3001 0 ([PM.pts x.points.toNat], [0]) = if wh = true then some (L, D) else none) : expl x = if wh = true then some ⟨PM.pts x.points.toNat, L, D⟩ else none := by
  unfold expl bTab
  rw [bfs16_yes (by rw [hv, pts_track hv]; rfl), h]
  cases wh <;> rfl
/-- v is the search that found the entries of t; its memory lies from B on -/
def SrF (B : Nat) (w : World) (x : Puzzle) (t : Table) (v : Value) : Prop := ∃ A1 A2 A3 C1 C2 C3 so ob fps fd fz, v = .agg #[.slice A1 t.patterns.length C1, .slice A2 t.distances.length C2, .slice A3 (List.length so) C3, .bool true] ∧ SrR w A1 A2 A3 C1 C2 C3 t.patterns t.distances so ob fps fd fz ∧ Srt x.points.toNat t.patterns so ∧ ∀ g ∈ (ob ++ fps.flatten) ++ (fd ++ fz), B ≤ g
theorem SrF.only {B : Nat} {w w' : World} {x : Puzzle} {t : Table} {v : Value} {fp : List Nat} (h : SrF B w x t v) (ho : Only fp w w') (hd : ∀ g ∈ fp, g < B) : SrF B w' x t v := by
  obtain ⟨A1, A2, A3, C1, C2, C3, so, ob, fps, fd, fz, h1, h2, h3, h4⟩ := h
  exact ⟨A1, A2, A3, C1, C2, C3, so, ob, fps, fd, fz, h1, h2.only ho (fun g hg hm => by have := h4 g hg; have := hd g hm; omega), h3, h4⟩
theorem SrF.keep {B : Nat} {w w' : World} {x : Puzzle} {t : Table} {v : Value} (h : SrF B w x t v) (ho : Only [] w w') : SrF B w' x t v := h.only ho (by simp)
theorem SrF.mono {B B' : Nat} {w : World} {x : Puzzle} {t : Table} {v : Value} (h : SrF B w x t v) (hB : B' ≤ B) : SrF B' w x t v := by
  obtain ⟨A1, A2, A3, C1, C2, C3, so, ob, fps, fd, fz, h1, h2, h3, h4⟩ := h
  exact ⟨A1, A2, A3, C1, C2, C3, so, ob, fps, fd, fz, h1, h2, h3, fun g hg => Nat.le_trans hB (h4 g hg)⟩
theorem SrR.lt {w : World} {A1 A2 A3 : Option Addr} {C1 C2 C3 : Nat} {L : List (List Int)} {D : List Int} {so : List Nat} {ob : List Nat} {fps : List (List Nat)} {fd fs : List Nat} (h : SrR w A1 A2 A3 C1 C2 C3 L D so ob fps fd fs) : ∀ g ∈ (ob ++ fps.flatten) ++ (fd ++ fs), g < w.heap.size := fun g hg => by
  rcases List.mem_append.1 hg with hg | hg
  · exact h.ls.lt_all g hg
  · rcases List.mem_append.1 hg with hg | hg
    · exact h.dp.lt g hg
    · exact h.st.lt g hg
/-- the search's variable behind the search of all states -/
def SS1 (W wx : World) (x : Puzzle) (s4 : Value) : Prop :=
  ∃ g A1 A2 A3 C1 C2 C3 wh L D so ob fps fd fz, s4 = .pointer (some ⟨g, 0, none⟩) ∧ Blk wx g [.slice A1 (List.length L) C1, .slice A2 (List.length D) C2, .slice A3 (List.length so) C3, .bool wh] ∧ SrR wx A1 A2 A3 C1 C2 C3 L D so ob fps fd fz ∧
    (expl x = if wh = true then some ⟨PM.pts x.points.toNat, L, D⟩ else none) ∧ Srt x.points.toNat L so ∧ (∀ g' ∈ (ob ++ fps.flatten) ++ (fd ++ fz), W.heap.size ≤ g') ∧ Only [] W wx ∧ W.heap.size ≤ g
section
variable {W w5 : World} {x : Puzzle} {g : Nat} {A1 A2 A3 : Option Addr} {C1 C2 C3 : Nat} {wh : Bool} {L : List (List Int)} {D : List Int} {so : List Nat} {ob : List Nat} {fps : List (List Nat)} {fd fz : List Nat} {cs : List Value} {e : TypeId}
theorem SS1.of (hz : Blk w5 g cs) (hcs : cs.length = 4) (hK : Only [] W w5) (hr : SrR w5 A1 A2 A3 C1 C2 C3 L D so ob fps fd fz) (he : expl x = if wh = true then some ⟨PM.pts x.points.toNat, L, D⟩ else none) (hs : Srt x.points.toNat L so)
    (hb : ∀ g' ∈ (ob ++ fps.flatten) ++ (fd ++ fz), W.heap.size ≤ g') (hg : ∀ g' ∈ (ob ++ fps.flatten) ++ (fd ++ fz), g' ≠ g) (hW : W.heap.size ≤ g) :
    SS1 W ((((w5.setCell ⟨g, 0, none⟩ (.slice A1 L.length C1)).setCell ⟨g, 1, none⟩ (.slice A2 D.length C2)).setCell ⟨g, 2, none⟩ (.slice A3 so.length C3)).setCell ⟨g, 3, none⟩ (.bool wh)) x (.pointer (some ⟨g, 0, none⟩)) := by
  have ho : Only [g] w5 ((((w5.setCell ⟨g, 0, none⟩ (.slice A1 L.length C1)).setCell ⟨g, 1, none⟩ (.slice A2 D.length C2)).setCell ⟨g, 2, none⟩ (.slice A3 so.length C3)).setCell ⟨g, 3, none⟩ (.bool wh)) := ((((Only.refl _ _).setCell (by simp) _).setCell (by simp) _).setCell (by simp) _).setCell (by simp) _
  have hbk := (((hz.set 0 (.slice A1 L.length C1)).set 1 (.slice A2 D.length C2)).set 2 (.slice A3 so.length C3)).set 3 (.bool wh)
  refine ⟨g, A1, A2, A3, C1, C2, C3, wh, L, D, so, ob, fps, fd, fz, rfl, ?_, hr.only ho (fun b hm hq => hg b hm (by simpa using hq)), he, hs, hb, hK.then_ ho (by intro b hm hl; simp at hm; omega), hW⟩
  obtain ⟨u0, u1, u2, u3, rfl⟩ : ∃ u0 u1 u2 u3, cs = [u0, u1, u2, u3] := by
    match cs, hcs with
    | [u0, u1, u2, u3], _ => exact ⟨u0, u1, u2, u3, rfl⟩
  simpa only [List.set] using hbk
theorem SS1.of2 (hK : Only [] W w5) (hr : SrR w5 A1 A2 A3 C1 C2 C3 L D so ob fps fd fz) (he : expl x = if wh = true then some ⟨PM.pts x.points.toNat, L, D⟩ else none) (hs : Srt x.points.toNat L so)
    (hb : ∀ g' ∈ (ob ++ fps.flatten) ++ (fd ++ fz), W.heap.size ≤ g') (hg : g = w5.heap.size) :
    SS1 W (w5.alloc (.cells #[.slice A1 L.length C1, .slice A2 D.length C2, .slice A3 so.length C3, .bool wh] e)) x (.pointer (some ⟨g, 0, none⟩)) := by
  subst hg
  have ho : Only [] w5 (w5.alloc (.cells #[.slice A1 L.length C1, .slice A2 D.length C2, .slice A3 so.length C3, .bool wh] e)) := (Only.refl _ _).alloc _
  exact ⟨_, A1, A2, A3, C1, C2, C3, wh, L, D, so, ob, fps, fd, fz, rfl, Blk.new w5 [.slice A1 L.length C1, .slice A2 D.length C2, .slice A3 so.length C3, .bool wh] e, hr.keep ho, he, hs, hb, hK.trans ho, hK.size⟩
end
set_option maxHeartbeats 4000000 in
theorem searchStates_any (cs : List Value) (x : Puzzle) (fp : List Nat) (w : World) (h : Rp.rep w cs x fp) :
    Calls Tryz.prog 109 #[.agg cs.toArray] w fun e w' => ((expl x = none ∧ ∃ A1 n1 C1 A2 n2 C2 A3 n3 C3 wh,  e = .returned (.tuple #[.agg #[.slice A1 n1 C1, .slice A2 n2 C2, .slice A3 n3 C3, .bool wh], .bool false])) ∨ (∃ t, expl x = some t ∧ ∃ v, e = .returned (.tuple #[v, .bool true]) ∧ SrF w.heap.size w' x t v)) ∧ Only [] w w' := by
  have h0 := h
  obtain ⟨v2, rfl, p0, p1, h2⟩ := h
  obtain ⟨A2, C2, _, _, rfl, -, -⟩ := h2.open_
  clear h2 p0 p1
  have X0 : Blk ((w.alloc (.cells #[.int .i64 x.points, .string x.names, .slice A2 x.moves.length C2] 33)).alloc (.cells #[.slice none 0 0, .slice none 0 0, .slice none 0 0, .bool false] 85)) w.heap.size [.int .i64 x.points, .string x.names, .slice A2 x.moves.length C2] := (Blk.new w [.int .i64 x.points, .string x.names, .slice A2 x.moves.length C2] 33).keep ((Only.refl _ _).alloc _)
  have Y0 : Blk ((w.alloc (.cells #[.int .i64 x.points, .string x.names, .slice A2 x.moves.length C2] 33)).alloc (.cells #[.slice none 0 0, .slice none 0 0, .slice none 0 0, .bool false] 85)) (w.heap.size + 1) [.slice none 0 0, .slice none 0 0, .slice none 0 0, .bool false] := Blk.new_at (by simp)
  rcases hq : validPz x
  · have Hn := Lib.hid (expl_none hq)
    have Hq := Lib.hid hq
    clear hq
    go_enter Tryz.func109, Tryz.ntmps109
    go_wp2_with (first
      | (go_at_call 81; (with_reducible refine (specIsValidPuzzle_any [.int .i64 x.points, .string x.names, .slice A2 x.moves.length C2] x _ _ (Rp.keep h0 (by with_reducible repeat (first | exact Only.refl _ _ | assumption | refine Only.drewN ?_ _ | refine Only.drew ?_ | refine Only.alloc ?_ _ | refine Only.setCell ?_ (by intro hh; exfalso; simp at hh; try omega) _ | refine Only.trans ?_ (by assumption))))).mono ?_); rintro e w1 ⟨he, t1⟩; rw [Hq.out] at he; subst he; have Y1 := Y0.keep t1; have g0 := Y1.cell 0 rfl; have g1 := Y1.cell 1 rfl; have g2 := Y1.cell 2 rfl; have g3 := Y1.cell 3 rfl; have p0 := Y1.frozen 0; have p1 := Y1.frozen 1; have p2 := Y1.frozen 2; have p3 := Y1.frozen 3)
      | fail "no arm")
    have K1 : Only [] w w1 := (by with_reducible repeat (first | exact Only.refl _ _ | assumption | refine Only.drewN ?_ _ | refine Only.drew ?_ | refine Only.alloc ?_ _ | refine Only.setCell ?_ (by intro hh; exfalso; simp at hh; try omega) _ | refine Only.trans ?_ (by assumption)))
    have Yf := (((Y1.set 0 (.slice none 0 0)).set 1 (.slice none 0 0)).set 2 (.slice none 0 0)).set 3 (.bool false)
    have kf : Only [] w ((((w1.setCell ⟨w.heap.size + 1, 0, none⟩ (.slice none 0 0)).setCell ⟨w.heap.size + 1, 1, none⟩ (.slice none 0 0)).setCell ⟨w.heap.size + 1, 2, none⟩ (.slice none 0 0)).setCell ⟨w.heap.size + 1, 3, none⟩ (.bool false)) := K1.then_ (((((Only.refl [w.heap.size + 1] w1).setCell (by simp) _).setCell (by simp) _).setCell (by simp) _).setCell (by simp) _) (by simp)
    obtain ⟨wf, hwf⟩ : ∃ wf, wf = ((((w1.setCell ⟨w.heap.size + 1, 0, none⟩ (.slice none 0 0)).setCell ⟨w.heap.size + 1, 1, none⟩ (.slice none 0 0)).setCell ⟨w.heap.size + 1, 2, none⟩ (.slice none 0 0)).setCell ⟨w.heap.size + 1, 3, none⟩ (.bool false)) := ⟨_, rfl⟩
    rw [← hwf] at Yf kf ⊢
    simp only [List.set] at Yf
    clear hwf g0 g1 g2 g3 p0 p1 p2 p3
    have r0 := Yf.cell 0 rfl
    have r1 := Yf.cell 1 rfl
    have r2 := Yf.cell 2 rfl
    have r3 := Yf.cell 3 rfl
    exact bodyPost_ret (v := .tuple #[.agg #[.slice none 0 0, .slice none 0 0, .slice none 0 0, .bool false], .bool false]) (by simp [results, Tryz.results109, go_sem, r0, r1, r2, r3]) rfl ⟨.inl ⟨Hn.out, _, _, _, _, _, _, _, _, _, _, rfl⟩, kf⟩
  · have hf := validPz_facts hq
    obtain ⟨hp1, hp20, -, -⟩ := hf
    have Hq := Lib.hid hq
    have hpt := trackB_pat (pts_track hq)
    have Hp := Lib.hid hpt
    have hpl : (PM.pts x.points.toNat).length ≤ 1000 := by rw [PM.pts_len]; omega
    have Hpl := Lib.hid hpl
    clear hq hpt hpl
    go_enter Tryz.func109, Tryz.ntmps109
    go_upto_region 3 with (first
      | (go_at_call 81; (with_reducible refine (specIsValidPuzzle_any [.int .i64 x.points, .string x.names, .slice A2 x.moves.length C2] x _ _ (Rp.keep h0 (by with_reducible repeat (first | exact Only.refl _ _ | assumption | refine Only.drewN ?_ _ | refine Only.drew ?_ | refine Only.alloc ?_ _ | refine Only.setCell ?_ (by intro hh; exfalso; simp at hh; try omega) _ | refine Only.trans ?_ (by assumption))))).mono ?_); rintro e w1 ⟨he, t1⟩; rw [Hq.out] at he; subst he)
      | fail "no arm")
    have X1 := X0.keep t1
    have Y1 := Y0.keep t1
    have K1 : Only [] w w1 := (by with_reducible repeat (first | exact Only.refl _ _ | assumption | refine Only.drewN ?_ _ | refine Only.drew ?_ | refine Only.alloc ?_ _ | refine Only.setCell ?_ (by intro hh; exfalso; simp at hh; try omega) _ | refine Only.trans ?_ (by assumption)))
    have hs1 : w.heap.size + 2 ≤ w1.heap.size := by have := t1.size; simp at this; omega
    have g0 := X1.cell 0 rfl
    have g1 := X1.cell 1 rfl
    have g2 := X1.cell 2 rfl
    have ka := (Only.refl [] w1).alloc (.cells #[.slice none 0 0, .slice none 0 0, .slice none 0 0, .bool false] 85)
    have ga0 := ka.cell (by simp) g0
    have ga1 := ka.cell (by simp) g1
    have ga2 := ka.cell (by simp) g2
    clear X0 Y0 t1
    have hc4 : ([.slice none 0 0, .slice none 0 0, .slice none 0 0, .bool false] : List Value).length = 4 := rfl
    go_cut [4] (fun s4 wx => SS1 w1 wx x s4)
    case first =>
      go_region_law (first
        | (go_simp; go_at_call 156; (with_reducible refine (specIdentity_i x.points _ (by omega) (by omega)).mono ?_); rintro e w5 ⟨v5, f5, rfl, r5, F5, t5⟩; have hz5 := t5.size; (try simp at hz5); have X5 := X1.keep ((by with_reducible repeat (first | exact Only.refl _ _ | assumption | refine Only.drew ?_ | refine Only.alloc ?_ _ | refine Only.trans ?_ (by assumption))) : Only [] w1 w5); have q0 := X5.cell 0 rfl; have q1 := X5.cell 1 rfl; have q2 := X5.cell 2 rfl; have kb := (Only.refl [] w5).alloc (.cells #[.slice none 0 0, .slice none 0 0, .slice none 0 0, .bool false] 85); have qa0 := kb.cell (by simp) q0; have qa1 := kb.cell (by simp) q1; have qa2 := kb.cell (by simp) q2)
        | (go_simp; go_at_call 155; (with_reducible refine (searchFrom_srt [.int .i64 x.points, .string x.names, .slice A2 x.moves.length C2] x _ _ (PM.pts x.points.toNat) _ _ (Rp.keep h0 (by with_reducible repeat (first | exact Only.refl _ _ | assumption | refine Only.drewN ?_ _ | refine Only.drew ?_ | refine Only.alloc ?_ _ | refine Only.setCell ?_ (by intro hh; exfalso; simp at hh; try omega) _ | refine Only.trans ?_ (by assumption)))) (Rp.keep r5 (by with_reducible repeat (first | exact Only.refl _ _ | assumption | refine Only.drewN ?_ _ | refine Only.drew ?_ | refine Only.alloc ?_ _ | refine Only.setCell ?_ (by intro hh; exfalso; simp at hh; try omega) _ | refine Only.trans ?_ (by assumption)))) Hq.out Hp.out Hpl.out).mono ?_); rintro e w2 ⟨B1, B2, B3, D1, D2, D3, n3, wh, L, D, fL, fD, rfl, o1, o2, o3, t2, o4, o5, o6, o7, so, ob, fps, fd, fz, o8, o9, o10, o11⟩; have O3 := Lib.hid (expl_from Hq.out o3); have O10 := Lib.hid o10; have O11 := Lib.hid o11; subst o8; clear o3 o10 o11 o1 o2 o4 o5 o6 o7; have hz2 := t2.size; (try simp at hz2); first
        | (have Z := ((Blk.new w1 [.slice none 0 0, .slice none 0 0, .slice none 0 0, .bool false] 85).keep t5).keep t2; have g0 := Z.cell 0 rfl; have g1 := Z.cell 1 rfl; have g2 := Z.cell 2 rfl; have g3 := Z.cell 3 rfl; have p0 := Z.frozen 0; have p1 := Z.frozen 1; have p2 := Z.frozen 2; have p3 := Z.frozen 3)
        | (have Z := (((Blk.new w1 [.slice none 0 0, .slice none 0 0, .slice none 0 0, .bool false] 85).keep ((Only.refl [] _).drew)).keep t5).keep t2; have g0 := Z.cell 0 rfl; have g1 := Z.cell 1 rfl; have g2 := Z.cell 2 rfl; have g3 := Z.cell 3 rfl; have p0 := Z.frozen 0; have p1 := Z.frozen 1; have p2 := Z.frozen 2; have p3 := Z.frozen 3)
        | (have Z := ((Blk.new w5 [.slice none 0 0, .slice none 0 0, .slice none 0 0, .bool false] 85)).keep t2; have g0 := Z.cell 0 rfl; have g1 := Z.cell 1 rfl; have g2 := Z.cell 2 rfl; have g3 := Z.cell 3 rfl; have p0 := Z.frozen 0; have p1 := Z.frozen 1; have p2 := Z.frozen 2; have p3 := Z.frozen 3)
        | (have Z := ((Blk.new w5 [.slice none 0 0, .slice none 0 0, .slice none 0 0, .bool false] 85).keep ((Only.refl [] _).drew)).keep t2; have g0 := Z.cell 0 rfl; have g1 := Z.cell 1 rfl; have g2 := Z.cell 2 rfl; have g3 := Z.cell 3 rfl; have p0 := Z.frozen 0; have p1 := Z.frozen 1; have p2 := Z.frozen 2; have p3 := Z.frozen 3)
        | (have Z := Blk.new w2 [.slice none 0 0, .slice none 0 0, .slice none 0 0, .bool false] 85; have g0 := Z.cell 0 rfl; have g1 := Z.cell 1 rfl; have g2 := Z.cell 2 rfl; have g3 := Z.cell 3 rfl; have p0 := Z.frozen 0; have p1 := Z.frozen 1; have p2 := Z.frozen 2; have p3 := Z.frozen 3))
        | fail "no arm")
      all_goals go_wp2_with fail
      all_goals go_meet
      all_goals have KK5 : Only [] w1 w2 := (by with_reducible repeat (first | exact Only.refl _ _ | assumption | refine Only.drew ?_ | refine Only.alloc ?_ _ | refine Only.trans ?_ (by assumption)))
      all_goals have hK2 : w1.heap.size ≤ w5.heap.size := (by omega)
      all_goals have hbb : ∀ g' ∈ (ob ++ fps.flatten) ++ (fd ++ fz), w1.heap.size ≤ g' := (fun g' hg' => by have := O11.out g' hg'; first | omega | (simp at this; omega))
      all_goals have h10 := O10.out
      all_goals rw [PM.pts_len] at h10
      all_goals first
        | with_reducible exact SS1.of2 KK5 o9 O3.out h10 hbb rfl
        | with_reducible exact SS1.of Z hc4 KK5 o9 O3.out h10 hbb (fun g' hg' e' => by have := O11.out g' hg'; first | omega | (simp at this; omega)) (by omega)
    case rest =>
      have q7 := hcut
      clear hcut
      obtain ⟨b, B1, B2, B3, D1, D2, D3, wh, L, D, so, ob, fps, fd, fz, rfl, B4, o9', o3, o10, o11, K3', hbw⟩ := q7
      have O3 := Lib.hid o3
      have O10 := Lib.hid o10
      have K3 := K1.trans K3'
      have Y1 := Y1.keep K3'
      have hne : b ≠ w.heap.size + 1 := by omega
      have c0 := B4.cell 0 rfl
      have c1 := B4.cell 1 rfl
      have c2 := B4.cell 2 rfl
      have c3 := B4.cell 3 rfl
      clear o3 o10 g0 g1 g2 ga0 ga1 ga2 ka
      have g0 := Y1.cell 0 rfl
      have g1 := Y1.cell 1 rfl
      have g2 := Y1.cell 2 rfl
      have g3 := Y1.cell 3 rfl
      have p0 := Y1.frozen 0
      have p1 := Y1.frozen 1
      have p2 := Y1.frozen 2
      have p3 := Y1.frozen 3
      have Yf := (((Y1.set 0 (.slice B1 L.length D1)).set 1 (.slice B2 D.length D2)).set 2 (.slice B3 so.length D3)).set 3 (.bool wh)
      simp only [List.set] at Yf
      have r0 := Yf.cell 0 rfl
      have r1 := Yf.cell 1 rfl
      have r2 := Yf.cell 2 rfl
      have r3 := Yf.cell 3 rfl
      have hno : ∀ g ∈ (ob ++ fps.flatten) ++ (fd ++ fz), g ∉ [w.heap.size + 1] := fun g hg hm => by have := o11 g hg; simp at hm; omega
      have hpost : ∀ wf, Only [w.heap.size + 1] wc wf → (((expl x = none ∧ ∃ A1 n1 C1 A2 n2 C2 A3 n3 C3 wh', (Ending.returned (.tuple #[.agg #[.slice B1 L.length D1, .slice B2 D.length D2, .slice B3 so.length D3, .bool wh], .bool wh]) : Ending) = .returned (.tuple #[.agg #[.slice A1 n1 C1, .slice A2 n2 C2, .slice A3 n3 C3, .bool wh'], .bool false])) ∨ (∃ t, expl x = some t ∧ ∃ v, (Ending.returned (.tuple #[.agg #[.slice B1 L.length D1, .slice B2 D.length D2, .slice B3 so.length D3, .bool wh], .bool wh]) : Ending) = .returned (.tuple #[v, .bool true]) ∧ SrF w.heap.size wf x t v)) ∧ Only [] w wf) := fun wf ho => by
        refine ⟨?_, K3.then_ ho (by simp)⟩
        have h3 := O3.out
        have h10 := O10.out
        cases wh with
        | false => exact .inl ⟨by simpa using h3, _, _, _, _, _, _, _, _, _, _, rfl⟩
        | true => exact .inr ⟨⟨PM.pts x.points.toNat, L, D⟩, by simpa using h3, _, rfl, B1, B2, B3, D1, D2, D3, so, ob, fps, fd, fz, rfl, o9'.only ho hno, h10, fun g hg => Nat.le_trans K1.size (o11 g hg)⟩
      have Hpost := Lib.hid hpost
      clear hpost
      go_wp2
      go_region
      all_goals go_wp2
      all_goals exact bodyPost_ret (v := .tuple #[.agg #[.slice B1 L.length D1, .slice B2 D.length D2, .slice B3 so.length D3, .bool wh], .bool wh]) (by simp [results, Tryz.results109, go_sem, r0, r1, r2, r3]) rfl (Hpost.out _ (by with_reducible repeat (first | exact Only.refl _ _ | refine Only.drew ?_ | refine Only.setCell ?_ (by simp) _)))
end Go.Proofs.YtclhblofchfglaaGreat

namespace Go.Proofs.YtclhblofchfglaaGreat
open Go.RowKit
set_option maxRecDepth 10000

theorem searchIndex_yes (A1 A2 A3 : Option Addr) (C1 C2 C3 : Nat) (wh : Bool) (L : List (List Int)) (D : List Int) (so : List Nat) (ob : List Nat) (fps : List (List Nat)) (fd fs : List Nat) (m : Nat) (v : Value) (s : List Int) (f : List Nat) (w : World)
    (h : SrR w A1 A2 A3 C1 C2 C3 L D so ob fps fd fs) (hS : Srt m L so) (hv : Rd w v s f) (hs : s.length = m) (hL : L.length ≤ 3000) (i : Nat) (hi : i < L.length) (hg : L.getD i [] = s) (hnd : L.Nodup) :
    Calls Tryz.prog 126 #[.agg #[.slice A1 L.length C1, .slice A2 D.length C2, .slice A3 so.length C3, .bool wh], v] w fun e w' => e = .returned (.int .i64 i) ∧ Only [] w w' := by
  refine (searchIndex_at A1 A2 A3 C1 C2 C3 wh L D so ob fps fd fs m v s f w h hS hv hs hL).mono ?_
  rintro e w' ⟨r, rfl, h1, h2, h3⟩
  have hm : s ∈ L := by rw [← hg, getD_get hi]; exact List.getElem_mem hi
  rcases h2 with rfl | ⟨k, rfl, hk, hg2⟩
  · have := h1.2 hm; omega
  · rw [getD_get hk] at hg2
    rw [getD_get hi] at hg
    have := nodup_at hnd hk hi (hg2.trans hg.symm)
    subst this
    exact ⟨rfl, h3⟩
theorem searchIndex_no (A1 A2 A3 : Option Addr) (C1 C2 C3 : Nat) (wh : Bool) (L : List (List Int)) (D : List Int) (so : List Nat) (ob : List Nat) (fps : List (List Nat)) (fd fs : List Nat) (m : Nat) (v : Value) (s : List Int) (f : List Nat) (w : World)
    (h : SrR w A1 A2 A3 C1 C2 C3 L D so ob fps fd fs) (hS : Srt m L so) (hv : Rd w v s f) (hs : s.length = m) (hL : L.length ≤ 3000) (hn : s ∉ L) :
    Calls Tryz.prog 126 #[.agg #[.slice A1 L.length C1, .slice A2 D.length C2, .slice A3 so.length C3, .bool wh], v] w fun e w' => e = .returned (.int .i64 (-1)) ∧ Only [] w w' := by
  refine (searchIndex_at A1 A2 A3 C1 C2 C3 wh L D so ob fps fd fs m v s f w h hS hv hs hL).mono ?_
  rintro e w' ⟨r, rfl, h1, h2, h3⟩
  rcases h2 with rfl | ⟨k, rfl, hk, hg2⟩
  · exact ⟨rfl, h3⟩
  · exact absurd (h1.1 (by omega)) hn
/-- the depth of a list that a search has met, -1 if it has not -/
def depT (t : Table) (s : List Int) : Int := if s ∈ t.patterns then atD t (idxL t.patterns s) else -1
theorem depT_yes {x : Puzzle} {t : Table} (hb : Built x t) {i : Nat} (hi : i < t.patterns.length) : depT t (t.patterns.getD i []) = t.distances.getD i 0 := by
  unfold depT
  rw [if_pos (by rw [getD_get hi]; exact List.getElem_mem hi), hb.idx hi]
  unfold atD
  rw [Int.toNat_natCast]
theorem depT_no {t : Table} {s : List Int} (h : s ∉ t.patterns) : depT t s = -1 := if_neg h
theorem searchStates_no (cs : List Value) (x : Puzzle) (fp : List Nat) (w : World) (h : Rp.rep w cs x fp) (he : expl x = none) :
    Calls Tryz.prog 109 #[.agg cs.toArray] w fun e w' => ∃ A1 n1 C1 A2 n2 C2 A3 n3 C3 wh, e = .returned (.tuple #[.agg #[.slice A1 n1 C1, .slice A2 n2 C2, .slice A3 n3 C3, .bool wh], .bool false]) ∧ Only [] w w' := by
  refine (searchStates_any cs x fp w h).mono ?_
  rintro e w' ⟨⟨-, A1, n1, C1, A2, n2, C2, A3, n3, C3, wh, rfl⟩ | ⟨t, h1, -⟩, ho⟩
  · exact ⟨A1, n1, C1, A2, n2, C2, A3, n3, C3, wh, rfl, ho⟩
  · rw [he] at h1; cases h1
theorem searchStates_yes (cs : List Value) (x : Puzzle) (t : Table) (fp : List Nat) (w : World) (h : Rp.rep w cs x fp) (he : expl x = some t) :
    Calls Tryz.prog 109 #[.agg cs.toArray] w fun e w' => ∃ A1 n1 C1 A2 n2 C2 A3 n3 C3 wh, e = .returned (.tuple #[.agg #[.slice A1 n1 C1, .slice A2 n2 C2, .slice A3 n3 C3, .bool wh], .bool true]) ∧ SrF w.heap.size w' x t (.agg #[.slice A1 n1 C1, .slice A2 n2 C2, .slice A3 n3 C3, .bool wh]) ∧ Only [] w w' := by
  refine (searchStates_any cs x fp w h).mono ?_
  rintro e w' ⟨⟨h1, -⟩ | ⟨t', h1, v, rfl, h2⟩, ho⟩
  · rw [he] at h1; cases h1
  · rw [he] at h1
    injection h1 with h1
    subst h1
    have h3 := h2
    obtain ⟨A1, A2, A3, C1, C2, C3, so, ob, fps, fd, fz, rfl, -⟩ := h3
    exact ⟨_, _, _, _, _, _, _, _, _, _, rfl, h2, ho⟩
end Go.Proofs.YtclhblofchfglaaGreat

namespace Go.Proofs.YtclhblofchfglaaGreat
open Go.RowKit
set_option maxRecDepth 10000

/-- v is the search that found the entries of t, lists of length m; its memory lies from B on -/
def SrG (m B : Nat) (w : World) (t : Table) (v : Value) : Prop := ∃ A1 A2 A3 C1 C2 C3 so ob fps fd fz, v = .agg #[.slice A1 t.patterns.length C1, .slice A2 t.distances.length C2, .slice A3 (List.length so) C3, .bool true] ∧ SrR w A1 A2 A3 C1 C2 C3 t.patterns t.distances so ob fps fd fz ∧ Srt m t.patterns so ∧ ∀ g ∈ (ob ++ fps.flatten) ++ (fd ++ fz), B ≤ g
theorem SrG.only {m B : Nat} {w w' : World} {t : Table} {v : Value} {fp : List Nat} (h : SrG m B w t v) (ho : Only fp w w') (hd : ∀ g ∈ fp, g < B) : SrG m B w' t v := by
  obtain ⟨A1, A2, A3, C1, C2, C3, so, ob, fps, fd, fz, h1, h2, h3, h4⟩ := h
  exact ⟨A1, A2, A3, C1, C2, C3, so, ob, fps, fd, fz, h1, h2.only ho (fun g hg hm => by have := h4 g hg; have := hd g hm; omega), h3, h4⟩
theorem SrG.keep {m B : Nat} {w w' : World} {t : Table} {v : Value} (h : SrG m B w t v) (ho : Only [] w w') : SrG m B w' t v := h.only ho (by simp)
theorem SrG.mono {m B B' : Nat} {w : World} {t : Table} {v : Value} (h : SrG m B w t v) (hB : B' ≤ B) : SrG m B' w t v := by
  obtain ⟨A1, A2, A3, C1, C2, C3, so, ob, fps, fd, fz, h1, h2, h3, h4⟩ := h
  exact ⟨A1, A2, A3, C1, C2, C3, so, ob, fps, fd, fz, h1, h2, h3, fun g hg => Nat.le_trans hB (h4 g hg)⟩
theorem bTab_from {x : Puzzle} {tr : List Int} {tg : Table} (hv : validPz x = true) (ht : trackB x.points tr = true) (hb : bTab x tr = some tg) {wh : Bool} {L : List (List Int)} {D : List Int} (h : bFrom x 3001 0 ([tr], [0]) = if wh = true then some (L, D) else none) : wh = true ∧ tg.patterns = L ∧ tg.distances = D := by
  unfold bTab at hb
  rw [bfs16_yes (by rw [hv, ht]; rfl), h] at hb
  cases wh with
  | false => cases hb
  | true =>
    injection hb with hb
    subst hb
    exact ⟨rfl, rfl, rfl⟩
theorem searchGoal_any (cs : List Value) (x : Puzzle) (fp : List Nat) (v : Value) (goal : List Int) (ft : List Nat) (tg : Table) (w : World) (h : Rp.rep w cs x fp) (hv : Rd w v goal ft) (hx : validPz x = true) (ht : trackB x.points goal = true) (hb : bTab x goal = some tg) :
    Calls Tryz.prog 155 #[.agg cs.toArray, v] w fun e w' => ∃ A1 A2 A3 C1 C2 C3 n3, e = .returned (.agg #[.slice A1 tg.patterns.length C1, .slice A2 tg.distances.length C2, .slice A3 n3 C3, .bool true]) ∧ SrG goal.length w.heap.size w' tg (.agg #[.slice A1 tg.patterns.length C1, .slice A2 tg.distances.length C2, .slice A3 n3 C3, .bool true]) ∧ Only [] w w' := by
  have hl := (trackB_iff.1 ht).2.len
  have hf := validPz_facts hx
  refine (searchFrom_srt cs x fp v goal ft w h hv hx (trackB_pat ht) (by omega)).mono ?_
  rintro e w' ⟨A1, A2, A3, C1, C2, C3, n3, wh, L, D, fL, fD, rfl, -, -, hq, ho, -, -, -, -, so, ob, fps, fd, fz, rfl, h1, h2, h3⟩
  obtain ⟨rfl, e1, e2⟩ := bTab_from hx ht hb hq
  subst e1
  subst e2
  exact ⟨A1, A2, A3, C1, C2, C3, _, rfl, ⟨A1, A2, A3, C1, C2, C3, so, ob, fps, fd, fz, rfl, h1, h2, h3⟩, ho⟩
set_option maxHeartbeats 2000000 in
theorem depthOf_gen (x : Puzzle) (t : Table) (m : Nat) (v u : Value) (s : List Int) (f : List Nat) (w : World) {B : Nat} (h : SrG m B w t v) (hb : Built x t) (hu : Rd w u s f) (hs : s.length = m) :
    Calls Tryz.prog 134 #[v, u] w fun e w' => e = .returned (.int .i64 (depT t s)) ∧ Only [] w w' := by
  obtain ⟨A1, A2, A3, C1, C2, C3, so, ob, fps, fd, fz, rfl, hR, hS, -⟩ := h
  have hL := hb.ll
  have hdl : t.distances.length = t.patterns.length := hb.bi.dl
  have hnd : t.patterns.Nodup := hb.bi.nd
  have HS := Lib.hid hS
  have Hnd := Lib.hid hnd
  have Hb := Lib.hid hb
  have Hs := Lib.hid hs
  have Hdl := Lib.hid hdl
  clear hS hnd hb hs hdl
  have hB := Blk.new w [.slice A1 t.patterns.length C1, .slice A2 t.distances.length C2, .slice A3 so.length C3, .bool true] 85
  by_cases hm : s ∈ t.patterns
  · obtain ⟨i, hi, e⟩ := List.getElem_of_mem hm
    have hg : t.patterns.getD i [] = s := by rw [getD_get hi, e]
    have hd := depT_yes Hb.out hi
    rw [hg] at hd
    have hid : i < t.distances.length := by rw [Hdl.out]; exact hi
    obtain ⟨b2, off2, rfl, -, hc0⟩ := hR.dp.at_ i hid
    have hdv : t.distances.getD i 0 = t.distances[i] := getD_get hid
    have Hd := Lib.hid (hd.trans hdv)
    have Hg := Lib.hid hg
    clear hm e hg hd hdv
    go_enter Tryz.func134, Tryz.ntmps134
    go_wp2_with (first
      | (go_at_call 126; (with_reducible refine (searchIndex_yes A1 (some ⟨b2, off2, none⟩) A3 C1 C2 C3 true t.patterns t.distances so ob fps fd fz m _ s f _ (hR.keep (by with_reducible repeat (first | exact Only.refl _ _ | assumption | refine Only.drewN ?_ _ | refine Only.drew ?_ | refine Only.alloc ?_ _ | refine Only.setCell ?_ (by intro hh; exfalso; simp at hh; try omega) _ | refine Only.trans ?_ (by assumption)))) HS.out (Rp.keep hu (by with_reducible repeat (first | exact Only.refl _ _ | assumption | refine Only.drewN ?_ _ | refine Only.drew ?_ | refine Only.alloc ?_ _ | refine Only.setCell ?_ (by intro hh; exfalso; simp at hh; try omega) _ | refine Only.trans ?_ (by assumption)))) Hs.out hL i hi Hg.out Hnd.out).mono ?_); rintro e w1 ⟨rfl, t1⟩; have y1 := (hB.keep t1).cell 1 rfl; have y2 := (((Only.refl [] w).alloc _).trans t1).cell (by simp) hc0)
      | fail "no arm")
    go_ret
    exact ⟨ret_int Hd.out.symm, (by with_reducible repeat (first | exact Only.refl _ _ | assumption | refine Only.drewN ?_ _ | refine Only.drew ?_ | refine Only.alloc ?_ _ | refine Only.setCell ?_ (by intro hh; exfalso; simp at hh; try omega) _ | refine Only.trans ?_ (by assumption)))⟩
  · have Hd := Lib.hid (depT_no hm)
    have Hm := Lib.hid hm
    clear hm
    go_enter Tryz.func134, Tryz.ntmps134
    go_wp2_with (first
      | (go_at_call 126; (with_reducible refine (searchIndex_no A1 A2 A3 C1 C2 C3 true t.patterns t.distances so ob fps fd fz m _ s f _ (hR.keep (by with_reducible repeat (first | exact Only.refl _ _ | assumption | refine Only.drewN ?_ _ | refine Only.drew ?_ | refine Only.alloc ?_ _ | refine Only.setCell ?_ (by intro hh; exfalso; simp at hh; try omega) _ | refine Only.trans ?_ (by assumption)))) HS.out (Rp.keep hu (by with_reducible repeat (first | exact Only.refl _ _ | assumption | refine Only.drewN ?_ _ | refine Only.drew ?_ | refine Only.alloc ?_ _ | refine Only.setCell ?_ (by intro hh; exfalso; simp at hh; try omega) _ | refine Only.trans ?_ (by assumption)))) Hs.out hL Hm.out).mono ?_); rintro e w1 ⟨rfl, t1⟩; have y1 := (hB.keep t1).cell 1 rfl)
      | fail "no arm")
    go_ret
    exact ⟨ret_int Hd.out.symm, (by with_reducible repeat (first | exact Only.refl _ _ | assumption | refine Only.drewN ?_ _ | refine Only.drew ?_ | refine Only.alloc ?_ _ | refine Only.setCell ?_ (by intro hh; exfalso; simp at hh; try omega) _ | refine Only.trans ?_ (by assumption)))⟩
end Go.Proofs.YtclhblofchfglaaGreat

namespace Go.Proofs.YtclhblofchfglaaGreat
open Go.RowKit
set_option maxRecDepth 10000

/-- n letters, each the first that leads closer -/
def oW (x : Puzzle) (t : Table) : Nat → List Int → List Int
  | 0, _ => []
  | n + 1, p => descL x t p n :: oW x t n (nxt x p (descL x t p n))
theorem oW_len (x : Puzzle) (t : Table) : ∀ (n : Nat) (p : List Int), (oW x t n p).length = n
  | 0, _ => rfl
  | n + 1, p => by unfold oW; rw [List.length_cons, oW_len x t n]
/-- one letter of the way down -/
structure Down (x : Puzzle) (t : Table) (i : Nat) (n : Nat) (k : Nat) (j : Nat) : Prop where
  hk : k < (ltrs x.moves.length).length
  l : descL x t (t.patterns.getD i []) n = (ltrs x.moves.length)[k]
  hj : j < t.patterns.length
  nx : t.patterns.getD j [] = nxt x (t.patterns.getD i []) (ltrs x.moves.length)[k]
  ds : t.distances.getD j 0 = n
  no : ∀ m (hm : m < k), ∀ i', i' < t.patterns.length → t.patterns.getD i' [] = nxt x (t.patterns.getD i []) ((ltrs x.moves.length)[m]'(Nat.lt_trans hm hk)) → t.distances.getD i' 0 ≠ n ∧ ¬ t.distances.getD i' 0 < (n : Int) + 1
section
variable {x : Puzzle} {t : Table}
theorem Built.mem_of (_ : Built x t) {i : Nat} (hi : i < t.patterns.length) : t.patterns.getD i [] ∈ t.patterns := by rw [getD_get hi]; exact List.getElem_mem hi
theorem Built.down (h : Built x t) {i : Nat} (hi : i < t.patterns.length) {n : Nat} (hd : t.distances.getD i 0 = (n : Int) + 1) : ∃ k j, Down x t i n k j := by
  have hg := ent_nil.1 (h.good i hi)
  have hda : atD t i - 1 = (n : Int) := by rw [atD_nat, hd]; omega
  have hne : descL x t (t.patterns.getD i []) (atD t i - 1) ≠ 0 := hg.2.2.2.2 (by rw [atD_nat, hd]; omega)
  rw [hda] at hne
  rcases @descL_of_dK x t (t.patterns.getD i []) n with ⟨-, h1⟩ | ⟨k, hk, h1, h2⟩
  · exact absurd h1 hne
  · obtain ⟨-, hlead⟩ := descL_leads hne
    obtain ⟨a1, a2⟩ := leads_iffD.1 hlead
    rw [h2] at a1 a2
    have hlt := (idxL_lt (l := t.patterns) (p := nxt x (t.patterns.getD i []) (ltrs x.moves.length)[k])).2
    obtain ⟨j, hj⟩ : ∃ j : Nat, nextI x t (t.patterns.getD i []) (ltrs x.moves.length)[k] = j := ⟨_, (Int.toNat_of_nonneg a1).symm⟩
    have hjl : j < t.patterns.length := by unfold nextI at hj; omega
    have hn := idxL_getD a1
    unfold nextI at hj
    rw [hj, Int.toNat_natCast] at hn
    refine ⟨k, j, hk, h2, hjl, hn, ?_, ?_⟩
    · unfold nextI at a2; rw [hj, atD_nat] at a2; exact a2
    · intro m hm i' hi' e
      have hml : (ltrs x.moves.length)[m]'(Nat.lt_trans hm hk) ∈ ltrs x.moves.length := List.getElem_mem _
      have hne2 : t.distances.getD i' 0 ≠ n := by
        intro e2
        have hl : leads x t (t.patterns.getD i []) n ((ltrs x.moves.length)[m]'(Nat.lt_trans hm hk)) = true := by
          rw [leads_iffD]
          unfold nextI
          rw [← e, h.idx hi', atD_nat]
          exact ⟨by omega, e2⟩
        have hno : ∀ q ∈ (ltrs x.moves.length).take k, leads x t (t.patterns.getD i []) n q = false := by
          have hf : dK x t (t.patterns.getD i []) n = k := h1
          unfold dK idxF at hf
          cases hq : (ltrs x.moves.length).findIdx? (leads x t (t.patterns.getD i []) n) with
          | none => rw [hq] at hf; simp at hf
          | some k' =>
            rw [hq] at hf
            have hf2 : (k' : Int) = k := hf
            have : k' = k := by omega
            subst this
            obtain ⟨_, _, hall⟩ := List.findIdx?_eq_some_iff_getElem.1 hq
            intro q hqm
            rw [List.mem_take_iff_getElem] at hqm
            obtain ⟨m', hm', rfl⟩ := hqm
            simpa using hall m' (by omega)
        have := hno _ (List.mem_take_iff_getElem.2 ⟨m, by omega, rfl⟩)
        rw [hl] at this; cases this
      refine ⟨hne2, fun hlt2 => hne2 ?_⟩
      obtain ⟨i2, b1, b2, b3, b4⟩ := h.step hi hml
      have : i2 = i' := by
        have e3 := b2.trans e.symm
        rw [getD_get b1, getD_get hi'] at e3
        have hnd : t.patterns.Nodup := h.bi.nd
        exact nodup_at hnd b1 hi' e3
      subst this
      omega
theorem Down.oW_ {i n k j : Nat} (h : Down x t i n k j) : oW x t (n + 1) (t.patterns.getD i []) = (ltrs x.moves.length)[k]'h.hk :: oW x t n (t.patterns.getD j []) := by
  show descL x t (t.patterns.getD i []) n :: oW x t n (nxt x (t.patterns.getD i []) (descL x t (t.patterns.getD i []) n)) = _
  rw [h.l, h.nx]
end
theorem expl_pat {x : Puzzle} {t : Table} (he : expl x = some t) {i : Nat} (hi : i < t.patterns.length) : patB x.points x.points.toNat (t.patterns.getD i []) = true := by
  obtain ⟨hb, ht⟩ := expl_built he
  have := hb.bi.pat (t.patterns.getD i []) (hb.mem_of hi)
  rwa [ht, PM.pts_len] at this
theorem expl_len1 {x : Puzzle} {t : Table} (he : expl x = some t) {i : Nat} (hi : i < t.patterns.length) : (t.patterns.getD i []).length = x.points.toNat := (patB_iff.1 (expl_pat he hi)).1
end Go.Proofs.YtclhblofchfglaaGreat

namespace Go.Proofs.YtclhblofchfglaaGreat
open Go.RowKit
set_option maxRecDepth 10000
open Go.Maps (Keyed)

/-- the key of a list: a byte each -/
def kB (l : List Int) : ByteArray := strOfNums (l.map fun x => x % 256)
theorem kB_size (l : List Int) : (kB l).size = l.length := by unfold kB; rw [strOfNums_size, List.length_map]
theorem kB_inj : ∀ {l l' : List Int}, (∀ x ∈ l, 0 ≤ x ∧ x < 256) → (∀ x ∈ l', 0 ≤ x ∧ x < 256) → kB l = kB l' → l = l' := by
  intro l l' h h' he
  have hd : (kB l).data.toList = (kB l').data.toList := by rw [he]
  unfold kB at hd
  rw [strOfNums_data, strOfNums_data, List.map_map, List.map_map] at hd
  clear he
  induction l generalizing l' with
  | nil => cases l' with
    | nil => rfl
    | cons y l' => simp at hd
  | cons x l ih => cases l' with
    | nil => simp at hd
    | cons y l' =>
      simp only [List.map_cons, List.cons.injEq] at hd
      have hx := h x (by simp); have hy := h' y (by simp)
      have e1 : x % 256 = x := Int.emod_eq_of_lt hx.1 hx.2
      have e2 : y % 256 = y := Int.emod_eq_of_lt hy.1 hy.2
      have h1 := hd.1
      simp only [Function.comp, e1, e2] at h1
      have h2 := congrArg UInt8.toNat h1
      rw [UInt8.toNat_ofNat', UInt8.toNat_ofNat'] at h2
      have : x = y := by omega
      subst this
      rw [ih (fun z hz => h z (by simp [hz])) (fun z hz => h' z (by simp [hz])) hd.2]
theorem kB_eq {l l' : List Int} (h : ∀ x ∈ l, 0 ≤ x ∧ x < 256) (h' : ∀ x ∈ l', 0 ≤ x ∧ x < 256) : kB l = kB l' ↔ l = l' := ⟨kB_inj h h', fun e => by rw [e]⟩

theorem Tryz.lawStr : Keyed Tryz.prog 9 := Go.Maps.string_keyed Tryz.underlying9
/-- block M is a map of at most k entries; g: what lies at a key -/
def Mp (w : World) (M k : Nat) (g : ByteArray → Option Int) : Prop :=
  ∃ D : DataW Unit, w.ownsMap Tryz.prog 9 (plainElem Tryz.prog 3) M k D ∧ ∀ s : ByteArray, s.size ≤ maxLen →
    Go.Maps.has D (.string s.data.toList) = (g s).isSome ∧ ∀ n, g s = some n → D.atKey (.string s.data.toList) (.lit (.int .i64 0)) = .lit (.int .i64 n)
theorem Mp.lt {w : World} {M k : Nat} {g : ByteArray → Option Int} (h : Mp w M k g) : M < w.heap.size := by
  obtain ⟨D, h1, -⟩ := h; exact h1.lt
theorem Mp.frame {w w' : World} {M k : Nat} {g : ByteArray → Option Int} (h : Mp w M k g) (hf : w'.heap[M]? = w.heap[M]?) : Mp w' M k g := by
  obtain ⟨D, ⟨es, c, h1, h2⟩, h3⟩ := h
  exact ⟨D, ⟨es, c, by rw [hf]; exact h1, h2⟩, h3⟩
theorem Mp.only {w w' : World} {fp : List Nat} {M k : Nat} {g : ByteArray → Option Int} (h : Mp w M k g) (ho : Only fp w w') (hn : M ∉ fp) : Mp w' M k g := h.frame (ho.block M h.lt hn)
theorem Mp.keep {w w' : World} {M k : Nat} {g : ByteArray → Option Int} (h : Mp w M k g) (ho : Only [] w w') : Mp w' M k g := h.only ho (by simp)
theorem Mp.made (w : World) {M : Nat} (hM : M = w.heap.size) : Mp (w.alloc (.map #[] 0)) M 0 (fun _ => none) := by
  subst hM
  exact ⟨.map [], World.ownsMap_made _ _ _ _, fun s _ => ⟨rfl, by simp⟩⟩
theorem Mp.congr {w : World} {M k : Nat} {g g' : ByteArray → Option Int} (h : Mp w M k g) (hg : ∀ s, g s = g' s) : Mp w M k g' := by
  have : g = g' := funext hg
  rw [← this]; exact h
section
variable {w : World} {M k : Nat} {g : ByteArray → Option Int}
end

theorem Tryz.infoByte : (Tryz.prog.info? 5).map (fun i => (i.zero, i.size, i.bytes)) = some (some (.int .u8 0), 1, 1) := by kernel_rfl
theorem madeBytes (n : Nat) : (madeCells (Value.cells (.int .u8 0)) n).toList = List.replicate n (.int .u8 0) := by
  apply List.ext_getElem (by simp [madeCells])
  intro i h1 h2
  simp [madeCells, Value.cells, Nat.mod_one]
theorem step_bytes (l : List Int) (j : Nat) (hj : j < l.length) : ((l.take j).map (fun x => Value.int .u8 (x % 256)) ++ List.replicate (l.length - j) (Value.int .u8 0)).set j (.int .u8 (l[j] % 256)) = (l.take (j + 1)).map (fun x => Value.int .u8 (x % 256)) ++ List.replicate (l.length - (j + 1)) (.int .u8 0) := by
  have hl : ((l.take j).map (fun x => Value.int .u8 (x % 256))).length = j := by rw [List.length_map, List.length_take]; omega
  rw [show l.length - j = (l.length - (j + 1)) + 1 by omega, List.replicate_succ, List.set_append_right _ _ (by omega), hl, Nat.sub_self, take_succ_get l j hj]
  simp only [List.map_append, List.map_cons, List.map_nil, List.append_assoc, List.cons_append, List.nil_append, List.set_cons_zero]
set_option maxHeartbeats 1000000 in
theorem stateKey_rd (v : Value) (l : List Int) (fp : List Nat) (w : World) (h : Rd w v l fp) (hl : l.length ≤ 1000) :
    Calls Tryz.prog 160 #[v] w fun e w' => e = .returned (.string (kB l)) ∧ Only [] w w' := by
  obtain ⟨a, cap, rfl, hI⟩ := h.ints
  obtain ⟨i0, hi, hz0, hz1, hz2⟩ := info_parts Tryz.infoByte
  go_enter Tryz.func160, Tryz.ntmps160
  go_wp2_with (at_make; refine wpList_make_full _ rfl _ _ 190 rfl w.heap.size 5 i0 _ 1 Tryz.underlying190 hi hz0 hz1 _ _ _ _ l.length rfl rfl rfl rfl (by rw [hz2]; omega) (by unfold maxLen; omega) (Nat.le_refl _) ?_; intro w1 hown hg)
  rw [madeBytes, Nat.mul_one] at hown
  go_loopw [11] (fun i wr => ∃ j : Nat, j ≤ l.length ∧ i = .int .i64 j ∧
      wr.ownsRow w.heap.size 5 1 (.slice (some ⟨w.heap.size, 0, none⟩) l.length l.length) l.length ((l.take j).map (fun x => Value.int .u8 (x % 256)) ++ List.replicate (l.length - j) (.int .u8 0)) ∧ Only [] w wr)
    (fun i _ => l.length - (intOf i).toNat)
  case atStart => exact ⟨0, Nat.zero_le _, rfl, by simpa using hown, (Only.refl _ _).grown hg (by simp)⟩
  case round =>
    obtain ⟨j, hj, rfl, hO, hK⟩ := hrel
    by_cases hlt : j < l.length
    · obtain ⟨b, off, rfl, -, hc0⟩ := hI.at_ j hlt
      have hc := hK.cell (by simp) hc0
      have hO2 := (hO.stored j (.int .u8 (l[j] % 256))).1
      rw [step_bytes l j hlt] at hO2
      obtain ⟨z2, hc2⟩ : ∃ z, wr.cell? ⟨w.heap.size, j, none⟩ = some z := by
        rw [hO.cellAt j (by omega)]
        exact ⟨_, List.getElem?_eq_getElem (by simp; omega)⟩
      have hf2 := hO.frozenAt j
      have hK2 := hK.setCell (p := ⟨w.heap.size, j, none⟩) (by simp) (.int .u8 (l[j] % 256))
      have HO := Lib.hid hO2
      clear hO hO2 hown hc0
      go_wp2
      go_roundw
      case rel => exact ⟨j + 1, by omega, by go_num, HO.out, hK2⟩
      case measure => simp [intOf]; omega
    · have hjl : j = l.length := by omega
      rw [hjl] at hO
      simp only [Nat.sub_self, List.replicate_zero, List.append_nil, List.take_length] at hO
      have hcv := run_convert_bytes_arg (P := Tryz.prog) wr 190 5 Tryz.underlying190 Tryz.underlying5 w.heap.size 0 l.length l.length (l.map fun x => x % 256) (by simp) (fun i hi => by
        rw [Nat.zero_add, hO.cellAt i (by omega)]
        simp [hi]) 9 Tryz.underlying9
      have hKB : strOfNums (l.map fun x => x % 256) = kB l := rfl
      rw [hKB] at hcv
      clear hjl hO hown hKB
      go_wp2
      go_ret
      exact ⟨rfl, hK⟩
end Go.Proofs.YtclhblofchfglaaGreat

namespace Go.Proofs.YtclhblofchfglaaGreat
open Go.RowKit
set_option maxRecDepth 10000
open Go.Maps (Keyed)
/-- block M is a map of at most k entries; g: the truth value at a key -/
def MpB (w : World) (M k : Nat) (g : ByteArray → Bool) : Prop :=
  ∃ D : DataW Unit, w.ownsMap Tryz.prog 9 (plainElem Tryz.prog 4) M k D ∧ ∀ s : ByteArray, s.size ≤ maxLen →
    D.atKey (.string s.data.toList) (.lit (.bool false)) = .lit (.bool (g s))
theorem MpB.lt {w : World} {M k : Nat} {g : ByteArray → Bool} (h : MpB w M k g) : M < w.heap.size := by
  obtain ⟨D, h1, -⟩ := h; exact h1.lt
theorem MpB.frame {w w' : World} {M k : Nat} {g : ByteArray → Bool} (h : MpB w M k g) (hf : w'.heap[M]? = w.heap[M]?) : MpB w' M k g := by
  obtain ⟨D, ⟨es, c, h1, h2⟩, h3⟩ := h
  exact ⟨D, ⟨es, c, by rw [hf]; exact h1, h2⟩, h3⟩
theorem MpB.only {w w' : World} {fp : List Nat} {M k : Nat} {g : ByteArray → Bool} (h : MpB w M k g) (ho : Only fp w w') (hn : M ∉ fp) : MpB w' M k g := h.frame (ho.block M h.lt hn)
theorem MpB.keep {w w' : World} {M k : Nat} {g : ByteArray → Bool} (h : MpB w M k g) (ho : Only [] w w') : MpB w' M k g := h.only ho (by simp)
theorem MpB.made (w : World) {M : Nat} (hM : M = w.heap.size) : MpB (w.alloc (.map #[] 0)) M 0 (fun _ => false) := by
  subst hM
  exact ⟨.map [], World.ownsMap_made _ _ _ _, fun s _ => rfl⟩
theorem MpB.congr {w : World} {M k : Nat} {g g' : ByteArray → Bool} (h : MpB w M k g) (hg : ∀ s, g s = g' s) : MpB w M k g' := by
  have : g = g' := funext hg
  rw [← this]; exact h
section
variable {w : World} {M k : Nat} {g : ByteArray → Bool}
/-- m[k] = v -/
theorem MpB.run_put (h : MpB w M k g) {s : ByteArray} (hs : s.size ≤ maxLen) (b : Bool) (hk : k < maxLen) :
    ∃ w', (Instr.mapUpdate 203 (.map (some M)) (.string s) (.bool b)).run Tryz.prog w = .ok () w' ∧ MpB w' M (k + 1) (fun s' => if s' = s then b else g s') ∧ Only [M] w w' := by
  obtain ⟨D, hown, hg⟩ := h
  obtain ⟨w', hrun, r1, r2⟩ := hown.store Tryz.lawStr Tryz.underlying203 hk (Go.WideMaps.keyOf_string_mk Tryz.underlying9 hs) (plainElem_bool Tryz.underlying4 b)
  have hmap := hown.isMap
  refine ⟨w', hrun, ⟨_, r1, fun s' hs' => ?_⟩, ?_⟩
  · by_cases he : s' = s
    · subst he
      have hkl : WideAt.IsKeyLit (Lit.string s'.data.toList) := trivial
      rw [Go.Maps.atKey_put_same hmap hkl]; simp
    · have hne : (Lit.string s'.data.toList) ≠ .string s.data.toList := by
        intro e; injection e with e
        apply he
        have : s'.data = s.data := Array.toList_inj.1 e
        cases s'; cases s; simp at this; rw [this]
      rw [Go.Maps.atKey_put_other hne]; simp [he]; exact hg s' hs'
  · exact (Only.refl _ _).grown r2.grown (by intro j hj _; injection hj with hj; subst hj; simp)
end
end Go.Proofs.YtclhblofchfglaaGreat

namespace Go.Proofs.YtclhblofchfglaaGreat
open Go.RowKit
set_option maxRecDepth 10000

/-- a literal of one element, to which a loop appends -/
theorem Acc.one {α : Type} [Rp α] {w : World} (B : Nat) (e : TypeId) {cs : List Value} {x : α} {fp : List Nat} (h : Rp.rep w cs x fp) {g : Nat} (hg : g = w.heap.size) (hB : B ≤ g) : Acc B e (w.alloc (.cells cs.toArray e)) (.slice (some ⟨g, 0, none⟩) 1 1) [x] [fp] := by
  subst hg
  have hk : Only [] w (w.alloc (.cells cs.toArray e)) := (Only.refl _ _).alloc _
  refine ⟨⟨[cs], ⟨by simp [Rp.len h], .inr ⟨w.heap.size, 1, cs.toArray, rfl, hB, heap_alloc_new w _, Nat.le_refl _, by unfold maxLen; omega, by simp [Rp.len h], by simpa using List.take_of_length_le (Nat.le_of_eq (Rp.len h))⟩⟩, rfl, fun k h1 h2 h3 => ?_⟩, rfl, ?_⟩
  · have : k = 0 := by simpa using h1
    subst this
    exact Rp.keep h hk
  · intro g hg hm
    simp only [Value.ownBlock, Option.some.injEq] at hg
    subst hg
    have := Rp.lt h _ (by simpa using hm)
    omega
section
variable {P : Program} {α : Type} [Rp α] {ops : Array Oper} {rest : List Oper} {o : Oper} {a : Act} {w : World} {Q : Exit → Act → World → Prop}
theorem wpList_push2w (hgd : o.guard = none) (s x : Operand) (t : TypeId)
    (ho : o.op = .call { callee := .builtin .append, args := #[s, x], argTypes := #[t, t] })
    (B : Nat) (e : TypeId) (i : TypeInfo) (z : Value) (bytes : Nat) (ht : P.underlying t = some (.slice e)) (hi : P.info? e = some i) (hz : i.zero = some z)
    (hsize : i.size = Rp.size α) (hby : i.bytes = bytes) (hzs : z.cells.size = Rp.size α) (hsz : 0 < Rp.size α) (hbb : bytes ≤ 65536)
    (w0 : World) (v : Value) (l : List α) (fs : List (List Nat)) (hs : a.eval s = v) (hA : Acc B e w0 v l fs) (hK0 : Only [] w0 w) (hB : B ≤ w0.heap.size)
    (g c : Nat) (cs : List Value) (y : α) (fp : List Nat) (hx : a.eval x = .slice (some ⟨g, 0, none⟩) 1 c) (hsrc : ∀ j u, cs[j]? = some u → w.cell? ⟨g, j, none⟩ = some u) (hcs : ∀ u ∈ cs, u.oneCell' = true)
    (hy : Rp.rep w cs y fp) (hap : ∀ b ∈ fp, v.ownBlock ≠ some b) (hlen : l.length + 1 ≤ 1073741824)
    (h : ∀ v' w', Acc B e w' v' (l ++ [y]) (fs ++ [fp]) → Only v.ownBlock.toList w w' → (∀ wz, Only [] wz w → wz.heap.size ≤ B → Only [] wz w') →
      (Fresh B w0 fs.flatten → Fresh w0.heap.size w fp → Fresh B w' (fs ++ [fp]).flatten) → (v'.ownBlock = v.ownBlock ∨ v'.ownBlock = some w.heap.size) → wpList P ops Q rest (a.put o.dst v') w') : wpList P ops Q (o :: rest) a w :=
  wpList_plain hgd fun _ hK => wp_push2 s x t ho B e i z bytes ht hi hz hsize hby hzs hsz hbb w0 v l fs hs hA hK0 hB g c cs y fp hx hsrc hcs hy hap hlen fun v' w' h1 h2 h3 h4 h5 => hK _ _ (h v' w' h1 h2 h3 h4 h5)
end
/-- which keys are met -/
def metB (L : List (List Int)) (s : ByteArray) : Bool := L.any fun q => decide (kB q = s)
/-- the program's search under way: lo: the call's begin; m1, W: begin and end of the making of the moves -/
structure PBf (x : Puzzle) (m : Nat) (w : World) (m1 : Nat) (W : World) (M : Nat) (L : List (List Int)) (D : List Int) (wr : World) (v1 v2 : Value) (fs fd : List (List Nat)) : Prop where
  acc : Acc w.heap.size 25 wr v1 L fs
  dep : Acc w.heap.size 2 wr v2 D fd
  fr : Fresh w.heap.size wr fs.flatten
  mp : MpB wr M L.length (metB L)
  dl : D.length = L.length
  ll : L.length ≤ 3000
  pat : ∀ q ∈ L, patB x.points m q = true
  rng : ∀ d ∈ D, 0 ≤ d ∧ d ≤ D.length
  a2 : ∀ g, v2.ownBlock = some g → v1.ownBlock ≠ some g ∧ g ∉ fs.flatten ∧ g ≠ M
  a1 : v1.ownBlock ≠ some M ∧ M ∉ fs.flatten
  zone : ∀ g, (g = M ∨ v1.ownBlock = some g ∨ v2.ownBlock = some g) → (w.heap.size ≤ g ∧ g < m1) ∨ W.heap.size ≤ g
  keep : ∀ g, (g < w.heap.size ∨ (m1 ≤ g ∧ g < W.heap.size)) → wr.heap[g]? = W.heap[g]?
  on : Only [] w wr
  sz : W.heap.size ≤ wr.heap.size
  mw : w.heap.size ≤ m1 ∧ m1 ≤ W.heap.size
section
variable {x : Puzzle} {m : Nat} {w : World} {m1 : Nat} {W : World} {M : Nat} {L : List (List Int)} {D : List Int} {wr : World} {v1 v2 : Value} {fs fd : List (List Nat)}
theorem PBf.only {wr' : World} (h : PBf x m w m1 W M L D wr v1 v2 fs fd) (ho : Only [] wr wr') : PBf x m w m1 W M L D wr' v1 v2 fs fd :=
  ⟨h.acc.keep ho, h.dep.keep ho, h.fr.keep ho, h.mp.keep ho, h.dl, h.ll, h.pat, h.rng, h.a2, h.a1, h.zone, fun g hg => by
    have hz := h.sz; have hw := h.mw
    rw [ho.block g (by omega) (by simp)]; exact h.keep g hg, h.on.trans ho, Nat.le_trans h.sz ho.size, h.mw⟩
/-- from a world on, in which all the search's memory lies already -/
theorem PBf.start {W5 : World} (h : PBf x m w m1 W M L D wr v1 v2 fs fd) (ho : Only [] wr W5) : PBf x m w wr.heap.size W5 M L D W5 v1 v2 fs fd := by
  have hw := h.mw; have hz := h.sz
  refine ⟨h.acc.keep ho, h.dep.keep ho, h.fr.keep ho, h.mp.keep ho, h.dl, h.ll, h.pat, h.rng, h.a2, h.a1, fun g hg => .inl ?_, fun g _ => rfl, h.on.trans ho, Nat.le_refl _, by omega, ho.size⟩
  have h1 := h.zone g hg
  refine ⟨by omega, ?_⟩
  rcases hg with rfl | hg | hg
  · exact h.mp.lt
  · exact (h.acc.ownlt g hg).2
  · exact (h.dep.ownlt g hg).2
theorem PBf.fd0 (h : PBf x m w m1 W M L D wr v1 v2 fs fd) : fd.flatten = [] := by
  obtain ⟨css, ho, hcl, hr⟩ := h.dep.own
  have hl := h.dep.fl
  have : fd = List.replicate fd.length [] := by
    apply List.ext_getElem (by simp)
    intro k h1 h2
    have := (hr k (by omega) (by omega) h1).2.2
    simpa using this
  rw [this]; exact flatten_nil _
/-- a new pattern is met: the map, the list, the depths -/
theorem PBf.step {wp wa wb wc wd : World} {v1' v2' : Value} {s : List Int} {d : Int} {f : List Nat}
    (h : PBf x m w m1 W M L D wr v1 v2 fs fd) (hL : L.length < 3000) (hp : patB x.points m s = true) (hd : 0 ≤ d ∧ d ≤ D.length + 1)
    (hm : MpB wp M (L.length + 1) (metB (L ++ [s]))) (ho : Only [M] wr wp)
    (ka : Only [] wp wa) (hA : Acc w.heap.size 25 wb v1' (L ++ [s]) (fs ++ [f])) (oA : Only v1.ownBlock.toList wa wb) (nA : v1'.ownBlock = v1.ownBlock ∨ v1'.ownBlock = some wa.heap.size) (hF : Fresh w.heap.size wb (fs ++ [f]).flatten) (hfM : M ∉ f) (hf2 : ∀ g ∈ f, wr.heap.size ≤ g ∨ v2.ownBlock ≠ some g)
    (kc : Only [] wb wc) (hD : Acc w.heap.size 2 wd v2' (D ++ [d]) (fd ++ [[]])) (oD : Only v2.ownBlock.toList wc wd) (nD : v2'.ownBlock = v2.ownBlock ∨ v2'.ownBlock = some wc.heap.size) :
    PBf x m w m1 W M (L ++ [s]) (D ++ [d]) wd v1' v2' (fs ++ [f]) (fd ++ [[]]) := by
  have s1 := ho.size; have s2 := ka.size; have s3 := oA.size; have s4 := kc.size; have s5 := oD.size
  have hz := h.sz; have hw := h.mw
  have hMl := h.mp.lt
  have l1 := h.acc.ownlt
  have l2 := h.dep.ownlt
  have hfl := h.fr.lt
  have hff : (fs ++ [f]).flatten = fs.flatten ++ f := by simp
  have hfs : ∀ g, v2.ownBlock = some g → g ∉ (fs ++ [f]).flatten := fun g hg hm => by
    rw [hff] at hm
    rcases List.mem_append.1 hm with hm | hm
    · exact (h.a2 g hg).2.1 hm
    · have := l2 g hg
      rcases hf2 g hm with h3 | h3
      · omega
      · exact h3 hg
  have hv12 : ∀ g, v2.ownBlock = some g → v1'.ownBlock ≠ some g := fun g hg he => by
    rcases nA with h3 | h3
    · exact (h.a2 g hg).1 (by rw [← h3]; exact he)
    · rw [h3] at he; injection he with he; have := l2 g hg; omega
  have hmM : ∀ g, v1.ownBlock = some g → g ≠ M := fun g hg e => h.a1.1 (by rw [hg, e])
  have hM1 : v1'.ownBlock ≠ some M := fun he => by
    rcases nA with h3 | h3
    · exact h.a1.1 (by rw [← h3]; exact he)
    · rw [h3] at he; injection he with he; omega
  have hM1' : M ∉ v1.ownBlock.toList := by simpa using h.a1.1
  have hM2' : M ∉ v2.ownBlock.toList := by simp; intro he; exact (h.a2 M he).2.2 rfl
  have hN : ∀ g, v1'.ownBlock = some g → v1.ownBlock = some g ∨ W.heap.size ≤ g := fun g hg => by
    rcases nA with h3 | h3
    · exact .inl (by rw [← h3]; exact hg)
    · rw [h3] at hg; injection hg with hg; right; omega
  have hN2 : ∀ g, v2'.ownBlock = some g → v2.ownBlock = some g ∨ wb.heap.size ≤ g := fun g hg => by
    rcases nD with h3 | h3
    · exact .inl (by rw [← h3]; exact hg)
    · rw [h3] at hg; injection hg with hg; right; omega
  have hko : Only (M :: (v1.ownBlock.toList ++ v2.ownBlock.toList)) wr wd :=
    ((((ho.mono (by simp)).keepThen ka).then_ oA (by intro b hb _; simp at hb ⊢; simp [hb])).keepThen kc).then_ oD (by intro b hb _; simp at hb ⊢; simp [hb])
  refine ⟨hA.only (kc.weaken _ |>.trans oD) (fun b hb hm => hfs b (by simpa using hm) hb) (fun g hg hm => hv12 g (by simpa using hm) hg), hD,
    hF.only (kc.weaken _ |>.trans oD) (fun b hb hm => hfs b (by simpa using hm) hb),
    by simpa using ((((hm.keep ka).only oA hM1').keep kc).only oD hM2'), by simp [h.dl], by simp; omega, ?_, ?_, ?_, ⟨hM1, ?_⟩, ?_, fun g hg => ?_, ?_, by omega, h.mw⟩
  · intro q hq
    rcases List.mem_append.1 hq with hq | hq
    · exact h.pat q hq
    · simp at hq; subst hq; exact hp
  · intro q hq
    rw [List.length_append, List.length_singleton]
    rcases List.mem_append.1 hq with hq | hq
    · have := h.rng q hq; omega
    · simp at hq; subst hq; omega
  · intro g hg
    rcases hN2 g hg with h3 | h3
    · exact ⟨hv12 g h3, hfs g h3, (h.a2 g h3).2.2⟩
    · refine ⟨fun he => ?_, fun hm => ?_, by omega⟩
      · have := (hA.ownlt g he).2; omega
      · have := hF.lt g hm; omega
  · rw [hff]; intro hm
    rcases List.mem_append.1 hm with hm | hm
    · exact h.a1.2 hm
    · exact hfM hm
  · rintro g (rfl | hg | hg)
    · exact h.zone _ (.inl rfl)
    · rcases hN g hg with h3 | h3
      · exact h.zone g (.inr (.inl h3))
      · exact .inr h3
    · rcases hN2 g hg with h3 | h3
      · exact h.zone g (.inr (.inr h3))
      · right; omega
  · rw [hko.block g (by omega) (fun hm => ?_)]
    · exact h.keep g hg
    · simp only [List.mem_cons, List.mem_append, Option.mem_toList] at hm
      have := h.zone g (by rcases hm with hm | hm | hm; exact .inl hm; exact .inr (.inl hm); exact .inr (.inr hm))
      omega
  · refine h.on.then_ hko (fun g hm hg => ?_)
    simp only [List.mem_cons, List.mem_append, Option.mem_toList] at hm
    have := h.zone g (by rcases hm with hm | hm | hm; exact .inl hm; exact .inr (.inl hm); exact .inr (.inr hm))
    omega
/-- what the search hands back -/
theorem PBf.out (h : PBf x m w m1 W M L D wr v1 v2 fs fd) : Rd wr v1 L (v1.ownBlock.toList ++ fs.flatten) ∧ Rd wr v2 D v2.ownBlock.toList ∧ Fresh w.heap.size wr ((v1.ownBlock.toList ++ fs.flatten) ++ v2.ownBlock.toList) := by
  have h0 := h.fd0
  have h2 := h.dep.rd (by decide)
  rw [h0, List.append_nil] at h2
  have hf1 := h.acc.fresh h.fr
  have hf2 := h.dep.fresh (by rw [h0]; exact Fresh.nil _ _)
  rw [h0, List.append_nil] at hf2
  refine ⟨h.acc.rd (by decide), h2, List.nodup_append.2 ⟨hf1.nd, hf2.nd, fun a ha b hb e => ?_⟩, fun b hb => ?_, hf1.own.append hf2.own⟩
  · subst e
    have hb' : v2.ownBlock = some a := by simpa using hb
    rcases List.mem_append.1 ha with ha | ha
    · exact (h.a2 a hb').1 (by simpa using ha)
    · exact (h.a2 a hb').2.1 ha
  · rcases List.mem_append.1 hb with hb | hb
    · exact hf1.ge b hb
    · exact hf2.ge b hb
theorem PBf.old (h : PBf x m w m1 W M L D wr v1 v2 fs fd) {β : Type} [Rp β] {cs : List Value} {y : β} {fp : List Nat} (hr : Rp.rep W cs y fp) (hf : ∀ g ∈ fp, g < w.heap.size ∨ (m1 ≤ g ∧ g < W.heap.size)) : Rp.rep wr cs y fp :=
  Rp.frame hr fun g hg => h.keep g (hf g hg)
end
end Go.Proofs.YtclhblofchfglaaGreat
