/- A table without faults has exactly the patterns and distances of the built one, in some order: plain law (law 26). The reference's BuildTable with a result that can be written to and appended to; TableLookup, PatternOf (laws 26, 49). (Printed by mkblda.py.) A table under way in memory of the call's own: its entries can be written over (laws 26, 49). Faults in plain words: lists of them in memory; descents. -/
import Derived.Test.YtpkplmnpepkdaaaRowVerifiedTablesG7
import Derived.Test.YtpkplmnpepkdaaaRowVerifiedTablesG13
import Derived.Test.YtpkplmnpepkdaaaRowVerifiedTablesG11
import Derived.Test.YtpkplmnpepkdaaaRowVerifiedTablesG4
import Derived.Test.YtpkplmnpepkdaaaRowVerifiedTablesG2
import Derived.Test.YtpkplmnpepkdaaaRowVerifiedTablesG3
import Derived.Deep.RegionHeld3
import Derived.RangeFuncBox
import Derived.RangeFuncLeaves
import Derived.RangeFuncWrites
import Derived.RangeFuncNested
import Derived.Shelf.Abstract
import Derived.OwnWalkIn
import Derived.TacticsInMore
import Derived.LoopNIn
import Derived.LoopIn
import Derived.Maps.AppendAt
import Derived.Test.YtpkplmnpepkdaaaRowVerifiedTablesG14
import Derived.Test.YtpkplmnpepkdaaaRowVerifiedTablesG8
namespace Go.Proofs.Ytpkplmnpepkdaaa
open Go.RowKit
set_option maxRecDepth 10000

section
variable {x : Puzzle} {t t' : Table}
theorem idxL_nat {l : List (List Int)} {p : List Int} (h : p ∈ l) : ∃ i : Nat, idxL l p = i ∧ i < l.length ∧ l.getD i [] = p := by
  have h0 : 0 ≤ idxL l p := by
    rcases idxF_nonneg_or (fun q => decide (q = p)) l with h1 | ⟨k, hk, h1, -⟩
    · exfalso
      unfold idxF at h1
      cases hf : l.findIdx? (fun q => decide (q = p)) with
      | none =>
        have := List.findIdx?_eq_none_iff.1 hf p h
        simp at this
      | some i => rw [hf] at h1; dsimp only at h1; omega
    · unfold idxL; omega
  have h2 := (idxL_lt (l := l) (p := p)).2
  obtain ⟨i, hi⟩ : ∃ i : Nat, idxL l p = i := ⟨(idxL l p).toNat, (Int.toNat_of_nonneg h0).symm⟩
  refine ⟨i, hi, by omega, ?_⟩
  have := idxL_getD h0
  rw [hi, Int.toNat_natCast] at this
  exact this
theorem idxL_self {l : List (List Int)} (hn : l.Nodup) {i : Nat} (hi : i < l.length) : idxL l (l.getD i []) = i := by
  have hm : l.getD i [] ∈ l := by rw [getD_get hi]; exact List.getElem_mem hi
  obtain ⟨j, h1, h2, h3⟩ := idxL_nat hm
  rw [getD_get h2, getD_get hi] at h3
  rw [h1, nodup_at hn h2 hi h3]
/-- a table without faults holds each pattern once -/
theorem Good.nodup (h : Good x t) : t.patterns.Nodup := by
  rw [List.nodup_iff_pairwise_ne, List.pairwise_iff_getElem]
  intro i j hi hj hij he
  have := (ent_nil.1 (h j hj)).2.1
  have hm : t.patterns[j] ∈ t.patterns.take j := by
    rw [← he]; exact List.mem_take_iff_getElem.2 ⟨i, by omega, rfl⟩
  have h2 : idxL t.patterns (atP t j) < j := by
    rw [atP_of hj]
    unfold idxL idxF
    cases hf : t.patterns.findIdx? (fun q => decide (q = t.patterns[j])) with
    | none =>
      have := List.findIdx?_eq_none_iff.1 hf _ (List.getElem_mem hj)
      simp at this
    | some k =>
      obtain ⟨hk, -, hlt⟩ := List.findIdx?_eq_some_iff_getElem.1 hf
      dsimp only
      rcases Nat.lt_or_ge i k with h3 | h3
      · have := hlt i h3
        simp [he] at this
      · omega
  omega
/-- what a table without faults holds, another one holds too, with no greater distance -/
theorem Good.sub (h : Good x t) (h' : Good x t') (hne' : 0 < t'.patterns.length) (ht : t'.tracked = t.tracked) (hv : validPz x = true) (hp : ∀ p ∈ t.patterns, patB x.points t.tracked.length p = true) : ∀ (n : Nat) (i : Nat), i < t.patterns.length → atD t i = n → ∃ j : Nat, j < t'.patterns.length ∧ t'.patterns.getD j [] = t.patterns.getD i [] ∧ atD t' j ≤ n
  | 0, i, hi, hd => by
    have e := ent_nil.1 (h i hi)
    have e' := ent_nil.1 (h' 0 hne')
    have h0 : i = 0 := by
      rcases Nat.eq_zero_or_pos i with h1 | h1
      · exact h1
      · exact absurd (by simpa using hd) (e.2.2.1 h1)
    subst h0
    have a := (e.1 rfl).2
    have a' := (e'.1 rfl).2
    have d' := (e'.1 rfl).1
    refine ⟨0, hne', ?_, by show atD t' ((0 : Nat) : Int) ≤ _; rw [show atD t' ((0 : Nat) : Int) = 0 from d']; exact Int.le_refl _⟩
    show atP t' 0 = atP t 0
    rw [a, a', ht]
  | n + 1, i, hi, hd => by
    have e := ent_nil.1 (h i hi)
    have hne := e.2.2.2.2 (by rw [hd]; omega)
    obtain ⟨hl, hlead⟩ := descL_leads hne
    obtain ⟨a1, a2⟩ := leads_iffD.1 hlead
    obtain ⟨l, hle⟩ : ∃ l, l = descL x t (atP t i) (atD t i - 1) := ⟨_, rfl⟩
    rw [← hle] at hl a1 a2
    have hlt := (idxL_lt (l := t.patterns) (p := nxt x (atP t i) l)).2
    obtain ⟨k, hk⟩ : ∃ k : Nat, nextI x t (atP t i) l = k := ⟨_, (Int.toNat_of_nonneg a1).symm⟩
    have hkl : k < t.patterns.length := by unfold nextI at hk; omega
    have hkp : t.patterns.getD k [] = nxt x (atP t i) l := by
      have := idxL_getD a1
      unfold nextI at hk
      rw [hk, Int.toNat_natCast] at this
      exact this
    rw [hk] at a2
    obtain ⟨j, b1, b2, b3⟩ := Good.sub h h' hne' ht hv hp n k hkl (by rw [a2, hd]; omega)
    have e' := ent_nil.1 (h' j b1)
    obtain ⟨c1, c2, c3⟩ := e'.2.2.2.1 (-l) (ltrs_neg hl)
    have hpi : patB x.points t.tracked.length (atP t i) = true := hp _ (by rw [atP_of hi]; exact List.getElem_mem hi)
    have hback : nxt x (atP t' j) (-l) = atP t i := by
      show nxt x (t'.patterns.getD j []) (-l) = atP t i
      rw [b2, hkp]
      exact nxt_back hv hpi hl
    obtain ⟨m, hm⟩ : ∃ m : Nat, nextI x t' (atP t' j) (-l) = m := ⟨_, (Int.toNat_of_nonneg c1).symm⟩
    have hml := (idxL_lt (l := t'.patterns) (p := nxt x (atP t' j) (-l))).2
    have hmm : m < t'.patterns.length := by unfold nextI at hm; omega
    have hmp : t'.patterns.getD m [] = nxt x (atP t' j) (-l) := by
      have := idxL_getD c1
      unfold nextI at hm
      rw [hm, Int.toNat_natCast] at this
      exact this
    rw [hm] at c2 c3
    refine ⟨m, hmm, by rw [hmp, hback]; rfl, ?_⟩
    omega
theorem Good.dnat (h : Good x t) (hc : checkT x t = true) {i : Nat} (hi : i < t.patterns.length) : ∃ n : Nat, atD t i = n := ⟨(atD t i).toNat, (Int.toNat_of_nonneg (h.dist0 hc i hi)).symm⟩
theorem built_nodup (h : Built x t) : t.patterns.Nodup := h.good.nodup
/-- what a lookup gives -/
def lookV (t : Table) (p : List Int) : Int := if wfT t = true then (if idxL t.patterns p < 0 then -1 else atD t (idxL t.patterns p)) else -1
theorem lookV_at {p : List Int} {i : Nat} (hw : wfT t = true) (h : idxL t.patterns p = i) : lookV t p = atD t i := by
  unfold lookV
  rw [if_pos hw, h, if_neg (by omega)]
theorem Built.dn (h : Built x t) {i : Nat} (hi : i < t.patterns.length) : 0 ≤ atD t i := h.good.dist0 h.check i hi
theorem ver_to (hb : Built x t') (htr : t'.tracked = t.tracked) (hc : checkT x t = true) (h : Good x t) : t'.patterns.length = t.patterns.length ∧ wfT t = true ∧ t.patterns.getD 0 [] = t.tracked ∧ ∀ i : Nat, i < t'.patterns.length → lookV t (t'.patterns.getD i []) = atD t' i := by
  have hk := checkT_iff.1 hc
  have hw := wfT_iff.1 hk.2.1
  have hk' := checkT_iff.1 hb.check
  have hw' := wfT_iff.1 hk'.2.1
  have h0 : 0 < t.patterns.length := by omega
  have h0' : 0 < t'.patterns.length := by omega
  have hA := Good.sub h hb.good h0' htr hk.1 hk.2.2.2
  have hB := Good.sub hb.good h h0 htr.symm hk'.1 hk'.2.2.2
  have s1 : t.patterns ⊆ t'.patterns := fun p hp => by
    obtain ⟨i, hi, rfl⟩ := List.getElem_of_mem hp
    obtain ⟨n, hn⟩ := h.dnat hc hi
    obtain ⟨j, j1, j2, -⟩ := hA n i hi hn
    rw [getD_get hi, getD_get j1] at j2
    rw [← j2]; exact List.getElem_mem j1
  have s2 : t'.patterns ⊆ t.patterns := fun p hp => by
    obtain ⟨i, hi, rfl⟩ := List.getElem_of_mem hp
    obtain ⟨n, hn⟩ := hb.good.dnat hb.check hi
    obtain ⟨j, j1, j2, -⟩ := hB n i hi hn
    rw [getD_get hi, getD_get j1] at j2
    rw [← j2]; exact List.getElem_mem j1
  have l1 := PM.nodup_sub_len h.nodup s1
  have l2 := PM.nodup_sub_len (built_nodup hb) s2
  refine ⟨by omega, hk.2.1, ((ent_nil.1 (h 0 h0)).1 rfl).2, fun i hi => ?_⟩
  obtain ⟨n, hn⟩ := hb.good.dnat hb.check hi
  obtain ⟨j, j1, j2, j3⟩ := hB n i hi hn
  obtain ⟨m, hm⟩ := h.dnat hc j1
  obtain ⟨k, k1, k2, k3⟩ := hA m j j1 hm
  have hki : k = i := by
    rw [j2, getD_get k1, getD_get hi] at k2
    exact nodup_at (built_nodup hb) k1 hi k2
  subst hki
  have hij : idxL t.patterns (t'.patterns.getD k []) = j := by rw [← j2]; exact idxL_self h.nodup j1
  rw [lookV_at hk.2.1 hij]
  omega
theorem ver_of (hb : Built x t') (htr : t'.tracked = t.tracked) (hl : t'.patterns.length = t.patterns.length) (hw : wfT t = true) (hp0 : t.patterns.getD 0 [] = t.tracked) (hv : ∀ i : Nat, i < t'.patterns.length → lookV t (t'.patterns.getD i []) = atD t' i) : checkT x t = true ∧ Good x t := by
  have hk' := checkT_iff.1 hb.check
  have hwf := wfT_iff.1 hw
  have h0 : 0 < t.patterns.length := by omega
  have hnd := built_nodup hb
  have hat : ∀ i : Nat, i < t'.patterns.length → ∃ j : Nat, j < t.patterns.length ∧ t.patterns.getD j [] = t'.patterns.getD i [] ∧ idxL t.patterns (t'.patterns.getD i []) = j ∧ atD t j = atD t' i := fun i hi => by
    have h1 := hv i hi
    have h2 := hb.dn hi
    have h3 : 0 ≤ idxL t.patterns (t'.patterns.getD i []) := by
      rcases Int.lt_or_le (idxL t.patterns (t'.patterns.getD i [])) 0 with h4 | h4
      · unfold lookV at h1; rw [if_pos hw, if_pos h4] at h1; omega
      · exact h4
    have h4 := (idxL_lt (l := t.patterns) (p := t'.patterns.getD i [])).2
    obtain ⟨j, hj⟩ : ∃ j : Nat, idxL t.patterns (t'.patterns.getD i []) = j := ⟨_, (Int.toNat_of_nonneg h3).symm⟩
    have h5 := idxL_getD h3
    rw [hj, Int.toNat_natCast] at h5
    exact ⟨j, by omega, h5, hj, by rw [← lookV_at hw hj]; exact h1⟩
  have s2 : t'.patterns ⊆ t.patterns := fun p hp => by
    obtain ⟨i, hi, rfl⟩ := List.getElem_of_mem hp
    obtain ⟨j, j1, j2, -⟩ := hat i hi
    rw [getD_get hi, getD_get j1] at j2
    rw [← j2]; exact List.getElem_mem j1
  have s1 := PM.nodup_sub_all hnd s2 (by omega)
  have hnt := PM.nodup_of_all hnd s2 (by omega)
  have hc : checkT x t = true := checkT_iff.2 ⟨hb.v, hw, by rw [← htr]; exact hb.tk, fun p hp => by rw [← htr]; exact hk'.2.2.2 p (s1 hp)⟩
  refine ⟨hc, fun i hi => ?_⟩
  -- the entry of the built table with the same pattern
  have hbk : ∀ i : Nat, i < t.patterns.length → ∃ k : Nat, k < t'.patterns.length ∧ t'.patterns.getD k [] = t.patterns.getD i [] ∧ idxL t'.patterns (t.patterns.getD i []) = k ∧ atD t i = atD t' k := fun i hi => by
    have hm : t.patterns.getD i [] ∈ t'.patterns := s1 (by rw [getD_get hi]; exact List.getElem_mem hi)
    obtain ⟨k, k1, k2, k3⟩ := idxL_nat hm
    obtain ⟨j, j1, j2, j3, j4⟩ := hat k k2
    have hji : j = i := by
      rw [k3, getD_get j1, getD_get hi] at j2
      exact nodup_at hnt j1 hi j2
    subst hji
    exact ⟨k, k2, k3, k1, j4⟩
  have hnx : ∀ p ∈ t'.patterns, ∃ j k : Nat, j < t.patterns.length ∧ k < t'.patterns.length ∧ idxL t.patterns p = j ∧ idxL t'.patterns p = k ∧ atD t j = atD t' k := fun p hp => by
    obtain ⟨k, k1, k2, k3⟩ := idxL_nat hp
    obtain ⟨j, j1, j2, j3, j4⟩ := hat k k2
    rw [k3] at j3
    exact ⟨j, k, j1, k2, j3, k1, j4⟩
  obtain ⟨k, k1, k2, k3, k4⟩ := hbk i hi
  have e := ent_nil.1 (hb.good k k1)
  have hP : atP t' k = atP t i := k2
  have hmem : ∀ l ∈ ltrs x.moves.length, nxt x (atP t i) l ∈ t'.patterns := fun l hl => by
    obtain ⟨c1, -, -⟩ := e.2.2.2.1 l hl
    have h5 := (idxL_mem c1).1
    rw [hP] at h5; exact h5
  have hD0 : atD t ((0 : Nat) : Int) = 0 := by
    obtain ⟨k0, q1, q2, q3, q4⟩ := hbk 0 h0
    rw [q4]
    have e0 := (ent_nil.1 (hb.good 0 (by omega))).1 rfl
    have : k0 = 0 := by
      have a := e0.2
      rw [hp0, ← htr, ← a] at q2
      have h00 : 0 < t'.patterns.length := by omega
      rw [show atP t' 0 = t'.patterns.getD 0 [] from rfl, getD_get q1, getD_get h00] at q2
      exact nodup_at hnd q1 h00 q2
    subst this
    exact e0.1
  have hne : 0 < i → k ≠ 0 := fun h1 h2 => by
    subst h2
    have a := ((ent_nil.1 (hb.good 0 k1)).1 rfl).2
    have : t.patterns.getD i [] = t.patterns.getD 0 [] := by rw [← k2, hp0, ← htr, ← a]; rfl
    rw [getD_get hi, getD_get h0] at this
    have := nodup_at hnt hi h0 this
    omega
  refine ent_nil.2 ⟨fun h1 => ⟨hD0, hp0⟩, ?_, fun h1 => ?_, fun l hl => ?_, fun h1 => ?_⟩
  · rw [show atP t i = t.patterns.getD i [] from rfl, idxL_self hnt hi]; exact Int.le_refl _
  · rw [k4]; exact e.2.2.1 (by have := hne h1; omega)
  · obtain ⟨j, m, m1, m2, m3, m4, m5⟩ := hnx _ (hmem l hl)
    obtain ⟨c1, c2, c3⟩ := e.2.2.2.1 l hl
    have h5 : nextI x t' (atP t' k) l = m := by unfold nextI; rw [hP]; exact m4
    have h6 : nextI x t (atP t i) l = j := m3
    rw [h5] at c2 c3
    rw [h6, m5, k4]
    exact ⟨by omega, c2, c3⟩
  · rw [k4] at h1
    have h7 := e.2.2.2.2 h1
    obtain ⟨hl, hlead⟩ := descL_leads h7
    obtain ⟨a1, a2⟩ := leads_iffD.1 hlead
    obtain ⟨l, hle⟩ : ∃ l, l = descL x t' (atP t' k) (atD t' k - 1) := ⟨_, rfl⟩
    rw [← hle] at hl a1 a2
    obtain ⟨j, m, m1, m2, m3, m4, m5⟩ := hnx _ (hmem l hl)
    have h5 : nextI x t' (atP t' k) l = m := by unfold nextI; rw [hP]; exact m4
    have h6 : nextI x t (atP t i) l = j := m3
    rw [h5] at a2
    refine descL_ne hl (leads_iffD.2 ⟨by rw [h6]; omega, ?_⟩)
    rw [h6, m5, k4]
    exact a2
/-- law 26's agreement -/
theorem ver_iff (hb : Built x t') (htr : t'.tracked = t.tracked) : (tableFaults x t).length = 0 ↔ t'.patterns.length = t.patterns.length ∧ wfT t = true ∧ t.patterns.getD 0 [] = t.tracked ∧ ∀ i : Nat, i < t'.patterns.length → lookV t (t'.patterns.getD i []) = atD t' i := by
  rw [tableFaults_len0]
  exact ⟨fun h => ver_to hb htr h.1 h.2, fun h => ver_of hb htr h.1 h.2.1 h.2.2.1 h.2.2.2⟩
end
end Go.Proofs.Ytpkplmnpepkdaaa

namespace Go.Proofs.Ytpkplmnpepkdaaa
open Go.RowKit
set_option maxRecDepth 10000

set_option maxHeartbeats 4000000 in
theorem specBuildTable_acc (cs : List Value) (x : Puzzle) (fp : List Nat) (v : Value) (tr : List Int) (ft : List Nat) (w : World) (h : Rp.rep w cs x fp) (hv : Rd w v tr ft) (htl : tr.length ≤ 2097152) :
    Calls Try.prog 7 #[.agg cs.toArray, v] w fun e w' => ∃ v1 v2 v3 fs, e = .returned (.tuple #[.agg #[v1, v2, v3], .bool (bTab x tr).isSome]) ∧ (∀ t, bTab x tr = some t → TB w.heap.size w' v1 v2 v3 t fs) ∧ (bTab x tr = none → v1 = .slice none 0 0 ∧ v2 = .slice none 0 0 ∧ v3 = .slice none 0 0) ∧ Only [] w w' := by
  have h0 := h
  obtain ⟨v2, rfl, p0, p1, h2⟩ := h
  obtain ⟨A2, C2, _, _, rfl, -, -⟩ := h2.open_
  obtain ⟨a, cap, rfl, Iv⟩ := hv.ints
  clear Iv h2 p0 p1
  have X0 : Blk ((w.alloc (.cells #[.int .i64 x.points, .string x.names, .slice A2 x.moves.length C2] 26)).alloc (.cells #[.slice none 0 0, .slice none 0 0, .slice none 0 0] 29)) w.heap.size [.int .i64 x.points, .string x.names, .slice A2 x.moves.length C2] := (Blk.new w [.int .i64 x.points, .string x.names, .slice A2 x.moves.length C2] 26).keep ((Only.refl _ _).alloc _)
  have Y0 : Blk ((w.alloc (.cells #[.int .i64 x.points, .string x.names, .slice A2 x.moves.length C2] 26)).alloc (.cells #[.slice none 0 0, .slice none 0 0, .slice none 0 0] 29)) (w.heap.size + 1) [.slice none 0 0, .slice none 0 0, .slice none 0 0] := Blk.new_at (by simp)
  rcases hq : bfs16 x tr with _ | s
  · have Hq := Lib.hid hq
    have hb : bTab x tr = none := by unfold bTab; rw [hq]; rfl
    have Hb := Lib.hid hb
    clear hq hb
    go_enter Try.func7, Try.ntmps7
    go_wp2_with (first
      | (go_at_call 14; (with_reducible refine (searchPatterns_any [.int .i64 x.points, .string x.names, .slice A2 x.moves.length C2] x _ _ tr _ _ (Rp.keep h0 (by with_reducible repeat (first | exact Only.refl _ _ | assumption | refine Only.drewN ?_ _ | refine Only.drew ?_ | refine Only.alloc ?_ _ | refine Only.setCell ?_ (by intro hh; exfalso; simp at hh; try omega) _ | refine Only.trans ?_ (by assumption)))) (Rp.keep hv (by with_reducible repeat (first | exact Only.refl _ _ | assumption | refine Only.drewN ?_ _ | refine Only.drew ?_ | refine Only.alloc ?_ _ | refine Only.setCell ?_ (by intro hh; exfalso; simp at hh; try omega) _ | refine Only.trans ?_ (by assumption))))).mono ?_); rintro e w2 ⟨B1, B2, B3, D1, D2, D3, n3, wh, L, D, fL, fD, rfl, o1, o2, o3, t2, -, -, -, -⟩; obtain rfl := wh_no o3 Hq.out; clear o3; have Y1 := (Y0.keep t2).keep ((Only.refl [] w2).alloc (.cells #[.slice B1 L.length D1, .slice B2 D.length D2, .slice B3 n3 D3, .bool false] 45)); have g0 := Y1.cell 0 rfl; have g1 := Y1.cell 1 rfl; have g2 := Y1.cell 2 rfl; have p0 := Y1.frozen 0; have p1 := Y1.frozen 1; have p2 := Y1.frozen 2)
      | fail "no arm")
    have K2 : Only [] w w2 := (by with_reducible repeat (first | exact Only.refl _ _ | assumption | refine Only.drewN ?_ _ | refine Only.drew ?_ | refine Only.alloc ?_ _ | refine Only.setCell ?_ (by intro hh; exfalso; simp at hh; try omega) _ | refine Only.trans ?_ (by assumption)))
    have K3 := K2.alloc (.cells #[.slice B1 L.length D1, .slice B2 D.length D2, .slice B3 n3 D3, .bool false] 45)
    have Yf := ((Y1.set 0 (.slice none 0 0)).set 1 (.slice none 0 0)).set 2 (.slice none 0 0)
    have kf := K3.then_ ((((Only.refl [w.heap.size + 1] (w2.alloc (.cells #[.slice B1 L.length D1, .slice B2 D.length D2, .slice B3 n3 D3, .bool false] 45))).setCell (p := ⟨w.heap.size + 1, 0, none⟩) (by simp) (.slice none 0 0)).setCell (p := ⟨w.heap.size + 1, 1, none⟩) (by simp) (.slice none 0 0)).setCell (p := ⟨w.heap.size + 1, 2, none⟩) (by simp) (.slice none 0 0)) (by simp)
    obtain ⟨wf, hwf⟩ : ∃ wf, wf = ((((w2.alloc (.cells #[.slice B1 L.length D1, .slice B2 D.length D2, .slice B3 n3 D3, .bool false] 45)).setCell ⟨w.heap.size + 1, 0, none⟩ (.slice none 0 0)).setCell ⟨w.heap.size + 1, 1, none⟩ (.slice none 0 0)).setCell ⟨w.heap.size + 1, 2, none⟩ (.slice none 0 0)) := ⟨_, rfl⟩
    rw [← hwf] at Yf kf ⊢
    simp only [List.set] at Yf
    clear hwf g0 g1 g2 p0 p1 p2
    have r0 := Yf.cell 0 rfl
    have r1 := Yf.cell 1 rfl
    have r2 := Yf.cell 2 rfl
    refine bodyPost_ret (v := .tuple #[.agg #[.slice none 0 0, .slice none 0 0, .slice none 0 0], .bool false]) (by simp [results, Try.results7, go_sem, r0, r1, r2]) rfl ⟨_, _, _, [], by rw [Hb.out]; rfl, fun t ht => (by rw [Hb.out] at ht; cases ht), fun _ => ⟨rfl, rfl, rfl⟩, kf⟩
  · have Hq := Lib.hid hq
    have hb : bTab x tr = some ⟨tr, s.1, s.2⟩ := by unfold bTab; rw [hq]; rfl
    have Hb := Lib.hid hb
    clear hq hb
    go_enter Try.func7, Try.ntmps7
    go_wp2_with (first
      | (go_at_call 14; (with_reducible refine (searchPatterns_any [.int .i64 x.points, .string x.names, .slice A2 x.moves.length C2] x _ _ tr _ _ (Rp.keep h0 (by with_reducible repeat (first | exact Only.refl _ _ | assumption | refine Only.drewN ?_ _ | refine Only.drew ?_ | refine Only.alloc ?_ _ | refine Only.setCell ?_ (by intro hh; exfalso; simp at hh; try omega) _ | refine Only.trans ?_ (by assumption)))) (Rp.keep hv (by with_reducible repeat (first | exact Only.refl _ _ | assumption | refine Only.drewN ?_ _ | refine Only.drew ?_ | refine Only.alloc ?_ _ | refine Only.setCell ?_ (by intro hh; exfalso; simp at hh; try omega) _ | refine Only.trans ?_ (by assumption))))).mono ?_); rintro e w2 ⟨B1, B2, B3, D1, D2, D3, n3, wh, L, D, fL, fD, rfl, o1, o2, o3, t2, m0, m1, m2, m3⟩; obtain ⟨rfl, he⟩ := wh_yes o3 Hq.out; have He := Lib.hid he; clear o3 he)
      | fail "no arm")
    have K2 : Only [] w w2 := (by with_reducible repeat (first | exact Only.refl _ _ | assumption | refine Only.drewN ?_ _ | refine Only.drew ?_ | refine Only.alloc ?_ _ | refine Only.setCell ?_ (by intro hh; exfalso; simp at hh; try omega) _ | refine Only.trans ?_ (by assumption)))
    have Y1 := ((Y0.keep t2).keep ((Only.refl [] w2).alloc (.cells #[.slice B1 L.length D1, .slice B2 D.length D2, .slice B3 n3 D3, .bool true] 45)))
    have B4 := Blk.new w2 [.slice B1 L.length D1, .slice B2 D.length D2, .slice B3 n3 D3, .bool true] 45
    have o1' := Rp.keep o1 ((Only.refl [] w2).alloc (.cells #[.slice B1 L.length D1, .slice B2 D.length D2, .slice B3 n3 D3, .bool true] 45))
    have o2' := Rp.keep o2 ((Only.refl [] w2).alloc (.cells #[.slice B1 L.length D1, .slice B2 D.length D2, .slice B3 n3 D3, .bool true] 45))
    have K3 := K2.alloc (.cells #[.slice B1 L.length D1, .slice B2 D.length D2, .slice B3 n3 D3, .bool true] 45)
    have hsz : w.heap.size + 2 ≤ w2.heap.size := by have h6 := t2.size; simp at h6; omega
    obtain ⟨b, hb⟩ : ∃ b, b = w2.heap.size := ⟨_, rfl⟩
    obtain ⟨w3, hw3⟩ : ∃ w3, w3 = w2.alloc (.cells #[.slice B1 L.length D1, .slice B2 D.length D2, .slice B3 n3 D3, .bool true] 45) := ⟨_, rfl⟩
    have hs3 : w.heap.size + 3 ≤ w3.heap.size := by rw [hw3]; simp; omega
    rw [← hb] at B4 hsz ⊢
    rw [← hw3] at Y1 B4 o1' o2' K3 ⊢
    clear hb hw3 X0 Y0 t2 o1 o2 K2
    have hv' := Rp.keep hv K3
    have c0 := B4.cell 0 rfl
    have c1 := B4.cell 1 rfl
    have ml : L.length ≤ 2097152 := by omega
    have mr : ∀ y ∈ L, y.length ≤ 2097152 := fun y hy => by have := m3 y hy; omega
    have hdt : ∀ g ∈ ft, g ∉ [w.heap.size + 1] := fun g hg hm => by have := Rp.lt hv g hg; simp at hm; omega
    have hdL : ∀ g ∈ fL, g ∉ [w.heap.size + 1] := fun g hg hm => by have := m0 g (by simp [hg]); simp at this hm; omega
    have hdD : ∀ g ∈ fD, g ∉ [w.heap.size + 1] := fun g hg hm => by have := m0 g (by simp [hg]); simp at this hm; omega
    have hbn : b ∉ [w.heap.size + 1] := by simp; omega
    go_region_held3 (fun w' => Only [w.heap.size + 1] w3 w' ∧ w'.cell? ⟨b, 0, none⟩ = some (.slice B1 L.length D1) ∧ w'.cell? ⟨b, 1, none⟩ = some (.slice B2 D.length D2))
      ((refine and_of ?_ (fun h__ => ⟨h__.cell hbn c0, h__.cell hbn c1⟩); first
        | with_reducible exact (Only.refl _ _).drew
        | with_reducible exact Only.keepThen (And.left (by assumption)) (by assumption)
        | with_reducible exact Only.setCell (Only.setCell (Only.setCell (And.left (by assumption)) (by simp) _) (by simp) _) (by simp) _
        | with_reducible exact And.left (by assumption)
        | assumption))
      (first
        | (go_at_call 15; (with_reducible refine (copyInts_accI (.slice a tr.length cap) tr _ _ (Rp.only hv' (And.left (by assumption)) hdt) (by omega)).mono ?_); rintro e x1 ⟨u1, rfl, r1, y1⟩; obtain ⟨a1, k1, rfl⟩ := r1.form)
        | (go_at_call 16; (with_reducible refine (copyLists_accR (.slice B1 L.length D1) L _ _ (Rp.only o1' (And.left (by assumption)) hdL) ml mr).mono ?_); rintro e x2 ⟨u2, fs, rfl, r2, F2, y2⟩; obtain ⟨a2, k2, rfl⟩ := r2.form)
        | (go_at_call 15; (with_reducible refine (copyInts_accI (.slice B2 D.length D2) D _ _ (Rp.only o2' (And.left (by assumption)) hdD) (by omega)).mono ?_); rintro e x3 ⟨u3, rfl, r3, y3⟩; obtain ⟨a3, k3, rfl⟩ := r3.form; have kk := (((Only.refl [] w3).drew.trans y1).trans y2).trans y3; have Y3 := Y1.keep kk; have g0 := Y3.cell 0 rfl; have g1 := Y3.cell 1 rfl; have g2 := Y3.cell 2 rfl; have p0 := Y3.frozen 0; have p1 := Y3.frozen 1; have p2 := Y3.frozen 2)
        | fail "no arm")
    have F1 := r1.fresh
    have FP := r2.fresh F2
    have F23 := (FP.keep y3).append r3.fresh y2.size (fun g hg => FP.lt g hg)
    have F := (F1.keep (y2.trans y3)).append F23 y1.size (fun g hg => F1.lt g hg)
    have hFg : ∀ g ∈ (Value.slice a1 tr.length k1).ownBlock.toList ++ (((Value.slice a2 L.length k2).ownBlock.toList ++ fs.flatten) ++ (Value.slice a3 D.length k3).ownBlock.toList), g ∉ [w.heap.size + 1] := fun g hg hm => by have := F.ge g hg; simp at this hm; omega
    have hz1 := y1.size
    have hz2 := y2.size
    simp at hz1
    have HT := Lib.hid (TB.mk (B := w.heap.size) (t := ⟨tr, L, D⟩) ((r1.keep (y2.trans y3)).low2 (by simp; omega)) ((r2.keep y3).lower (by omega)) (r3.low2 (by omega)) (F.mono (by simp; omega)))
    have Yf := ((Y3.set 0 (.slice a1 tr.length k1)).set 1 (.slice a2 L.length k2)).set 2 (.slice a3 D.length k3)
    have kf : Only [w.heap.size + 1] x3 (((x3.setCell ⟨w.heap.size + 1, 0, none⟩ (.slice a1 tr.length k1)).setCell ⟨w.heap.size + 1, 1, none⟩ (.slice a2 L.length k2)).setCell ⟨w.heap.size + 1, 2, none⟩ (.slice a3 D.length k3)) := (((Only.refl _ _).setCell (by simp) _).setCell (by simp) _).setCell (by simp) _
    have K4 : Only [] w x3 := K3.trans kk
    go_wp2_with fail
    obtain ⟨wf, hwf⟩ : ∃ wf, wf = (((x3.setCell ⟨w.heap.size + 1, 0, none⟩ (.slice a1 tr.length k1)).setCell ⟨w.heap.size + 1, 1, none⟩ (.slice a2 L.length k2)).setCell ⟨w.heap.size + 1, 2, none⟩ (.slice a3 D.length k3)) := ⟨_, rfl⟩
    rw [← hwf] at Yf kf ⊢
    simp only [List.set] at Yf
    clear hwf g0 g1 g2 p0 p1 p2
    have z0 := Yf.cell 0 rfl
    have z1 := Yf.cell 1 rfl
    have z2 := Yf.cell 2 rfl
    refine bodyPost_ret (v := .tuple #[.agg #[.slice a1 tr.length k1, .slice a2 L.length k2, .slice a3 D.length k3], .bool true]) (by simp [results, Try.results7, go_sem, z0, z1, z2]) rfl ⟨_, _, _, fs, by rw [Hb.out]; rfl, fun t ht => ?_, fun hn => (by rw [Hb.out] at hn; cases hn), K4.then_ kf (by simp)⟩
    rw [Hb.out] at ht
    injection ht with ht
    rw [← ht, He.out]
    exact HT.out.only kf hFg
set_option maxHeartbeats 2000000 in
theorem specTableLookup_any (ds : List Value) (t : Table) (f2 : List Nat) (v : Value) (p : List Int) (f3 : List Nat) (w : World) (h : Rp.rep w ds t f2) (h2 : Rd w v p f3) :
    Calls Try.prog 10 #[.agg ds.toArray, v] w fun e w' => e = .returned (.int .i64 (lookV t p)) ∧ Only [] w w' := by
  have h0 := h
  obtain ⟨u0, u1, u2, q0, q1, q2, rfl, rfl, r0, r1, r2⟩ := h
  obtain ⟨A0, C0, _, _, rfl, -⟩ := r0.open_
  obtain ⟨A1, C1, _, _, rfl, -⟩ := r1.open_
  obtain ⟨A2, C2, rfl, I2⟩ := r2.ints
  have X0 := Blk.new w [.slice A0 t.tracked.length C0, .slice A1 t.patterns.length C1, .slice A2 t.distances.length C2] 29
  have c0 := X0.cell 0 rfl
  have c1 := X0.cell 1 rfl
  have c2 := X0.cell 2 rfl
  rcases hw : wfT t
  · have Hl := Lib.hid (show lookV t p = -1 by unfold lookV; rw [if_neg (by rw [hw]; simp)])
    go_enter Try.func10, Try.ntmps10
    go_wp2_with (first
      | (go_at_call 8; (with_reducible refine (specWfTable_any [.slice A0 t.tracked.length C0, .slice A1 t.patterns.length C1, .slice A2 t.distances.length C2] t _ _ (Rp.keep h0 (by with_reducible repeat (first | exact Only.refl _ _ | assumption | refine Only.drewN ?_ _ | refine Only.drew ?_ | refine Only.alloc ?_ _ | refine Only.setCell ?_ (by intro hh; exfalso; simp at hh; try omega) _ | refine Only.trans ?_ (by assumption))))).mono ?_); rintro e w1 ⟨he, t1⟩; rw [hw] at he; subst he)
      | fail "no arm")
    go_ret
    exact ⟨by rw [Hl.out] <;> rfl, (by with_reducible repeat (first | exact Only.refl _ _ | assumption | refine Only.drewN ?_ _ | refine Only.drew ?_ | refine Only.alloc ?_ _ | refine Only.setCell ?_ (by intro hh; exfalso; simp at hh; try omega) _ | refine Only.trans ?_ (by assumption)))⟩
  · obtain ⟨k, hk⟩ : ∃ k, k = idxL t.patterns p := ⟨_, rfl⟩
    have hlt := idxL_lt (l := t.patterns) (p := p)
    have hdl := (wfT_iff.1 hw).2.2.1
    rw [← hk] at hlt
    by_cases hk0 : k < 0
    · have Hl := Lib.hid (show lookV t p = -1 by unfold lookV; rw [if_pos hw, ← hk, if_pos hk0])
      have Hk := Lib.hid hk
      clear hk hdl
      go_enter Try.func10, Try.ntmps10
      go_wp2_with (first
        | (go_at_call 8; (with_reducible refine (specWfTable_any [.slice A0 t.tracked.length C0, .slice A1 t.patterns.length C1, .slice A2 t.distances.length C2] t _ _ (Rp.keep h0 (by with_reducible repeat (first | exact Only.refl _ _ | assumption | refine Only.drewN ?_ _ | refine Only.drew ?_ | refine Only.alloc ?_ _ | refine Only.setCell ?_ (by intro hh; exfalso; simp at hh; try omega) _ | refine Only.trans ?_ (by assumption))))).mono ?_); rintro e w1 ⟨he, t1⟩; rw [hw] at he; subst he; have X1 := X0.keep t1; have c01 := X1.cell 0 rfl; have c11 := X1.cell 1 rfl; have c21 := X1.cell 2 rfl)
        | (go_at_call 20; (with_reducible refine (tableEntry_any [.slice A0 t.tracked.length C0, .slice A1 t.patterns.length C1, .slice A2 t.distances.length C2] t _ v p _ _ (Rp.keep h0 (by with_reducible repeat (first | exact Only.refl _ _ | assumption | refine Only.drewN ?_ _ | refine Only.drew ?_ | refine Only.alloc ?_ _ | refine Only.setCell ?_ (by intro hh; exfalso; simp at hh; try omega) _ | refine Only.trans ?_ (by assumption)))) (Rp.keep h2 (by with_reducible repeat (first | exact Only.refl _ _ | assumption | refine Only.drewN ?_ _ | refine Only.drew ?_ | refine Only.alloc ?_ _ | refine Only.setCell ?_ (by intro hh; exfalso; simp at hh; try omega) _ | refine Only.trans ?_ (by assumption))))).mono ?_); rintro e w2 ⟨he, t2⟩; rw [← Hk.out] at he; subst he)
        | fail "no arm")
      go_ret
      exact ⟨by rw [Hl.out] <;> rfl, (by with_reducible repeat (first | exact Only.refl _ _ | assumption | refine Only.drewN ?_ _ | refine Only.drew ?_ | refine Only.alloc ?_ _ | refine Only.setCell ?_ (by intro hh; exfalso; simp at hh; try omega) _ | refine Only.trans ?_ (by assumption)))⟩
    · obtain ⟨i, rfl⟩ := Int.eq_ofNat_of_zero_le (show 0 ≤ k by omega)
      have Hl := Lib.hid (lookV_at hw hk.symm)
      have Hk := Lib.hid hk
      have hil : i < t.distances.length := by omega
      obtain ⟨b, off, rfl, -, hc⟩ := I2.at_ i hil
      have Hd := Lib.hid (show atD t i = t.distances[i] from atD_of rfl hil)
      have hi0 : (0 : Int) ≤ (i : Int) := by omega
      have hi1 : (i : Int) < (t.distances.length : Int) := by omega
      have hcap := I2.len
      clear hk hdl hlt hk0 I2
      go_enter Try.func10, Try.ntmps10
      go_wp2_with (first
        | (go_at_call 8; (with_reducible refine (specWfTable_any [.slice A0 t.tracked.length C0, .slice A1 t.patterns.length C1, .slice (some ⟨b, off, none⟩) t.distances.length C2] t _ _ (Rp.keep h0 (by with_reducible repeat (first | exact Only.refl _ _ | assumption | refine Only.drewN ?_ _ | refine Only.drew ?_ | refine Only.alloc ?_ _ | refine Only.setCell ?_ (by intro hh; exfalso; simp at hh; try omega) _ | refine Only.trans ?_ (by assumption))))).mono ?_); rintro e w1 ⟨he, t1⟩; rw [hw] at he; subst he; have X1 := X0.keep t1; have c01 := X1.cell 0 rfl; have c11 := X1.cell 1 rfl; have c21 := X1.cell 2 rfl)
        | (go_at_call 20; (with_reducible refine (tableEntry_any [.slice A0 t.tracked.length C0, .slice A1 t.patterns.length C1, .slice (some ⟨b, off, none⟩) t.distances.length C2] t _ v p _ _ (Rp.keep h0 (by with_reducible repeat (first | exact Only.refl _ _ | assumption | refine Only.drewN ?_ _ | refine Only.drew ?_ | refine Only.alloc ?_ _ | refine Only.setCell ?_ (by intro hh; exfalso; simp at hh; try omega) _ | refine Only.trans ?_ (by assumption)))) (Rp.keep h2 (by with_reducible repeat (first | exact Only.refl _ _ | assumption | refine Only.drewN ?_ _ | refine Only.drew ?_ | refine Only.alloc ?_ _ | refine Only.setCell ?_ (by intro hh; exfalso; simp at hh; try omega) _ | refine Only.trans ?_ (by assumption))))).mono ?_); rintro e w2 ⟨he, t2⟩; rw [← Hk.out] at he; subst he; have X2 := X1.keep t2; have c22 := X2.cell 2 rfl; have k2 : Only [] w w2 := (by with_reducible repeat (first | exact Only.refl _ _ | assumption | refine Only.drewN ?_ _ | refine Only.drew ?_ | refine Only.alloc ?_ _ | refine Only.setCell ?_ (by intro hh; exfalso; simp at hh; try omega) _ | refine Only.trans ?_ (by assumption))); have hc2 := k2.cell (by simp) hc)
        | fail "no arm")
      go_ret
      exact ⟨by rw [Hl.out, Hd.out] <;> rfl, (by with_reducible repeat (first | exact Only.refl _ _ | assumption | refine Only.drewN ?_ _ | refine Only.drew ?_ | refine Only.alloc ?_ _ | refine Only.setCell ?_ (by intro hh; exfalso; simp at hh; try omega) _ | refine Only.trans ?_ (by assumption)))⟩

end Go.Proofs.Ytpkplmnpepkdaaa

namespace Go.Proofs.Ytpkplmnpepkdaaa
open Go.RowKit
set_option maxRecDepth 10000

/-- a table whose patterns and distances can be written over and appended to; patterns may share their rows -/
structure TW (B : Nat) (w : World) (v1 v2 v3 : Value) (t : Table) (f1 : List Nat) (fs : List (List Nat)) : Prop where
  tk : Rd w v1 t.tracked f1
  pt : Acc B 27 w v2 t.patterns fs
  dt : AccI B 2 w v3 t.distances
  ge : ∀ b ∈ f1 ++ fs.flatten, B ≤ b
  s2 : ∀ b ∈ v2.ownBlock.toList, b ∉ f1 ∧ b ∉ v3.ownBlock.toList
  s3 : ∀ b ∈ v3.ownBlock.toList, b ∉ f1 ∧ b ∉ fs.flatten
section
variable {B B' : Nat} {w w' : World} {v1 v2 v3 : Value} {t : Table} {f1 : List Nat} {fs : List (List Nat)}
theorem TB.tw (h : TB B w v1 v2 v3 t fs) : TW B w v1 v2 v3 t v1.ownBlock.toList fs := by
  obtain ⟨s1, s3⟩ := h.sep
  refine ⟨h.tk.rd, h.pt, h.dt, fun b hb => ?_, fun b hb => ⟨fun hm => (s1 b hm).1 hb, fun hm => (s3 b hm).1 hb⟩, fun b hb => ⟨(s3 b hb).2.2, (s3 b hb).2.1⟩⟩
  rcases List.mem_append.1 hb with hb | hb
  · exact h.fr.ge b (List.mem_append_left _ hb)
  · exact h.fr.ge b (List.mem_append_right _ (List.mem_append_left _ (List.mem_append_right _ hb)))
/-- all of a table's memory -/
def TWf (v2 v3 : Value) (f1 : List Nat) (fs : List (List Nat)) : List Nat := (f1 ++ fs.flatten) ++ (v2.ownBlock.toList ++ v3.ownBlock.toList)
theorem TW.only (h : TW B w v1 v2 v3 t f1 fs) {fp : List Nat} (ho : Only fp w w') (hd : ∀ b ∈ TWf v2 v3 f1 fs, b ∉ fp) : TW B w' v1 v2 v3 t f1 fs :=
  ⟨Rp.only h.tk ho fun b hb => hd b (List.mem_append_left _ (List.mem_append_left _ hb)),
   h.pt.only ho (fun b hb => hd b (List.mem_append_left _ (List.mem_append_right _ hb))) (fun b hb => hd b (List.mem_append_right _ (List.mem_append_left _ (by simp [hb])))),
   h.dt.only ho (fun b hb => hd b (List.mem_append_right _ (List.mem_append_right _ (by simp [hb])))), h.ge, h.s2, h.s3⟩
theorem TW.keep (h : TW B w v1 v2 v3 t f1 fs) (ho : Only [] w w') : TW B w' v1 v2 v3 t f1 fs := h.only ho (by simp)
theorem TW.geF (h : TW B w v1 v2 v3 t f1 fs) : ∀ b ∈ TWf v2 v3 f1 fs, B ≤ b ∧ b < w.heap.size := fun b hb => by
  rcases List.mem_append.1 hb with hb | hb
  · refine ⟨h.ge b hb, ?_⟩
    rcases List.mem_append.1 hb with hb | hb
    · exact Rp.lt h.tk b hb
    · exact h.pt.lt b hb
  · rcases List.mem_append.1 hb with hb | hb
    · exact h.pt.ownlt b (by simpa using hb)
    · exact h.dt.ownlt b (by simpa using hb)
theorem TW.jt (h : TW B w v1 v2 v3 t f1 fs) (hm : midT t) (hB : B' ≤ B) : JT B' w v1 v2 v3 := by
  refine ⟨t, _, ⟨_, _, _, _, _, _, rfl, rfl, h.tk, h.pt.rd (by decide), h.dt.rd⟩, fun b hb => ?_, hm⟩
  have : b ∈ TWf v2 v3 f1 fs := by
    rcases List.mem_append.1 hb with hb | hb
    · exact List.mem_append_left _ (List.mem_append_left _ hb)
    · rcases List.mem_append.1 hb with hb | hb
      · rcases List.mem_append.1 hb with hb | hb
        · exact List.mem_append_right _ (List.mem_append_left _ hb)
        · exact List.mem_append_left _ (List.mem_append_right _ hb)
      · exact List.mem_append_right _ (List.mem_append_right _ hb)
  have := (h.geF b this).1
  omega
/-- a distance is written over -/
theorem TW.putD (h : TW B w v1 v2 v3 t f1 fs) {i : Nat} (hi : i < t.distances.length) {x : Int} (hx : I64 x) :
    ∃ g c, v3 = .slice (some ⟨g, 0, none⟩) t.distances.length c ∧ w.cell? ⟨g, i, none⟩ = some (.int .i64 t.distances[i]) ∧ w.frozen? ⟨g, i, none⟩ = false ∧ B ≤ g ∧ g < w.heap.size ∧ Only [g] w (w.setCell ⟨g, i, none⟩ (.int .i64 x)) ∧
      TW B (w.setCell ⟨g, i, none⟩ (.int .i64 x)) v1 v2 v3 ⟨t.tracked, t.patterns, t.distances.set i x⟩ f1 fs := by
  obtain ⟨g, c, rfl, a1, a2, a3, a4⟩ := h.dt.put hi hx
  have kq : Only [g] w (w.setCell ⟨g, i, none⟩ (.int .i64 x)) := (Only.refl _ _).setCell (by simp) _
  have hg : g ∈ (Value.slice (some ⟨g, 0, none⟩) t.distances.length c).ownBlock.toList := by simp [Value.ownBlock]
  obtain ⟨b1, b2⟩ := h.s3 g hg
  refine ⟨g, c, rfl, a1, a2, a3, (h.dt.ownlt g rfl).2, kq, Rp.only h.tk kq (fun b hb hm => ?_), h.pt.only kq (fun b hb hm => ?_) (fun b hb hm => ?_), a4, h.ge, h.s2, h.s3⟩
  · have e : b = g := by simpa using hm
    rw [e] at hb; exact b1 hb
  · have e : b = g := by simpa using hm
    rw [e] at hb; exact b2 hb
  · have e : b = g := by simpa using hm
    rw [e] at hb; exact (h.s2 g (by simp [hb])).2 hg
/-- a pattern is written over -/
theorem TW.putP (h : TW B w v1 v2 v3 t f1 fs) {k g c : Nat} (hk : k < t.patterns.length) (hv : v2 = .slice (some ⟨g, 0, none⟩) t.patterns.length c) {u : Value} {y : List Int} {f : List Nat} (hy : Rd w u y f) (hgf : g ∉ f) (hfB : ∀ b ∈ f, B ≤ b ∧ b ∉ v3.ownBlock.toList) :
    Only [g] w (w.setCell ⟨g, k, none⟩ u) ∧ TW B (w.setCell ⟨g, k, none⟩ u) v1 v2 v3 ⟨t.tracked, t.patterns.set k y, t.distances⟩ f1 (fs.set k f) := by
  obtain ⟨a1, kq⟩ := h.pt.putRow hk hv hy hgf
  have hg : g ∈ v2.ownBlock.toList := by rw [hv]; simp [Value.ownBlock]
  obtain ⟨b1, b2⟩ := h.s2 g hg
  refine ⟨kq, Rp.only h.tk kq (fun b hb hm => ?_), a1, h.dt.only kq (fun b hb hm => ?_), fun b hb => ?_, h.s2, fun b hb => ⟨(h.s3 b hb).1, fun hm => ?_⟩⟩
  · have e : b = g := by simpa using hm
    rw [e] at hb; exact b1 hb
  · have e : b = g := by simpa using hm
    rw [e] at hb; exact b2 (by simp [hb])
  · rcases List.mem_append.1 hb with hb | hb
    · exact h.ge b (List.mem_append_left _ hb)
    · rcases mem_flat_set hb with hb | hb
      · exact (hfB b hb).1
      · exact h.ge b (List.mem_append_right _ hb)
  · rcases mem_flat_set hm with hm | hm
    · exact (hfB b hm).2 hb
    · exact (h.s3 b hb).2 hm
/-- a pattern's cell -/
theorem TW.cellP (h : TW B w v1 v2 v3 t f1 fs) {k : Nat} (hk : k < t.patterns.length) : ∃ (g c : Nat) (u : Value) (f : List Nat), v2 = .slice (some ⟨g, 0, none⟩) t.patterns.length c ∧ w.cell? ⟨g, k, none⟩ = some u ∧ w.frozen? ⟨g, k, none⟩ = false ∧ Rd w u t.patterns[k] f ∧ g ∉ f ∧ (∀ b ∈ f, B ≤ b ∧ b ∉ v3.ownBlock.toList) ∧ B ≤ g ∧ g < w.heap.size ∧ ∀ b ∈ f, b ∈ fs.flatten := by
  obtain ⟨g, c, u, f, rfl, a1, a2, a3, a4, a5, a6⟩ := h.pt.cellRow hk
  have hf : ∀ b ∈ f, b ∈ fs.flatten := fun b hb => List.mem_flatten.2 ⟨f, List.mem_of_getElem? a4, hb⟩
  exact ⟨g, c, u, f, rfl, a1, a2, a3, fun hm => h.pt.apart g rfl (hf g hm), fun b hb => ⟨h.ge b (List.mem_append_right _ (hf b hb)), fun hm => (h.s3 b hm).2 (hf b hb)⟩, a5, a6, hf⟩
end
end Go.Proofs.Ytpkplmnpepkdaaa

namespace Go.Proofs.Ytpkplmnpepkdaaa
open Go.RowKit
set_option maxRecDepth 10000

theorem SeqA.takeF {α : Type} [Rp α] {w : World} {a : Option Addr} {cap : Nat} {xs : List α} {ob : List Nat} {fps : List (List Nat)} (h : SeqA w a cap xs ob fps) (n : Nat) : SeqA w a cap (xs.take n) ob (fps.take n) := by
  refine ⟨Nat.le_trans (by simp; omega) h.len, h.cap, by simp [h.nf], fun k hk => ?_, h.lt, h.one⟩
  have hk' : k < xs.length := by simp at hk; omega
  obtain ⟨b, off, cs, h1, h2, h3, h4⟩ := h.at_ k hk'
  exact ⟨b, off, cs, h1, h2, h3, by simpa using h4⟩
/-- the first n elements -/
theorem take_rd {α : Type} [Rp α] {w : World} {a : Option Addr} {cap len : Nat} {xs : List α} {fp : List Nat} (h : Rd w (.slice a len cap) xs fp) (n : Nat) (hn : n ≤ xs.length) : ∃ fp', Rd w (.slice a n cap) (xs.take n) fp' ∧ (∀ b ∈ fp', b ∈ fp) ∧ (fp.Nodup → fp'.Nodup) := by
  obtain ⟨a', cap', ob, fps, hv, hfp, hs⟩ := h.open_
  injection hv with h1 h2 h3
  subst h1; subst h3
  have h4 := (hs.takeF n).rd
  rw [List.length_take, Nat.min_eq_left hn] at h4
  refine ⟨_, h4, fun b hb => ?_, fun hnd => ?_⟩
  · rw [hfp]
    rcases List.mem_append.1 hb with hb | hb
    · exact List.mem_append_left _ hb
    · obtain ⟨f, hf, hb⟩ := List.mem_flatten.1 hb
      exact List.mem_append_right _ (List.mem_flatten.2 ⟨f, List.mem_of_mem_take hf, hb⟩)
  · rw [hfp] at hnd
    obtain ⟨n1, n2, n3⟩ := List.nodup_append.1 hnd
    have hsub : (fps.take n).flatten.Sublist fps.flatten := by
      have : fps = fps.take n ++ fps.drop n := (List.take_append_drop n fps).symm
      rw [show fps.flatten = (fps.take n).flatten ++ (fps.drop n).flatten by rw [← List.flatten_append, ← this]]
      exact List.sublist_append_left _ _
    exact List.nodup_append.2 ⟨n1, List.Nodup.sublist hsub n2, fun x hx y hy => n3 x hx y (hsub.subset hy)⟩
/-- the cells of a fault -/
def fcells (f : Fault) : List Value := [.int .i64 f.kind, .int .i64 f.entry, .int .i64 f.letter]
theorem fcells_get : ∀ (ys : List Fault) (j : Nat) (u : Value), (ys.map fcells).flatten[j]? = some u → ∃ (k r : Nat) (h : k < ys.length), j = k * 3 + r ∧ r < 3 ∧ (fcells ys[k])[r]? = some u
  | [], j, u, h => by simp at h
  | y :: ys, j, u, h => by
    rw [List.map_cons, List.flatten_cons] at h
    by_cases hj : j < 3
    · rw [List.getElem?_append_left (by simp [fcells]; exact hj)] at h
      exact ⟨0, j, by simp, by omega, hj, h⟩
    · rw [List.getElem?_append_right (by simp [fcells]; omega)] at h
      have e : j - (fcells y).length = j - 3 := rfl
      rw [e] at h
      obtain ⟨k, r, hk, h1, h2, h3⟩ := fcells_get ys (j - 3) u h
      exact ⟨k + 1, r, by simp; omega, by omega, h2, h3⟩
theorem fault_src {w : World} {a : Option Addr} {cap : Nat} {ys : List Fault} {ob : List Nat} {fps : List (List Nat)} (h : SeqA w a cap ys ob fps) :
    (∀ ad, a = some ad → ∀ j u, (ys.map fcells).flatten[j]? = some u → w.cell? (ad.add j) = some u) ∧ (a = none → ys.length = 0) := by
  constructor
  · intro ad ha j u hu
    obtain ⟨k, r, hk, rfl, hr, hu⟩ := fcells_get ys j u hu
    obtain ⟨b, off, cs, ha', -, hc, rfl, -, -⟩ := h.at_ k hk
    rw [ha] at ha'; injection ha' with ha'; subst ha'
    have hadd : (⟨b, off, none⟩ : Addr).add (k * 3 + r) = ⟨b, off + (k * 3 + r), none⟩ := by unfold Addr.add; split <;> simp_all
    rw [hadd, ← Nat.add_assoc]
    exact hc r u hu
  · intro ha
    rcases Nat.eq_zero_or_pos ys.length with h0 | h0
    · exact h0
    · obtain ⟨_, _, _, ha', _⟩ := h.at_ 0 h0
      rw [ha] at ha'; cases ha'
theorem fcells_len (ys : List Fault) : (ys.map fcells).flatten.length = ys.length * 3 := by
  induction ys with
  | nil => rfl
  | cons y ys ih => simp [fcells, ih]; omega
/-- append(v, ys...) -/
theorem wp_fapp {o : Oper} {a : Act} {K : Act → World → Prop} {Q : Exit → Act → World → Prop} {w w0 wx W : World} {B : Nat} {G : List Nat} {v : Value} {L ys : List Fault}
    (s y : Operand) (ho : o.op = .call { callee := .builtin .append, args := #[s, y], argTypes := #[41, 41] })
    (hs : a.eval s = v) (hA : AccK w B 67 G W w0 v L) (hK0 : Only [] w0 wx) (hB0 : w.heap.size ≤ B) (hB : B ≤ w0.heap.size) (u : Value) (fp : List Nat) (hx : a.eval y = u) (hy : Rd wx u ys fp) (hlen : L.length + ys.length ≤ 1073741824)
    (h : ∀ v' w', AccK w B 67 G W w' v' (L ++ ys) → Only v.ownBlock.toList wx w' → K (a.put o.dst v') w') : o.wp Try.prog a wx K Q := by
  obtain ⟨i0, hi, hz0, hz1, hz2⟩ := info_parts Try.infoFault
  obtain ⟨fs, hAc, hF, hO, hd, hl, hap⟩ := hA
  obtain ⟨css, hown, hcl, hre⟩ := (hAc.keep hK0).own
  obtain ⟨A, cap, ob, fps, rfl, -, hsq⟩ := hy.open_
  obtain ⟨hsrc, hnone⟩ := fault_src hsq
  have hfl := hAc.fl
  have hfn : ∀ k (hk : k < fps.length), fps[k] = [] := fun k hk => by
    obtain ⟨_, _, _, _, _, _, _, _, h9⟩ := hsq.at_ k (by rw [← hsq.nf]; exact hk)
    exact h9
  have hfw : ∀ k (hk : k < ys.length), I64 ys[k].kind ∧ I64 ys[k].entry ∧ I64 ys[k].letter := fun k hk => by
    obtain ⟨_, _, _, _, _, _, _, h9, _⟩ := hsq.at_ k hk
    exact h9
  refine wp_app wx s y _ ho B 67 i0 _ 3 24 Try.underlying41 hi hz0 hz1 hz2 rfl (by omega) v L.length css.flatten hs hown A ys.length cap (ys.map fcells).flatten hx (fcells_len ys) hsrc hnone ?_ (by unfold maxLen; omega) (by omega) (Nat.le_trans hB hK0.size) ?_
  · intro u hu
    obtain ⟨l, hl', hu⟩ := List.mem_flatten.1 hu
    obtain ⟨f, -, rfl⟩ := List.mem_map.1 hl'
    simp [fcells] at hu
    rcases hu with rfl | rfl | rfl <;> rfl
  intro v' w' hO' hg hb
  have hW : Only v.ownBlock.toList wx w' := (Only.refl _ _).grown hg (by intro k hk _; simp [hk])
  have hlt := (hAc.keep hK0).lt
  have hfs : ∀ b ∈ fs.flatten, b ∉ v.ownBlock.toList := fun b hb hm => hAc.apart b (by simpa using hm) hb
  have hfl2 : (fs ++ List.replicate ys.length ([] : List Nat)).flatten = fs.flatten := by rw [List.flatten_append, flatten_nil, List.append_nil]
  refine h v' w' ⟨fs ++ List.replicate ys.length [], ⟨⟨css ++ ys.map fcells, ?_, by simp [hcl], fun k h1 h2 h3 => ?_⟩, by simp [hfl], ?_⟩, ?_, ?_, fun b hb => ?_, fun b hb => ?_, fun b hb hm => ?_⟩ hW
  · rw [List.length_append, List.flatten_append]; exact hO'
  · by_cases hk : k < L.length
    · rw [List.getElem_append_left (by rw [hcl]; exact hk), List.getElem_append_left hk, List.getElem_append_left (by rw [hfl]; exact hk)]
      exact Rp.only (hre k (by omega) hk (by omega)) hW fun b hb => hfs b (List.mem_flatten.2 ⟨_, List.getElem_mem _, hb⟩)
    · rw [List.getElem_append_right (by rw [hcl]; omega), List.getElem_append_right (by omega), List.getElem_append_right (by rw [hfl]; omega)]
      simp only [List.getElem_map, List.getElem_replicate, hcl]
      exact ⟨rfl, hfw _ _, rfl⟩
  · intro g' hg' hm
    rw [hfl2] at hm
    rcases hb with hb | hb
    · rw [hb] at hg'; exact hAc.apart g' hg' hm
    · rw [hb] at hg'; injection hg' with hg'; subst hg'
      exact absurd (hlt _ hm) (by omega)
  · rw [hfl2]
    exact (hF.keep hK0).only hW hfs
  · exact (hO.trans hK0).then_ hW fun b hm hb => by have := (hAc.ownlt b (by simpa using hm)).1; omega
  · have hlt' := Nat.lt_of_lt_of_le (hl b hb) hK0.size
    rw [hW.block b hlt' (hap b hb), hK0.block b (hl b hb) (by simp)]
    exact hd b hb
  · exact Nat.lt_of_lt_of_le (Nat.lt_of_lt_of_le (hl b hb) hK0.size) hW.size
  · have hm' : v'.ownBlock = some b := by simpa using hm
    rcases ‹v'.ownBlock = v.ownBlock ∨ v'.ownBlock = some wx.heap.size› with h5 | h5
    · exact hap b hb (by rw [← h5]; exact hm)
    · rw [h5] at hm'; injection hm' with hm'
      have := hl b hb; have := hK0.size; omega
theorem wpList_fapp {ops : Array Oper} {rest : List Oper} {o : Oper} {a : Act} {Q : Exit → Act → World → Prop} {w w0 wx W : World} {B : Nat} {G : List Nat} {v : Value} {L ys : List Fault}
    (hgd : o.guard = none) (s y : Operand) (ho : o.op = .call { callee := .builtin .append, args := #[s, y], argTypes := #[41, 41] })
    (hs : a.eval s = v) (hA : AccK w B 67 G W w0 v L) (hK0 : Only [] w0 wx) (hB0 : w.heap.size ≤ B) (hB : B ≤ w0.heap.size) (u : Value) (fp : List Nat) (hx : a.eval y = u) (hy : Rd wx u ys fp) (hlen : L.length + ys.length ≤ 1073741824)
    (h : ∀ v' w', AccK w B 67 G W w' v' (L ++ ys) → Only v.ownBlock.toList wx w' → wpList Try.prog ops Q rest (a.put o.dst v') w') : wpList Try.prog ops Q (o :: rest) a wx :=
  wpList_plain hgd fun _ hK => wp_fapp s y ho hs hA hK0 hB0 hB u fp hx hy hlen fun v' w' h1 h2 => hK _ _ (h v' w' h1 h2)

/-- the faults of the entries ahead of j, more than enough -/
theorem faultsTo_add (x : Puzzle) (t : Table) (j n : Nat) (h : j ≤ n) : ∃ r, faultsTo x t n = faultsTo x t j ++ r := by
  obtain ⟨m, rfl⟩ : ∃ m, n = j + m := ⟨n - j, by omega⟩
  induction m with
  | zero => exact ⟨[], by simp⟩
  | succ m ih =>
    obtain ⟨r, hr⟩ := ih (by omega)
    exact ⟨r ++ entF x t (j + m), by rw [show j + (m + 1) = (j + m) + 1 by omega, faultsTo_succ, hr, List.append_assoc]⟩
theorem faults_enough {x : Puzzle} {t : Table} {j n : Nat} (h : j ≤ n) (hl : 40 ≤ (faultsTo x t j).length) : (faultsTo x t n).take 40 = (faultsTo x t j).take 40 := by
  obtain ⟨r, hr⟩ := faultsTo_add x t j n h
  rw [hr, List.take_append_of_le_length hl]
end Go.Proofs.Ytpkplmnpepkdaaa
