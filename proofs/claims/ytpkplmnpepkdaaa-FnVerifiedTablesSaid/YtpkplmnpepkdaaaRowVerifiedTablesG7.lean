/- The reference's BuildTable: the table (law 16). What a search of patterns has met: lengths; a table's count. Descents in plain words. What breadth-first search finds: the patterns that the letters lead to, their distances. Lower bounds out of tables, in plain words (laws 40, 42, 43, 52). Tables without faults: the built ones, and no others with the same patterns (laws 10, 11, 26). Descents in a table that was built; a search of few patterns ends (laws 10, 11). The states of a puzzle: how many there are, what the search of them finds (laws 20, 38). The reference's chain order, members per choice, MemberAt (laws 33, 34, ..). The reference's drawn permutations and generators (laws 34, 35, ..). The first pattern with a key, in plain words. -/
import Derived.Test.YtpkplmnpepkdaaaRowVerifiedTablesG6
import Derived.Test.YtpkplmnpepkdaaaRowVerifiedTablesG2
import Derived.Deep.RegionHeld3
import Derived.Test.YtpkplmnpepkdaaaRowVerifiedTablesG4
import Derived.Test.YtpkplmnpepkdaaaRowVerifiedTablesG1
import Derived.Deep.DeepCutAuto
import Derived.Deep.RegionLaw
import Derived.WalkSpells
namespace Go.Proofs.Ytpkplmnpepkdaaa
open Go.RowKit
set_option maxRecDepth 10000

def noTab : Table := ⟨[], [], []⟩
theorem wh_no {x : Puzzle} {tr : List Int} {wh : Bool} {L : List (List Int)} {D : List Int} (h : bfs16 x tr = if wh = true then some (L, D) else none) (hb : bfs16 x tr = none) : wh = false := by
  cases wh
  · rfl
  · rw [hb] at h; simp at h
theorem wh_yes {x : Puzzle} {tr : List Int} {wh : Bool} {L : List (List Int)} {D : List Int} {s : Met16} (h : bfs16 x tr = if wh = true then some (L, D) else none) (hb : bfs16 x tr = some s) : wh = true ∧ s = (L, D) := by
  cases wh
  · rw [hb] at h; simp at h
  · rw [hb] at h; simp at h; exact ⟨rfl, h⟩
set_option maxHeartbeats 4000000 in
theorem specBuildTable_any (cs : List Value) (x : Puzzle) (fp : List Nat) (v : Value) (tr : List Int) (ft : List Nat) (w : World) (h : Rp.rep w cs x fp) (hv : Rd w v tr ft) (htl : tr.length ≤ 2097152) :
    Calls Try.prog 7 #[.agg cs.toArray, v] w fun e w' => ∃ cs' fp', e = .returned (.tuple #[.agg (List.toArray cs'), .bool (bTab x tr).isSome]) ∧ Rp.rep w' cs' ((bTab x tr).getD noTab) fp' ∧ Fresh w.heap.size w' fp' ∧ Only [] w w' := by
  have h0 := h
  obtain ⟨v2, rfl, p0, p1, h2⟩ := h
  obtain ⟨A2, C2, _, _, rfl, -, -⟩ := h2.open_
  obtain ⟨a, cap, rfl, Iv⟩ := hv.ints
  clear Iv h2 p0 p1
  have X0 : Blk ((w.alloc (.cells #[.int .i64 x.points, .string x.names, .slice A2 x.moves.length C2] 26)).alloc (.cells #[.slice none 0 0, .slice none 0 0, .slice none 0 0] 29)) w.heap.size [.int .i64 x.points, .string x.names, .slice A2 x.moves.length C2] := (Blk.new w [.int .i64 x.points, .string x.names, .slice A2 x.moves.length C2] 26).keep ((Only.refl _ _).alloc _)
  have Y0 : Blk ((w.alloc (.cells #[.int .i64 x.points, .string x.names, .slice A2 x.moves.length C2] 26)).alloc (.cells #[.slice none 0 0, .slice none 0 0, .slice none 0 0] 29)) (w.heap.size + 1) [.slice none 0 0, .slice none 0 0, .slice none 0 0] := Blk.new_at (by simp)
  rcases hq : bfs16 x tr with _ | s
  · have Hq := Lib.hid hq
    have hb : bTab x tr = none := by unfold bTab; rw [hq]; rfl
    have Hb := Lib.hid hb
    clear hq hb
    go_enter Try.func7, Try.ntmps7
    go_wp2_with (first
      | (go_at_call 14; (with_reducible refine (searchPatterns_any [.int .i64 x.points, .string x.names, .slice A2 x.moves.length C2] x _ _ tr _ _ (Rp.keep h0 (by with_reducible repeat (first | exact Only.refl _ _ | assumption | refine Only.drewN ?_ _ | refine Only.drew ?_ | refine Only.alloc ?_ _ | refine Only.setCell ?_ (by intro hh; exfalso; simp at hh; try omega) _ | refine Only.trans ?_ (by assumption)))) (Rp.keep hv (by with_reducible repeat (first | exact Only.refl _ _ | assumption | refine Only.drewN ?_ _ | refine Only.drew ?_ | refine Only.alloc ?_ _ | refine Only.setCell ?_ (by intro hh; exfalso; simp at hh; try omega) _ | refine Only.trans ?_ (by assumption))))).mono ?_); rintro e w2 ⟨B1, B2, B3, D1, D2, D3, n3, wh, L, D, fL, fD, rfl, o1, o2, o3, t2, -, -, -, -⟩; obtain rfl := wh_no o3 Hq.out; clear o3; have Y1 := (Y0.keep t2).keep ((Only.refl [] w2).alloc (.cells #[.slice B1 L.length D1, .slice B2 D.length D2, .slice B3 n3 D3, .bool false] 45)); have g0 := Y1.cell 0 rfl; have g1 := Y1.cell 1 rfl; have g2 := Y1.cell 2 rfl; have p0 := Y1.frozen 0; have p1 := Y1.frozen 1; have p2 := Y1.frozen 2)
      | fail "no arm")
    have K2 : Only [] w w2 := (by with_reducible repeat (first | exact Only.refl _ _ | assumption | refine Only.drewN ?_ _ | refine Only.drew ?_ | refine Only.alloc ?_ _ | refine Only.setCell ?_ (by intro hh; exfalso; simp at hh; try omega) _ | refine Only.trans ?_ (by assumption)))
    have K3 := K2.alloc (.cells #[.slice B1 L.length D1, .slice B2 D.length D2, .slice B3 n3 D3, .bool false] 45)
    have Yf := ((Y1.set 0 (.slice none 0 0)).set 1 (.slice none 0 0)).set 2 (.slice none 0 0)
    have kf := K3.then_ ((((Only.refl [w.heap.size + 1] (w2.alloc (.cells #[.slice B1 L.length D1, .slice B2 D.length D2, .slice B3 n3 D3, .bool false] 45))).setCell (p := ⟨w.heap.size + 1, 0, none⟩) (by simp) (.slice none 0 0)).setCell (p := ⟨w.heap.size + 1, 1, none⟩) (by simp) (.slice none 0 0)).setCell (p := ⟨w.heap.size + 1, 2, none⟩) (by simp) (.slice none 0 0)) (by simp)
    obtain ⟨wf, hwf⟩ : ∃ wf, wf = ((((w2.alloc (.cells #[.slice B1 L.length D1, .slice B2 D.length D2, .slice B3 n3 D3, .bool false] 45)).setCell ⟨w.heap.size + 1, 0, none⟩ (.slice none 0 0)).setCell ⟨w.heap.size + 1, 1, none⟩ (.slice none 0 0)).setCell ⟨w.heap.size + 1, 2, none⟩ (.slice none 0 0)) := ⟨_, rfl⟩
    rw [← hwf] at Yf kf ⊢
    simp only [List.set] at Yf
    clear hwf g0 g1 g2 p0 p1 p2
    have r0 := Yf.cell 0 rfl
    have r1 := Yf.cell 1 rfl
    have r2 := Yf.cell 2 rfl
    refine bodyPost_ret (v := .tuple #[.agg #[.slice none 0 0, .slice none 0 0, .slice none 0 0], .bool false]) (by simp [results, Try.results7, go_sem, r0, r1, r2]) rfl ⟨[.slice none 0 0, .slice none 0 0, .slice none 0 0], [], by rw [Hb.out]; rfl, ?_, Fresh.nil _ _, kf⟩
    rw [Hb.out]
    exact ⟨_, _, _, [], [], [], rfl, rfl, nil_rd _, nil_rd _, nil_rd _⟩
  · have Hq := Lib.hid hq
    have hb : bTab x tr = some ⟨tr, s.1, s.2⟩ := by unfold bTab; rw [hq]; rfl
    have Hb := Lib.hid hb
    clear hq hb
    go_enter Try.func7, Try.ntmps7
    go_wp2_with (first
      | (go_at_call 14; (with_reducible refine (searchPatterns_any [.int .i64 x.points, .string x.names, .slice A2 x.moves.length C2] x _ _ tr _ _ (Rp.keep h0 (by with_reducible repeat (first | exact Only.refl _ _ | assumption | refine Only.drewN ?_ _ | refine Only.drew ?_ | refine Only.alloc ?_ _ | refine Only.setCell ?_ (by intro hh; exfalso; simp at hh; try omega) _ | refine Only.trans ?_ (by assumption)))) (Rp.keep hv (by with_reducible repeat (first | exact Only.refl _ _ | assumption | refine Only.drewN ?_ _ | refine Only.drew ?_ | refine Only.alloc ?_ _ | refine Only.setCell ?_ (by intro hh; exfalso; simp at hh; try omega) _ | refine Only.trans ?_ (by assumption))))).mono ?_); rintro e w2 ⟨B1, B2, B3, D1, D2, D3, n3, wh, L, D, fL, fD, rfl, o1, o2, o3, t2, m0, m1, m2, m3⟩; obtain ⟨rfl, he⟩ := wh_yes o3 Hq.out; have He := Lib.hid he; clear o3 he)
      | fail "no arm")
    have K2 : Only [] w w2 := (by with_reducible repeat (first | exact Only.refl _ _ | assumption | refine Only.drewN ?_ _ | refine Only.drew ?_ | refine Only.alloc ?_ _ | refine Only.setCell ?_ (by intro hh; exfalso; simp at hh; try omega) _ | refine Only.trans ?_ (by assumption)))
    have Y1 := ((Y0.keep t2).keep ((Only.refl [] w2).alloc (.cells #[.slice B1 L.length D1, .slice B2 D.length D2, .slice B3 n3 D3, .bool true] 45)))
    have B4 := Blk.new w2 [.slice B1 L.length D1, .slice B2 D.length D2, .slice B3 n3 D3, .bool true] 45
    have o1' := Rp.keep o1 ((Only.refl [] w2).alloc (.cells #[.slice B1 L.length D1, .slice B2 D.length D2, .slice B3 n3 D3, .bool true] 45))
    have o2' := Rp.keep o2 ((Only.refl [] w2).alloc (.cells #[.slice B1 L.length D1, .slice B2 D.length D2, .slice B3 n3 D3, .bool true] 45))
    have K3 := K2.alloc (.cells #[.slice B1 L.length D1, .slice B2 D.length D2, .slice B3 n3 D3, .bool true] 45)
    have hsz : w.heap.size + 2 ≤ w2.heap.size := by have h6 := t2.size; simp at h6; omega
    obtain ⟨b, hb⟩ : ∃ b, b = w2.heap.size := ⟨_, rfl⟩
    obtain ⟨w3, hw3⟩ : ∃ w3, w3 = w2.alloc (.cells #[.slice B1 L.length D1, .slice B2 D.length D2, .slice B3 n3 D3, .bool true] 45) := ⟨_, rfl⟩
    have hs3 : w.heap.size + 3 ≤ w3.heap.size := by rw [hw3]; simp; omega
    rw [← hb] at B4 hsz ⊢
    rw [← hw3] at Y1 B4 o1' o2' K3 ⊢
    clear hb hw3 X0 Y0 t2 o1 o2 K2
    have hv' := Rp.keep hv K3
    have c0 := B4.cell 0 rfl
    have c1 := B4.cell 1 rfl
    have ml : L.length ≤ 2097152 := by omega
    have mr : ∀ y ∈ L, y.length ≤ 2097152 := fun y hy => by have := m3 y hy; omega
    have hdt : ∀ g ∈ ft, g ∉ [w.heap.size + 1] := fun g hg hm => by have := Rp.lt hv g hg; simp at hm; omega
    have hdL : ∀ g ∈ fL, g ∉ [w.heap.size + 1] := fun g hg hm => by have := m0 g (by simp [hg]); simp at this hm; omega
    have hdD : ∀ g ∈ fD, g ∉ [w.heap.size + 1] := fun g hg hm => by have := m0 g (by simp [hg]); simp at this hm; omega
    have hbn : b ∉ [w.heap.size + 1] := by simp; omega
    go_region_held3 (fun w' => Only [w.heap.size + 1] w3 w' ∧ w'.cell? ⟨b, 0, none⟩ = some (.slice B1 L.length D1) ∧ w'.cell? ⟨b, 1, none⟩ = some (.slice B2 D.length D2))
      ((refine and_of ?_ (fun h__ => ⟨h__.cell hbn c0, h__.cell hbn c1⟩); first
        | with_reducible exact (Only.refl _ _).drew
        | with_reducible exact Only.keepThen (And.left (by assumption)) (by assumption)
        | with_reducible exact Only.setCell (Only.setCell (Only.setCell (And.left (by assumption)) (by simp) _) (by simp) _) (by simp) _
        | with_reducible exact And.left (by assumption)
        | assumption))
      (first
        | (go_at_call 15; (with_reducible refine (copyInts_rd (.slice a tr.length cap) tr _ _ (Rp.only hv' (And.left (by assumption)) hdt) (by omega)).mono ?_); rintro e x1 ⟨u1, q1, rfl, r1, F1, y1⟩; have hq := r1.open_; obtain ⟨a1, k1, _, _, rfl, -⟩ := hq)
        | (go_at_call 16; (with_reducible refine (copyLists_rd (.slice B1 L.length D1) L _ _ (Rp.only o1' (And.left (by assumption)) hdL) ml mr).mono ?_); rintro e x2 ⟨u2, q2, rfl, r2, F2, y2⟩; have hq := r2.open_; obtain ⟨a2, k2, _, _, rfl, -⟩ := hq)
        | (go_at_call 15; (with_reducible refine (copyInts_rd (.slice B2 D.length D2) D _ _ (Rp.only o2' (And.left (by assumption)) hdD) (by omega)).mono ?_); rintro e x3 ⟨u3, q3, rfl, r3, F3, y3⟩; have hq := r3.open_; obtain ⟨a3, k3, _, _, rfl, -⟩ := hq; have kk := (((Only.refl [] w3).drew.trans y1).trans y2).trans y3; have Y3 := Y1.keep kk; have g0 := Y3.cell 0 rfl; have g1 := Y3.cell 1 rfl; have g2 := Y3.cell 2 rfl; have p0 := Y3.frozen 0; have p1 := Y3.frozen 1; have p2 := Y3.frozen 2)
        | fail "no arm")
    have F23 := (F2.keep y3).append F3 y2.size (fun g hg => F2.lt g hg)
    have F := (F1.keep (y2.trans y3)).append F23 y1.size (fun g hg => F1.lt g hg)
    have hFg : ∀ g ∈ q1 ++ (q2 ++ q3), g ∉ [w.heap.size + 1] := fun g hg hm => by have := F.ge g hg; simp at this hm; omega
    have Yf := ((Y3.set 0 (.slice a1 tr.length k1)).set 1 (.slice a2 L.length k2)).set 2 (.slice a3 D.length k3)
    have kf : Only [w.heap.size + 1] x3 (((x3.setCell ⟨w.heap.size + 1, 0, none⟩ (.slice a1 tr.length k1)).setCell ⟨w.heap.size + 1, 1, none⟩ (.slice a2 L.length k2)).setCell ⟨w.heap.size + 1, 2, none⟩ (.slice a3 D.length k3)) := (((Only.refl _ _).setCell (by simp) _).setCell (by simp) _).setCell (by simp) _
    have K4 : Only [] w x3 := K3.trans kk
    go_wp2_with fail
    obtain ⟨wf, hwf⟩ : ∃ wf, wf = (((x3.setCell ⟨w.heap.size + 1, 0, none⟩ (.slice a1 tr.length k1)).setCell ⟨w.heap.size + 1, 1, none⟩ (.slice a2 L.length k2)).setCell ⟨w.heap.size + 1, 2, none⟩ (.slice a3 D.length k3)) := ⟨_, rfl⟩
    rw [← hwf] at Yf kf ⊢
    simp only [List.set] at Yf
    clear hwf g0 g1 g2 p0 p1 p2
    have z0 := Yf.cell 0 rfl
    have z1 := Yf.cell 1 rfl
    have z2 := Yf.cell 2 rfl
    refine bodyPost_ret (v := .tuple #[.agg #[.slice a1 tr.length k1, .slice a2 L.length k2, .slice a3 D.length k3], .bool true]) (by simp [results, Try.results7, go_sem, z0, z1, z2]) rfl ⟨[.slice a1 tr.length k1, .slice a2 L.length k2, .slice a3 D.length k3], q1 ++ (q2 ++ q3), by rw [Hb.out]; rfl, ?_, (F.mono (by simp; omega)).only kf hFg, K4.then_ kf (by simp)⟩
    rw [Hb.out, He.out]
    exact ⟨_, _, _, q1, q2, q3, rfl, rfl, Rp.only (Rp.keep r1 (y2.trans y3)) kf (fun g hg => hFg g (by simp [hg])), Rp.only (Rp.keep r2 y3) kf (fun g hg => hFg g (by simp [hg])), Rp.only r3 kf (fun g hg => hFg g (by simp [hg]))⟩
end Go.Proofs.Ytpkplmnpepkdaaa

namespace Go.Proofs.Ytpkplmnpepkdaaa
open Go.RowKit
set_option maxRecDepth 10000

/-- what a search has met: lists of one length, as many depths -/
def Met16.ok (m : Nat) (s : Met16) : Prop := s.1.length = s.2.length ∧ s.1.length ≤ 3000 ∧ ∀ q ∈ s.1, q.length = m
theorem bMeet_ok {m : Nat} {s s' : Met16} {d : Int} {y : List Int} (h : bMeet s d y = some s') (hs : s.ok m) (hy : y.length = m) : s'.ok m := by
  obtain ⟨a, b, -⟩ := bMeet_len h hs.1 hs.2.1
  refine ⟨a, b, fun q hq => ?_⟩
  unfold bMeet at h
  split at h
  · injection h with h; subst h; exact hs.2.2 q hq
  · split at h
    · cases h
    · injection h with h; subst h
      rcases List.mem_append.1 hq with hq | hq
      · exact hs.2.2 q hq
      · simp at hq; subst hq; exact hy
theorem bLets_ok {x : Puzzle} {m : Nat} {q : List Int} {d : Int} (hq : q.length = m) : ∀ {ls : List Int} {s s' : Met16}, bLets x q d ls s = some s' → s.ok m → s'.ok m
  | [], s, s', h, hs => by unfold bLets at h; injection h with h; subst h; exact hs
  | l :: ls, s, s', h, hs => by
    unfold bLets at h
    rw [Option.bind_eq_some_iff] at h
    obtain ⟨s1, e1, e2⟩ := h
    exact bLets_ok hq e2 (bMeet_ok e1 hs (by unfold nxt; rw [PM.comp_len]; exact hq))
theorem bFrom_ok {x : Puzzle} {m : Nat} : ∀ {n k : Nat} {s s' : Met16}, bFrom x n k s = some s' → s.ok m → s'.ok m
  | 0, _, s, s', h, hs => by unfold bFrom at h; injection h with h; subst h; exact hs
  | n + 1, k, s, s', h, hs => by
    unfold bFrom at h
    split at h
    · rename_i hk
      rw [Option.bind_eq_some_iff] at h
      obtain ⟨s1, e1, e2⟩ := h
      refine bFrom_ok e2 (bLets_ok ?_ e1 hs)
      rw [List.getD_eq_getElem?_getD, List.getElem?_eq_getElem hk]
      exact hs.2.2 _ (List.getElem_mem hk)
    · injection h with h; subst h; exact hs
theorem bTab_facts {x : Puzzle} {tr : List Int} {t : Table} (h : bTab x tr = some t) : validPz x = true ∧ trackB x.points tr = true ∧ t.tracked = tr ∧ bfs16 x tr = some (t.patterns, t.distances) ∧ Met16.ok tr.length (t.patterns, t.distances) := by
  unfold bTab at h
  rcases hb : bfs16 x tr with _ | s
  · rw [hb] at h; cases h
  · rw [hb] at h
    injection h with h
    subst h
    rcases hq : validPz x && trackB x.points tr
    · rw [bfs16_no hq] at hb; cases hb
    · obtain ⟨q1, q2⟩ := (Bool.and_eq_true _ _).mp hq
      refine ⟨q1, q2, rfl, rfl, ?_⟩
      rw [bfs16_yes hq] at hb
      exact bFrom_ok hb ⟨rfl, by simp, by simp⟩
end Go.Proofs.Ytpkplmnpepkdaaa

namespace Go.Proofs.Ytpkplmnpepkdaaa
open Go.RowKit
set_option maxRecDepth 10000
theorem idxL_mem {l : List (List Int)} {p : List Int} (h : 0 ≤ idxL l p) : p ∈ l ∧ (idxL l p).toNat < l.length := by
  rcases idxF_nonneg_or (fun q => decide (q = p)) l with h1 | ⟨k, hk, h1, h2⟩
  · unfold idxL at h; omega
  · have : l[k] = p := of_decide_eq_true h2
    unfold idxL
    rw [h1]
    exact ⟨by rw [← this]; exact List.getElem_mem hk, by simpa using hk⟩
end Go.Proofs.Ytpkplmnpepkdaaa

namespace Go.Proofs.Ytpkplmnpepkdaaa
open Go.RowKit
set_option maxRecDepth 10000

theorem getD_last {α : Type} (l : List α) (a z : α) : (l ++ [a]).getD l.length z = a := by
  simp [List.getD_eq_getElem?_getD]
theorem getD_get {α : Type} {l : List α} {z : α} {k : Nat} (h : k < l.length) : l.getD k z = l[k] := by
  rw [List.getD_eq_getElem?_getD, List.getElem?_eq_getElem h]; rfl
theorem nodup_at {α : Type} {l : List α} (h : l.Nodup) {i j : Nat} (hi : i < l.length) (hj : j < l.length) (e : l[i] = l[j]) : i = j := by
  rcases Nat.lt_trichotomy i j with h1 | h1 | h1
  · exact absurd e (List.pairwise_iff_getElem.1 h i j hi hj h1)
  · exact h1
  · exact absurd e.symm (List.pairwise_iff_getElem.1 h j i hj hi h1)
theorem ltrs_neg {n : Nat} {l : Int} (h : l ∈ ltrs n) : -l ∈ ltrs n := by
  rw [mem_ltrs] at h ⊢; omega
theorem mv_opp {n : Nat} {gens : List (List Int)} (hg : ∀ g ∈ gens, PM.PN n g) {l : Int} (h : l ∈ ltrs gens.length) : mv gens (-l) = PM.inv (mv gens l) := by
  rcases letter_cases h with ⟨k, hk, rfl⟩ | ⟨k, hk, rfl⟩
  · rw [mv_pos rfl hk, mv_neg (k := k) rfl hk]
  · rw [mv_neg rfl hk, mv_pos (k := k) (by omega) hk, PM.inv_inv (hg _ (List.getElem_mem hk))]
/-- a letter and its inverse -/
theorem nxt_back {x : Puzzle} {k : Nat} {q : List Int} {l : Int} (hv : validPz x = true) (hq : patB x.points k q = true) (h : l ∈ ltrs x.moves.length) : nxt x (nxt x q l) (-l) = q := by
  have hg := validPz_pn hv
  have hm := mv_pn hg h
  have hf := validPz_facts hv
  have hr := (patB_iff.1 hq).2.1
  unfold nxt
  rw [mv_opp hg h]
  show (q.map (PM.at_ (mv x.moves l))).map (PM.at_ (PM.inv (mv x.moves l))) = q
  rw [List.map_map]
  refine (List.map_congr_left fun z hz => ?_).trans (List.map_id q)
  have := hr z hz
  exact PM.at_inv hm this.1 (by omega)
/-- a search under way: the entries ahead of k are done, of the k-th the letters of done -/
structure BI (x : Puzzle) (tr : List Int) (k : Nat) (done : List Int) (s : Met16) : Prop where
  nd : s.1.Nodup
  dl : s.2.length = s.1.length
  p0 : s.1.getD 0 [] = tr
  d0 : s.2.getD 0 0 = 0
  ne : 0 < s.1.length
  mono : ∀ i j, i ≤ j → j < s.1.length → s.2.getD i 0 ≤ s.2.getD j 0
  top : k < s.1.length → ∀ i, i < s.1.length → s.2.getD i 0 ≤ s.2.getD k 0 + 1
  par : ∀ i, 0 < i → i < s.1.length → ∃ j l, j < i ∧ l ∈ ltrs x.moves.length ∧ nxt x (s.1.getD j []) l = s.1.getD i [] ∧ s.2.getD i 0 = s.2.getD j 0 + 1
  clo : ∀ j l, l ∈ ltrs x.moves.length → (j < k ∨ (j = k ∧ l ∈ done)) → j < s.1.length → ∃ i, i < s.1.length ∧ s.1.getD i [] = nxt x (s.1.getD j []) l ∧ s.2.getD i 0 ≤ s.2.getD j 0 + 1
  kl : k ≤ s.1.length
  pat : ∀ q ∈ s.1, patB x.points tr.length q = true
section
variable {x : Puzzle} {tr : List Int} {k : Nat} {done : List Int} {s s' : Met16}
theorem BI.start (hp : patB x.points tr.length tr = true) : BI x tr 0 [] ([tr], [0]) := by
  refine ⟨by simp, rfl, rfl, rfl, by simp, fun i j h1 h2 => ?_, fun _ i hi => ?_, fun i h1 h2 => ?_, fun j l h1 h2 => ?_, by simp, by simpa using hp⟩
  · have : j = 0 := by simpa using h2
    subst this
    have : i = 0 := by omega
    subst this; exact Int.le_refl _
  · have : i = 0 := by simpa using hi
    subst this; simp
  · have : i = 0 := by simpa using h2
    omega
  · rcases h2 with h2 | ⟨-, h2⟩
    · omega
    · cases h2
theorem BI.meet (h : BI x tr k done s) (hv : validPz x = true) (hk : k < s.1.length) {l : Int} (hl : l ∈ ltrs x.moves.length) (hm : bMeet s (s.2.getD k 0 + 1) (nxt x (s.1.getD k []) l) = some s') :
    BI x tr k (l :: done) s' ∧ s'.1.getD k [] = s.1.getD k [] ∧ s'.2.getD k 0 = s.2.getD k 0 ∧ k < s'.1.length := by
  have hkm : s.1.getD k [] ∈ s.1 := by rw [getD_get hk]; exact List.getElem_mem hk
  have hpn := nxt_pat hv (h.pat _ hkm) hl
  unfold bMeet at hm
  split at hm
  · rename_i hmem
    injection hm with hm
    subst hm
    refine ⟨⟨h.nd, h.dl, h.p0, h.d0, h.ne, h.mono, h.top, h.par, fun j l' h1 h2 h3 => ?_, h.kl, h.pat⟩, rfl, rfl, hk⟩
    rcases h2 with h2 | ⟨rfl, h2⟩
    · exact h.clo j l' h1 (.inl h2) h3
    · rcases List.mem_cons.1 h2 with rfl | h2
      · obtain ⟨i, hi, e⟩ := List.getElem_of_mem hmem
        exact ⟨i, hi, by rw [getD_get hi, e], h.top hk i hi⟩
      · exact h.clo j l' h1 (.inr ⟨rfl, h2⟩) h3
  · rename_i hmem
    split at hm
    · cases hm
    · injection hm with hm
      have hkd : k < s.2.length := by rw [h.dl]; exact hk
      have hle : ∀ i, i < s.1.length → s.2.getD i 0 ≤ s.2.getD k 0 + 1 := h.top hk
      have g1 : ∀ i, i < s.1.length → (s.1 ++ [nxt x (s.1.getD k []) l]).getD i [] = s.1.getD i [] := fun i hi => getD_snoc hi
      have g2 : ∀ i, i < s.1.length → (s.2 ++ [s.2.getD k 0 + 1]).getD i 0 = s.2.getD i 0 := fun i hi => getD_snoc (by rw [h.dl]; exact hi)
      have e1 : (s.1 ++ [nxt x (s.1.getD k []) l]).getD s.1.length [] = nxt x (s.1.getD k []) l := getD_last _ _ _
      have e2 : (s.2 ++ [s.2.getD k 0 + 1]).getD s.1.length 0 = s.2.getD k 0 + 1 := by rw [← h.dl]; exact getD_last _ _ _
      subst hm
      refine ⟨⟨?_, by simp [h.dl], by rw [g1 0 h.ne]; exact h.p0, by rw [g2 0 h.ne]; exact h.d0, by simp, fun i j h1 h2 => ?_, fun _ i hi => ?_, fun i h1 h2 => ?_, fun j l' h1 h2 h3 => ?_, by simp; omega, fun q hq => ?_⟩, g1 k hk, g2 k hk, by simp; omega⟩
      · rw [List.nodup_append]
        exact ⟨h.nd, by simp, fun a ha b hb e => hmem (by rw [← List.mem_singleton.1 hb, ← e]; exact ha)⟩
      · simp only [List.length_append, List.length_singleton] at h2
        by_cases hj : j < s.1.length
        · show (s.2 ++ _).getD i 0 ≤ (s.2 ++ _).getD j 0
          rw [g2 i (by omega), g2 j hj]; exact h.mono i j h1 hj
        · obtain rfl : j = s.1.length := by omega
          show (s.2 ++ _).getD i 0 ≤ (s.2 ++ _).getD _ 0
          rw [e2]
          by_cases hi : i < s.1.length
          · rw [g2 i hi]; exact hle i hi
          · obtain rfl : i = s.1.length := by omega
            rw [e2]; exact Int.le_refl _
      · simp only [List.length_append, List.length_singleton] at hi
        show (s.2 ++ _).getD i 0 ≤ (s.2 ++ _).getD k 0 + 1
        rw [g2 k hk]
        by_cases hi2 : i < s.1.length
        · rw [g2 i hi2]; exact hle i hi2
        · obtain rfl : i = s.1.length := by omega
          rw [e2]; exact Int.le_refl _
      · simp only [List.length_append, List.length_singleton] at h2
        by_cases hi : i < s.1.length
        · obtain ⟨j, l', a1, a2, a3, a4⟩ := h.par i h1 hi
          refine ⟨j, l', a1, a2, ?_, ?_⟩
          · show nxt x ((s.1 ++ _).getD j []) l' = (s.1 ++ _).getD i []
            rw [g1 j (by omega), g1 i hi]; exact a3
          · show (s.2 ++ _).getD i 0 = (s.2 ++ _).getD j 0 + 1
            rw [g2 j (by omega), g2 i hi]; exact a4
        · obtain rfl : i = s.1.length := by omega
          refine ⟨k, l, hk, hl, ?_, ?_⟩
          · show nxt x ((s.1 ++ _).getD k []) l = (s.1 ++ _).getD _ []
            rw [g1 k hk, e1]
          · show (s.2 ++ _).getD _ 0 = (s.2 ++ _).getD k 0 + 1
            rw [g2 k hk, e2]
      · simp only [List.length_append, List.length_singleton] at h3
        have hj : j < s.1.length := by rcases h2 with h2 | ⟨rfl, -⟩ <;> omega
        have hold : (j < k ∨ (j = k ∧ l' ∈ done)) → ∃ i, i < (s.1 ++ [nxt x (s.1.getD k []) l]).length ∧ (s.1 ++ [nxt x (s.1.getD k []) l]).getD i [] = nxt x ((s.1 ++ [nxt x (s.1.getD k []) l]).getD j []) l' ∧ (s.2 ++ [s.2.getD k 0 + 1]).getD i 0 ≤ (s.2 ++ [s.2.getD k 0 + 1]).getD j 0 + 1 := fun h4 => by
          obtain ⟨i, b1, b2, b3⟩ := h.clo j l' h1 h4 hj
          exact ⟨i, by simp; omega, by rw [g1 i b1, g1 j hj]; exact b2, by rw [g2 i b1, g2 j hj]; exact b3⟩
        rcases h2 with h2 | ⟨rfl, h2⟩
        · exact hold (.inl h2)
        · rcases List.mem_cons.1 h2 with rfl | h2
          · exact ⟨s.1.length, by simp, by show (s.1 ++ _).getD _ [] = nxt x ((s.1 ++ _).getD j []) l'; rw [e1, g1 j hk], by show (s.2 ++ _).getD _ 0 ≤ (s.2 ++ _).getD j 0 + 1; rw [e2, g2 j hk]; exact Int.le_refl _⟩
          · exact hold (.inr ⟨rfl, h2⟩)
      · rcases List.mem_append.1 hq with hq | hq
        · exact h.pat q hq
        · simp at hq; subst hq; exact hpn
theorem BI.lets (hv : validPz x = true) : ∀ {ls done : List Int} {s s' : Met16}, BI x tr k done s → k < s.1.length → (∀ l ∈ ls, l ∈ ltrs x.moves.length) → bLets x (s.1.getD k []) (s.2.getD k 0 + 1) ls s = some s' →
    ∃ done', BI x tr k done' s' ∧ k < s'.1.length ∧ (∀ l ∈ ls, l ∈ done') ∧ ∀ l ∈ done, l ∈ done'
  | [], done, s, s', h, hk, _, he => by
    unfold bLets at he; injection he with he; subst he
    exact ⟨done, h, hk, by simp, fun _ h => h⟩
  | l :: ls, done, s, s', h, hk, hl, he => by
    unfold bLets at he
    rw [Option.bind_eq_some_iff] at he
    obtain ⟨s1, e1, e2⟩ := he
    obtain ⟨b1, b2, b3, b4⟩ := h.meet hv hk (hl l (by simp)) e1
    rw [← b2, ← b3] at e2
    obtain ⟨done', c1, c2, c3, c4⟩ := BI.lets hv b1 b4 (fun l hl2 => hl l (by simp [hl2])) e2
    refine ⟨done', c1, c2, fun l' hl' => ?_, fun l' hl' => c4 l' (by simp [hl'])⟩
    rcases List.mem_cons.1 hl' with rfl | hl'
    · exact c4 _ (by simp)
    · exact c3 l' hl'
theorem BI.next (h : BI x tr k done s) (hk : k < s.1.length) (ha : ∀ l ∈ ltrs x.moves.length, l ∈ done) : BI x tr (k + 1) [] s := by
  refine ⟨h.nd, h.dl, h.p0, h.d0, h.ne, h.mono, fun h1 i hi => ?_, h.par, fun j l h1 h2 h3 => ?_, hk, h.pat⟩
  · have h2 := h.top hk i hi
    have h3 := h.mono k (k + 1) (by omega) h1
    omega
  · rcases h2 with h2 | ⟨-, h2⟩
    · by_cases hj : j < k
      · exact h.clo j l h1 (.inl hj) h3
      · obtain rfl : j = k := by omega
        exact h.clo j l h1 (.inr ⟨rfl, ha l h1⟩) h3
    · cases h2
theorem BI.from_ (hv : validPz x = true) : ∀ {n k : Nat} {s s' : Met16}, bFrom x n k s = some s' → BI x tr k [] s → s.1.length ≤ 3000 → 3001 ≤ n + k → BI x tr s'.1.length [] s'
  | 0, k, s, s', he, h, h1, h2 => by have := h.kl; omega
  | n + 1, k, s, s', he, h, h1, h2 => by
    unfold bFrom at he
    split at he
    · rename_i hk
      rw [Option.bind_eq_some_iff] at he
      obtain ⟨s1, e1, e2⟩ := he
      obtain ⟨done', c1, c2, c3, -⟩ := h.lets hv hk (fun l hl => hl) e1
      have hlen := bLets_len e1 h.dl.symm h1
      exact BI.from_ hv e2 (c1.next c2 c3) hlen.2.1 (by omega)
    · injection he with he; subst he
      have : k = s.1.length := by have := h.kl; omega
      subst this; exact h
end
/-- a table that was built -/
structure Built (x : Puzzle) (t : Table) : Prop where
  v : validPz x = true
  tk : trackB x.points t.tracked = true
  bi : BI x t.tracked t.patterns.length [] (t.patterns, t.distances)
  ll : t.patterns.length ≤ 3000
theorem bTab_built {x : Puzzle} {tr : List Int} {t : Table} (h : bTab x tr = some t) : Built x t ∧ t.tracked = tr := by
  obtain ⟨h1, h2, h3, h4, h5, h6, h7⟩ := bTab_facts h
  subst h3
  refine ⟨⟨h1, h2, ?_, h6⟩, rfl⟩
  rw [bfs16_yes (by rw [h1, h2]; rfl)] at h4
  exact BI.from_ h1 h4 (BI.start (trackB_pat h2)) (by simp) (by omega)
section
variable {x : Puzzle} {t : Table}
theorem Built.dep (h : Built x t) : ∀ i : Nat, i < t.patterns.length → 0 ≤ t.distances.getD i 0 ∧ t.distances.getD i 0 ≤ i ∧ (0 < i → 0 < t.distances.getD i 0) := by
  intro i
  induction i using Nat.strongRecOn with
  | ind i ih =>
    intro hi
    by_cases h0 : i = 0
    · subst h0
      have : t.distances.getD 0 0 = 0 := h.bi.d0
      omega
    · obtain ⟨j, l, a1, a2, a3, a4⟩ := h.bi.par i (by omega) hi
      have h1 := ih j a1 (Nat.lt_trans a1 hi)
      simp only at a4
      omega
/-- the entry of a letter -/
theorem Built.step (h : Built x t) {j : Nat} (hj : j < t.patterns.length) {l : Int} (hl : l ∈ ltrs x.moves.length) :
    ∃ i : Nat, i < t.patterns.length ∧ t.patterns.getD i [] = nxt x (t.patterns.getD j []) l ∧ t.distances.getD i 0 ≤ t.distances.getD j 0 + 1 ∧ t.distances.getD j 0 ≤ t.distances.getD i 0 + 1 := by
  obtain ⟨i, b1, b2, b3⟩ := h.bi.clo j l hl (.inl hj) hj
  obtain ⟨j', c1, c2, c3⟩ := h.bi.clo i (-l) (ltrs_neg hl) (.inl b1) b1
  simp only at b1 b2 b3 c1 c2 c3
  rw [b2, nxt_back h.v (h.bi.pat _ (by rw [getD_get hj]; exact List.getElem_mem hj)) hl] at c2
  have : j' = j := by
    rw [getD_get c1, getD_get hj] at c2
    have hnd : t.patterns.Nodup := h.bi.nd
    exact nodup_at hnd c1 hj c2
  subst this
  exact ⟨i, b1, b2, b3, c3⟩
theorem Built.idx (h : Built x t) {i : Nat} (hi : i < t.patterns.length) : idxL t.patterns (t.patterns.getD i []) = i := by
  refine idxF_some (j := i) hi (fun q hq => ?_) ?_
  · rw [List.mem_take_iff_getElem] at hq
    obtain ⟨k, hk, rfl⟩ := hq
    refine decide_eq_false fun e => ?_
    rw [getD_get hi] at e
    have hnd : t.patterns.Nodup := h.bi.nd
    have := nodup_at hnd (by omega) hi e
    omega
  · exact decide_eq_true (getD_get hi).symm
end
end Go.Proofs.Ytpkplmnpepkdaaa

namespace Go.Proofs.Ytpkplmnpepkdaaa
open Go.RowKit
set_option maxRecDepth 10000
/-- the patterns of reachable states are entries -/
theorem Built.reach {x : Puzzle} {t : Table} (h : Built x t) {s : List Int} (hs : reachB x s = true) : PM.comp t.tracked s ∈ t.patterns := by
  have hg := validPz_pn h.v
  have hf := validPz_facts h.v
  have htr := trackB_iff.1 h.tk
  have hG : PM.Grp x.points.toNat x.moves s := by
    unfold reachB memB at hs
    rw [Bool.and_eq_true] at hs
    exact @of_decide_eq_true _ (Classical.propDecidable _) hs.2
  have hr : ∀ z ∈ t.tracked, 0 ≤ z ∧ z < x.points.toNat := fun z hz => by have := htr.2.1 z hz; omega
  have h0 : t.patterns.getD 0 [] = t.tracked := h.bi.p0
  have hne : 0 < t.patterns.length := h.bi.ne
  have := PM.grp_sub (n := x.points.toNat) (G := x.moves) hg (S := fun p => PM.PN x.points.toNat p ∧ PM.comp t.tracked p ∈ t.patterns) (fun p hp => hp.1) ⟨PM.PN.id _, ?_⟩ ?_ hG
  · exact this.2
  · have e : PM.comp t.tracked (PM.pts x.points.toNat) = t.tracked := by
      unfold PM.comp
      refine (List.map_congr_left fun z hz => ?_).trans (List.map_id _)
      exact PM.at_pts (hr z hz).1 (hr z hz).2
    rw [e, ← h0, getD_get hne]
    exact List.getElem_mem hne
  · rintro p g ⟨hp, hm⟩ hgm
    refine ⟨hp.comp (hg g hgm), ?_⟩
    obtain ⟨k, hk, rfl⟩ := List.getElem_of_mem hgm
    obtain ⟨j, hj, e⟩ := List.getElem_of_mem hm
    have hl : ((k : Int) + 1) ∈ ltrs x.moves.length := mem_ltrs.2 ⟨by omega, by omega, by omega⟩
    obtain ⟨i, hi, e2, -⟩ := h.step hj hl
    have e3 : PM.comp t.tracked (PM.comp p x.moves[k]) = nxt x (PM.comp t.tracked p) ((k : Int) + 1) := by
      unfold nxt
      rw [mv_pos rfl hk]
      unfold PM.comp
      rw [List.map_map]
      refine List.map_congr_left fun z hz => ?_
      have := hr z hz
      exact PM.at_comp this.1 (by rw [hp.1]; omega)
    rw [e3, ← e, ← getD_get (z := []) hj, ← e2, getD_get hi]
    exact List.getElem_mem hi
end Go.Proofs.Ytpkplmnpepkdaaa

namespace Go.Proofs.Ytpkplmnpepkdaaa
open Go.RowKit
set_option maxRecDepth 10000

def Good (x : Puzzle) (t : Table) : Prop := ∀ i, i < t.patterns.length → entF x t i = []
theorem one_nil {b : Bool} {f : Fault} : one b f = [] ↔ b = false := by unfold one; cases b <;> simp
theorem faultsTo_nil {x : Puzzle} {t : Table} {k : Nat} : faultsTo x t k = [] ↔ ∀ i, i < k → entF x t i = [] := by
  unfold faultsTo
  rw [List.flatMap_eq_nil_iff]
  exact ⟨fun h i hi => h i (List.mem_range.2 hi), fun h i hi => h i (List.mem_range.1 hi)⟩
theorem tableFaults_nil {x : Puzzle} {t : Table} : tableFaults x t = [] ↔ checkT x t = true ∧ Good x t := by
  unfold tableFaults Good
  rw [← faultsTo_nil]
  split
  · rename_i h
    rw [List.take_eq_nil_iff]
    simp [h]
  · rename_i h
    simp [h]
theorem tableFaults_len0 {x : Puzzle} {t : Table} : (tableFaults x t).length = 0 ↔ checkT x t = true ∧ Good x t := by
  rw [List.length_eq_zero_iff]; exact tableFaults_nil
theorem descL_leads {x : Puzzle} {t : Table} {p : List Int} {d : Int} (h : descL x t p d ≠ 0) : descL x t p d ∈ ltrs x.moves.length ∧ leads x t p d (descL x t p d) = true := by
  unfold descL at h ⊢
  cases hf : (ltrs x.moves.length).find? (leads x t p d) with
  | none => rw [hf] at h; exact absurd rfl h
  | some l => exact ⟨List.mem_of_find?_eq_some hf, List.find?_some hf⟩
theorem descL_ne {x : Puzzle} {t : Table} {p : List Int} {d : Int} {l : Int} (hl : l ∈ ltrs x.moves.length) (h : leads x t p d l = true) : descL x t p d ≠ 0 := by
  unfold descL
  cases hf : (ltrs x.moves.length).find? (leads x t p d) with
  | none => have := List.find?_eq_none.1 hf l hl; rw [h] at this; exact absurd rfl this
  | some l' => exact (mem_ltrs.1 (List.mem_of_find?_eq_some hf)).1
theorem leads_iffD {x : Puzzle} {t : Table} {p : List Int} {d l : Int} : leads x t p d l = true ↔ 0 ≤ nextI x t p l ∧ atD t (nextI x t p l) = d := by
  unfold leads atD
  rw [Bool.and_eq_true, decide_eq_true_iff, decide_eq_true_iff]
section
variable {x : Puzzle} {t t' : Table}
/-- what an entry without faults says -/
theorem ent_nil {i : Nat} : entF x t i = [] ↔ (i = 0 → atD t 0 = 0 ∧ atP t 0 = t.tracked) ∧ (i : Int) ≤ idxL t.patterns (atP t i) ∧ (0 < i → atD t i ≠ 0) ∧
    (∀ l ∈ ltrs x.moves.length, 0 ≤ nextI x t (atP t i) l ∧ -1 ≤ atD t (nextI x t (atP t i) l) - atD t i ∧ atD t (nextI x t (atP t i) l) - atD t i ≤ 1) ∧ (0 < atD t i → descL x t (atP t i) (atD t i - 1) ≠ 0) := by
  unfold entF
  rw [List.append_eq_nil_iff, List.append_eq_nil_iff, List.append_eq_nil_iff, List.append_eq_nil_iff, one_nil, one_nil, one_nil, one_nil, List.flatMap_eq_nil_iff]
  have hl : ∀ l, letF x t i l = [] ↔ 0 ≤ nextI x t (atP t i) l ∧ -1 ≤ atD t (nextI x t (atP t i) l) - atD t i ∧ atD t (nextI x t (atP t i) l) - atD t i ≤ 1 := fun l => by
    unfold letF
    split
    · rename_i h; simp; omega
    · rename_i h
      split
      · rename_i h2; rw [inR_iff] at h2; simp; omega
      · rename_i h2; rw [inR_iff] at h2; simp; omega
  constructor
  · rintro ⟨a, b, c, d, e⟩
    refine ⟨fun h0 => ?_, ?_, fun h0 => ?_, fun l h => (hl l).1 (d l h), fun h0 h1 => ?_⟩
    · subst h0
      simp only [decide_true, Bool.true_and, Bool.or_eq_false_iff, decide_eq_false_iff_not] at a
      exact ⟨Decidable.of_not_not a.1, Decidable.of_not_not a.2⟩
    · have := of_decide_eq_false b; omega
    · intro h1; simp [h0, h1] at c
    · simp [h0, h1] at e
  · rintro ⟨a, b, c, d, e⟩
    refine ⟨?_, decide_eq_false (by omega), ?_, fun l h => (hl l).2 (d l h), ?_⟩
    · by_cases h0 : i = 0
      · subst h0; obtain ⟨a1, a2⟩ := a rfl
        simp [a1, a2]
      · simp [h0]
    · by_cases h0 : 0 < i
      · simp [h0, c h0]
      · simp [h0]
    · by_cases h0 : 0 < atD t i
      · simp [e h0]
      · simp [h0]
theorem atD_nat (i : Nat) : atD t i = t.distances.getD i 0 := by unfold atD; rw [Int.toNat_natCast]
theorem Built.good (h : Built x t) : Good x t := by
  intro i hi
  have hstep : ∀ l ∈ ltrs x.moves.length, ∃ i' : Nat, i' < t.patterns.length ∧ t.patterns.getD i' [] = nxt x (atP t i) l ∧ nextI x t (atP t i) l = i' ∧ atD t i' ≤ atD t i + 1 ∧ atD t i ≤ atD t i' + 1 := fun l hl => by
    obtain ⟨i', a1, a2, a3, a4⟩ := h.step hi hl
    refine ⟨i', a1, a2, ?_, by rw [atD_nat, atD_nat]; exact a3, by rw [atD_nat, atD_nat]; exact a4⟩
    show idxL t.patterns (nxt x (t.patterns.getD i []) l) = i'
    rw [← a2]; exact h.idx a1
  refine ent_nil.2 ⟨fun h0 => ?_, ?_, fun h0 => ?_, fun l hl => ?_, fun h0 => ?_⟩
  · have a := h.bi.d0; have b := h.bi.p0
    simp only at a b
    exact ⟨a, b⟩
  · rw [show atP t i = t.patterns.getD i [] from rfl, h.idx hi]; exact Int.le_refl _
  · have := (h.dep i hi).2.2 h0
    rw [atD_nat]; omega
  · obtain ⟨i', a1, a2, a3, a4, a5⟩ := hstep l hl
    rw [a3]; omega
  · have hi0 : 0 < i := by
      rcases Nat.eq_zero_or_pos i with h1 | h1
      · subst h1
        have := h.bi.d0
        simp only at this
        rw [atD_nat, this] at h0; omega
      · exact h1
    obtain ⟨j, l, a1, a2, a3, a4⟩ := h.bi.par i hi0 hi
    simp only at a3 a4
    have hj : j < t.patterns.length := by omega
    have hjm : t.patterns.getD j [] ∈ t.patterns := by rw [getD_get hj]; exact List.getElem_mem hj
    have hb : nxt x (atP t i) (-l) = t.patterns.getD j [] := by
      rw [show atP t i = t.patterns.getD i [] from rfl, ← a3]
      exact nxt_back h.v (h.bi.pat _ hjm) a2
    refine descL_ne (ltrs_neg a2) (leads_iffD.2 ?_)
    have hn : nextI x t (atP t i) (-l) = j := by
      show idxL t.patterns (nxt x (atP t i) (-l)) = j
      rw [hb]; exact h.idx hj
    rw [hn, atD_nat, atD_nat]
    omega
theorem Built.check (h : Built x t) : checkT x t = true := by
  obtain ⟨h1, h2, h3, h4⟩ := validPz_facts h.v
  have h5 := trackB_iff.1 h.tk
  have hd := h.bi.dl
  simp only at hd
  have h20 : ∀ p, patB x.points t.tracked.length p = true → patB 20 t.tracked.length p = true := fun p hp => by
    obtain ⟨a, b, c⟩ := patB_iff.1 hp
    exact patB_iff.2 ⟨a, fun y hy => by have := b y hy; omega, c⟩
  refine checkT_iff.2 ⟨h.v, wfT_iff.2 ⟨trackB_iff.2 ⟨h5.1, fun y hy => by have := h5.2.1 y hy; omega, h5.2.2⟩, ⟨?_, ?_⟩, hd, fun p hp => h20 p (h.bi.pat p hp), fun d hdm => ?_⟩, h.tk, h.bi.pat⟩
  · have := h.bi.ne; simp only at this; omega
  · have := h.ll; omega
  · obtain ⟨i, hi, rfl⟩ := List.getElem_of_mem hdm
    have hil : i < t.patterns.length := by omega
    have := h.dep i hil
    rw [getD_get hi] at this
    have := h.ll
    rw [inR_iff]; omega
theorem Good.dist0 (_ : Good x t) (hc : checkT x t = true) : ∀ i : Nat, i < t.patterns.length → 0 ≤ atD t i := fun i hi => by
  have hw := wfT_iff.1 (checkT_iff.1 hc).2.1
  have hi' : i < t.distances.length := by omega
  rw [atD_nat, getD_get hi']
  have := inR_iff.1 (hw.2.2.2.2 _ (List.getElem_mem hi')); omega
end
end Go.Proofs.Ytpkplmnpepkdaaa

namespace Go.Proofs.Ytpkplmnpepkdaaa
open Go.RowKit
set_option maxRecDepth 10000

section
variable {x : Puzzle} {t : Table}
theorem idxL_getD {l : List (List Int)} {p : List Int} (h : 0 ≤ idxL l p) : l.getD (idxL l p).toNat [] = p := by
  rcases idxF_nonneg_or (fun q => decide (q = p)) l with h1 | ⟨k, hk, h1, h2⟩
  · unfold idxL at h; omega
  · unfold idxL
    rw [h1, Int.toNat_natCast, getD_get hk]
    exact of_decide_eq_true h2
end
/-- so many patterns at most -/
theorem BI.bound {x : Puzzle} {tr : List Int} {k : Nat} {done : List Int} {s : Met16} (h : BI x tr k done s) : s.1.length ≤ (PM.allL (PM.pts x.points.toNat) tr.length).length := by
  refine PM.nodup_sub_len h.nd fun q hq => ?_
  obtain ⟨a, b, -⟩ := patB_iff.1 (h.pat q hq)
  rw [← a]
  exact PM.mem_allL q fun y hy => PM.mem_pts.2 (by have := b y hy; omega)
theorem BI.lets_some {x : Puzzle} {tr : List Int} {k : Nat} (hv : validPz x = true) (hb : (PM.allL (PM.pts x.points.toNat) tr.length).length < 3000) : ∀ {ls done : List Int} {s : Met16}, BI x tr k done s → k < s.1.length → (∀ l ∈ ls, l ∈ ltrs x.moves.length) → (bLets x (s.1.getD k []) (s.2.getD k 0 + 1) ls s).isSome = true
  | [], done, s, h, hk, _ => rfl
  | l :: ls, done, s, h, hk, hl => by
    unfold bLets
    have h1 : ∃ s1, bMeet s (s.2.getD k 0 + 1) (nxt x (s.1.getD k []) l) = some s1 := by
      unfold bMeet
      split
      · exact ⟨_, rfl⟩
      · split
        · have := h.bound; omega
        · exact ⟨_, rfl⟩
    obtain ⟨s1, e1⟩ := h1
    obtain ⟨b1, b2, b3, b4⟩ := h.meet hv hk (hl l (by simp)) e1
    have := BI.lets_some (ls := ls) hv hb b1 b4 (fun l hl2 => hl l (by simp [hl2]))
    rw [b2, b3] at this
    rw [e1]; exact this
theorem BI.from_some {x : Puzzle} {tr : List Int} (hv : validPz x = true) (hb : (PM.allL (PM.pts x.points.toNat) tr.length).length < 3000) : ∀ {n k : Nat} {s : Met16}, BI x tr k [] s → (bFrom x n k s).isSome = true
  | 0, k, s, h => rfl
  | n + 1, k, s, h => by
    unfold bFrom
    split
    · rename_i hk
      obtain ⟨s1, e1⟩ := Option.isSome_iff_exists.1 (BI.lets_some hv hb h hk (fun l hl => hl))
      obtain ⟨done', c1, c2, c3, -⟩ := h.lets hv hk (fun l hl => hl) e1
      rw [e1]
      exact BI.from_some hv hb (c1.next c2 c3)
    · rfl
theorem bTab_some {x : Puzzle} {tr : List Int} (hv : validPz x = true) (ht : trackB x.points tr = true) (hb : (PM.allL (PM.pts x.points.toNat) tr.length).length < 3000) : ∃ t, bTab x tr = some t := by
  have h := BI.from_some hv hb (n := 3001) (BI.start (trackB_pat ht))
  obtain ⟨s, e⟩ := Option.isSome_iff_exists.1 h
  exact ⟨⟨tr, s.1, s.2⟩, by unfold bTab; rw [bfs16_yes (by rw [hv, ht]; rfl), e]; rfl⟩
end Go.Proofs.Ytpkplmnpepkdaaa

namespace Go.Proofs.Ytpkplmnpepkdaaa
open Go.RowKit
set_option maxRecDepth 10000

/-- the members of a group, each once -/
noncomputable def grpL (n : Nat) (gens : List (List Int)) : List (List Int) := Classical.choose (PM.nodup_exists (PM.allL (PM.pts n) n) (PM.Grp n gens))
theorem grpL_nodup (n : Nat) (gens : List (List Int)) : (grpL n gens).Nodup := (Classical.choose_spec (PM.nodup_exists (PM.allL (PM.pts n) n) (PM.Grp n gens))).1
theorem mem_grpL {n : Nat} {gens : List (List Int)} (hp : ∀ g ∈ gens, PM.PN n g) {p : List Int} : p ∈ grpL n gens ↔ PM.Grp n gens p := by
  have h := (Classical.choose_spec (PM.nodup_exists (PM.allL (PM.pts n) n) (PM.Grp n gens))).2 p
  show p ∈ Classical.choose _ ↔ _
  rw [h]
  refine ⟨fun h => h.2, fun hg => ⟨?_, hg⟩⟩
  have hpn := PM.Grp.pn hp hg
  have := PM.mem_allL (A := PM.pts n) p fun x hx => PM.mem_pts.2 (by have := hpn.2.1 x hx; rw [hpn.1] at this; exact this)
  rwa [hpn.1] at this
/-- how many states can be reached -/
noncomputable def cardG (x : Puzzle) : Nat := (grpL x.points.toNat x.moves).length
theorem pts_inc (n : Nat) : Inc (n : Int) (PM.pts n) := by
  refine ⟨fun z hz => PM.mem_pts.1 hz, ?_⟩
  unfold PM.pts
  rw [List.pairwise_map]
  exact List.Pairwise.imp (fun h => by omega) (List.pairwise_lt_range (n := n))
theorem pts_track {x : Puzzle} (hv : validPz x = true) : trackB x.points (PM.pts x.points.toNat) = true := by
  have := validPz_facts hv
  rw [trackB_iff]
  refine ⟨by rw [PM.pts_len]; omega, ?_⟩
  have h := pts_inc x.points.toNat
  rwa [show ((x.points.toNat : Nat) : Int) = x.points by omega] at h
/-- the search of all states -/
def expl (x : Puzzle) : Option Table := bTab x (PM.pts x.points.toNat)
theorem grp_nxt {x : Puzzle} (hv : validPz x = true) {s : List Int} (hs : PM.Grp x.points.toNat x.moves s) {l : Int} (hl : l ∈ ltrs x.moves.length) : PM.Grp x.points.toNat x.moves (nxt x s l) := by
  have h3 := validPz_pn hv
  refine PM.Grp.comp h3 hs ?_
  rcases letter_cases hl with ⟨k, hk, rfl⟩ | ⟨k, hk, rfl⟩
  · rw [mv_pos rfl hk]; exact PM.Grp.gen h3 (List.getElem_mem hk)
  · rw [mv_neg (k := k) rfl hk]; exact PM.Grp.gen_inv h3 (List.getElem_mem hk)
theorem BI.grp {x : Puzzle} {k : Nat} {done : List Int} {s : Met16} (hv : validPz x = true) (h : BI x (PM.pts x.points.toNat) k done s) : ∀ i, i < s.1.length → PM.Grp x.points.toNat x.moves (s.1.getD i []) := by
  intro i
  induction i using Nat.strongRecOn with
  | ind i ih =>
    intro hi
    by_cases h0 : i = 0
    · subst h0; rw [h.p0]; exact .id
    · obtain ⟨j, l, a1, a2, a3, -⟩ := h.par i (by omega) hi
      rw [← a3]
      exact grp_nxt hv (ih j a1 (Nat.lt_trans a1 hi)) a2
theorem BI.full {x : Puzzle} {k : Nat} {done : List Int} {s : Met16} (hv : validPz x = true) (hc : cardG x ≤ 3000) (h : BI x (PM.pts x.points.toNat) k done s) (hk : k < s.1.length) {l : Int} (hl : l ∈ ltrs x.moves.length) (hn : nxt x (s.1.getD k []) l ∉ s.1) : s.1.length ≠ 3000 := by
  intro h3
  have hg := h.grp hv
  have hall : ∀ p ∈ s.1 ++ [nxt x (s.1.getD k []) l], PM.Grp x.points.toNat x.moves p := fun p hp => by
    rcases List.mem_append.1 hp with hp | hp
    · obtain ⟨i, hi, rfl⟩ := List.getElem_of_mem hp
      have := hg i hi
      rwa [getD_get hi] at this
    · simp at hp; subst hp
      exact grp_nxt hv (hg k hk) hl
  have hnd : (s.1 ++ [nxt x (s.1.getD k []) l]).Nodup := by
    rw [List.nodup_append]
    exact ⟨h.nd, by simp, fun a ha b hb e => hn (by rw [← List.mem_singleton.1 hb, ← e]; exact ha)⟩
  have := PM.nodup_sub_len hnd fun p hp => (mem_grpL (validPz_pn hv)).2 (hall p hp)
  unfold cardG at hc
  simp only [List.length_append, List.length_singleton] at this
  omega
theorem BI.lets_some2 {x : Puzzle} {k : Nat} (hv : validPz x = true) (hc : cardG x ≤ 3000) : ∀ {ls done : List Int} {s : Met16}, BI x (PM.pts x.points.toNat) k done s → k < s.1.length → (∀ l ∈ ls, l ∈ ltrs x.moves.length) → (bLets x (s.1.getD k []) (s.2.getD k 0 + 1) ls s).isSome = true
  | [], done, s, h, hk, _ => rfl
  | l :: ls, done, s, h, hk, hl => by
    unfold bLets
    have h1 : ∃ s1, bMeet s (s.2.getD k 0 + 1) (nxt x (s.1.getD k []) l) = some s1 := by
      unfold bMeet
      split
      · exact ⟨_, rfl⟩
      · rename_i hn
        rw [if_neg (h.full hv hc hk (hl l (by simp)) hn)]
        exact ⟨_, rfl⟩
    obtain ⟨s1, e1⟩ := h1
    obtain ⟨b1, b2, b3, b4⟩ := h.meet hv hk (hl l (by simp)) e1
    have := BI.lets_some2 (ls := ls) hv hc b1 b4 (fun l hl2 => hl l (by simp [hl2]))
    rw [b2, b3] at this
    rw [e1]; exact this
theorem BI.from_some2 {x : Puzzle} (hv : validPz x = true) (hc : cardG x ≤ 3000) : ∀ {n k : Nat} {s : Met16}, BI x (PM.pts x.points.toNat) k [] s → (bFrom x n k s).isSome = true
  | 0, k, s, h => rfl
  | n + 1, k, s, h => by
    unfold bFrom
    split
    · rename_i hk
      obtain ⟨s1, e1⟩ := Option.isSome_iff_exists.1 (BI.lets_some2 hv hc h hk (fun l hl => hl))
      obtain ⟨done', c1, c2, c3, -⟩ := h.lets hv hk (fun l hl => hl) e1
      rw [e1]
      exact BI.from_some2 hv hc (c1.next c2 c3)
    · rfl
theorem expl_some {x : Puzzle} (hv : validPz x = true) (hc : cardG x ≤ 3000) : ∃ t, expl x = some t := by
  have h := BI.from_some2 (n := 3001) hv hc (BI.start (trackB_pat (pts_track hv)))
  obtain ⟨s, hs⟩ := Option.isSome_iff_exists.1 h
  refine ⟨⟨PM.pts x.points.toNat, s.1, s.2⟩, ?_⟩
  unfold expl bTab
  rw [bfs16_yes (by rw [hv, pts_track hv]; rfl), hs]; rfl
section
variable {x : Puzzle} {t : Table}
theorem expl_built (h : expl x = some t) : Built x t ∧ t.tracked = PM.pts x.points.toNat := bTab_built h
theorem expl_mem (h : expl x = some t) {q : List Int} : q ∈ t.patterns ↔ PM.Grp x.points.toNat x.moves q := by
  obtain ⟨hb, ht⟩ := expl_built h
  have hi := hb.bi
  rw [ht] at hi
  constructor
  · intro hq
    obtain ⟨i, hil, rfl⟩ := List.getElem_of_mem hq
    have := hi.grp hb.v i hil
    rwa [getD_get hil] at this
  · intro hg
    have hpn := PM.Grp.pn (validPz_pn hb.v) hg
    have hf := validPz_facts hb.v
    have hr : reachB x q = true := by
      unfold reachB stateB memB
      rw [Bool.and_eq_true, Bool.and_eq_true]
      exact ⟨⟨hb.v, (genB_iff hf.1 hf.2.1).2 hpn⟩, @decide_eq_true _ (Classical.propDecidable _) hg⟩
    have := hb.reach hr
    rwa [ht, PM.id_comp hpn] at this
theorem expl_len (h : expl x = some t) : t.patterns.length = cardG x := by
  obtain ⟨hb, -⟩ := expl_built h
  have hnd : t.patterns.Nodup := hb.bi.nd
  exact Nat.le_antisymm (PM.nodup_sub_len hnd fun q hq => (mem_grpL (validPz_pn hb.v)).2 ((expl_mem h).1 hq)) (PM.nodup_sub_len (grpL_nodup _ _) fun q hq => (expl_mem h).2 ((mem_grpL (validPz_pn hb.v)).1 hq))
theorem expl_iff (hv : validPz x = true) : (∃ t, expl x = some t) ↔ cardG x ≤ 3000 :=
  ⟨fun ⟨_, ht⟩ => by rw [← expl_len ht]; exact (expl_built ht).1.ll, expl_some hv⟩
end
end Go.Proofs.Ytpkplmnpepkdaaa

namespace Go.Proofs.Ytpkplmnpepkdaaa
open Go.RowKit
set_option maxRecDepth 10000
theorem AccI.low2 {B B' : Nat} {e : TypeId} {w : World} {v : Value} {l : List Int} (h : AccI B e w v l) (hB : B' ≤ B) : AccI B' e w v l := by
  obtain ⟨h1, h2⟩ := h.row
  refine AccI.ofRow ⟨h1.1, ?_⟩ h2
  rcases h1.2 with h3 | ⟨g, cap, cur, h3, h4, h5⟩
  · exact .inl h3
  · exact .inr ⟨g, cap, cur, h3, Nat.le_trans hB h4, h5⟩
end Go.Proofs.Ytpkplmnpepkdaaa

namespace Go.Proofs.Ytpkplmnpepkdaaa
open Go.RowKit
set_option maxRecDepth 10000

theorem row_keep {w w' : World} {B : Nat} {e : TypeId} {size n : Nat} {v : Value} {xs : List Value} (h : w.ownsRow B e size v n xs) (ho : Only [] w w') : w'.ownsRow B e size v n xs := by
  refine ⟨h.1, ?_⟩
  rcases h.2 with ⟨rfl, h0⟩ | ⟨g, cp, cur, rfl, hb, hg, hrest⟩
  · exact .inl ⟨rfl, h0⟩
  · exact .inr ⟨g, cp, cur, rfl, hb, by rw [ho.block g (Array.getElem?_eq_some_iff.1 hg).1 (by simp)]; exact hg, hrest⟩
section
variable {P : Program} (w : World)
/-- an append as one step of a region that draws its order -/
theorem step_app {ops : Array Oper} {o : Oper} {a : Act} {K : Act → World → Prop} {Q : Exit → Act → World → Prop} {E : Prop} (hgd : o.guard = none) (s x : Operand) (t : TypeId)
    (ho : o.op = .call { callee := .builtin .append, args := #[s, x], argTypes := #[t, t] })
    (base : Nat) (e : TypeId) (i : TypeInfo) (z : Value) (size bytes : Nat) (ht : P.underlying t = some (.slice e)) (hi : P.info? e = some i) (hz : i.zero = some z)
    (hsize : i.size = size) (hby : i.bytes = bytes) (hzs : z.cells.size = size) (hsz : 0 < size)
    (v : Value) (n : Nat) (xs : List Value) (hs : a.eval s = v) (hown : w.ownsRow base e size v n xs)
    (A : Option Addr) (m c : Nat) (news : List Value) (hx : a.eval x = .slice A m c) (hl : news.length = m * size) (hsrc : ∀ ad, A = some ad → ∀ j u, news[j]? = some u → w.cell? (ad.add j) = some u) (hA : A = none → m = 0) (h1 : ∀ u ∈ news, u.oneCell' = true)
    (h63 : n + m ≤ maxLen) (hbytes : (n + m) * bytes ≤ 140737488355328) (hbase : base ≤ w.heap.size)
    (h : ∀ v' w', w'.ownsRow base e size v' (n + m) (xs ++ news) → w.grownBy w' v.ownBlock → (v'.ownBlock = v.ownBlock ∨ v'.ownBlock = some w.heap.size) → K (a.put o.dst v') w') : if Region.wanted o (yielded ops a.tmps) = true then Oper.wp P o a w K Q else E := by
  have hw : Region.wanted o (yielded ops a.tmps) = true := by simp [Region.wanted, hgd]
  rw [if_pos hw]
  exact wp_app w s x t ho base e i z size bytes ht hi hz hsize hby hzs hsz v n xs hs hown A m c news hx hl hsrc hA h1 h63 hbytes hbase h
end
set_option maxHeartbeats 4000000 in
theorem drawPerm_any (g : Nat) (fc : List Nat) (l : List UInt8) (n : Nat) (w : World) (h : Src w g fc l) (hn : n ≤ 1000) (hl : l.length ≤ 4096) :
    Calls Try.prog 50 #[.pointer (some ⟨g, 0, none⟩), .int .i64 n] w fun e w' => ∃ v p, e = .returned v ∧ AccI w.heap.size 2 w' v p ∧ PM.PN n p ∧ Src w' g fc l ∧ Only [g] w w' := by
  obtain ⟨i0, hi, hz0, hz1, hz2⟩ := info_parts Try.info2
  go_enter Try.func50, Try.ntmps50
  go_wp2
  go_loopw [5, 6] (fun o i wr => ∃ (j : Nat) (p : List Int) (fp : List Nat), j ≤ n ∧ i = .int .i64 j ∧ (∃ b off c, o = .slice (some ⟨b, off, none⟩) p.length c ∧ IntsA wr (some ⟨b, off, none⟩) c p fp) ∧ AccI w.heap.size 2 wr o p ∧ PM.PN j p ∧ Fresh w.heap.size wr fp ∧ Src wr g fc l ∧ Only [g] w wr)
    (fun _ i _ => n - (intOf i).toNat)
  case atStart => exact ⟨0, [], [], Nat.zero_le _, rfl, ⟨w.heap.size, 0, 0, rfl, IntsA.nil _ _ (by simp [maxLen])⟩, AccI.made w w.heap.size _ rfl (Nat.le_refl _), ⟨rfl, by simp [PM.IsP]⟩, Fresh.nil _ _, h.keep ((Only.refl _ _).alloc _), (Only.refl _ _).alloc _⟩
  case round =>
    obtain ⟨W2, hnew⟩ : ∃ W, W = wr := ⟨_, rfl⟩
    subst hnew
    obtain ⟨j, p, fp, hj, rfl, ⟨b, off, c, rfl, I⟩, hA, hp, hF, hD, hK⟩ := hrel
    by_cases hlt : j < n
    · have hwj : IntKind.i64.wrap ((j : Int) + 1) = (j : Int) + 1 := by rw [IntKind.wrap_i64]; omega
      go_upto_region 6 with ((go_at_call 23; (with_reducible refine (srcBelow_any g fc l ((j : Int) + 1) _ hD hl (by omega)).mono ?_); rintro e w3 ⟨r, rfl, q1, q2, D3, K3⟩))
      obtain ⟨k, rfl⟩ := Int.eq_ofNat_of_zero_le q1
      have hpl := hp.1
      have hcap := I.len
      have hkp : k ≤ p.length := by omega
      have hkc : k ≤ c := by omega
      have hkp' : (k : Int) ≤ (p.length : Int) := by omega
      have hkc' : (k : Int) ≤ (c : Int) := by omega
      have hc0 : (p.length : Int) ≤ (c : Int) := by omega
      have Hpl := Lib.hid hpl
      have Hp := Lib.hid hp
      clear hpl hp hA
      have K3' : Only [g] w w3 := hK.trans K3
      have hg := h.lt
      have I3 := I.only K3 (fun b hb hm => by have := hF.ge b hb; simp at hm; omega)
      have hk0 : (0 : Int) ≤ (k : Int) := by omega
      have hlk : (p.take k).length = k := by rw [List.length_take]; omega
      have HK := Lib.hid hlk
      clear hlk
      have hTk : Rd w3 (.slice (some ⟨b, off, none⟩) k c) (p.take k) fp := by
        have := (I3.take k).rd
        rwa [HK.out] at this
      have hTl : (p.take k).length ≤ 1073741824 := by have := HK.out; omega
      have hj1000 : j ≤ 1000 := by omega
      have hpl1 : p.length ≤ 1000 := by have := Hpl.out; omega
      have hend : ∀ v6 w6, w6.ownsRow w3.heap.size 2 1 v6 (k + 1 + (p.length - k)) (((p.take k).map (Value.int .i64) ++ [.int .i64 (j : Int)]) ++ (p.drop k).map (Value.int .i64)) → Only [] w3 w6 →
          ∃ (p' : List Int) (fp' : List Nat), (∃ b off c, v6 = .slice (some ⟨b, off, none⟩) p'.length c ∧ IntsA w6 (some ⟨b, off, none⟩) c p' fp') ∧ AccI w.heap.size 2 w6 v6 p' ∧ PM.PN (j + 1) p' ∧ Fresh w.heap.size w6 fp' ∧ Src w6 g fc l ∧ Only [g] w w6 := fun v6 w6 hO ho => by
        have hcells : ((p.take k).map (Value.int .i64) ++ [Value.int .i64 (j : Int)]) ++ (p.drop k).map (Value.int .i64) = (p.take k ++ ((p.length : Int) :: p.drop k)).map (Value.int .i64) := by
          rw [Hpl.out]; simp
        rw [hcells] at hO
        have hP := ins_isP Hp.out.2 hkp
        have hlen : (p.take k ++ ((p.length : Int) :: p.drop k)).length = j + 1 := by
          rw [List.length_append, List.length_cons, HK.out, List.length_drop]; have := Hpl.out; omega
        have hwf : ∀ x ∈ p.take k ++ ((p.length : Int) :: p.drop k), I64 x := fun x hx => by have := hP.1 x hx; rw [hlen] at this; unfold I64; omega
        have hn6 : k + 1 + (p.length - k) = (p.take k ++ ((p.length : Int) :: p.drop k)).length := by rw [hlen]; have := Hpl.out; omega
        rw [hn6] at hO
        have hA6 := (AccI.ofRow hO hwf).low2 K3'.size
        obtain ⟨a6, c6, hv6, -, I6, F6⟩ := own_ints hO hwf
        obtain ⟨b6, o6, ha6, -, -⟩ := I6.at_ 0 (by rw [hlen]; omega)
        subst ha6
        exact ⟨_, _, ⟨b6, o6, c6, hv6, I6⟩, hA6, ⟨hlen, hP⟩, F6.mono K3'.size, D3.keep ho, K3'.keepThen ho⟩
      have HcC : Hid (∀ V : World, Only [] w3 V → Calls Try.prog 15 #[.slice (some ⟨b, off, none⟩) k c] V fun e w' => ∃ a4 q4, e = .returned (.slice a4 k q4) ∧ w'.ownsRow w3.heap.size 2 1 (.slice a4 k q4) k ((p.take k).map (Value.int .i64)) ∧ Only [] V w') := Lib.hid (fun V hV => by
        refine (copyInts_aI (.slice (some ⟨b, off, none⟩) k c) (p.take k) fp V (Rp.keep hTk hV) hTl).mono ?_
        rintro e w' ⟨v4, rfl, hA4, o4⟩
        have hO4 := (hA4.low2 hV.size).row.1
        rw [HK.out] at hO4
        obtain ⟨a4, q4, e4⟩ := hA4.form
        rw [HK.out] at e4
        subst e4
        exact ⟨a4, q4, rfl, hO4, o4⟩)
      by_cases hck : c = k
      · subst hck
        have hd0 : p.drop c = [] := List.drop_eq_nil_of_le (by omega)
        have Hd0 := Lib.hid hd0
        clear hd0
        go_region_law (first
          | (go_simp; go_at_call 15; (with_reducible refine (HcC.out _ (by with_reducible repeat (first | exact Only.refl _ _ | assumption | refine Only.drewN ?_ _ | refine Only.drew ?_ | refine Only.alloc ?_ _ | refine Only.trans ?_ (by assumption)))).mono ?_); rintro en w4 ⟨a4, q4, rfl, hO4, o4⟩; have o4w : Only [] w3 w4 := Only.trans (by with_reducible repeat (first | exact Only.refl _ _ | assumption | refine Only.drewN ?_ _ | refine Only.drew ?_ | refine Only.alloc ?_ _ | refine Only.trans ?_ (by assumption))) o4)
          | (refine step_app _ rfl (.tmp 21) (.tmp 23) 27 rfl w3.heap.size 2 i0 _ 1 8 Try.underlying27 hi hz0 hz1 hz2 rfl (by omega) (.slice a4 c q4) c ((p.take c).map (Value.int .i64)) rfl (row_keep hO4 (by with_reducible repeat (first | exact Only.refl _ _ | assumption | refine Only.drewN ?_ _ | refine Only.drew ?_ | refine Only.alloc ?_ _ | refine Only.trans ?_ (by assumption)))) _ 1 1 [.int .i64 (j : Int)] rfl rfl (by first | exact lit_srcA _ [.int .i64 (j : Int)] 2 rfl | exact (fun ad hh j1 u hu => o4.cell (by simp) (lit_srcA _ [.int .i64 (j : Int)] 2 rfl ad hh j1 u hu))) (by intro hh; cases hh) (by intro u hu; simp at hu; subst hu; rfl) (by unfold maxLen; omega) (by omega) (Only.size (fp := []) (by with_reducible repeat (first | exact Only.refl _ _ | assumption | refine Only.drewN ?_ _ | refine Only.drew ?_ | refine Only.alloc ?_ _ | refine Only.trans ?_ (by assumption)))) ?_; intro v5 w5 hO5 hg5 hb5; have o5 : Only [] w3 w5 := Only.grown (by with_reducible repeat (first | exact Only.refl _ _ | assumption | refine Only.drewN ?_ _ | refine Only.drew ?_ | refine Only.alloc ?_ _ | refine Only.trans ?_ (by assumption))) hg5 (by intro z hz hzl; have := (hO4.lt z hz).1; omega); have ID := (I3.keep o5).drop hkp; have s5 := ints_src ID; have hdl : ((p.drop c).map (Value.int .i64)).length = (p.length - c) * 1 := (by simp); have Hdl := Lib.hid hdl; clear hdl)
          | (refine step_app _ rfl (.tmp 24) (.tmp 27) 27 rfl w3.heap.size 2 i0 _ 1 8 Try.underlying27 hi hz0 hz1 hz2 rfl (by omega) v5 (c + 1) ((p.take c).map (Value.int .i64) ++ [.int .i64 (j : Int)]) rfl (row_keep hO5 (by with_reducible repeat (first | exact Only.refl _ _ | assumption | refine Only.drewN ?_ _ | refine Only.drew ?_ | refine Only.alloc ?_ _ | refine Only.trans ?_ (by assumption)))) (some ⟨b, off, none⟩) 0 0 [] rfl rfl (by intro ad hh j1 u hu; simp at hu) (by intro hh; cases hh) (by intro u hu; simp at hu) (by unfold maxLen; omega) (by omega) (Only.size (fp := []) (by with_reducible repeat (first | exact Only.refl _ _ | assumption | refine Only.drewN ?_ _ | refine Only.drew ?_ | refine Only.alloc ?_ _ | refine Only.trans ?_ (by assumption)))) ?_; intro v6 w6 hO6 hg6 hb6; have o6 : Only [] w3 w6 := Only.grown (by with_reducible repeat (first | exact Only.refl _ _ | assumption | refine Only.drewN ?_ _ | refine Only.drew ?_ | refine Only.alloc ?_ _ | refine Only.trans ?_ (by assumption))) hg6 (by intro z hz hzl; have := (hO5.lt z hz).1; omega))
          | fail "no arm")
        all_goals (
          have hfin := hend v6 w6 (by have e : p.length - c = 0 := (by omega); rw [e, Hd0.out]; simpa using hO6) o6
          obtain ⟨p', fp', e1, e2, e3, e4, e5, e6⟩ := hfin
          go_wp2_with fail
          exact ⟨⟨j + 1, p', fp', by omega, by go_num, e1, e2, e3, e4, e5, e6⟩, by simp [intOf]; omega⟩)
      · go_region_law (first
          | (go_simp; go_at_call 15; (with_reducible refine (HcC.out _ (by with_reducible repeat (first | exact Only.refl _ _ | assumption | refine Only.drewN ?_ _ | refine Only.drew ?_ | refine Only.alloc ?_ _ | refine Only.trans ?_ (by assumption)))).mono ?_); rintro en w4 ⟨a4, q4, rfl, hO4, o4⟩; have o4w : Only [] w3 w4 := Only.trans (by with_reducible repeat (first | exact Only.refl _ _ | assumption | refine Only.drewN ?_ _ | refine Only.drew ?_ | refine Only.alloc ?_ _ | refine Only.trans ?_ (by assumption))) o4)
          | (refine step_app _ rfl (.tmp 21) (.tmp 23) 27 rfl w3.heap.size 2 i0 _ 1 8 Try.underlying27 hi hz0 hz1 hz2 rfl (by omega) (.slice a4 k q4) k ((p.take k).map (Value.int .i64)) rfl (row_keep hO4 (by with_reducible repeat (first | exact Only.refl _ _ | assumption | refine Only.drewN ?_ _ | refine Only.drew ?_ | refine Only.alloc ?_ _ | refine Only.trans ?_ (by assumption)))) _ 1 1 [.int .i64 (j : Int)] rfl rfl (by first | exact lit_srcA _ [.int .i64 (j : Int)] 2 rfl | exact (fun ad hh j1 u hu => o4.cell (by simp) (lit_srcA _ [.int .i64 (j : Int)] 2 rfl ad hh j1 u hu))) (by intro hh; cases hh) (by intro u hu; simp at hu; subst hu; rfl) (by unfold maxLen; omega) (by omega) (Only.size (fp := []) (by with_reducible repeat (first | exact Only.refl _ _ | assumption | refine Only.drewN ?_ _ | refine Only.drew ?_ | refine Only.alloc ?_ _ | refine Only.trans ?_ (by assumption)))) ?_; intro v5 w5 hO5 hg5 hb5; have o5 : Only [] w3 w5 := Only.grown (by with_reducible repeat (first | exact Only.refl _ _ | assumption | refine Only.drewN ?_ _ | refine Only.drew ?_ | refine Only.alloc ?_ _ | refine Only.trans ?_ (by assumption))) hg5 (by intro z hz hzl; have := (hO4.lt z hz).1; omega); have ID := (I3.keep o5).drop hkp; have s5 := ints_src ID; have hdl : ((p.drop k).map (Value.int .i64)).length = (p.length - k) * 1 := (by simp); have Hdl := Lib.hid hdl; clear hdl)
          | (refine step_app _ rfl (.tmp 24) (.tmp 27) 27 rfl w3.heap.size 2 i0 _ 1 8 Try.underlying27 hi hz0 hz1 hz2 rfl (by omega) v5 (k + 1) ((p.take k).map (Value.int .i64) ++ [.int .i64 (j : Int)]) rfl (row_keep hO5 (by with_reducible repeat (first | exact Only.refl _ _ | assumption | refine Only.drewN ?_ _ | refine Only.drew ?_ | refine Only.alloc ?_ _ | refine Only.trans ?_ (by assumption)))) (some ⟨b, off + k, none⟩) (p.length - k) (c - k) ((p.drop k).map (Value.int .i64)) rfl Hdl.out s5.1 (by intro hh; cases hh) (ints_one _) (by unfold maxLen; omega) (by omega) (Only.size (fp := []) (by with_reducible repeat (first | exact Only.refl _ _ | assumption | refine Only.drewN ?_ _ | refine Only.drew ?_ | refine Only.alloc ?_ _ | refine Only.trans ?_ (by assumption)))) ?_; intro v6 w6 hO6 hg6 hb6; have o6 : Only [] w3 w6 := Only.grown (by with_reducible repeat (first | exact Only.refl _ _ | assumption | refine Only.drewN ?_ _ | refine Only.drew ?_ | refine Only.alloc ?_ _ | refine Only.trans ?_ (by assumption))) hg6 (by intro z hz hzl; have := (hO5.lt z hz).1; omega))
          | fail "no arm")
        all_goals (
          have hfin := hend v6 w6 hO6 o6
          obtain ⟨p', fp', e1, e2, e3, e4, e5, e6⟩ := hfin
          go_wp2_with fail
          exact ⟨⟨j + 1, p', fp', by omega, by go_num, e1, e2, e3, e4, e5, e6⟩, by simp [intOf]; omega⟩)
    · obtain rfl : j = n := by omega
      go_wp2
      go_ret
      exact ⟨_, p, rfl, hA, hp, hD, hK⟩
end Go.Proofs.Ytpkplmnpepkdaaa

namespace Go.Proofs.Ytpkplmnpepkdaaa
open Go.RowKit
set_option maxRecDepth 10000

/-- where the first pattern with this key lies -/
def firstG (l : List (List Int)) (s : ByteArray) : Option Int := (l.findIdx? fun p => kB p = s).map fun i : Nat => (i : Int)
theorem firstG_snoc (l : List (List Int)) (p : List Int) (s : ByteArray) : firstG (l ++ [p]) s = match firstG l s with | some i => some i | none => if s = kB p then some (l.length : Int) else none := by
  unfold firstG
  rw [List.findIdx?_append]
  cases h : l.findIdx? (fun p => decide (kB p = s)) with
  | some i => simp
  | none =>
    by_cases hp : kB p = s
    · simp [hp]
    · have : ¬ s = kB p := fun e => hp e.symm
      simp [hp, this]
def Byt (l : List Int) : Prop := ∀ x ∈ l, 0 ≤ x ∧ x < 256
theorem firstG_idx {l : List (List Int)} (h : ∀ p ∈ l, Byt p) {q : List Int} (hq : Byt q) : firstG l (kB q) = if 0 ≤ idxL l q then some (idxL l q) else none := by
  have hfun : l.findIdx? (fun p => decide (kB p = kB q)) = l.findIdx? (fun p => decide (p = q)) := by
    induction l with
    | nil => rfl
    | cons p l ih =>
      rw [List.findIdx?_cons, List.findIdx?_cons, ih (fun r hr => h r (by simp [hr]))]
      have : decide (kB p = kB q) = decide (p = q) := by
        rw [decide_eq_decide]; exact kB_eq (h p (by simp)) hq
      rw [this]
  unfold firstG idxL idxF
  rw [hfun]
  cases l.findIdx? (fun p => decide (p = q)) with
  | some i => simp
  | none => simp
theorem inc_len_le2 {n : Int} {l : List Int} (h : trackB n l = true) : (l.length : Int) ≤ n := by
  obtain ⟨h0, h1⟩ := trackB_iff.1 h
  rcases h1.len with h2 | h2 <;> omega
theorem mem_take_stepR' {l : List (List Int)} {j : Nat} (h : j < l.length) {P : List Int → Prop} (h1 : ∀ x ∈ l.take j, P x) (h2 : P l[j]) : ∀ x ∈ l.take (j + 1), P x := by
  rw [take_succ_get l j h]
  intro x hx
  rcases List.mem_append.1 hx with hx | hx
  · exact h1 x hx
  · simp at hx; subst hx; exact h2
theorem patB_byt {n : Int} {k : Nat} {l : List Int} (h : patB n k l = true) (hn : n ≤ 256) : Byt l := fun x hx => by
  have := (patB_iff.1 h).2.1 x hx; omega
end Go.Proofs.Ytpkplmnpepkdaaa
