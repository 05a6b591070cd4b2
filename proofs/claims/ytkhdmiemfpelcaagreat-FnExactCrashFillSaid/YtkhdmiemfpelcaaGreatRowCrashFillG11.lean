/- The reference's BuildTable: the table (law 16). What a search of patterns has met: lengths; a table's count. Descents in plain words. What breadth-first search finds: the patterns that the letters lead to, their distances. Fill jobs in plain words: an expansion, the job after some expansions, a valid job. Fill jobs, the reference: copies, the start, comparison. (Printed by mkfillspec.py.) Fill jobs, the reference: comparison of two jobs. Lower bounds out of tables, in plain words (laws 40, 42, 43, 52). The depth-first search with a limit, and the searches with increasing limits, in plain words (law 52). -/
import Derived.Test.YtkhdmiemfpelcaaGreatRowCrashFillG10
import Derived.Test.YtkhdmiemfpelcaaGreatRowCrashFillG8
import Derived.Deep.RegionHeld3
import Derived.Test.YtkhdmiemfpelcaaGreatRowCrashFillG6
import Derived.Test.YtkhdmiemfpelcaaGreatRowCrashFillG3
import Derived.Test.YtkhdmiemfpelcaaGreatRowCrashFillG9
import Derived.Test.YtkhdmiemfpelcaaGreatRowCrashFillG5
namespace Go.Proofs.YtkhdmiemfpelcaaGreat
open Go.RowKit
set_option maxRecDepth 10000

def noTab : Table := ⟨[], [], []⟩
theorem wh_no {x : Puzzle} {tr : List Int} {wh : Bool} {L : List (List Int)} {D : List Int} (h : bfs16 x tr = if wh = true then some (L, D) else none) (hb : bfs16 x tr = none) : wh = false := by
  cases wh
  · rfl
  · rw [hb] at h; simp at h
theorem wh_yes {x : Puzzle} {tr : List Int} {wh : Bool} {L : List (List Int)} {D : List Int} {s : Met16} (h : bfs16 x tr = if wh = true then some (L, D) else none) (hb : bfs16 x tr = some s) : wh = true ∧ s = (L, D) := by
  cases wh
  · rw [hb] at h; simp at h
  · rw [hb] at h; simp at h; exact ⟨rfl, h⟩
set_option maxHeartbeats 4000000 in
theorem specBuildTable_any (cs : List Value) (x : Puzzle) (fp : List Nat) (v : Value) (tr : List Int) (ft : List Nat) (w : World) (h : Rp.rep w cs x fp) (hv : Rd w v tr ft) (htl : tr.length ≤ 2097152) :
    Calls Tryz.prog 47 #[.agg cs.toArray, v] w fun e w' => ∃ cs' fp', e = .returned (.tuple #[.agg (List.toArray cs'), .bool (bTab x tr).isSome]) ∧ Rp.rep w' cs' ((bTab x tr).getD noTab) fp' ∧ Fresh w.heap.size w' fp' ∧ Only [] w w' := by
  have h0 := h
  obtain ⟨v2, rfl, p0, p1, h2⟩ := h
  obtain ⟨A2, C2, _, _, rfl, -, -⟩ := h2.open_
  obtain ⟨a, cap, rfl, Iv⟩ := hv.ints
  clear Iv h2 p0 p1
  have X0 : Blk ((w.alloc (.cells #[.int .i64 x.points, .string x.names, .slice A2 x.moves.length C2] 37)).alloc (.cells #[.slice none 0 0, .slice none 0 0, .slice none 0 0] 32)) w.heap.size [.int .i64 x.points, .string x.names, .slice A2 x.moves.length C2] := (Blk.new w [.int .i64 x.points, .string x.names, .slice A2 x.moves.length C2] 37).keep ((Only.refl _ _).alloc _)
  have Y0 : Blk ((w.alloc (.cells #[.int .i64 x.points, .string x.names, .slice A2 x.moves.length C2] 37)).alloc (.cells #[.slice none 0 0, .slice none 0 0, .slice none 0 0] 32)) (w.heap.size + 1) [.slice none 0 0, .slice none 0 0, .slice none 0 0] := Blk.new_at (by simp)
  rcases hq : bfs16 x tr with _ | s
  · have Hq := Lib.hid hq
    have hb : bTab x tr = none := by unfold bTab; rw [hq]; rfl
    have Hb := Lib.hid hb
    clear hq hb
    go_enter Tryz.func47, Tryz.ntmps47
    go_wp2_with (first
      | (go_at_call 66; (with_reducible refine (searchPatterns_any [.int .i64 x.points, .string x.names, .slice A2 x.moves.length C2] x _ _ tr _ _ (Rp.keep h0 (by with_reducible repeat (first | exact Only.refl _ _ | assumption | refine Only.drewN ?_ _ | refine Only.drew ?_ | refine Only.alloc ?_ _ | refine Only.setCell ?_ (by intro hh; exfalso; simp at hh; try omega) _ | refine Only.trans ?_ (by assumption)))) (Rp.keep hv (by with_reducible repeat (first | exact Only.refl _ _ | assumption | refine Only.drewN ?_ _ | refine Only.drew ?_ | refine Only.alloc ?_ _ | refine Only.setCell ?_ (by intro hh; exfalso; simp at hh; try omega) _ | refine Only.trans ?_ (by assumption))))).mono ?_); rintro e w2 ⟨B1, B2, B3, D1, D2, D3, n3, wh, L, D, fL, fD, rfl, o1, o2, o3, t2, -, -, -, -⟩; obtain rfl := wh_no o3 Hq.out; clear o3; have Y1 := (Y0.keep t2).keep ((Only.refl [] w2).alloc (.cells #[.slice B1 L.length D1, .slice B2 D.length D2, .slice B3 n3 D3, .bool false] 92)); have g0 := Y1.cell 0 rfl; have g1 := Y1.cell 1 rfl; have g2 := Y1.cell 2 rfl; have p0 := Y1.frozen 0; have p1 := Y1.frozen 1; have p2 := Y1.frozen 2)
      | fail "no arm")
    have K2 : Only [] w w2 := (by with_reducible repeat (first | exact Only.refl _ _ | assumption | refine Only.drewN ?_ _ | refine Only.drew ?_ | refine Only.alloc ?_ _ | refine Only.setCell ?_ (by intro hh; exfalso; simp at hh; try omega) _ | refine Only.trans ?_ (by assumption)))
    have K3 := K2.alloc (.cells #[.slice B1 L.length D1, .slice B2 D.length D2, .slice B3 n3 D3, .bool false] 92)
    have Yf := ((Y1.set 0 (.slice none 0 0)).set 1 (.slice none 0 0)).set 2 (.slice none 0 0)
    have kf := K3.then_ ((((Only.refl [w.heap.size + 1] (w2.alloc (.cells #[.slice B1 L.length D1, .slice B2 D.length D2, .slice B3 n3 D3, .bool false] 92))).setCell (p := ⟨w.heap.size + 1, 0, none⟩) (by simp) (.slice none 0 0)).setCell (p := ⟨w.heap.size + 1, 1, none⟩) (by simp) (.slice none 0 0)).setCell (p := ⟨w.heap.size + 1, 2, none⟩) (by simp) (.slice none 0 0)) (by simp)
    obtain ⟨wf, hwf⟩ : ∃ wf, wf = ((((w2.alloc (.cells #[.slice B1 L.length D1, .slice B2 D.length D2, .slice B3 n3 D3, .bool false] 92)).setCell ⟨w.heap.size + 1, 0, none⟩ (.slice none 0 0)).setCell ⟨w.heap.size + 1, 1, none⟩ (.slice none 0 0)).setCell ⟨w.heap.size + 1, 2, none⟩ (.slice none 0 0)) := ⟨_, rfl⟩
    rw [← hwf] at Yf kf ⊢
    simp only [List.set] at Yf
    clear hwf g0 g1 g2 p0 p1 p2
    have r0 := Yf.cell 0 rfl
    have r1 := Yf.cell 1 rfl
    have r2 := Yf.cell 2 rfl
    refine bodyPost_ret (v := .tuple #[.agg #[.slice none 0 0, .slice none 0 0, .slice none 0 0], .bool false]) (by simp [results, Tryz.results47, go_sem, r0, r1, r2]) rfl ⟨[.slice none 0 0, .slice none 0 0, .slice none 0 0], [], by rw [Hb.out]; rfl, ?_, Fresh.nil _ _, kf⟩
    rw [Hb.out]
    exact ⟨_, _, _, [], [], [], rfl, rfl, nil_rd _, nil_rd _, nil_rd _⟩
  · have Hq := Lib.hid hq
    have hb : bTab x tr = some ⟨tr, s.1, s.2⟩ := by unfold bTab; rw [hq]; rfl
    have Hb := Lib.hid hb
    clear hq hb
    go_enter Tryz.func47, Tryz.ntmps47
    go_wp2_with (first
      | (go_at_call 66; (with_reducible refine (searchPatterns_any [.int .i64 x.points, .string x.names, .slice A2 x.moves.length C2] x _ _ tr _ _ (Rp.keep h0 (by with_reducible repeat (first | exact Only.refl _ _ | assumption | refine Only.drewN ?_ _ | refine Only.drew ?_ | refine Only.alloc ?_ _ | refine Only.setCell ?_ (by intro hh; exfalso; simp at hh; try omega) _ | refine Only.trans ?_ (by assumption)))) (Rp.keep hv (by with_reducible repeat (first | exact Only.refl _ _ | assumption | refine Only.drewN ?_ _ | refine Only.drew ?_ | refine Only.alloc ?_ _ | refine Only.setCell ?_ (by intro hh; exfalso; simp at hh; try omega) _ | refine Only.trans ?_ (by assumption))))).mono ?_); rintro e w2 ⟨B1, B2, B3, D1, D2, D3, n3, wh, L, D, fL, fD, rfl, o1, o2, o3, t2, m0, m1, m2, m3⟩; obtain ⟨rfl, he⟩ := wh_yes o3 Hq.out; have He := Lib.hid he; clear o3 he)
      | fail "no arm")
    have K2 : Only [] w w2 := (by with_reducible repeat (first | exact Only.refl _ _ | assumption | refine Only.drewN ?_ _ | refine Only.drew ?_ | refine Only.alloc ?_ _ | refine Only.setCell ?_ (by intro hh; exfalso; simp at hh; try omega) _ | refine Only.trans ?_ (by assumption)))
    have Y1 := ((Y0.keep t2).keep ((Only.refl [] w2).alloc (.cells #[.slice B1 L.length D1, .slice B2 D.length D2, .slice B3 n3 D3, .bool true] 92)))
    have B4 := Blk.new w2 [.slice B1 L.length D1, .slice B2 D.length D2, .slice B3 n3 D3, .bool true] 92
    have o1' := Rp.keep o1 ((Only.refl [] w2).alloc (.cells #[.slice B1 L.length D1, .slice B2 D.length D2, .slice B3 n3 D3, .bool true] 92))
    have o2' := Rp.keep o2 ((Only.refl [] w2).alloc (.cells #[.slice B1 L.length D1, .slice B2 D.length D2, .slice B3 n3 D3, .bool true] 92))
    have K3 := K2.alloc (.cells #[.slice B1 L.length D1, .slice B2 D.length D2, .slice B3 n3 D3, .bool true] 92)
    have hsz : w.heap.size + 2 ≤ w2.heap.size := by have h6 := t2.size; simp at h6; omega
    obtain ⟨b, hb⟩ : ∃ b, b = w2.heap.size := ⟨_, rfl⟩
    obtain ⟨w3, hw3⟩ : ∃ w3, w3 = w2.alloc (.cells #[.slice B1 L.length D1, .slice B2 D.length D2, .slice B3 n3 D3, .bool true] 92) := ⟨_, rfl⟩
    have hs3 : w.heap.size + 3 ≤ w3.heap.size := by rw [hw3]; simp; omega
    rw [← hb] at B4 hsz ⊢
    rw [← hw3] at Y1 B4 o1' o2' K3 ⊢
    clear hb hw3 X0 Y0 t2 o1 o2 K2
    have hv' := Rp.keep hv K3
    have c0 := B4.cell 0 rfl
    have c1 := B4.cell 1 rfl
    have ml : L.length ≤ 2097152 := by omega
    have mr : ∀ y ∈ L, y.length ≤ 2097152 := fun y hy => by have := m3 y hy; omega
    have hdt : ∀ g ∈ ft, g ∉ [w.heap.size + 1] := fun g hg hm => by have := Rp.lt hv g hg; simp at hm; omega
    have hdL : ∀ g ∈ fL, g ∉ [w.heap.size + 1] := fun g hg hm => by have := m0 g (by simp [hg]); simp at this hm; omega
    have hdD : ∀ g ∈ fD, g ∉ [w.heap.size + 1] := fun g hg hm => by have := m0 g (by simp [hg]); simp at this hm; omega
    have hbn : b ∉ [w.heap.size + 1] := by simp; omega
    go_region_held3 (fun w' => Only [w.heap.size + 1] w3 w' ∧ w'.cell? ⟨b, 0, none⟩ = some (.slice B1 L.length D1) ∧ w'.cell? ⟨b, 1, none⟩ = some (.slice B2 D.length D2))
      ((refine and_of ?_ (fun h__ => ⟨h__.cell hbn c0, h__.cell hbn c1⟩); first
        | with_reducible exact (Only.refl _ _).drew
        | with_reducible exact Only.keepThen (And.left (by assumption)) (by assumption)
        | with_reducible exact Only.setCell (Only.setCell (Only.setCell (And.left (by assumption)) (by simp) _) (by simp) _) (by simp) _
        | with_reducible exact And.left (by assumption)
        | assumption))
      (first
        | (go_at_call 36; (with_reducible refine (copyInts_rd (.slice a tr.length cap) tr _ _ (Rp.only hv' (And.left (by assumption)) hdt) (by omega)).mono ?_); rintro e x1 ⟨u1, q1, rfl, r1, F1, y1⟩; have hq := r1.open_; obtain ⟨a1, k1, _, _, rfl, -⟩ := hq)
        | (go_at_call 67; (with_reducible refine (copyLists_rd (.slice B1 L.length D1) L _ _ (Rp.only o1' (And.left (by assumption)) hdL) ml mr).mono ?_); rintro e x2 ⟨u2, q2, rfl, r2, F2, y2⟩; have hq := r2.open_; obtain ⟨a2, k2, _, _, rfl, -⟩ := hq)
        | (go_at_call 36; (with_reducible refine (copyInts_rd (.slice B2 D.length D2) D _ _ (Rp.only o2' (And.left (by assumption)) hdD) (by omega)).mono ?_); rintro e x3 ⟨u3, q3, rfl, r3, F3, y3⟩; have hq := r3.open_; obtain ⟨a3, k3, _, _, rfl, -⟩ := hq; have kk := (((Only.refl [] w3).drew.trans y1).trans y2).trans y3; have Y3 := Y1.keep kk; have g0 := Y3.cell 0 rfl; have g1 := Y3.cell 1 rfl; have g2 := Y3.cell 2 rfl; have p0 := Y3.frozen 0; have p1 := Y3.frozen 1; have p2 := Y3.frozen 2)
        | fail "no arm")
    have F23 := (F2.keep y3).append F3 y2.size (fun g hg => F2.lt g hg)
    have F := (F1.keep (y2.trans y3)).append F23 y1.size (fun g hg => F1.lt g hg)
    have hFg : ∀ g ∈ q1 ++ (q2 ++ q3), g ∉ [w.heap.size + 1] := fun g hg hm => by have := F.ge g hg; simp at this hm; omega
    have Yf := ((Y3.set 0 (.slice a1 tr.length k1)).set 1 (.slice a2 L.length k2)).set 2 (.slice a3 D.length k3)
    have kf : Only [w.heap.size + 1] x3 (((x3.setCell ⟨w.heap.size + 1, 0, none⟩ (.slice a1 tr.length k1)).setCell ⟨w.heap.size + 1, 1, none⟩ (.slice a2 L.length k2)).setCell ⟨w.heap.size + 1, 2, none⟩ (.slice a3 D.length k3)) := (((Only.refl _ _).setCell (by simp) _).setCell (by simp) _).setCell (by simp) _
    have K4 : Only [] w x3 := K3.trans kk
    go_wp2_with fail
    obtain ⟨wf, hwf⟩ : ∃ wf, wf = (((x3.setCell ⟨w.heap.size + 1, 0, none⟩ (.slice a1 tr.length k1)).setCell ⟨w.heap.size + 1, 1, none⟩ (.slice a2 L.length k2)).setCell ⟨w.heap.size + 1, 2, none⟩ (.slice a3 D.length k3)) := ⟨_, rfl⟩
    rw [← hwf] at Yf kf ⊢
    simp only [List.set] at Yf
    clear hwf g0 g1 g2 p0 p1 p2
    have z0 := Yf.cell 0 rfl
    have z1 := Yf.cell 1 rfl
    have z2 := Yf.cell 2 rfl
    refine bodyPost_ret (v := .tuple #[.agg #[.slice a1 tr.length k1, .slice a2 L.length k2, .slice a3 D.length k3], .bool true]) (by simp [results, Tryz.results47, go_sem, z0, z1, z2]) rfl ⟨[.slice a1 tr.length k1, .slice a2 L.length k2, .slice a3 D.length k3], q1 ++ (q2 ++ q3), by rw [Hb.out]; rfl, ?_, (F.mono (by simp; omega)).only kf hFg, K4.then_ kf (by simp)⟩
    rw [Hb.out, He.out]
    exact ⟨_, _, _, q1, q2, q3, rfl, rfl, Rp.only (Rp.keep r1 (y2.trans y3)) kf (fun g hg => hFg g (by simp [hg])), Rp.only (Rp.keep r2 y3) kf (fun g hg => hFg g (by simp [hg])), Rp.only r3 kf (fun g hg => hFg g (by simp [hg]))⟩
end Go.Proofs.YtkhdmiemfpelcaaGreat

namespace Go.Proofs.YtkhdmiemfpelcaaGreat
open Go.RowKit
set_option maxRecDepth 10000

/-- what a search has met: lists of one length, as many depths -/
def Met16.ok (m : Nat) (s : Met16) : Prop := s.1.length = s.2.length ∧ s.1.length ≤ 3000 ∧ ∀ q ∈ s.1, q.length = m
theorem bMeet_ok {m : Nat} {s s' : Met16} {d : Int} {y : List Int} (h : bMeet s d y = some s') (hs : s.ok m) (hy : y.length = m) : s'.ok m := by
  obtain ⟨a, b, -⟩ := bMeet_len h hs.1 hs.2.1
  refine ⟨a, b, fun q hq => ?_⟩
  unfold bMeet at h
  split at h
  · injection h with h; subst h; exact hs.2.2 q hq
  · split at h
    · cases h
    · injection h with h; subst h
      rcases List.mem_append.1 hq with hq | hq
      · exact hs.2.2 q hq
      · simp at hq; subst hq; exact hy
theorem bLets_ok {x : Puzzle} {m : Nat} {q : List Int} {d : Int} (hq : q.length = m) : ∀ {ls : List Int} {s s' : Met16}, bLets x q d ls s = some s' → s.ok m → s'.ok m
  | [], s, s', h, hs => by unfold bLets at h; injection h with h; subst h; exact hs
  | l :: ls, s, s', h, hs => by
    unfold bLets at h
    rw [Option.bind_eq_some_iff] at h
    obtain ⟨s1, e1, e2⟩ := h
    exact bLets_ok hq e2 (bMeet_ok e1 hs (by unfold nxt; rw [PM.comp_len]; exact hq))
theorem bFrom_ok {x : Puzzle} {m : Nat} : ∀ {n k : Nat} {s s' : Met16}, bFrom x n k s = some s' → s.ok m → s'.ok m
  | 0, _, s, s', h, hs => by unfold bFrom at h; injection h with h; subst h; exact hs
  | n + 1, k, s, s', h, hs => by
    unfold bFrom at h
    split at h
    · rename_i hk
      rw [Option.bind_eq_some_iff] at h
      obtain ⟨s1, e1, e2⟩ := h
      refine bFrom_ok e2 (bLets_ok ?_ e1 hs)
      rw [List.getD_eq_getElem?_getD, List.getElem?_eq_getElem hk]
      exact hs.2.2 _ (List.getElem_mem hk)
    · injection h with h; subst h; exact hs
theorem cntL_rows {n : Nat} : ∀ {L : List (List Int)}, (∀ q ∈ L, q.length ≤ n) → cntL L ≤ L.length * n
  | [], _ => by simp [cntL]
  | a :: L, h => by
    have h1 := cntL_rows (L := L) fun q hq => h q (by simp [hq])
    have h2 := h a (by simp)
    have h3 : Mk.cnt a = a.length := cntL_ints a
    simp only [cntL, List.length_cons, h3]
    rw [Nat.add_mul]
    omega
theorem bTab_facts {x : Puzzle} {tr : List Int} {t : Table} (h : bTab x tr = some t) : validPz x = true ∧ trackB x.points tr = true ∧ t.tracked = tr ∧ bfs16 x tr = some (t.patterns, t.distances) ∧ Met16.ok tr.length (t.patterns, t.distances) := by
  unfold bTab at h
  rcases hb : bfs16 x tr with _ | s
  · rw [hb] at h; cases h
  · rw [hb] at h
    injection h with h
    subst h
    rcases hq : validPz x && trackB x.points tr
    · rw [bfs16_no hq] at hb; cases hb
    · obtain ⟨q1, q2⟩ := (Bool.and_eq_true _ _).mp hq
      refine ⟨q1, q2, rfl, rfl, ?_⟩
      rw [bfs16_yes hq] at hb
      exact bFrom_ok hb ⟨rfl, by simp, by simp⟩
end Go.Proofs.YtkhdmiemfpelcaaGreat

namespace Go.Proofs.YtkhdmiemfpelcaaGreat
open Go.RowKit
set_option maxRecDepth 10000

/-- the first letter of a descent -/
def dLet (x : Puzzle) (t : Table) (p : List Int) : Int := if checkT x t = true ∧ 0 ≤ idxL t.patterns p then descL x t p (atD t (idxL t.patterns p) - 1) else 0
/-- the word of a descent of at most n letters -/
def dW (x : Puzzle) (t : Table) : Nat → List Int → Option (List Int)
  | 0, p => if p = t.tracked then some [] else none
  | n + 1, p => if p = t.tracked then some [] else if dLet x t p = 0 then none else (dW x t n (nxt x p (dLet x t p))).map (dLet x t p :: ·)
theorem dLet_yes {x : Puzzle} {t : Table} {p : List Int} (h : checkT x t = true) (h2 : 0 ≤ idxL t.patterns p) : dLet x t p = descL x t p (atD t (idxL t.patterns p) - 1) := by unfold dLet; rw [if_pos ⟨h, h2⟩]
theorem idxL_mem {l : List (List Int)} {p : List Int} (h : 0 ≤ idxL l p) : p ∈ l ∧ (idxL l p).toNat < l.length := by
  rcases idxF_nonneg_or (fun q => decide (q = p)) l with h1 | ⟨k, hk, h1, h2⟩
  · unfold idxL at h; omega
  · have : l[k] = p := of_decide_eq_true h2
    unfold idxL
    rw [h1]
    exact ⟨by rw [← this]; exact List.getElem_mem hk, by simpa using hk⟩
/-- the index of the first letter of a descent, -1 if there is none -/
def dK (x : Puzzle) (t : Table) (p : List Int) (d : Int) : Int := idxF (leads x t p d) (ltrs x.moves.length)
theorem descL_of_dK {x : Puzzle} {t : Table} {p : List Int} {d : Int} : (dK x t p d = -1 ∧ descL x t p d = 0) ∨ ∃ k : Nat, ∃ h : k < (ltrs x.moves.length).length, dK x t p d = k ∧ descL x t p d = (ltrs x.moves.length)[k] := by
  unfold dK descL idxF
  cases hf : (ltrs x.moves.length).findIdx? (leads x t p d) with
  | none =>
    left
    rw [List.findIdx?_eq_none_iff] at hf
    rw [List.find?_eq_none.2 (fun a ha => by simp [hf a ha])]
    exact ⟨rfl, rfl⟩
  | some k =>
    right
    obtain ⟨hk, hp, hlt⟩ := List.findIdx?_eq_some_iff_getElem.1 hf
    refine ⟨k, hk, rfl, ?_⟩
    rw [List.find?_eq_some_iff_getElem.2 ⟨hp, k, hk, rfl, fun i hi => by simpa using hlt i hi⟩]
    rfl
end Go.Proofs.YtkhdmiemfpelcaaGreat

namespace Go.Proofs.YtkhdmiemfpelcaaGreat
open Go.RowKit
set_option maxRecDepth 10000
theorem getD_get {α : Type} {l : List α} {z : α} {k : Nat} (h : k < l.length) : l.getD k z = l[k] := by
  rw [List.getD_eq_getElem?_getD, List.getElem?_eq_getElem h]; rfl
theorem nodup_at {α : Type} {l : List α} (h : l.Nodup) {i j : Nat} (hi : i < l.length) (hj : j < l.length) (e : l[i] = l[j]) : i = j := by
  rcases Nat.lt_trichotomy i j with h1 | h1 | h1
  · exact absurd e (List.pairwise_iff_getElem.1 h i j hi hj h1)
  · exact h1
  · exact absurd e.symm (List.pairwise_iff_getElem.1 h j i hj hi h1)
theorem ltrs_neg {n : Nat} {l : Int} (h : l ∈ ltrs n) : -l ∈ ltrs n := by
  rw [mem_ltrs] at h ⊢; omega
theorem mv_opp {n : Nat} {gens : List (List Int)} (hg : ∀ g ∈ gens, PM.PN n g) {l : Int} (h : l ∈ ltrs gens.length) : mv gens (-l) = PM.inv (mv gens l) := by
  rcases letter_cases h with ⟨k, hk, rfl⟩ | ⟨k, hk, rfl⟩
  · rw [mv_pos rfl hk, mv_neg (k := k) rfl hk]
  · rw [mv_neg rfl hk, mv_pos (k := k) (by omega) hk, PM.inv_inv (hg _ (List.getElem_mem hk))]
/-- a letter and its inverse -/
theorem nxt_back {x : Puzzle} {k : Nat} {q : List Int} {l : Int} (hv : validPz x = true) (hq : patB x.points k q = true) (h : l ∈ ltrs x.moves.length) : nxt x (nxt x q l) (-l) = q := by
  have hg := validPz_pn hv
  have hm := mv_pn hg h
  have hf := validPz_facts hv
  have hr := (patB_iff.1 hq).2.1
  unfold nxt
  rw [mv_opp hg h]
  show (q.map (PM.at_ (mv x.moves l))).map (PM.at_ (PM.inv (mv x.moves l))) = q
  rw [List.map_map]
  refine (List.map_congr_left fun z hz => ?_).trans (List.map_id q)
  have := hr z hz
  exact PM.at_inv hm this.1 (by omega)
/-- a search under way: the entries ahead of k are done, of the k-th the letters of done -/
structure BI (x : Puzzle) (tr : List Int) (k : Nat) (done : List Int) (s : Met16) : Prop where
  nd : s.1.Nodup
  dl : s.2.length = s.1.length
  p0 : s.1.getD 0 [] = tr
  d0 : s.2.getD 0 0 = 0
  ne : 0 < s.1.length
  mono : ∀ i j, i ≤ j → j < s.1.length → s.2.getD i 0 ≤ s.2.getD j 0
  top : k < s.1.length → ∀ i, i < s.1.length → s.2.getD i 0 ≤ s.2.getD k 0 + 1
  par : ∀ i, 0 < i → i < s.1.length → ∃ j l, j < i ∧ l ∈ ltrs x.moves.length ∧ nxt x (s.1.getD j []) l = s.1.getD i [] ∧ s.2.getD i 0 = s.2.getD j 0 + 1
  clo : ∀ j l, l ∈ ltrs x.moves.length → (j < k ∨ (j = k ∧ l ∈ done)) → j < s.1.length → ∃ i, i < s.1.length ∧ s.1.getD i [] = nxt x (s.1.getD j []) l ∧ s.2.getD i 0 ≤ s.2.getD j 0 + 1
  kl : k ≤ s.1.length
  pat : ∀ q ∈ s.1, patB x.points tr.length q = true
section
variable {x : Puzzle} {tr : List Int} {k : Nat} {done : List Int} {s s' : Met16}
theorem BI.start (hp : patB x.points tr.length tr = true) : BI x tr 0 [] ([tr], [0]) := by
  refine ⟨by simp, rfl, rfl, rfl, by simp, fun i j h1 h2 => ?_, fun _ i hi => ?_, fun i h1 h2 => ?_, fun j l h1 h2 => ?_, by simp, by simpa using hp⟩
  · have : j = 0 := by simpa using h2
    subst this
    have : i = 0 := by omega
    subst this; exact Int.le_refl _
  · have : i = 0 := by simpa using hi
    subst this; simp
  · have : i = 0 := by simpa using h2
    omega
  · rcases h2 with h2 | ⟨-, h2⟩
    · omega
    · cases h2
theorem BI.next (h : BI x tr k done s) (hk : k < s.1.length) (ha : ∀ l ∈ ltrs x.moves.length, l ∈ done) : BI x tr (k + 1) [] s := by
  refine ⟨h.nd, h.dl, h.p0, h.d0, h.ne, h.mono, fun h1 i hi => ?_, h.par, fun j l h1 h2 h3 => ?_, hk, h.pat⟩
  · have h2 := h.top hk i hi
    have h3 := h.mono k (k + 1) (by omega) h1
    omega
  · rcases h2 with h2 | ⟨-, h2⟩
    · by_cases hj : j < k
      · exact h.clo j l h1 (.inl hj) h3
      · obtain rfl : j = k := by omega
        exact h.clo j l h1 (.inr ⟨rfl, ha l h1⟩) h3
    · cases h2
end
/-- a table that was built -/
structure Built (x : Puzzle) (t : Table) : Prop where
  v : validPz x = true
  tk : trackB x.points t.tracked = true
  bi : BI x t.tracked t.patterns.length [] (t.patterns, t.distances)
  ll : t.patterns.length ≤ 3000
section
variable {x : Puzzle} {t : Table}
theorem Built.dep (h : Built x t) : ∀ i : Nat, i < t.patterns.length → 0 ≤ t.distances.getD i 0 ∧ t.distances.getD i 0 ≤ i ∧ (0 < i → 0 < t.distances.getD i 0) := by
  intro i
  induction i using Nat.strongRecOn with
  | ind i ih =>
    intro hi
    by_cases h0 : i = 0
    · subst h0
      have : t.distances.getD 0 0 = 0 := h.bi.d0
      omega
    · obtain ⟨j, l, a1, a2, a3, a4⟩ := h.bi.par i (by omega) hi
      have h1 := ih j a1 (Nat.lt_trans a1 hi)
      simp only at a4
      omega
/-- the entry of a letter -/
theorem Built.step (h : Built x t) {j : Nat} (hj : j < t.patterns.length) {l : Int} (hl : l ∈ ltrs x.moves.length) :
    ∃ i : Nat, i < t.patterns.length ∧ t.patterns.getD i [] = nxt x (t.patterns.getD j []) l ∧ t.distances.getD i 0 ≤ t.distances.getD j 0 + 1 ∧ t.distances.getD j 0 ≤ t.distances.getD i 0 + 1 := by
  obtain ⟨i, b1, b2, b3⟩ := h.bi.clo j l hl (.inl hj) hj
  obtain ⟨j', c1, c2, c3⟩ := h.bi.clo i (-l) (ltrs_neg hl) (.inl b1) b1
  simp only at b1 b2 b3 c1 c2 c3
  rw [b2, nxt_back h.v (h.bi.pat _ (by rw [getD_get hj]; exact List.getElem_mem hj)) hl] at c2
  have : j' = j := by
    rw [getD_get c1, getD_get hj] at c2
    have hnd : t.patterns.Nodup := h.bi.nd
    exact nodup_at hnd c1 hj c2
  subst this
  exact ⟨i, b1, b2, b3, c3⟩
theorem Built.idx (h : Built x t) {i : Nat} (hi : i < t.patterns.length) : idxL t.patterns (t.patterns.getD i []) = i := by
  refine idxF_some (j := i) hi (fun q hq => ?_) ?_
  · rw [List.mem_take_iff_getElem] at hq
    obtain ⟨k, hk, rfl⟩ := hq
    refine decide_eq_false fun e => ?_
    rw [getD_get hi] at e
    have hnd : t.patterns.Nodup := h.bi.nd
    have := nodup_at hnd (by omega) hi e
    omega
  · exact decide_eq_true (getD_get hi).symm
end
end Go.Proofs.YtkhdmiemfpelcaaGreat

namespace Go.Proofs.YtkhdmiemfpelcaaGreat
open Go.RowKit
set_option maxRecDepth 10000

/-- the patterns that the letters ls append behind those that are there (ps) and those appended so far -/
def addL (x : Puzzle) (ps : List (List Int)) (q : List Int) : List Int → List (List Int) → List (List Int)
  | [], a => a
  | l :: ls, a => addL x ps q ls (if nxt x q l ∈ ps ++ a then a else a ++ [nxt x q l])
def newF (x : Puzzle) (j : FillJob) : List (List Int) := addL x j.table.patterns (j.table.patterns.getD j.next.toNat []) (ltrs x.moves.length) []
def recF (k : Int) (a : List (List Int)) : ByteArray := recB k a ++ nbB (csum (recB k a)) 4
/-- the next entry is expanded -/
def expandF (x : Puzzle) (j : FillJob) : FillJob :=
  ⟨⟨j.table.tracked, j.table.patterns ++ newF x j, j.table.distances ++ List.replicate (newF x j).length (j.table.distances.getD j.next.toNat 0 + 1)⟩, j.next + 1, j.log ++ recF j.next (newF x j), j.synced⟩
def startF (tr : List Int) : FillJob := ⟨⟨tr, [tr], [0]⟩, 0, ByteArray.empty, 0⟩
/-- the job after n expansions -/
def atF (x : Puzzle) (tr : List Int) : Nat → FillJob
  | 0 => startF tr
  | n + 1 => expandF x (atF x tr n)
/-- n expansions are possible -/
def okF (x : Puzzle) (tr : List Int) (n : Nat) : Prop := ∀ m, m < n → m < (atF x tr m).table.patterns.length
def sameF (a b : FillJob) : Prop := a.next = b.next ∧ a.log = b.log ∧ a.table = b.table
/-- j is the job after n expansions, but for what is synced -/
def valF (x : Puzzle) (j : FillJob) (n : Nat) : Prop :=
  (bTab x j.table.tracked).isSome = true ∧ j.log.size ≤ 60000 ∧ (0 ≤ j.synced ∧ j.synced ≤ j.log.size) ∧ okF x j.table.tracked n ∧ sameF (atF x j.table.tracked n) j
open Classical in
noncomputable def validF (x : Puzzle) (j : FillJob) : Bool := decide (∃ n, valF x j n)

theorem addL_pre (x : Puzzle) (ps : List (List Int)) (q : List Int) : ∀ (ls : List Int) (a : List (List Int)), a.length ≤ (addL x ps q ls a).length ∧ (addL x ps q ls a).length ≤ a.length + ls.length
  | [], a => by simp [addL]
  | l :: ls, a => by
    unfold addL
    have h := addL_pre x ps q ls (if nxt x q l ∈ ps ++ a then a else a ++ [nxt x q l])
    split at h <;> split <;> simp_all <;> omega
theorem addL_pat {x : Puzzle} {ps : List (List Int)} {q : List Int} {k : Nat} (hv : validPz x = true) (hq : patB x.points k q = true) : ∀ (ls : List Int) (a : List (List Int)), (∀ l ∈ ls, l ∈ ltrs x.moves.length) → (∀ p ∈ a, patB x.points k p = true) → ∀ p ∈ addL x ps q ls a, patB x.points k p = true
  | [], a, _, ha => ha
  | l :: ls, a, hl, ha => by
    unfold addL
    refine addL_pat hv hq ls _ (fun y hy => hl y (List.mem_cons_of_mem _ hy)) fun p hp => ?_
    split at hp
    · exact ha p hp
    · rcases List.mem_append.1 hp with hp | hp
      · exact ha p hp
      · simp at hp; subst hp; exact nxt_pat hv hq (hl l (by simp))
/-- the search meets what an expansion appends -/
theorem bLets_add {x : Puzzle} {q : List Int} {d : Int} {ps : List (List Int)} {ds : List Int} : ∀ {ls : List Int} {a : List (List Int)} {s' : Met16}, bLets x q d ls (ps ++ a, ds ++ List.replicate a.length d) = some s' → s' = (ps ++ addL x ps q ls a, ds ++ List.replicate (addL x ps q ls a).length d)
  | [], a, s', h => by unfold bLets at h; injection h with h; rw [← h]; rfl
  | l :: ls, a, s', h => by
    unfold addL
    by_cases hm : nxt x q l ∈ ps ++ a
    · rw [bLets_old hm] at h
      rw [if_pos hm]
      exact bLets_add h
    · by_cases hf : (ps ++ a).length = 3000
      · rw [bLets_full hm hf] at h; cases h
      · rw [bLets_new hm hf, List.append_assoc, List.append_assoc] at h
        rw [if_neg hm]
        refine bLets_add (a := a ++ [nxt x q l]) ?_
        rw [← h]
        simp [List.replicate_succ']
/-- what holds of the job after n expansions -/
structure GF (x : Puzzle) (tr : List Int) (n : Nat) (j : FillJob) : Prop where
  tk : j.table.tracked = tr
  nx : j.next = n
  ln : j.table.distances.length = j.table.patterns.length
  le : j.table.patterns.length ≤ 3000
  ps : ∀ q ∈ j.table.patterns, patB x.points tr.length q = true
  ds : ∀ d ∈ j.table.distances, 0 ≤ d ∧ d ≤ n
  lg : j.log.size ≤ 400 * n
  sy : j.synced = 0
theorem recF_size (k : Int) (a : List (List Int)) : (recF k a).size = 7 + a.flatten.length := by
  unfold recF nbB recB recL
  rw [ByteArray.size_append, kB_size, kB_size, nbL_len]
  simp only [List.length_append, List.length_cons, List.length_nil]
  omega
theorem atF_good {x : Puzzle} {tr : List Int} (hb : (bTab x tr).isSome = true) : ∀ n, okF x tr n → GF x tr n (atF x tr n) ∧ n ≤ 3000 ∧ ∃ s', bFrom x (3001 - n) n ((atF x tr n).table.patterns, (atF x tr n).table.distances) = some s' := by
  obtain ⟨t, ht⟩ := Option.isSome_iff_exists.1 hb
  obtain ⟨hv, htr, -, hbf, -⟩ := bTab_facts ht
  have hf := validPz_facts hv
  have hp := trackB_pat htr
  have hk : tr.length ≤ 20 := by
    have := (trackB_iff.1 htr).2.len
    have := hf.2.1
    omega
  rw [bfs16_yes (by rw [hv, htr]; rfl)] at hbf
  intro n
  induction n with
  | zero =>
    intro _
    refine ⟨⟨rfl, rfl, rfl, by simp [atF, startF], ?_, ?_, by simp [atF, startF], rfl⟩, by omega, _, hbf⟩
    · intro q hq; simp [atF, startF] at hq; subst hq; exact hp
    · intro d hd; simp [atF, startF] at hd; subst hd; omega
  | succ n ih =>
    intro hok
    obtain ⟨hg, hn, s', hs⟩ := ih fun m hm => hok m (by omega)
    have hlt := hok n (by omega)
    have h3 : n < 3000 := Nat.lt_of_lt_of_le hlt hg.le
    have hnt : (atF x tr n).next.toNat = n := by rw [hg.nx]; omega
    rw [show 3001 - n = (3001 - (n + 1)) + 1 by omega] at hs
    unfold bFrom at hs
    rw [if_pos hlt, Option.bind_eq_some_iff] at hs
    obtain ⟨s1, e1, e2⟩ := hs
    have hq : patB x.points tr.length ((atF x tr n).table.patterns.getD n []) = true := by
      rw [getD_get hlt]; exact hg.ps _ (List.getElem_mem hlt)
    have ha := bLets_add (a := []) (ps := (atF x tr n).table.patterns) (ds := (atF x tr n).table.distances) (d := (atF x tr n).table.distances.getD n 0 + 1) (q := (atF x tr n).table.patterns.getD n []) (ls := ltrs x.moves.length) (s' := s1) (by rw [List.append_nil, List.length_nil, List.replicate_zero, List.append_nil]; exact e1)
    have hl := bLets_len e1 hg.ln.symm hg.le
    have hnew : addL x (atF x tr n).table.patterns ((atF x tr n).table.patterns.getD n []) (ltrs x.moves.length) [] = newF x (atF x tr n) := by unfold newF; rw [hnt]
    rw [hnew] at ha
    have e3 : ((atF x tr (n + 1)).table.patterns, (atF x tr (n + 1)).table.distances) = s1 := by
      rw [ha]
      show ((expandF x (atF x tr n)).table.patterns, (expandF x (atF x tr n)).table.distances) = _
      unfold expandF
      rw [hnt]
    have hlen := addL_pre x (atF x tr n).table.patterns ((atF x tr n).table.patterns.getD n []) (ltrs x.moves.length) []
    rw [hnew, ltrs_len] at hlen
    have hap := addL_pat (ps := (atF x tr n).table.patterns) hv hq (ltrs x.moves.length) [] (fun l h => h) (by simp)
    rw [hnew] at hap
    refine ⟨⟨hg.tk, ?_, ?_, ?_, ?_, ?_, ?_, hg.sy⟩, by omega, s', ?_⟩
    · show (atF x tr n).next + 1 = _
      rw [hg.nx]; omega
    · have := congrArg (fun s : Met16 => s.2.length = s.1.length) e3
      exact this.mpr hl.1.symm
    · have := congrArg (fun s : Met16 => s.1.length ≤ 3000) e3
      exact this.mpr hl.2.1
    · intro q hq'
      rcases List.mem_append.1 (show q ∈ (atF x tr n).table.patterns ++ newF x (atF x tr n) from hq') with h | h
      · exact hg.ps q h
      · exact hap q h
    · intro d hd
      rcases List.mem_append.1 (show d ∈ (atF x tr n).table.distances ++ List.replicate _ _ from hd) with h | h
      · have := hg.ds d h; omega
      · have h := (List.mem_replicate.1 h).2
        rw [hnt, getD_get (by rw [hg.ln]; exact hlt)] at h
        have hdl : n < (atF x tr n).table.distances.length := by rw [hg.ln]; exact hlt
        have := hg.ds _ (List.getElem_mem hdl)
        omega
    · show ((atF x tr n).log ++ recF _ _).size ≤ _
      rw [ByteArray.size_append, recF_size]
      have h1 := flatten_len (m := 20) (ps := newF x (atF x tr n)) fun q hq => by have := (patB_iff.1 (hap q hq)).1; omega
      have h2 := hg.lg
      have := hf.2.2.1
      have h3 : (newF x (atF x tr n)).length ≤ 2 * x.moves.length := by have := hlen.2; simpa using this
      omega
    · rw [e3]; exact e2
end Go.Proofs.YtkhdmiemfpelcaaGreat

namespace Go.Proofs.YtkhdmiemfpelcaaGreat
open Go.RowKit
set_option maxRecDepth 10000
/-- a table of moderate size -/
def midT (t : Table) : Prop := t.tracked.length ≤ 2097152 ∧ t.patterns.length ≤ 2097152 ∧ (∀ y ∈ t.patterns, y.length ≤ 2097152) ∧ t.distances.length ≤ 2097152

set_option maxHeartbeats 2000000 in
theorem start28_any (v : Value) (tr : List Int) (fp : List Nat) (w : World) (h : Rd w v tr fp) (hl : tr.length ≤ 2097152) :
    Calls Tryz.prog 20 #[v] w fun e w' => ∃ cs' fp', e = .returned (.agg cs'.toArray) ∧ Rp.rep w' cs' (startF tr) fp' ∧ Fresh w.heap.size w' fp' ∧ Only [] w w' := by
  have X1 : Blk (w.alloc (.cells #[.slice none 0 0, .slice none 0 0, .slice none 0 0, .int .i64 0, .string ⟨#[]⟩, .int .i64 0] 34)) w.heap.size [.slice none 0 0, .slice none 0 0, .slice none 0 0, .int .i64 0, .string ⟨#[]⟩, .int .i64 0] := Blk.new_at rfl
  have HX := Lib.hid X1; clear X1
  have k0 : Only [] w (w.alloc (.cells #[.slice none 0 0, .slice none 0 0, .slice none 0 0, .int .i64 0, .string ⟨#[]⟩, .int .i64 0] 34)) := (Only.refl _ _).alloc _
  go_enter Tryz.func20, Tryz.ntmps20
  go_wp2_with fail
  with_reducible refine (copyInts_rd v tr _ _ (Rp.keep h k0) (by omega)).mono ?_
  rintro e w1 ⟨u1, f1, rfl, r1, F1, t1⟩
  obtain ⟨D1, E1, _, _, rfl, -⟩ := r1.open_
  go_wp2_with fail
  with_reducible refine (copyInts_rd v tr _ _ (Rp.keep (Rp.keep h k0) t1) (by omega)).mono ?_
  rintro e w2 ⟨u2, f2, rfl, r2, F2, t2⟩
  obtain ⟨D2, E2, _, _, rfl, -⟩ := r2.open_
  have Y1 := (HX.out.keep t1).keep t2
  have hs1 := t1.size
  have hs2 := t2.size
  simp at hs1
  have s2 : w.heap.size < w2.heap.size := by omega
  have A1 := Acc.one (α := List Int) (w := w2) w1.heap.size 25 (cs := [.slice D2 tr.length E2]) (x := tr) (fp := f2) r2 rfl hs2
  have A2 := Acc.one (α := Int) (w := w2.alloc (.cells #[.slice D2 tr.length E2] 25)) (w2.heap.size + 1) 2 (g := w2.heap.size + 1) (cs := [.int .i64 0]) (x := 0) (fp := []) (int_rd _ (by unfold I64; omega)) (by simp) (Nat.le_refl _)
  have K3 : Only [] w2 (((w2.alloc (.cells #[.slice D2 tr.length E2] 25)).alloc (.cells #[.int .i64 0] 2)).alloc (.cells #[.slice D1 tr.length E1, .slice (some ⟨w2.heap.size, 0, none⟩) 1 1, .slice (some ⟨w2.heap.size + 1, 0, none⟩) 1 1] 32)) := (((Only.refl _ _).alloc _).alloc _).alloc _
  have K5 : Only [] ((w2.alloc (.cells #[.slice D2 tr.length E2] 25)).alloc (.cells #[.int .i64 0] 2)) (((w2.alloc (.cells #[.slice D2 tr.length E2] 25)).alloc (.cells #[.int .i64 0] 2)).alloc (.cells #[.slice D1 tr.length E1, .slice (some ⟨w2.heap.size, 0, none⟩) 1 1, .slice (some ⟨w2.heap.size + 1, 0, none⟩) 1 1] 32)) := (Only.refl _ _).alloc _
  have K4 : Only [] (w2.alloc (.cells #[.slice D2 tr.length E2] 25)) ((w2.alloc (.cells #[.slice D2 tr.length E2] 25)).alloc (.cells #[.int .i64 0] 2)) := (Only.refl _ _).alloc _
  have Y3 : Blk (((w2.alloc (.cells #[.slice D2 tr.length E2] 25)).alloc (.cells #[.int .i64 0] 2)).alloc (.cells #[.slice D1 tr.length E1, .slice (some ⟨w2.heap.size, 0, none⟩) 1 1, .slice (some ⟨w2.heap.size + 1, 0, none⟩) 1 1] 32)) w.heap.size [.slice none 0 0, .slice none 0 0, .slice none 0 0, .int .i64 0, .string ⟨#[]⟩, .int .i64 0] := Y1.keep K3
  have R1 := Rp.keep (Rp.keep r1 t2) K3
  have R2 := Rp.keep (Rp.keep (A1.rd (by decide)) K4) K5
  have R3 := Rp.keep (A2.rd (by decide)) K5
  have P1 := A1.fresh (by simpa using F2.keep ((Only.refl _ _).alloc _))
  have P2 := A2.fresh (by simpa using Fresh.nil _ _)
  have P12 := ((P1.keep K4).append P2 (by omega) (fun b hb => by have := P1.lt b hb; simpa using this)).keep K5
  have P := ((F1.keep t2).keep K3).append P12 t1.size (fun b hb => F1.lt b hb)
  have K0 : Only [] w (((w2.alloc (.cells #[.slice D2 tr.length E2] 25)).alloc (.cells #[.int .i64 0] 2)).alloc (.cells #[.slice D1 tr.length E1, .slice (some ⟨w2.heap.size, 0, none⟩) 1 1, .slice (some ⟨w2.heap.size + 1, 0, none⟩) 1 1] 32)) := ((k0.trans t1).trans t2).trans K3
  have g0 := Y3.cell 0 rfl
  have q0 := Y3.frozen 0
  have g1 := Y3.cell 1 rfl
  have q1 := Y3.frozen 1
  have g2 := Y3.cell 2 rfl
  have q2 := Y3.frozen 2
  have g3 := Y3.cell 3 rfl
  have q3 := Y3.frozen 3
  have g4 := Y3.cell 4 rfl
  have q4 := Y3.frozen 4
  have g5 := Y3.cell 5 rfl
  have q5 := Y3.frozen 5
  go_wp2_with fail
  have hP : ∀ b ∈ f1 ++ (((Value.slice (some ⟨w2.heap.size, 0, none⟩) 1 1).ownBlock.toList ++ [f2].flatten) ++ ((Value.slice (some ⟨w2.heap.size + 1, 0, none⟩) 1 1).ownBlock.toList ++ [([] : List Nat)].flatten)), b ∉ [w.heap.size] := fun b hb hm => by have := P.ge b hb; simp at this hm; omega
  have Yf := ((((((Y3.set 0 (.slice D1 tr.length E1)).set 1 (.slice (some ⟨w2.heap.size, 0, none⟩) 1 1)).set 2 (.slice (some ⟨w2.heap.size + 1, 0, none⟩) 1 1)).set 3 (.int .i64 0)).set 4 (.string ⟨#[]⟩)).set 5 (.int .i64 0))
  have kf : Only [w.heap.size] (((w2.alloc (.cells #[.slice D2 tr.length E2] 25)).alloc (.cells #[.int .i64 0] 2)).alloc (.cells #[.slice D1 tr.length E1, .slice (some ⟨w2.heap.size, 0, none⟩) 1 1, .slice (some ⟨w2.heap.size + 1, 0, none⟩) 1 1] 32)) (((((((((w2.alloc (.cells #[.slice D2 tr.length E2] 25)).alloc (.cells #[.int .i64 0] 2)).alloc (.cells #[.slice D1 tr.length E1, .slice (some ⟨w2.heap.size, 0, none⟩) 1 1, .slice (some ⟨w2.heap.size + 1, 0, none⟩) 1 1] 32)).setCell ⟨w.heap.size, 0, none⟩ (.slice D1 tr.length E1)).setCell ⟨w.heap.size, 1, none⟩ (.slice (some ⟨w2.heap.size, 0, none⟩) 1 1)).setCell ⟨w.heap.size, 2, none⟩ (.slice (some ⟨w2.heap.size + 1, 0, none⟩) 1 1)).setCell ⟨w.heap.size, 3, none⟩ (.int .i64 0)).setCell ⟨w.heap.size, 4, none⟩ (.string ⟨#[]⟩)).setCell ⟨w.heap.size, 5, none⟩ (.int .i64 0)) := (((((((Only.refl _ _).setCell (by simp) _).setCell (by simp) _).setCell (by simp) _).setCell (by simp) _).setCell (by simp) _).setCell (by simp) _)
  obtain ⟨wf, hwf⟩ : ∃ wf, wf = (((((((((w2.alloc (.cells #[.slice D2 tr.length E2] 25)).alloc (.cells #[.int .i64 0] 2)).alloc (.cells #[.slice D1 tr.length E1, .slice (some ⟨w2.heap.size, 0, none⟩) 1 1, .slice (some ⟨w2.heap.size + 1, 0, none⟩) 1 1] 32)).setCell ⟨w.heap.size, 0, none⟩ (.slice D1 tr.length E1)).setCell ⟨w.heap.size, 1, none⟩ (.slice (some ⟨w2.heap.size, 0, none⟩) 1 1)).setCell ⟨w.heap.size, 2, none⟩ (.slice (some ⟨w2.heap.size + 1, 0, none⟩) 1 1)).setCell ⟨w.heap.size, 3, none⟩ (.int .i64 0)).setCell ⟨w.heap.size, 4, none⟩ (.string ⟨#[]⟩)).setCell ⟨w.heap.size, 5, none⟩ (.int .i64 0)) := ⟨_, rfl⟩
  rw [← hwf] at Yf kf ⊢
  simp only [List.set] at Yf
  clear hwf g0 q0 g1 q1 g2 q2 g3 q3 g4 q4 g5 q5
  have z0 := Yf.cell 0 rfl
  have z1 := Yf.cell 1 rfl
  have z2 := Yf.cell 2 rfl
  have z3 := Yf.cell 3 rfl
  have z4 := Yf.cell 4 rfl
  have z5 := Yf.cell 5 rfl
  refine bodyPost_ret (v := .agg #[.slice D1 tr.length E1, .slice (some ⟨w2.heap.size, 0, none⟩) 1 1, .slice (some ⟨w2.heap.size + 1, 0, none⟩) 1 1, .int .i64 0, .string ⟨#[]⟩, .int .i64 0]) (by simp [results, Tryz.results20, go_sem, z0, z1, z2, z3, z4, z5]) rfl ⟨[.slice D1 tr.length E1, .slice (some ⟨w2.heap.size, 0, none⟩) 1 1, .slice (some ⟨w2.heap.size + 1, 0, none⟩) 1 1, .int .i64 0, .string ⟨#[]⟩, .int .i64 0], _, rfl, ⟨_, rfl, by unfold I64 startF; simp, by unfold maxLen startF; simp, by unfold I64 startF; simp, ⟨_, _, _, f1, _, _, rfl, rfl, Rp.only R1 kf (fun b hb => hP b (by simp [hb])), Rp.only R2 kf (fun b hb => hP b (List.mem_append_right _ (List.mem_append_left _ hb))), Rp.only R3 kf (fun b hb => hP b (List.mem_append_right _ (List.mem_append_right _ hb)))⟩⟩, (P.mono (by simp)).only kf hP, K0.then_ kf (by simp)⟩

def noFill : FillJob := ⟨noTab, 0, ⟨#[]⟩, 0⟩
theorem noFill_rd (w : World) : Rp.rep w [.slice none 0 0, .slice none 0 0, .slice none 0 0, .int .i64 0, .string ⟨#[]⟩, .int .i64 0] noFill [] := ⟨_, rfl, by unfold I64 noFill; simp, by show (0 : Nat) ≤ maxLen; omega, by unfold I64 noFill; simp, ⟨_, _, _, [], [], [], rfl, rfl, nil_rd _, nil_rd _, nil_rd _⟩⟩
set_option maxHeartbeats 2000000 in
theorem specStartFill_any (cs : List Value) (x : Puzzle) (fp : List Nat) (v : Value) (tr : List Int) (ft : List Nat) (w : World) (h : Rp.rep w cs x fp) (hv : Rd w v tr ft) (hl : tr.length ≤ 2097152) :
    Calls Tryz.prog 32 #[.agg cs.toArray, v] w fun e w' => ∃ cs' fp', e = .returned (.tuple #[.agg (List.toArray cs'), .bool (bTab x tr).isSome]) ∧ Rp.rep w' cs' (if (bTab x tr).isSome = true then startF tr else noFill) fp' ∧ Fresh w.heap.size w' fp' ∧ Only [] w w' := by
  have hh := h
  obtain ⟨v2, rfl, p0, p1, h2⟩ := h
  obtain ⟨A2, C2, _, _, rfl, -, -⟩ := h2.open_
  have X1 : Blk ((w.alloc (.cells #[.int .i64 x.points, .string x.names, .slice A2 x.moves.length C2] 37)).alloc (.cells #[.slice none 0 0, .slice none 0 0, .slice none 0 0, .int .i64 0, .string ⟨#[]⟩, .int .i64 0] 34)) (w.heap.size + 1) [.slice none 0 0, .slice none 0 0, .slice none 0 0, .int .i64 0, .string ⟨#[]⟩, .int .i64 0] := Blk.new_at (by simp)
  have HX := Lib.hid X1; clear X1
  have k0 : Only [] w ((w.alloc (.cells #[.int .i64 x.points, .string x.names, .slice A2 x.moves.length C2] 37)).alloc (.cells #[.slice none 0 0, .slice none 0 0, .slice none 0 0, .int .i64 0, .string ⟨#[]⟩, .int .i64 0] 34)) := ((Only.refl _ _).alloc _).alloc _
  obtain ⟨jf, hjf⟩ : ∃ jf : FillJob, jf = if (bTab x tr).isSome = true then startF tr else noFill := ⟨_, rfl⟩
  rw [← hjf]
  have HJ := Lib.hid hjf
  clear hjf
  go_enter Tryz.func32, Tryz.ntmps32
  go_wp2_with fail
  with_reducible refine (specBuildTable_any [.int .i64 x.points, .string x.names, .slice A2 x.moves.length C2] x _ v tr _ _ (Rp.keep hh k0) (Rp.keep hv k0) hl).mono ?_
  rintro e w1 ⟨cs1, f1, rfl, r1, F1, t1⟩
  have r1' := r1
  obtain ⟨b1, b2, b3, _, _, _, rfl, -, kk1, kk2, kk3⟩ := r1'
  obtain ⟨D1, E1, _, _, rfl, -⟩ := kk1.open_
  obtain ⟨D2, E2, _, _, rfl, -⟩ := kk2.open_
  obtain ⟨D3, E3, _, _, rfl, -⟩ := kk3.open_
  generalize hn1 : ((bTab x tr).getD noTab).tracked.length = n1 at *
  generalize hn2 : ((bTab x tr).getD noTab).patterns.length = n2 at *
  generalize hn3 : ((bTab x tr).getD noTab).distances.length = n3 at *
  clear r1 kk1 kk2 kk3 hn1 hn2 hn3
  have Y1 := HX.out.keep t1
  have hs1 := t1.size
  simp at hs1
  have KV : Only [] w1 (w1.alloc (.cells #[.slice D1 n1 E1, .slice D2 n2 E2, .slice D3 n3 E3] 32)) := (Only.refl _ _).alloc _
  have Y2 : Blk (w1.alloc (.cells #[.slice D1 n1 E1, .slice D2 n2 E2, .slice D3 n3 E3] 32)) (w.heap.size + 1) [.slice none 0 0, .slice none 0 0, .slice none 0 0, .int .i64 0, .string ⟨#[]⟩, .int .i64 0] := Y1.keep KV
  have B2 : Blk (w1.alloc (.cells #[.slice D1 n1 E1, .slice D2 n2 E2, .slice D3 n3 E3] 32)) w1.heap.size [.slice D1 n1 E1, .slice D2 n2 E2, .slice D3 n3 E3] := Blk.new_at rfl
  have T0 : Only [] w (w1.alloc (.cells #[.slice D1 n1 E1, .slice D2 n2 E2, .slice D3 n3 E3] 32)) := (k0.trans t1).trans KV
  rcases hb : (bTab x tr).isSome
  · have g0 := Y2.cell 0 rfl
    have q0 := Y2.frozen 0
    have g1 := Y2.cell 1 rfl
    have q1 := Y2.frozen 1
    have g2 := Y2.cell 2 rfl
    have q2 := Y2.frozen 2
    have g3 := Y2.cell 3 rfl
    have q3 := Y2.frozen 3
    have g4 := Y2.cell 4 rfl
    have q4 := Y2.frozen 4
    have g5 := Y2.cell 5 rfl
    have q5 := Y2.frozen 5
    go_wp2_with fail
    have Yf := ((((((Y2.set 0 (.slice none 0 0)).set 1 (.slice none 0 0)).set 2 (.slice none 0 0)).set 3 (.int .i64 0)).set 4 (.string ⟨#[]⟩)).set 5 (.int .i64 0))
    have kf : Only [w.heap.size + 1] (w1.alloc (.cells #[.slice D1 n1 E1, .slice D2 n2 E2, .slice D3 n3 E3] 32)) (((((((w1.alloc (.cells #[.slice D1 n1 E1, .slice D2 n2 E2, .slice D3 n3 E3] 32)).setCell ⟨w.heap.size + 1, 0, none⟩ (.slice none 0 0)).setCell ⟨w.heap.size + 1, 1, none⟩ (.slice none 0 0)).setCell ⟨w.heap.size + 1, 2, none⟩ (.slice none 0 0)).setCell ⟨w.heap.size + 1, 3, none⟩ (.int .i64 0)).setCell ⟨w.heap.size + 1, 4, none⟩ (.string ⟨#[]⟩)).setCell ⟨w.heap.size + 1, 5, none⟩ (.int .i64 0)) := (((((((Only.refl _ _).setCell (by simp) _).setCell (by simp) _).setCell (by simp) _).setCell (by simp) _).setCell (by simp) _).setCell (by simp) _)
    obtain ⟨wf, hwf⟩ : ∃ wf, wf = (((((((w1.alloc (.cells #[.slice D1 n1 E1, .slice D2 n2 E2, .slice D3 n3 E3] 32)).setCell ⟨w.heap.size + 1, 0, none⟩ (.slice none 0 0)).setCell ⟨w.heap.size + 1, 1, none⟩ (.slice none 0 0)).setCell ⟨w.heap.size + 1, 2, none⟩ (.slice none 0 0)).setCell ⟨w.heap.size + 1, 3, none⟩ (.int .i64 0)).setCell ⟨w.heap.size + 1, 4, none⟩ (.string ⟨#[]⟩)).setCell ⟨w.heap.size + 1, 5, none⟩ (.int .i64 0)) := ⟨_, rfl⟩
    rw [← hwf] at Yf kf ⊢
    simp only [List.set] at Yf
    clear hwf g0 q0 g1 q1 g2 q2 g3 q3 g4 q4 g5 q5
    have z0 := Yf.cell 0 rfl
    have z1 := Yf.cell 1 rfl
    have z2 := Yf.cell 2 rfl
    have z3 := Yf.cell 3 rfl
    have z4 := Yf.cell 4 rfl
    have z5 := Yf.cell 5 rfl
    refine bodyPost_ret (v := .tuple #[.agg #[.slice none 0 0, .slice none 0 0, .slice none 0 0, .int .i64 0, .string ⟨#[]⟩, .int .i64 0], .bool false]) (by simp [results, Tryz.results32, go_sem, z0, z1, z2, z3, z4, z5]) rfl ⟨[.slice none 0 0, .slice none 0 0, .slice none 0 0, .int .i64 0, .string ⟨#[]⟩, .int .i64 0], [], by rw [hb], by rw [HJ.out, hb]; exact noFill_rd wf, Fresh.nil _ _, T0.then_ kf (by simp)⟩
  · go_wp2_with fail
    with_reducible refine (start28_any v tr _ _ (Rp.keep hv T0) hl).mono ?_
    rintro e w2 ⟨cs2, f2, rfl, r2, F2, t2⟩
    have r2' := r2
    obtain ⟨d0, rfl, -, -, -, r3⟩ := r2'
    obtain ⟨d1, d2, d3, _, _, _, rfl, -, kk1, kk2, kk3⟩ := r3
    obtain ⟨a1, c1, _, _, rfl, -⟩ := kk1.open_
    obtain ⟨a2, c2, _, _, rfl, -⟩ := kk2.open_
    obtain ⟨a3, c3, _, _, rfl, -⟩ := kk3.open_
    have Y3 := Y2.keep t2
    have g0 := Y3.cell 0 rfl
    have q0 := Y3.frozen 0
    have g1 := Y3.cell 1 rfl
    have q1 := Y3.frozen 1
    have g2 := Y3.cell 2 rfl
    have q2 := Y3.frozen 2
    have g3 := Y3.cell 3 rfl
    have q3 := Y3.frozen 3
    have g4 := Y3.cell 4 rfl
    have q4 := Y3.frozen 4
    have g5 := Y3.cell 5 rfl
    have q5 := Y3.frozen 5
    have hs2 := t2.size
    simp at hs2
    go_wp2_with fail
    have hF : ∀ b ∈ f2, b ∉ [w.heap.size + 1] := fun b hb hm => by have := F2.ge b hb; simp at this hm; omega
    have Yf := ((((((Y3.set 0 (.slice a1 (startF tr).table.tracked.length c1)).set 1 (.slice a2 (startF tr).table.patterns.length c2)).set 2 (.slice a3 (startF tr).table.distances.length c3)).set 3 (.int .i64 (startF tr).next)).set 4 (.string (startF tr).log)).set 5 (.int .i64 (startF tr).synced))
    have kf : Only [w.heap.size + 1] w2 ((((((w2.setCell ⟨w.heap.size + 1, 0, none⟩ (.slice a1 (startF tr).table.tracked.length c1)).setCell ⟨w.heap.size + 1, 1, none⟩ (.slice a2 (startF tr).table.patterns.length c2)).setCell ⟨w.heap.size + 1, 2, none⟩ (.slice a3 (startF tr).table.distances.length c3)).setCell ⟨w.heap.size + 1, 3, none⟩ (.int .i64 (startF tr).next)).setCell ⟨w.heap.size + 1, 4, none⟩ (.string (startF tr).log)).setCell ⟨w.heap.size + 1, 5, none⟩ (.int .i64 (startF tr).synced)) := (((((((Only.refl _ _).setCell (by simp) _).setCell (by simp) _).setCell (by simp) _).setCell (by simp) _).setCell (by simp) _).setCell (by simp) _)
    obtain ⟨wf, hwf⟩ : ∃ wf, wf = ((((((w2.setCell ⟨w.heap.size + 1, 0, none⟩ (.slice a1 (startF tr).table.tracked.length c1)).setCell ⟨w.heap.size + 1, 1, none⟩ (.slice a2 (startF tr).table.patterns.length c2)).setCell ⟨w.heap.size + 1, 2, none⟩ (.slice a3 (startF tr).table.distances.length c3)).setCell ⟨w.heap.size + 1, 3, none⟩ (.int .i64 (startF tr).next)).setCell ⟨w.heap.size + 1, 4, none⟩ (.string (startF tr).log)).setCell ⟨w.heap.size + 1, 5, none⟩ (.int .i64 (startF tr).synced)) := ⟨_, rfl⟩
    rw [← hwf] at Yf kf ⊢
    simp only [List.set] at Yf
    clear hwf g0 q0 g1 q1 g2 q2 g3 q3 g4 q4 g5 q5
    have z0 := Yf.cell 0 rfl
    have z1 := Yf.cell 1 rfl
    have z2 := Yf.cell 2 rfl
    have z3 := Yf.cell 3 rfl
    have z4 := Yf.cell 4 rfl
    have z5 := Yf.cell 5 rfl
    refine bodyPost_ret (v := .tuple #[.agg #[.slice a1 (startF tr).table.tracked.length c1, .slice a2 (startF tr).table.patterns.length c2, .slice a3 (startF tr).table.distances.length c3, .int .i64 (startF tr).next, .string (startF tr).log, .int .i64 (startF tr).synced], .bool true]) (by simp [results, Tryz.results32, go_sem, z0, z1, z2, z3, z4, z5]) rfl ⟨[.slice a1 (startF tr).table.tracked.length c1, .slice a2 (startF tr).table.patterns.length c2, .slice a3 (startF tr).table.distances.length c3, .int .i64 (startF tr).next, .string (startF tr).log, .int .i64 (startF tr).synced], f2, by rw [hb], by rw [HJ.out, hb]; exact Rp.only r2 kf hF, (F2.mono (by simp; omega)).only kf hF, (T0.trans t2).then_ kf (by simp)⟩

end Go.Proofs.YtkhdmiemfpelcaaGreat

namespace Go.Proofs.YtkhdmiemfpelcaaGreat
open Go.RowKit
set_option maxRecDepth 10000

noncomputable def sameB (a b : FillJob) : Bool := decide (a.next = b.next) && (decide (a.log = b.log) && eqV a.table b.table)
theorem sameB_iff {a b : FillJob} : sameB a b = true ↔ sameF a b := by
  unfold sameB sameF
  rw [Bool.and_eq_true, Bool.and_eq_true, decide_eq_true_iff, decide_eq_true_iff, eqV_iff]

set_option maxHeartbeats 1000000 in
theorem same28_any (cs cs' : List Value) (a b : FillJob) (fp fp' : List Nat) (w : World) (h : Rp.rep w cs a fp) (h' : Rp.rep w cs' b fp') :
    Calls Tryz.prog 34 #[.agg cs.toArray, .agg cs'.toArray] w fun e w' => e = .returned (.bool (sameB a b)) ∧ Only [] w w' := by
  obtain ⟨c0, rfl, p1, p2, p3, h0⟩ := h
  have q0 := h0
  obtain ⟨v1, v2, v3, _, _, _, rfl, -, k1, k2, k3⟩ := q0
  obtain ⟨A1, C1, _, _, rfl, -⟩ := k1.open_
  obtain ⟨A2, C2, _, _, rfl, -⟩ := k2.open_
  obtain ⟨A3, C3, _, _, rfl, -⟩ := k3.open_
  obtain ⟨c0', rfl, p1', p2', p3', h0'⟩ := h'
  have q0' := h0'
  obtain ⟨v1', v2', v3', _, _, _, rfl, -, k1', k2', k3'⟩ := q0'
  obtain ⟨A1', C1', _, _, rfl, -⟩ := k1'.open_
  obtain ⟨A2', C2', _, _, rfl, -⟩ := k2'.open_
  obtain ⟨A3', C3', _, _, rfl, -⟩ := k3'.open_
  clear k1 k2 k3 k1' k2' k3'
  by_cases d1 : a.next = b.next
  · have b1 : (a.next == b.next) = true := by simp [d1]
    have D1 := Lib.hid d1; clear d1
    by_cases d2 : a.log = b.log
    · have b2 := str_eq d2
      have b3 : a.log.toList = b.log.toList := by rw [d2]
      have D2 := Lib.hid d2; clear d2
      have hf : sameB a b = eqV a.table b.table := by unfold sameB; rw [decide_eq_true D1.out, decide_eq_true D2.out]; rfl
      have Hf := Lib.hid hf; clear hf
      go_enter Tryz.func34, Tryz.ntmps34
      go_wp2_with (first
        | (go_at_call 55; (with_reducible refine (specSameTable_any [.slice A1 a.table.tracked.length C1, .slice A2 a.table.patterns.length C2, .slice A3 a.table.distances.length C3] [.slice A1' b.table.tracked.length C1', .slice A2' b.table.patterns.length C2', .slice A3' b.table.distances.length C3'] a.table b.table _ _ _ (Rp.keep h0 (by with_reducible repeat (first | exact Only.refl _ _ | assumption | refine Only.drewN ?_ _ | refine Only.drew ?_ | refine Only.alloc ?_ _ | refine Only.setCell ?_ (by intro hh; exfalso; simp at hh; try omega) _ | refine Only.trans ?_ (by assumption)))) (Rp.keep h0' (by with_reducible repeat (first | exact Only.refl _ _ | assumption | refine Only.drewN ?_ _ | refine Only.drew ?_ | refine Only.alloc ?_ _ | refine Only.setCell ?_ (by intro hh; exfalso; simp at hh; try omega) _ | refine Only.trans ?_ (by assumption))))).mono ?_); rintro e w1 ⟨rfl, t1⟩)
        | fail "no arm")
      go_ret
      exact ⟨ret_bool Hf.out.symm, (by with_reducible repeat (first | exact Only.refl _ _ | assumption | refine Only.drewN ?_ _ | refine Only.drew ?_ | refine Only.alloc ?_ _ | refine Only.setCell ?_ (by intro hh; exfalso; simp at hh; try omega) _ | refine Only.trans ?_ (by assumption)))⟩
    · have b2 := str_ne d2
      have b3 : ¬ a.log.toList = b.log.toList := by simpa using b2
      have D2 := Lib.hid d2; clear d2
      have hf : sameB a b = false := by unfold sameB; rw [decide_eq_false D2.out, Bool.false_and, Bool.and_false]
      have Hf := Lib.hid hf; clear hf
      go_enter Tryz.func34, Tryz.ntmps34
      go_wp2
      go_ret
      exact ⟨ret_bool Hf.out.symm, (by with_reducible repeat (first | exact Only.refl _ _ | assumption | refine Only.drewN ?_ _ | refine Only.drew ?_ | refine Only.alloc ?_ _ | refine Only.setCell ?_ (by intro hh; exfalso; simp at hh; try omega) _ | refine Only.trans ?_ (by assumption)))⟩
  · have b1 : (a.next == b.next) = false := by simp [d1]
    have D1 := Lib.hid d1; clear d1
    have hf : sameB a b = false := by unfold sameB; rw [decide_eq_false D1.out, Bool.false_and]
    have Hf := Lib.hid hf; clear hf
    go_enter Tryz.func34, Tryz.ntmps34
    go_wp2
    go_ret
    exact ⟨ret_bool Hf.out.symm, (by with_reducible repeat (first | exact Only.refl _ _ | assumption | refine Only.drewN ?_ _ | refine Only.drew ?_ | refine Only.alloc ?_ _ | refine Only.setCell ?_ (by intro hh; exfalso; simp at hh; try omega) _ | refine Only.trans ?_ (by assumption)))⟩
end Go.Proofs.YtkhdmiemfpelcaaGreat

namespace Go.Proofs.YtkhdmiemfpelcaaGreat
open Go.RowKit
set_option maxRecDepth 10000
/-- the patterns of reachable states are entries -/
theorem Built.reach {x : Puzzle} {t : Table} (h : Built x t) {s : List Int} (hs : reachB x s = true) : PM.comp t.tracked s ∈ t.patterns := by
  have hg := validPz_pn h.v
  have hf := validPz_facts h.v
  have htr := trackB_iff.1 h.tk
  have hG : PM.Grp x.points.toNat x.moves s := by
    unfold reachB memB at hs
    rw [Bool.and_eq_true] at hs
    exact @of_decide_eq_true _ (Classical.propDecidable _) hs.2
  have hr : ∀ z ∈ t.tracked, 0 ≤ z ∧ z < x.points.toNat := fun z hz => by have := htr.2.1 z hz; omega
  have h0 : t.patterns.getD 0 [] = t.tracked := h.bi.p0
  have hne : 0 < t.patterns.length := h.bi.ne
  have := PM.grp_sub (n := x.points.toNat) (G := x.moves) hg (S := fun p => PM.PN x.points.toNat p ∧ PM.comp t.tracked p ∈ t.patterns) (fun p hp => hp.1) ⟨PM.PN.id _, ?_⟩ ?_ hG
  · exact this.2
  · have e : PM.comp t.tracked (PM.pts x.points.toNat) = t.tracked := by
      unfold PM.comp
      refine (List.map_congr_left fun z hz => ?_).trans (List.map_id _)
      exact PM.at_pts (hr z hz).1 (hr z hz).2
    rw [e, ← h0, getD_get hne]
    exact List.getElem_mem hne
  · rintro p g ⟨hp, hm⟩ hgm
    refine ⟨hp.comp (hg g hgm), ?_⟩
    obtain ⟨k, hk, rfl⟩ := List.getElem_of_mem hgm
    obtain ⟨j, hj, e⟩ := List.getElem_of_mem hm
    have hl : ((k : Int) + 1) ∈ ltrs x.moves.length := mem_ltrs.2 ⟨by omega, by omega, by omega⟩
    obtain ⟨i, hi, e2, -⟩ := h.step hj hl
    have e3 : PM.comp t.tracked (PM.comp p x.moves[k]) = nxt x (PM.comp t.tracked p) ((k : Int) + 1) := by
      unfold nxt
      rw [mv_pos rfl hk]
      unfold PM.comp
      rw [List.map_map]
      refine List.map_congr_left fun z hz => ?_
      have := hr z hz
      exact PM.at_comp this.1 (by rw [hp.1]; omega)
    rw [e3, ← e, ← getD_get (z := []) hj, ← e2, getD_get hi]
    exact List.getElem_mem hi
end Go.Proofs.YtkhdmiemfpelcaaGreat

namespace Go.Proofs.YtkhdmiemfpelcaaGreat
open Go.RowKit
set_option maxRecDepth 10000
end Go.Proofs.YtkhdmiemfpelcaaGreat
