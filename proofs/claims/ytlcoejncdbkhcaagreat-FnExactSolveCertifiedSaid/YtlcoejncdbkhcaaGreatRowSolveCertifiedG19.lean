/- The program's ReachablePatterns, BuildTable, BuildTables (law 16). Valid tables, sets of tables: the reference's and the program's functions (laws 40, 42, 43, 52). (Printed by mkvtab.py.) The reference's LowerBound (laws 40, 42, 43, 52). The program's LowerBound (laws 40, 42, 43, 52). Certificate: plain data, how it lies in memory, the laws' own helpers on it. (Printed by gen_struct.py.) The certificate of a solution: the reference's and the program's. The certificates of a lower bound and of optimality: the reference's and the program's. BoundCertified: the reference's and the program's (law 40). (Printed by mkbnd.py.) -/
import Derived.Test.YtlcoejncdbkhcaaGreatRowSolveCertifiedG18
import Derived.Test.YtlcoejncdbkhcaaGreatRowSolveCertifiedG13
import Derived.Test.YtlcoejncdbkhcaaGreatRowSolveCertifiedG10
import Derived.Test.YtlcoejncdbkhcaaGreatRowSolveCertifiedG3
import Derived.Deep.RegionHeld3
import Derived.Test.YtlcoejncdbkhcaaGreatRowSolveCertifiedG14
import Derived.Deep.RegionLaw
import Derived.Test.YtlcoejncdbkhcaaGreatRowSolveCertifiedG7
import Derived.Test.YtlcoejncdbkhcaaGreatRowSolveCertifiedG2
namespace Go.Proofs.YtlcoejncdbkhcaaGreat
open Go.RowKit
set_option maxRecDepth 10000

set_option maxHeartbeats 1000000 in
theorem implIsTrackedSet_any (cs : List Value) (x : Puzzle) (fp : List Nat) (v : Value) (l : List Int) (f2 : List Nat) (w : World) (h : Rp.rep w cs x fp) (h2 : Rd w v l f2) :
    Calls Tryz.prog 183 #[.agg cs.toArray, v] w fun e w' => e = .returned (.bool (validPz x && trackB x.points l)) ∧ Only [] w w' := by
  have h0 := h
  obtain ⟨v2, rfl, p0, p1, hm⟩ := h
  rcases hq : validPz x
  · go_enter Tryz.func183, Tryz.ntmps183
    go_wp2_with ((go_at_call 122; (with_reducible refine (implIsValidPuzzle_any [.int .i64 x.points, .string x.names, v2] x _ _ (Rp.keep h0 (by with_reducible repeat (first | exact Only.refl _ _ | assumption | refine Only.drewN ?_ _ | refine Only.drew ?_ | refine Only.alloc ?_ _ | refine Only.setCell ?_ (by intro hh; exfalso; simp at hh; try omega) _ | refine Only.trans ?_ (by assumption))))).mono ?_); rintro e w1 ⟨he, t1⟩; rw [hq] at he; subst he))
    go_ret
    exact ⟨rfl, (by with_reducible repeat (first | exact Only.refl _ _ | assumption | refine Only.drewN ?_ _ | refine Only.drew ?_ | refine Only.alloc ?_ _ | refine Only.setCell ?_ (by intro hh; exfalso; simp at hh; try omega) _ | refine Only.trans ?_ (by assumption)))⟩
  obtain ⟨g1, g2, g3, g4⟩ := validPz_facts hq
  have hB := Blk.new_at (w := w) (cs := [.int .i64 x.points, .string x.names, v2]) (t := 37) rfl
  go_enter Tryz.func183, Tryz.ntmps183
  go_wp2_with (first | (go_at_call 122; (with_reducible refine (implIsValidPuzzle_any [.int .i64 x.points, .string x.names, v2] x _ _ (Rp.keep h0 (by with_reducible repeat (first | exact Only.refl _ _ | assumption | refine Only.drewN ?_ _ | refine Only.drew ?_ | refine Only.alloc ?_ _ | refine Only.setCell ?_ (by intro hh; exfalso; simp at hh; try omega) _ | refine Only.trans ?_ (by assumption))))).mono ?_); rintro e w1 ⟨he, t1⟩; rw [hq] at he; subst he; have y0 := (hB.keep t1).cell 0 rfl) | (go_at_call 221; (with_reducible refine (isTracked_rd x.points v l _ _ (Rp.keep h2 (by with_reducible repeat (first | exact Only.refl _ _ | assumption | refine Only.drewN ?_ _ | refine Only.drew ?_ | refine Only.alloc ?_ _ | refine Only.setCell ?_ (by intro hh; exfalso; simp at hh; try omega) _ | refine Only.trans ?_ (by assumption)))) (by omega) (by omega)).mono ?_); rintro e w2 ⟨rfl, m2, rfl⟩))
  go_ret
  exact ⟨rfl, (by with_reducible repeat (first | exact Only.refl _ _ | assumption | refine Only.drewN ?_ _ | refine Only.drew ?_ | refine Only.alloc ?_ _ | refine Only.setCell ?_ (by intro hh; exfalso; simp at hh; try omega) _ | refine Only.trans ?_ (by assumption)))⟩
set_option maxHeartbeats 2000000 in
theorem reachPatterns_any (cs : List Value) (x : Puzzle) (fp : List Nat) (v : Value) (tr : List Int) (ft : List Nat) (w : World) (h : Rp.rep w cs x fp) (hv : Rd w v tr ft) :
    Calls Tryz.prog 128 #[.agg cs.toArray, v] w fun e w' => ∃ u1 u2 f1 f2, e = .returned (.tuple #[u1, u2, .bool (bfs16 x tr).isSome]) ∧
      Rd w' u1 ((bfs16 x tr).getD ([], [])).1 f1 ∧ Rd w' u2 ((bfs16 x tr).getD ([], [])).2 f2 ∧ Fresh w.heap.size w' (f1 ++ f2) ∧ Only [] w w' := by
  have h0 := h
  obtain ⟨v2, rfl, p0, p1, hm⟩ := h
  have X0 := Blk.new w [.int .i64 x.points, .string x.names, v2] 37
  simp only [List.toArray] at X0
  rcases hq : validPz x && trackB x.points tr
  · have Hn := Lib.hid (bfs16_no hq)
    have Hq := Lib.hid hq
    clear hq
    go_enter Tryz.func128, Tryz.ntmps128
    go_wp2_with (first
      | (go_at_call 183; (with_reducible refine (implIsTrackedSet_any [.int .i64 x.points, .string x.names, v2] x _ _ tr _ _ (Rp.keep h0 (by with_reducible repeat (first | exact Only.refl _ _ | assumption | refine Only.drewN ?_ _ | refine Only.drew ?_ | refine Only.alloc ?_ _ | refine Only.setCell ?_ (by intro hh; exfalso; simp at hh; try omega) _ | refine Only.trans ?_ (by assumption)))) (Rp.keep hv (by with_reducible repeat (first | exact Only.refl _ _ | assumption | refine Only.drewN ?_ _ | refine Only.drew ?_ | refine Only.alloc ?_ _ | refine Only.setCell ?_ (by intro hh; exfalso; simp at hh; try omega) _ | refine Only.trans ?_ (by assumption))))).mono ?_); rintro e w1 ⟨he, t1⟩; rw [Hq.out] at he; subst he)
      | fail "no arm")
    refine bodyPost_ret (v := .tuple #[.slice none 0 0, .slice none 0 0, .bool false]) (by simp [results, Tryz.results128, go_sem]) rfl ⟨.slice none 0 0, .slice none 0 0, [], [], by rw [Hn.out]; rfl, by rw [Hn.out]; exact nil_rd _, by rw [Hn.out]; exact nil_rd _, Fresh.nil _ _, (by with_reducible repeat (first | exact Only.refl _ _ | assumption | refine Only.drewN ?_ _ | refine Only.drew ?_ | refine Only.alloc ?_ _ | refine Only.setCell ?_ (by intro hh; exfalso; simp at hh; try omega) _ | refine Only.trans ?_ (by assumption)))⟩
  · have Hn := Lib.hid (bfs16_yes hq)
    obtain ⟨q1, q2⟩ := (Bool.and_eq_true _ _).mp hq
    have Hq := Lib.hid hq
    have Hv := Lib.hid q1
    have Hp := Lib.hid (trackB_pat q2)
    have htl : tr.length ≤ 1000 := by
      have h3 := (trackB_iff.1 q2).2.len
      have := (validPz_facts q1).2.1
      omega
    clear hq q1 q2
    go_enter Tryz.func128, Tryz.ntmps128
    go_wp2_with (first
      | (go_at_call 183; (with_reducible refine (implIsTrackedSet_any [.int .i64 x.points, .string x.names, v2] x _ _ tr _ _ (Rp.keep h0 (by with_reducible repeat (first | exact Only.refl _ _ | assumption | refine Only.drewN ?_ _ | refine Only.drew ?_ | refine Only.alloc ?_ _ | refine Only.setCell ?_ (by intro hh; exfalso; simp at hh; try omega) _ | refine Only.trans ?_ (by assumption)))) (Rp.keep hv (by with_reducible repeat (first | exact Only.refl _ _ | assumption | refine Only.drewN ?_ _ | refine Only.drew ?_ | refine Only.alloc ?_ _ | refine Only.setCell ?_ (by intro hh; exfalso; simp at hh; try omega) _ | refine Only.trans ?_ (by assumption))))).mono ?_); rintro e w1 ⟨he, t1⟩; rw [Hq.out] at he; subst he; have X1 := X0.keep t1; have g0 := X1.cell 0 rfl; have g1 := X1.cell 1 rfl; have g2 := X1.cell 2 rfl)
      | (go_at_call 184; (with_reducible refine (patterns_any [.int .i64 x.points, .string x.names, v2] x _ _ tr _ _ (Rp.keep h0 (by with_reducible repeat (first | exact Only.refl _ _ | assumption | refine Only.drewN ?_ _ | refine Only.drew ?_ | refine Only.alloc ?_ _ | refine Only.setCell ?_ (by intro hh; exfalso; simp at hh; try omega) _ | refine Only.trans ?_ (by assumption)))) (Rp.keep hv (by with_reducible repeat (first | exact Only.refl _ _ | assumption | refine Only.drewN ?_ _ | refine Only.drew ?_ | refine Only.alloc ?_ _ | refine Only.setCell ?_ (by intro hh; exfalso; simp at hh; try omega) _ | refine Only.trans ?_ (by assumption)))) Hv.out Hp.out htl).mono ?_); rintro e w2 ⟨u1, u2, f1, f2, rfl, r1, r2, F2, t2⟩)
      | fail "no arm")
    have K2 : Only [] w w2 := (by with_reducible repeat (first | exact Only.refl _ _ | assumption | refine Only.drewN ?_ _ | refine Only.drew ?_ | refine Only.alloc ?_ _ | refine Only.setCell ?_ (by intro hh; exfalso; simp at hh; try omega) _ | refine Only.trans ?_ (by assumption)))
    have hsz := t1.size
    simp at hsz
    refine bodyPost_ret (v := .tuple #[u1, u2, .bool (bFrom x 3001 0 ([tr], [0])).isSome]) (by simp [results, Tryz.results128, go_sem]) rfl ⟨u1, u2, f1, f2, by rw [Hn.out], by rw [Hn.out]; exact r1, by rw [Hn.out]; exact r2, F2.mono (by omega), K2⟩
set_option maxHeartbeats 4000000 in
theorem implBuildTable_any (cs : List Value) (x : Puzzle) (fp : List Nat) (v : Value) (tr : List Int) (ft : List Nat) (w : World) (h : Rp.rep w cs x fp) (hv : Rd w v tr ft) (htl : tr.length ≤ 2097152) :
    Calls Tryz.prog 77 #[.agg cs.toArray, v] w fun e w' => ∃ cs' fp', e = .returned (.tuple #[.agg (List.toArray cs'), .bool (bTab x tr).isSome]) ∧ Rp.rep w' cs' ((bTab x tr).getD noTab) fp' ∧ Fresh w.heap.size w' fp' ∧ Only [] w w' := by
  have h0 := h
  obtain ⟨v2, rfl, p0, p1, h2⟩ := h
  obtain ⟨A2, C2, _, _, rfl, -, -⟩ := h2.open_
  obtain ⟨a, cap, rfl, Iv⟩ := hv.ints
  clear Iv h2 p0 p1
  have X0 : Blk ((w.alloc (.cells #[.int .i64 x.points, .string x.names, .slice A2 x.moves.length C2] 37)).alloc (.cells #[.slice none 0 0, .slice none 0 0, .slice none 0 0] 32)) w.heap.size [.int .i64 x.points, .string x.names, .slice A2 x.moves.length C2] := (Blk.new w [.int .i64 x.points, .string x.names, .slice A2 x.moves.length C2] 37).keep ((Only.refl _ _).alloc _)
  have Y0 : Blk ((w.alloc (.cells #[.int .i64 x.points, .string x.names, .slice A2 x.moves.length C2] 37)).alloc (.cells #[.slice none 0 0, .slice none 0 0, .slice none 0 0] 32)) (w.heap.size + 1) [.slice none 0 0, .slice none 0 0, .slice none 0 0] := Blk.new_at (by simp)
  have x0 := X0.cell 0 rfl
  have x1 := X0.cell 1 rfl
  have x2 := X0.cell 2 rfl
  rcases hq : bfs16 x tr with _ | s
  · have Hq := Lib.hid hq
    have hb : bTab x tr = none := by unfold bTab; rw [hq]; rfl
    have Hb := Lib.hid hb
    clear hq hb
    go_enter Tryz.func77, Tryz.ntmps77
    go_wp2_with (first
      | (go_at_call 128; (with_reducible refine (reachPatterns_any [.int .i64 x.points, .string x.names, .slice A2 x.moves.length C2] x _ _ tr _ _ (Rp.keep h0 (by with_reducible repeat (first | exact Only.refl _ _ | assumption | refine Only.drewN ?_ _ | refine Only.drew ?_ | refine Only.alloc ?_ _ | refine Only.setCell ?_ (by intro hh; exfalso; simp at hh; try omega) _ | refine Only.trans ?_ (by assumption)))) (Rp.keep hv (by with_reducible repeat (first | exact Only.refl _ _ | assumption | refine Only.drewN ?_ _ | refine Only.drew ?_ | refine Only.alloc ?_ _ | refine Only.setCell ?_ (by intro hh; exfalso; simp at hh; try omega) _ | refine Only.trans ?_ (by assumption))))).mono ?_); rintro e w2 ⟨u1, u2, f1, f2, he, r1, r2, F2, t2⟩; rw [Hq.out] at he; subst he; have Y1 := Y0.keep t2; have g0 := Y1.cell 0 rfl; have g1 := Y1.cell 1 rfl; have g2 := Y1.cell 2 rfl; have p0 := Y1.frozen 0; have p1 := Y1.frozen 1; have p2 := Y1.frozen 2)
      | fail "no arm")
    have K2 : Only [] w w2 := (by with_reducible repeat (first | exact Only.refl _ _ | assumption | refine Only.drewN ?_ _ | refine Only.drew ?_ | refine Only.alloc ?_ _ | refine Only.setCell ?_ (by intro hh; exfalso; simp at hh; try omega) _ | refine Only.trans ?_ (by assumption)))
    have Yf := ((Y1.set 0 (.slice none 0 0)).set 1 (.slice none 0 0)).set 2 (.slice none 0 0)
    have kf := K2.then_ ((((Only.refl [w.heap.size + 1] w2).setCell (p := ⟨w.heap.size + 1, 0, none⟩) (by simp) (.slice none 0 0)).setCell (p := ⟨w.heap.size + 1, 1, none⟩) (by simp) (.slice none 0 0)).setCell (p := ⟨w.heap.size + 1, 2, none⟩) (by simp) (.slice none 0 0)) (by simp)
    obtain ⟨wf, hwf⟩ : ∃ wf, wf = (((w2.setCell ⟨w.heap.size + 1, 0, none⟩ (.slice none 0 0)).setCell ⟨w.heap.size + 1, 1, none⟩ (.slice none 0 0)).setCell ⟨w.heap.size + 1, 2, none⟩ (.slice none 0 0)) := ⟨_, rfl⟩
    rw [← hwf] at Yf kf ⊢
    simp only [List.set] at Yf
    clear hwf g0 g1 g2 p0 p1 p2
    have r0 := Yf.cell 0 rfl
    have r1 := Yf.cell 1 rfl
    have r2 := Yf.cell 2 rfl
    refine bodyPost_ret (v := .tuple #[.agg #[.slice none 0 0, .slice none 0 0, .slice none 0 0], .bool false]) (by simp [results, Tryz.results77, go_sem, r0, r1, r2]) rfl ⟨[.slice none 0 0, .slice none 0 0, .slice none 0 0], [], by rw [Hb.out]; rfl, ?_, Fresh.nil _ _, kf⟩
    rw [Hb.out]
    exact ⟨_, _, _, [], [], [], rfl, rfl, nil_rd _, nil_rd _, nil_rd _⟩
  · have Hq := Lib.hid hq
    have hb : bTab x tr = some ⟨tr, s.1, s.2⟩ := by unfold bTab; rw [hq]; rfl
    have Hb := Lib.hid hb
    clear hq hb
    go_enter Tryz.func77, Tryz.ntmps77
    go_wp2_with (first
      | (go_at_call 128; (with_reducible refine (reachPatterns_any [.int .i64 x.points, .string x.names, .slice A2 x.moves.length C2] x _ _ tr _ _ (Rp.keep h0 (by with_reducible repeat (first | exact Only.refl _ _ | assumption | refine Only.drewN ?_ _ | refine Only.drew ?_ | refine Only.alloc ?_ _ | refine Only.setCell ?_ (by intro hh; exfalso; simp at hh; try omega) _ | refine Only.trans ?_ (by assumption)))) (Rp.keep hv (by with_reducible repeat (first | exact Only.refl _ _ | assumption | refine Only.drewN ?_ _ | refine Only.drew ?_ | refine Only.alloc ?_ _ | refine Only.setCell ?_ (by intro hh; exfalso; simp at hh; try omega) _ | refine Only.trans ?_ (by assumption))))).mono ?_); rintro e w2 ⟨u1, u2, f1, f2, he, r1, r2, F2, t2⟩; rw [Hq.out] at he r1 r2; subst he; simp only [Option.getD] at r1 r2; obtain ⟨a1, c1, ob, fps, rfl, e1, S1⟩ := r1.open_; obtain ⟨a2, c2, rfl, I2⟩ := r2.ints; have Y1 := Y0.keep t2)
      | (go_at_call 129; (with_reducible refine (Clone_rd _ tr _ _ (Rp.keep hv (by with_reducible repeat (first | exact Only.refl _ _ | assumption | refine Only.drewN ?_ _ | refine Only.drew ?_ | refine Only.alloc ?_ _ | refine Only.setCell ?_ (by intro hh; exfalso; simp at hh; try omega) _ | refine Only.trans ?_ (by assumption)))) (by omega)).mono ?_); rintro e w3 ⟨u3, f3, rfl, r3, F3, t3⟩; obtain ⟨a3, c3, rfl, I3⟩ := r3.ints; have Y2 := Y1.keep t3; have g0 := Y2.cell 0 rfl; have g1 := Y2.cell 1 rfl; have g2 := Y2.cell 2 rfl; have p0 := Y2.frozen 0; have p1 := Y2.frozen 1; have p2 := Y2.frozen 2)
      | fail "no arm")
    have K2 : Only [] w w2 := (by with_reducible repeat (first | exact Only.refl _ _ | assumption | refine Only.drewN ?_ _ | refine Only.drew ?_ | refine Only.alloc ?_ _ | refine Only.setCell ?_ (by intro hh; exfalso; simp at hh; try omega) _ | refine Only.trans ?_ (by assumption)))
    have K3 := K2.trans t3
    have hsz := t2.size
    simp at hsz
    have F := (F2.keep t3).append F3 t2.size (fun g hg => F2.lt g hg)
    have hFg : ∀ g ∈ (f1 ++ f2) ++ f3, g ∉ [w.heap.size + 1] := fun g hg hm => by have := F.ge g hg; simp at this hm; omega
    have Yf := ((Y2.set 0 (.slice a3 tr.length c3)).set 1 (.slice a1 s.1.length c1)).set 2 (.slice a2 s.2.length c2)
    have kf : Only [w.heap.size + 1] w3 (((w3.setCell ⟨w.heap.size + 1, 0, none⟩ (.slice a3 tr.length c3)).setCell ⟨w.heap.size + 1, 1, none⟩ (.slice a1 s.1.length c1)).setCell ⟨w.heap.size + 1, 2, none⟩ (.slice a2 s.2.length c2)) := (((Only.refl _ _).setCell (by simp) _).setCell (by simp) _).setCell (by simp) _
    obtain ⟨wf, hwf⟩ : ∃ wf, wf = (((w3.setCell ⟨w.heap.size + 1, 0, none⟩ (.slice a3 tr.length c3)).setCell ⟨w.heap.size + 1, 1, none⟩ (.slice a1 s.1.length c1)).setCell ⟨w.heap.size + 1, 2, none⟩ (.slice a2 s.2.length c2)) := ⟨_, rfl⟩
    rw [← hwf] at Yf kf ⊢
    simp only [List.set] at Yf
    clear hwf g0 g1 g2 p0 p1 p2
    have z0 := Yf.cell 0 rfl
    have z1 := Yf.cell 1 rfl
    have z2 := Yf.cell 2 rfl
    have hP : ((f1 ++ f2) ++ f3).Perm (f3 ++ (f1 ++ f2)) := List.perm_append_comm
    have hFf := ((F.mono (B' := w.heap.size) (by simp; omega)).only kf hFg)
    refine bodyPost_ret (v := .tuple #[.agg #[.slice a3 tr.length c3, .slice a1 s.1.length c1, .slice a2 s.2.length c2], .bool true]) (by simp [results, Tryz.results77, go_sem, z0, z1, z2]) rfl ⟨[.slice a3 tr.length c3, .slice a1 s.1.length c1, .slice a2 s.2.length c2], f3 ++ (f1 ++ f2), by rw [Hb.out]; rfl, ?_, ⟨hP.nodup hFf.nd, fun b hb => hFf.ge b (hP.mem_iff.2 hb), hFf.own.sub fun b hb => hP.mem_iff.2 hb⟩, K3.then_ kf (by simp)⟩
    rw [Hb.out]
    exact ⟨_, _, _, f3, f1, f2, rfl, rfl, Rp.only r3 kf (fun g hg => hFg g (by simp [hg])), Rp.only (Rp.keep r1 t3) kf (fun g hg => hFg g (by simp [hg])), Rp.only (Rp.keep r2 t3) kf (fun g hg => hFg g (by simp [hg]))⟩
end Go.Proofs.YtlcoejncdbkhcaaGreat

namespace Go.Proofs.YtlcoejncdbkhcaaGreat
open Go.RowKit
set_option maxRecDepth 10000
end Go.Proofs.YtlcoejncdbkhcaaGreat

namespace Go.Proofs.YtlcoejncdbkhcaaGreat
open Go.RowKit
set_option maxRecDepth 10000
end Go.Proofs.YtlcoejncdbkhcaaGreat

namespace Go.Proofs.YtlcoejncdbkhcaaGreat
open Go.RowKit
set_option maxRecDepth 10000

/-- the entries of a table's map, of the first j patterns -/
def tabG (t : Table) (j : Nat) (s : ByteArray) : Option Int := (firstG (t.patterns.take j) s).map fun i => t.distances.getD i.toNat 0
def kmOf (t : Table) : KM := ⟨tabG t t.patterns.length⟩
/-- the bounds of tables in memory: the box at g -/
def BD (w : World) (g : Nat) (ts : List Table) (ft : List Nat) : Prop :=
  ∃ vt vm fm, Blk w g [vt, vm] ∧ Rd w vt ts ft ∧ Rd w vm (ts.map kmOf) fm
theorem BD.keep {w w' : World} {g : Nat} {ts : List Table} {ft : List Nat} (h : BD w g ts ft) (ho : Only [] w w') : BD w' g ts ft := by
  obtain ⟨vt, vm, fm, a, b, c⟩ := h
  exact ⟨vt, vm, fm, a.keep ho, Rp.keep b ho, Rp.keep c ho⟩
end Go.Proofs.YtlcoejncdbkhcaaGreat

namespace Go.Proofs.YtlcoejncdbkhcaaGreat
open Go.RowKit
set_option maxRecDepth 10000

structure Certificate where
  kind : Int
  numbers : List Int
  words : List (List Int)
  tables : List Table

instance : Rp Certificate where
  size := 4
  rep w cs x fp := ∃ v1 v2 v3 f1 f2 f3, cs = [Value.int .i64 x.kind] ++ [v1] ++ [v2] ++ [v3] ∧ fp = f1 ++ (f2 ++ f3) ∧ I64 x.kind ∧ Rd w v1 x.numbers f1 ∧ Rd w v2 x.words f2 ∧ Rd w v3 x.tables f3
  len h := by
    obtain ⟨v1, v2, v3, f1, f2, f3, rfl, -, p0, h1, h2, h3⟩ := h
    rfl
  frame h hf := by
    obtain ⟨v1, v2, v3, f1, f2, f3, hcs, rfl, p0, h1, h2, h3⟩ := h
    exact ⟨v1, v2, v3, f1, f2, f3, hcs, rfl, p0, Rp.frame h1 fun b hb => hf b (by simp [hb]), Rp.frame h2 fun b hb => hf b (by simp [hb]), Rp.frame h3 fun b hb => hf b (by simp [hb])⟩
  lt h := by
    obtain ⟨v1, v2, v3, f1, f2, f3, hcs, rfl, p0, h1, h2, h3⟩ := h
    intro b hb
    simp only [List.mem_append] at hb
    rcases hb with hb | hb | hb
    · exact Rp.lt h1 b hb
    · exact Rp.lt h2 b hb
    · exact Rp.lt h3 b hb

instance : Mk Certificate where
  mark k x := ⟨x.kind, Mk.mark (k) x.numbers, Mk.mark (k + (Mk.cnt x.numbers : Nat)) x.words, Mk.mark (k + (Mk.cnt x.numbers : Nat) + (Mk.cnt x.words : Nat)) x.tables⟩
  cnt x := Mk.cnt x.numbers + Mk.cnt x.words + Mk.cnt x.tables
instance : Sz Certificate where
  sz x := Sz.sz x.numbers + Sz.sz x.words + Sz.sz x.tables
instance : Sm Certificate where
  sm x := Sm.sm x.numbers ∧ Sm.sm x.words ∧ Sm.sm x.tables
instance : SzSm Certificate := ⟨fun x h => by
  have h' : Sz.sz x.numbers + Sz.sz x.words + Sz.sz x.tables ≤ 2097152 := h
  exact ⟨SzSm.of_ _ (by omega), SzSm.of_ _ (by omega), SzSm.of_ _ (by omega)⟩⟩
instance : CntSz Certificate := ⟨fun x => by
  have h' : Mk.cnt x.numbers + Mk.cnt x.words + Mk.cnt x.tables ≤ Sz.sz x.numbers + Sz.sz x.words + Sz.sz x.tables := by have := CntSz.le x.numbers; have := CntSz.le x.words; have := CntSz.le x.tables; omega
  exact h'⟩
instance : MkL Certificate := ⟨fun k x => by simp [Mk.mark, Mk.cnt, markL_idem, markL_cnt], fun k x => by simp [Mk.mark, Mk.cnt, markL_cnt]⟩
theorem Certificate.eq_iff {x y : Certificate} : x = y ↔ x.kind = y.kind ∧ x.numbers = y.numbers ∧ x.words = y.words ∧ x.tables = y.tables := by
  cases x; cases y; simp

set_option maxHeartbeats 1000000 in
theorem eqCertificate_any (cs cs' : List Value) (x y : Certificate) (fp fp' : List Nat) (w : World) (h : Rp.rep w cs x fp) (h' : Rp.rep w cs' y fp') :
    Calls Tryz.prog 32 #[.agg cs.toArray, .agg cs'.toArray] w fun e w' => e = .returned (.bool (eqV x y)) ∧ Only [] w w' := by
  obtain ⟨v1, v2, v3, f1, f2, f3, rfl, rfl, p0, h1, h2, h3⟩ := h
  obtain ⟨v1', v2', v3', f1', f2', f3', rfl, rfl, p0', h1', h2', h3'⟩ := h'
  by_cases q0 : x.kind ≠ y.kind
  · have b0 : (x.kind != y.kind) = true := by simpa using q0
    go_enter Tryz.func32, Tryz.ntmps32
    go_wp2_with (first | (go_at_call 33; (with_reducible refine (eqInt64S_rd v1 v1' x.numbers y.numbers _ _ _ (Rp.keep h1 (by with_reducible repeat (first | exact Only.refl _ _ | assumption | refine Only.drewN ?_ _ | refine Only.drew ?_ | refine Only.alloc ?_ _ | refine Only.setCell ?_ (by intro hh; exfalso; simp at hh; try omega) _ | refine Only.trans ?_ (by assumption)))) (Rp.keep h1' (by with_reducible repeat (first | exact Only.refl _ _ | assumption | refine Only.drewN ?_ _ | refine Only.drew ?_ | refine Only.alloc ?_ _ | refine Only.setCell ?_ (by intro hh; exfalso; simp at hh; try omega) _ | refine Only.trans ?_ (by assumption))))).mono ?_); rintro e w1 ⟨rfl, n1, rfl⟩) | (go_at_call 41; (with_reducible refine (eqInt64SS_rd v2 v2' x.words y.words _ _ _ (Rp.keep h2 (by with_reducible repeat (first | exact Only.refl _ _ | assumption | refine Only.drewN ?_ _ | refine Only.drew ?_ | refine Only.alloc ?_ _ | refine Only.setCell ?_ (by intro hh; exfalso; simp at hh; try omega) _ | refine Only.trans ?_ (by assumption)))) (Rp.keep h2' (by with_reducible repeat (first | exact Only.refl _ _ | assumption | refine Only.drewN ?_ _ | refine Only.drew ?_ | refine Only.alloc ?_ _ | refine Only.setCell ?_ (by intro hh; exfalso; simp at hh; try omega) _ | refine Only.trans ?_ (by assumption))))).mono ?_); rintro e w2 ⟨rfl, n2, rfl⟩) | (go_at_call 80; (with_reducible refine (eqTableS_rd v3 v3' x.tables y.tables _ _ _ (Rp.keep h3 (by with_reducible repeat (first | exact Only.refl _ _ | assumption | refine Only.drewN ?_ _ | refine Only.drew ?_ | refine Only.alloc ?_ _ | refine Only.setCell ?_ (by intro hh; exfalso; simp at hh; try omega) _ | refine Only.trans ?_ (by assumption)))) (Rp.keep h3' (by with_reducible repeat (first | exact Only.refl _ _ | assumption | refine Only.drewN ?_ _ | refine Only.drew ?_ | refine Only.alloc ?_ _ | refine Only.setCell ?_ (by intro hh; exfalso; simp at hh; try omega) _ | refine Only.trans ?_ (by assumption))))).mono ?_); rintro e w3 ⟨rfl, hk3⟩))
    go_ret
    exact ⟨ret_bool (eqV_no (fun he => q0 (Certificate.eq_iff.1 he).1)).symm, (by with_reducible repeat (first | exact Only.refl _ _ | assumption | refine Only.drewN ?_ _ | refine Only.drew ?_ | refine Only.alloc ?_ _ | refine Only.setCell ?_ (by intro hh; exfalso; simp at hh; try omega) _ | refine Only.trans ?_ (by assumption)))⟩
  have q0 : x.kind = y.kind := Classical.not_not.1 q0
  have b0 : (x.kind != y.kind) = false := by simpa using q0
  have Q0 := Lib.hid q0
  clear q0
  rcases q1 : eqV x.numbers y.numbers
  · go_enter Tryz.func32, Tryz.ntmps32
    go_wp2_with (first | (go_at_call 33; (with_reducible refine (eqInt64S_rd v1 v1' x.numbers y.numbers _ _ _ (Rp.keep h1 (by with_reducible repeat (first | exact Only.refl _ _ | assumption | refine Only.drewN ?_ _ | refine Only.drew ?_ | refine Only.alloc ?_ _ | refine Only.setCell ?_ (by intro hh; exfalso; simp at hh; try omega) _ | refine Only.trans ?_ (by assumption)))) (Rp.keep h1' (by with_reducible repeat (first | exact Only.refl _ _ | assumption | refine Only.drewN ?_ _ | refine Only.drew ?_ | refine Only.alloc ?_ _ | refine Only.setCell ?_ (by intro hh; exfalso; simp at hh; try omega) _ | refine Only.trans ?_ (by assumption))))).mono ?_); rintro e w1 ⟨rfl, n1, rfl⟩) | (go_at_call 41; (with_reducible refine (eqInt64SS_rd v2 v2' x.words y.words _ _ _ (Rp.keep h2 (by with_reducible repeat (first | exact Only.refl _ _ | assumption | refine Only.drewN ?_ _ | refine Only.drew ?_ | refine Only.alloc ?_ _ | refine Only.setCell ?_ (by intro hh; exfalso; simp at hh; try omega) _ | refine Only.trans ?_ (by assumption)))) (Rp.keep h2' (by with_reducible repeat (first | exact Only.refl _ _ | assumption | refine Only.drewN ?_ _ | refine Only.drew ?_ | refine Only.alloc ?_ _ | refine Only.setCell ?_ (by intro hh; exfalso; simp at hh; try omega) _ | refine Only.trans ?_ (by assumption))))).mono ?_); rintro e w2 ⟨rfl, n2, rfl⟩) | (go_at_call 80; (with_reducible refine (eqTableS_rd v3 v3' x.tables y.tables _ _ _ (Rp.keep h3 (by with_reducible repeat (first | exact Only.refl _ _ | assumption | refine Only.drewN ?_ _ | refine Only.drew ?_ | refine Only.alloc ?_ _ | refine Only.setCell ?_ (by intro hh; exfalso; simp at hh; try omega) _ | refine Only.trans ?_ (by assumption)))) (Rp.keep h3' (by with_reducible repeat (first | exact Only.refl _ _ | assumption | refine Only.drewN ?_ _ | refine Only.drew ?_ | refine Only.alloc ?_ _ | refine Only.setCell ?_ (by intro hh; exfalso; simp at hh; try omega) _ | refine Only.trans ?_ (by assumption))))).mono ?_); rintro e w3 ⟨rfl, hk3⟩))
    go_ret
    exact ⟨ret_bool (eqV_no (fun he => (eqV_iff'.1 q1) (Certificate.eq_iff.1 he).2.1)).symm, (by with_reducible repeat (first | exact Only.refl _ _ | assumption | refine Only.drewN ?_ _ | refine Only.drew ?_ | refine Only.alloc ?_ _ | refine Only.setCell ?_ (by intro hh; exfalso; simp at hh; try omega) _ | refine Only.trans ?_ (by assumption)))⟩
  rcases q2 : eqV x.words y.words
  · go_enter Tryz.func32, Tryz.ntmps32
    go_wp2_with (first | (go_at_call 33; (with_reducible refine (eqInt64S_rd v1 v1' x.numbers y.numbers _ _ _ (Rp.keep h1 (by with_reducible repeat (first | exact Only.refl _ _ | assumption | refine Only.drewN ?_ _ | refine Only.drew ?_ | refine Only.alloc ?_ _ | refine Only.setCell ?_ (by intro hh; exfalso; simp at hh; try omega) _ | refine Only.trans ?_ (by assumption)))) (Rp.keep h1' (by with_reducible repeat (first | exact Only.refl _ _ | assumption | refine Only.drewN ?_ _ | refine Only.drew ?_ | refine Only.alloc ?_ _ | refine Only.setCell ?_ (by intro hh; exfalso; simp at hh; try omega) _ | refine Only.trans ?_ (by assumption))))).mono ?_); rintro e w1 ⟨rfl, n1, rfl⟩) | (go_at_call 41; (with_reducible refine (eqInt64SS_rd v2 v2' x.words y.words _ _ _ (Rp.keep h2 (by with_reducible repeat (first | exact Only.refl _ _ | assumption | refine Only.drewN ?_ _ | refine Only.drew ?_ | refine Only.alloc ?_ _ | refine Only.setCell ?_ (by intro hh; exfalso; simp at hh; try omega) _ | refine Only.trans ?_ (by assumption)))) (Rp.keep h2' (by with_reducible repeat (first | exact Only.refl _ _ | assumption | refine Only.drewN ?_ _ | refine Only.drew ?_ | refine Only.alloc ?_ _ | refine Only.setCell ?_ (by intro hh; exfalso; simp at hh; try omega) _ | refine Only.trans ?_ (by assumption))))).mono ?_); rintro e w2 ⟨rfl, n2, rfl⟩) | (go_at_call 80; (with_reducible refine (eqTableS_rd v3 v3' x.tables y.tables _ _ _ (Rp.keep h3 (by with_reducible repeat (first | exact Only.refl _ _ | assumption | refine Only.drewN ?_ _ | refine Only.drew ?_ | refine Only.alloc ?_ _ | refine Only.setCell ?_ (by intro hh; exfalso; simp at hh; try omega) _ | refine Only.trans ?_ (by assumption)))) (Rp.keep h3' (by with_reducible repeat (first | exact Only.refl _ _ | assumption | refine Only.drewN ?_ _ | refine Only.drew ?_ | refine Only.alloc ?_ _ | refine Only.setCell ?_ (by intro hh; exfalso; simp at hh; try omega) _ | refine Only.trans ?_ (by assumption))))).mono ?_); rintro e w3 ⟨rfl, hk3⟩))
    go_ret
    exact ⟨ret_bool (eqV_no (fun he => (eqV_iff'.1 q2) (Certificate.eq_iff.1 he).2.2.1)).symm, (by with_reducible repeat (first | exact Only.refl _ _ | assumption | refine Only.drewN ?_ _ | refine Only.drew ?_ | refine Only.alloc ?_ _ | refine Only.setCell ?_ (by intro hh; exfalso; simp at hh; try omega) _ | refine Only.trans ?_ (by assumption)))⟩
  rcases q3 : eqV x.tables y.tables
  · go_enter Tryz.func32, Tryz.ntmps32
    go_wp2_with (first | (go_at_call 33; (with_reducible refine (eqInt64S_rd v1 v1' x.numbers y.numbers _ _ _ (Rp.keep h1 (by with_reducible repeat (first | exact Only.refl _ _ | assumption | refine Only.drewN ?_ _ | refine Only.drew ?_ | refine Only.alloc ?_ _ | refine Only.setCell ?_ (by intro hh; exfalso; simp at hh; try omega) _ | refine Only.trans ?_ (by assumption)))) (Rp.keep h1' (by with_reducible repeat (first | exact Only.refl _ _ | assumption | refine Only.drewN ?_ _ | refine Only.drew ?_ | refine Only.alloc ?_ _ | refine Only.setCell ?_ (by intro hh; exfalso; simp at hh; try omega) _ | refine Only.trans ?_ (by assumption))))).mono ?_); rintro e w1 ⟨rfl, n1, rfl⟩) | (go_at_call 41; (with_reducible refine (eqInt64SS_rd v2 v2' x.words y.words _ _ _ (Rp.keep h2 (by with_reducible repeat (first | exact Only.refl _ _ | assumption | refine Only.drewN ?_ _ | refine Only.drew ?_ | refine Only.alloc ?_ _ | refine Only.setCell ?_ (by intro hh; exfalso; simp at hh; try omega) _ | refine Only.trans ?_ (by assumption)))) (Rp.keep h2' (by with_reducible repeat (first | exact Only.refl _ _ | assumption | refine Only.drewN ?_ _ | refine Only.drew ?_ | refine Only.alloc ?_ _ | refine Only.setCell ?_ (by intro hh; exfalso; simp at hh; try omega) _ | refine Only.trans ?_ (by assumption))))).mono ?_); rintro e w2 ⟨rfl, n2, rfl⟩) | (go_at_call 80; (with_reducible refine (eqTableS_rd v3 v3' x.tables y.tables _ _ _ (Rp.keep h3 (by with_reducible repeat (first | exact Only.refl _ _ | assumption | refine Only.drewN ?_ _ | refine Only.drew ?_ | refine Only.alloc ?_ _ | refine Only.setCell ?_ (by intro hh; exfalso; simp at hh; try omega) _ | refine Only.trans ?_ (by assumption)))) (Rp.keep h3' (by with_reducible repeat (first | exact Only.refl _ _ | assumption | refine Only.drewN ?_ _ | refine Only.drew ?_ | refine Only.alloc ?_ _ | refine Only.setCell ?_ (by intro hh; exfalso; simp at hh; try omega) _ | refine Only.trans ?_ (by assumption))))).mono ?_); rintro e w3 ⟨rfl, hk3⟩))
    go_ret
    exact ⟨ret_bool (eqV_no (fun he => (eqV_iff'.1 q3) (Certificate.eq_iff.1 he).2.2.2)).symm, (by with_reducible repeat (first | exact Only.refl _ _ | assumption | refine Only.drewN ?_ _ | refine Only.drew ?_ | refine Only.alloc ?_ _ | refine Only.setCell ?_ (by intro hh; exfalso; simp at hh; try omega) _ | refine Only.trans ?_ (by assumption)))⟩
  go_enter Tryz.func32, Tryz.ntmps32
  go_wp2_with (first | (go_at_call 33; (with_reducible refine (eqInt64S_rd v1 v1' x.numbers y.numbers _ _ _ (Rp.keep h1 (by with_reducible repeat (first | exact Only.refl _ _ | assumption | refine Only.drewN ?_ _ | refine Only.drew ?_ | refine Only.alloc ?_ _ | refine Only.setCell ?_ (by intro hh; exfalso; simp at hh; try omega) _ | refine Only.trans ?_ (by assumption)))) (Rp.keep h1' (by with_reducible repeat (first | exact Only.refl _ _ | assumption | refine Only.drewN ?_ _ | refine Only.drew ?_ | refine Only.alloc ?_ _ | refine Only.setCell ?_ (by intro hh; exfalso; simp at hh; try omega) _ | refine Only.trans ?_ (by assumption))))).mono ?_); rintro e w1 ⟨rfl, n1, rfl⟩) | (go_at_call 41; (with_reducible refine (eqInt64SS_rd v2 v2' x.words y.words _ _ _ (Rp.keep h2 (by with_reducible repeat (first | exact Only.refl _ _ | assumption | refine Only.drewN ?_ _ | refine Only.drew ?_ | refine Only.alloc ?_ _ | refine Only.setCell ?_ (by intro hh; exfalso; simp at hh; try omega) _ | refine Only.trans ?_ (by assumption)))) (Rp.keep h2' (by with_reducible repeat (first | exact Only.refl _ _ | assumption | refine Only.drewN ?_ _ | refine Only.drew ?_ | refine Only.alloc ?_ _ | refine Only.setCell ?_ (by intro hh; exfalso; simp at hh; try omega) _ | refine Only.trans ?_ (by assumption))))).mono ?_); rintro e w2 ⟨rfl, n2, rfl⟩) | (go_at_call 80; (with_reducible refine (eqTableS_rd v3 v3' x.tables y.tables _ _ _ (Rp.keep h3 (by with_reducible repeat (first | exact Only.refl _ _ | assumption | refine Only.drewN ?_ _ | refine Only.drew ?_ | refine Only.alloc ?_ _ | refine Only.setCell ?_ (by intro hh; exfalso; simp at hh; try omega) _ | refine Only.trans ?_ (by assumption)))) (Rp.keep h3' (by with_reducible repeat (first | exact Only.refl _ _ | assumption | refine Only.drewN ?_ _ | refine Only.drew ?_ | refine Only.alloc ?_ _ | refine Only.setCell ?_ (by intro hh; exfalso; simp at hh; try omega) _ | refine Only.trans ?_ (by assumption))))).mono ?_); rintro e w3 ⟨rfl, hk3⟩))
  go_ret
  exact ⟨ret_bool (eqV_yes (Certificate.eq_iff.2 ⟨Q0.out, eqV_iff.1 q1, eqV_iff.1 q2, eqV_iff.1 q3⟩)).symm, (by with_reducible repeat (first | exact Only.refl _ _ | assumption | refine Only.drewN ?_ _ | refine Only.drew ?_ | refine Only.alloc ?_ _ | refine Only.setCell ?_ (by intro hh; exfalso; simp at hh; try omega) _ | refine Only.trans ?_ (by assumption)))⟩

set_option maxHeartbeats 1000000 in
theorem heldCertificate_any (cs : List Value) (x : Certificate) (fp : List Nat) (k : Int) (w : World) (h : Rp.rep w cs x fp) (h0 : 0 ≤ k) (hc : k + (Mk.cnt x : Nat) ≤ 4611686018427387904) :
    Calls Tryz.prog 36 #[.agg cs.toArray, .int .i64 k] w fun e w' => e = .returned (.int .i64 (heldV k x)) ∧ Only [] w w' := by
  obtain ⟨v1, v2, v3, f1, f2, f3, rfl, rfl, p0, h1, h2, h3⟩ := h
  have hcc : Mk.cnt x = Mk.cnt x.numbers + Mk.cnt x.words + Mk.cnt x.tables := rfl
  have Hcc := Lib.hid hcc; clear hcc
  have hb1 : k + (Mk.cnt x.numbers : Nat) ≤ 4611686018427387904 := by have := Hcc.out; omega
  have hb2 : k + (Mk.cnt x.numbers : Nat) + (Mk.cnt x.words : Nat) ≤ 4611686018427387904 := by have := Hcc.out; omega
  have hb3 : k + (Mk.cnt x.numbers : Nat) + (Mk.cnt x.words : Nat) + (Mk.cnt x.tables : Nat) ≤ 4611686018427387904 := by have := Hcc.out; omega
  have hiff : x = Mk.mark k x ↔ x.numbers = Mk.mark (k) x.numbers ∧ x.words = Mk.mark (k + (Mk.cnt x.numbers : Nat)) x.words ∧ x.tables = Mk.mark (k + (Mk.cnt x.numbers : Nat) + (Mk.cnt x.words : Nat)) x.tables := by
    rw [Certificate.eq_iff]; simp [Mk.mark]
  have Hiff := Lib.hid hiff; clear hiff
  rcases heldV_pos (k) x.numbers with ⟨e1, m1⟩ | ⟨e1, m1⟩
  · have M1 := Lib.hid m1; clear m1
    go_enter Tryz.func36, Tryz.ntmps36
    go_wp2_with (first | (go_at_call 82; (with_reducible refine (heldInt64S_rd v1 x.numbers _ (k) _ (Rp.keep h1 (by with_reducible repeat (first | exact Only.refl _ _ | assumption | refine Only.drewN ?_ _ | refine Only.drew ?_ | refine Only.alloc ?_ _ | refine Only.setCell ?_ (by intro hh; exfalso; simp at hh; try omega) _ | refine Only.trans ?_ (by assumption)))) (by omega) hb1).mono ?_); rintro e w1 ⟨rfl, n1, rfl⟩) | (go_at_call 83; (with_reducible refine (heldInt64SS_rd v2 x.words _ (k + (Mk.cnt x.numbers : Nat)) _ (Rp.keep h2 (by with_reducible repeat (first | exact Only.refl _ _ | assumption | refine Only.drewN ?_ _ | refine Only.drew ?_ | refine Only.alloc ?_ _ | refine Only.setCell ?_ (by intro hh; exfalso; simp at hh; try omega) _ | refine Only.trans ?_ (by assumption)))) (by omega) hb2).mono ?_); rintro e w2 ⟨rfl, n2, rfl⟩) | (go_at_call 84; (with_reducible refine (heldTableS_rd v3 x.tables _ (k + (Mk.cnt x.numbers : Nat) + (Mk.cnt x.words : Nat)) _ (Rp.keep h3 (by with_reducible repeat (first | exact Only.refl _ _ | assumption | refine Only.drewN ?_ _ | refine Only.drew ?_ | refine Only.alloc ?_ _ | refine Only.setCell ?_ (by intro hh; exfalso; simp at hh; try omega) _ | refine Only.trans ?_ (by assumption)))) (by omega) hb3).mono ?_); rintro e w3 ⟨rfl, hk3⟩))
    go_ret
    exact ⟨ret_int (heldV_no (fun he => M1.out (Hiff.out.1 he).1)).symm, (by with_reducible repeat (first | exact Only.refl _ _ | assumption | refine Only.drewN ?_ _ | refine Only.drew ?_ | refine Only.alloc ?_ _ | refine Only.setCell ?_ (by intro hh; exfalso; simp at hh; try omega) _ | refine Only.trans ?_ (by assumption)))⟩
  have M1 := Lib.hid m1; clear m1
  rcases heldV_pos (k + (Mk.cnt x.numbers : Nat)) x.words with ⟨e2, m2⟩ | ⟨e2, m2⟩
  · have M2 := Lib.hid m2; clear m2
    go_enter Tryz.func36, Tryz.ntmps36
    go_wp2_with (first | (go_at_call 82; (with_reducible refine (heldInt64S_rd v1 x.numbers _ (k) _ (Rp.keep h1 (by with_reducible repeat (first | exact Only.refl _ _ | assumption | refine Only.drewN ?_ _ | refine Only.drew ?_ | refine Only.alloc ?_ _ | refine Only.setCell ?_ (by intro hh; exfalso; simp at hh; try omega) _ | refine Only.trans ?_ (by assumption)))) (by omega) hb1).mono ?_); rintro e w1 ⟨rfl, n1, rfl⟩) | (go_at_call 83; (with_reducible refine (heldInt64SS_rd v2 x.words _ (k + (Mk.cnt x.numbers : Nat)) _ (Rp.keep h2 (by with_reducible repeat (first | exact Only.refl _ _ | assumption | refine Only.drewN ?_ _ | refine Only.drew ?_ | refine Only.alloc ?_ _ | refine Only.setCell ?_ (by intro hh; exfalso; simp at hh; try omega) _ | refine Only.trans ?_ (by assumption)))) (by omega) hb2).mono ?_); rintro e w2 ⟨rfl, n2, rfl⟩) | (go_at_call 84; (with_reducible refine (heldTableS_rd v3 x.tables _ (k + (Mk.cnt x.numbers : Nat) + (Mk.cnt x.words : Nat)) _ (Rp.keep h3 (by with_reducible repeat (first | exact Only.refl _ _ | assumption | refine Only.drewN ?_ _ | refine Only.drew ?_ | refine Only.alloc ?_ _ | refine Only.setCell ?_ (by intro hh; exfalso; simp at hh; try omega) _ | refine Only.trans ?_ (by assumption)))) (by omega) hb3).mono ?_); rintro e w3 ⟨rfl, hk3⟩))
    go_ret
    exact ⟨ret_int (heldV_no (fun he => M2.out (Hiff.out.1 he).2.1)).symm, (by with_reducible repeat (first | exact Only.refl _ _ | assumption | refine Only.drewN ?_ _ | refine Only.drew ?_ | refine Only.alloc ?_ _ | refine Only.setCell ?_ (by intro hh; exfalso; simp at hh; try omega) _ | refine Only.trans ?_ (by assumption)))⟩
  have M2 := Lib.hid m2; clear m2
  rcases heldV_pos (k + (Mk.cnt x.numbers : Nat) + (Mk.cnt x.words : Nat)) x.tables with ⟨e3, m3⟩ | ⟨e3, m3⟩
  · have M3 := Lib.hid m3; clear m3
    go_enter Tryz.func36, Tryz.ntmps36
    go_wp2_with (first | (go_at_call 82; (with_reducible refine (heldInt64S_rd v1 x.numbers _ (k) _ (Rp.keep h1 (by with_reducible repeat (first | exact Only.refl _ _ | assumption | refine Only.drewN ?_ _ | refine Only.drew ?_ | refine Only.alloc ?_ _ | refine Only.setCell ?_ (by intro hh; exfalso; simp at hh; try omega) _ | refine Only.trans ?_ (by assumption)))) (by omega) hb1).mono ?_); rintro e w1 ⟨rfl, n1, rfl⟩) | (go_at_call 83; (with_reducible refine (heldInt64SS_rd v2 x.words _ (k + (Mk.cnt x.numbers : Nat)) _ (Rp.keep h2 (by with_reducible repeat (first | exact Only.refl _ _ | assumption | refine Only.drewN ?_ _ | refine Only.drew ?_ | refine Only.alloc ?_ _ | refine Only.setCell ?_ (by intro hh; exfalso; simp at hh; try omega) _ | refine Only.trans ?_ (by assumption)))) (by omega) hb2).mono ?_); rintro e w2 ⟨rfl, n2, rfl⟩) | (go_at_call 84; (with_reducible refine (heldTableS_rd v3 x.tables _ (k + (Mk.cnt x.numbers : Nat) + (Mk.cnt x.words : Nat)) _ (Rp.keep h3 (by with_reducible repeat (first | exact Only.refl _ _ | assumption | refine Only.drewN ?_ _ | refine Only.drew ?_ | refine Only.alloc ?_ _ | refine Only.setCell ?_ (by intro hh; exfalso; simp at hh; try omega) _ | refine Only.trans ?_ (by assumption)))) (by omega) hb3).mono ?_); rintro e w3 ⟨rfl, hk3⟩))
    go_ret
    exact ⟨ret_int (heldV_no (fun he => M3.out (Hiff.out.1 he).2.2)).symm, (by with_reducible repeat (first | exact Only.refl _ _ | assumption | refine Only.drewN ?_ _ | refine Only.drew ?_ | refine Only.alloc ?_ _ | refine Only.setCell ?_ (by intro hh; exfalso; simp at hh; try omega) _ | refine Only.trans ?_ (by assumption)))⟩
  have M3 := Lib.hid m3; clear m3
  go_enter Tryz.func36, Tryz.ntmps36
  go_wp2_with (first | (go_at_call 82; (with_reducible refine (heldInt64S_rd v1 x.numbers _ (k) _ (Rp.keep h1 (by with_reducible repeat (first | exact Only.refl _ _ | assumption | refine Only.drewN ?_ _ | refine Only.drew ?_ | refine Only.alloc ?_ _ | refine Only.setCell ?_ (by intro hh; exfalso; simp at hh; try omega) _ | refine Only.trans ?_ (by assumption)))) (by omega) hb1).mono ?_); rintro e w1 ⟨rfl, n1, rfl⟩) | (go_at_call 83; (with_reducible refine (heldInt64SS_rd v2 x.words _ (k + (Mk.cnt x.numbers : Nat)) _ (Rp.keep h2 (by with_reducible repeat (first | exact Only.refl _ _ | assumption | refine Only.drewN ?_ _ | refine Only.drew ?_ | refine Only.alloc ?_ _ | refine Only.setCell ?_ (by intro hh; exfalso; simp at hh; try omega) _ | refine Only.trans ?_ (by assumption)))) (by omega) hb2).mono ?_); rintro e w2 ⟨rfl, n2, rfl⟩) | (go_at_call 84; (with_reducible refine (heldTableS_rd v3 x.tables _ (k + (Mk.cnt x.numbers : Nat) + (Mk.cnt x.words : Nat)) _ (Rp.keep h3 (by with_reducible repeat (first | exact Only.refl _ _ | assumption | refine Only.drewN ?_ _ | refine Only.drew ?_ | refine Only.alloc ?_ _ | refine Only.setCell ?_ (by intro hh; exfalso; simp at hh; try omega) _ | refine Only.trans ?_ (by assumption)))) (by omega) hb3).mono ?_); rintro e w3 ⟨rfl, hk3⟩))
  go_ret
  exact ⟨ret_int (by rw [heldV_yes (Hiff.out.2 ⟨M1.out, M2.out, M3.out⟩)]; have := Hcc.out; omega), (by with_reducible repeat (first | exact Only.refl _ _ | assumption | refine Only.drewN ?_ _ | refine Only.drew ?_ | refine Only.alloc ?_ _ | refine Only.setCell ?_ (by intro hh; exfalso; simp at hh; try omega) _ | refine Only.trans ?_ (by assumption)))⟩

set_option maxHeartbeats 1000000 in
theorem markCertificate_any (cs : List Value) (x : Certificate) (fp : List Nat) (k : Int) (w : World) (h : Rp.rep w cs x fp) (hnd : fp.Nodup) (ho : Own w fp) (h0 : 0 ≤ k) (hc : k + (Mk.cnt x : Nat) ≤ 4611686018427387904) :
    Calls Tryz.prog 35 #[.agg cs.toArray, .int .i64 k] w fun e w' => e = .returned (.int .i64 (k + (Mk.cnt x : Nat))) ∧ Rp.rep w' cs (Mk.mark k x) fp ∧ Own w' fp ∧ Only fp w w' := by
  obtain ⟨v1, v2, v3, f1, f2, f3, rfl, rfl, p0, h1, h2, h3⟩ := h
  have hcc : Mk.cnt x = Mk.cnt x.numbers + Mk.cnt x.words + Mk.cnt x.tables := rfl
  have Hcc := Lib.hid hcc; clear hcc
  have hb1 : k + (Mk.cnt x.numbers : Nat) ≤ 4611686018427387904 := by have := Hcc.out; omega
  have hb2 : k + (Mk.cnt x.numbers : Nat) + (Mk.cnt x.words : Nat) ≤ 4611686018427387904 := by have := Hcc.out; omega
  have hb3 : k + (Mk.cnt x.numbers : Nat) + (Mk.cnt x.words : Nat) + (Mk.cnt x.tables : Nat) ≤ 4611686018427387904 := by have := Hcc.out; omega
  obtain ⟨n1, m1, d1, e1⟩ := nd_app hnd
  obtain ⟨n2, n3, d2, e2⟩ := nd_app m1
  have D12 : ∀ z ∈ f1, z ∉ f2 := (fun z hz hm => d1 z hz (List.mem_append_left _ hm))
  have D13 : ∀ z ∈ f1, z ∉ f3 := (fun z hz hm => d1 z hz (List.mem_append_right _ hm))
  have D21 : ∀ z ∈ f2, z ∉ f1 := (fun z hz hm => e1 z (List.mem_append_left _ hz) hm)
  have D23 : ∀ z ∈ f2, z ∉ f3 := (fun z hz hm => d2 z hz hm)
  have D31 : ∀ z ∈ f3, z ∉ f1 := (fun z hz hm => e1 z (List.mem_append_right _ hz) hm)
  have D32 : ∀ z ∈ f3, z ∉ f2 := (fun z hz hm => e2 z hz hm)
  have l1 := Rp.lt h1
  have l2 := Rp.lt h2
  have l3 := Rp.lt h3
  go_enter Tryz.func35, Tryz.ntmps35
  go_wp2_with (first | (go_at_call 34; (with_reducible refine (markInt64S_rd v1 x.numbers f1 (k) _ (Rp.keep h1 (by with_reducible repeat (first | exact Only.refl _ _ | assumption | refine Only.drewN ?_ _ | refine Only.drew ?_ | refine Only.alloc ?_ _ | refine Only.setCell ?_ (by intro hh; exfalso; simp at hh; try omega) _ | refine Only.trans ?_ (by assumption)))) (ho.left.keep (by with_reducible repeat (first | exact Only.refl _ _ | assumption | refine Only.drewN ?_ _ | refine Only.drew ?_ | refine Only.alloc ?_ _ | refine Only.setCell ?_ (by intro hh; exfalso; simp at hh; try omega) _ | refine Only.trans ?_ (by assumption)))) (by omega) hb1).mono ?_); rintro e w1 ⟨rfl, r1, o1, t1⟩; have s1 : w.heap.size < w1.heap.size := (Nat.lt_of_lt_of_le (by simp) t1.size); have q1 := t1.cells_eq w.heap.size (by simp) (fun hm => absurd (l1 _ hm) (by omega))) | (go_at_call 42; (with_reducible refine (markInt64SS_rd v2 x.words f2 (k + (Mk.cnt x.numbers : Nat)) _ (Rp.only (Rp.keep h2 (by with_reducible repeat (first | exact Only.refl _ _ | assumption | refine Only.drewN ?_ _ | refine Only.drew ?_ | refine Only.alloc ?_ _ | refine Only.setCell ?_ (by intro hh; exfalso; simp at hh; try omega) _ | refine Only.trans ?_ (by assumption)))) t1 D21) n2 ((ho.right.left.keep (by with_reducible repeat (first | exact Only.refl _ _ | assumption | refine Only.drewN ?_ _ | refine Only.drew ?_ | refine Only.alloc ?_ _ | refine Only.setCell ?_ (by intro hh; exfalso; simp at hh; try omega) _ | refine Only.trans ?_ (by assumption)))).only t1 D21) (by omega) hb2).mono ?_); rintro e w2 ⟨rfl, r2, o2, t2⟩; have s2 : w.heap.size < w2.heap.size := (Nat.lt_of_lt_of_le s1 t2.size); have q2 := t2.cells_eq w.heap.size s1 (fun hm => absurd (l2 _ hm) (by omega))) | (go_at_call 81; (with_reducible refine (markTableS_rd v3 x.tables f3 (k + (Mk.cnt x.numbers : Nat) + (Mk.cnt x.words : Nat)) _ (Rp.only (Rp.only (Rp.keep h3 (by with_reducible repeat (first | exact Only.refl _ _ | assumption | refine Only.drewN ?_ _ | refine Only.drew ?_ | refine Only.alloc ?_ _ | refine Only.setCell ?_ (by intro hh; exfalso; simp at hh; try omega) _ | refine Only.trans ?_ (by assumption)))) t1 D31) t2 D32) n3 (((ho.right.right.keep (by with_reducible repeat (first | exact Only.refl _ _ | assumption | refine Only.drewN ?_ _ | refine Only.drew ?_ | refine Only.alloc ?_ _ | refine Only.setCell ?_ (by intro hh; exfalso; simp at hh; try omega) _ | refine Only.trans ?_ (by assumption)))).only t1 D31).only t2 D32) (by omega) hb3).mono ?_); rintro e w3 ⟨rfl, r3, o3, t3⟩; have s3 : w.heap.size < w3.heap.size := (Nat.lt_of_lt_of_le s2 t3.size); have q3 := t3.cells_eq w.heap.size s2 (fun hm => absurd (l3 _ hm) (by omega))))
  go_ret
  have hk0 : Only [] w (w.alloc (.cells ([Value.int .i64 x.kind] ++ [v1] ++ [v2] ++ [v3]).toArray 51)) := (by with_reducible repeat (first | exact Only.refl _ _ | assumption | refine Only.drewN ?_ _ | refine Only.drew ?_ | refine Only.alloc ?_ _ | refine Only.setCell ?_ (by intro hh; exfalso; simp at hh; try omega) _ | refine Only.trans ?_ (by assumption)))
  exact ⟨ret_int (by have := Hcc.out; omega), ⟨v1, v2, v3, f1, f2, f3, rfl, rfl, p0, (Rp.only (Rp.only r1 t2 D12) t3 D13), (Rp.only r2 t3 D23), r3⟩, (((o1.only t2 D12).only t3 D13).append ((o2.only t3 D23).append o3)), (hk0.weaken _).trans (Only.trans (Only.trans (t1.mono (fun z hz _ => by simp [hz])) (t2.mono (fun z hz _ => by simp [hz]))) (t3.mono (fun z hz _ => by simp [hz])))⟩

end Go.Proofs.YtlcoejncdbkhcaaGreat

namespace Go.Proofs.YtlcoejncdbkhcaaGreat
open Go.RowKit
set_option maxRecDepth 10000
def noCert : Certificate := ⟨0, [], [], []⟩
theorem noCert_rep (w : World) : Rp.rep w [.int .i64 0, .slice none 0 0, .slice none 0 0, .slice none 0 0] noCert [] :=
  ⟨_, _, _, [], [], [], rfl, rfl, ⟨by simp [noCert], by simp [noCert]⟩, nil_rd w, nil_rd w, nil_rd w⟩
end Go.Proofs.YtlcoejncdbkhcaaGreat

namespace Go.Proofs.YtlcoejncdbkhcaaGreat
open Go.RowKit
set_option maxRecDepth 10000

theorem isTableCount_rd (v : Value) (l : List Table) (fp : List Nat) (w : World) (h : Rd w v l fp) :
    Calls Tryz.prog 120 #[v] w fun e w' => e = .returned (.bool (inR l.length 1 4)) ∧ w' = w := by
  obtain ⟨a, cap, ob, fps, rfl, -, hs⟩ := h.open_
  have hb := hs.bound
  rcases hq : inR l.length 1 4
  all_goals
    go_enter Tryz.func120, Tryz.ntmps120
    go_wp2_with ((go_at_call 62; (with_reducible refine (inRange_any l.length 1 4 _).mono ?_); rintro e w1 ⟨rfl, rfl⟩))
    go_ret
    exact ⟨rfl, rfl⟩
theorem lengthTable_rd (v : Value) (l : List Table) (fp : List Nat) (w : World) (h : Rd w v l fp) :
    Calls Tryz.prog 131 #[v] w fun e w' => e = .returned (.int .i64 l.length) ∧ w' = w := by
  obtain ⟨a, cap, ob, fps, rfl, -, hs⟩ := h.open_
  have hb := hs.bound
  go_enter Tryz.func131, Tryz.ntmps131
  go_wp2
  go_ret
  exact ⟨rfl, rfl⟩

def opCert (x : List Int) (l : List Table) : Certificate := if validW 8 x = true ∧ inR l.length 1 4 = true then ⟨2, [], [x], l⟩ else noCert
set_option maxHeartbeats 1000000 in
theorem specOpCert_rd (u : Value) (x : List Int) (fq : List Nat) (v : Value) (l : List Table) (fp : List Nat) (w : World) (hx : Rd w u x fq) (h : Rd w v l fp) (hsm : Sm.sm l) :
    Calls Tryz.prog 73 #[u, v] w fun e w' => ∃ cs fp', e = .returned (.agg cs.toArray) ∧ Rp.rep w' cs (opCert x l) fp' ∧ Fresh w.heap.size w' fp' ∧ Only [] w w' := by
  rcases hv : validW 8 x
  · have hp : opCert x l = noCert := by unfold opCert; rw [if_neg (by simp [hv])]
    have Hp := Lib.hid hp
    clear hp
    go_enter Tryz.func73, Tryz.ntmps73
    go_wp2_with ((go_at_call 119; (with_reducible refine (specIsWord_rd u x _ _ (Rp.keep hx (by with_reducible repeat (first | exact Only.refl _ _ | assumption | refine Only.drewN ?_ _ | refine Only.drew ?_ | refine Only.alloc ?_ _ | refine Only.setCell ?_ (by intro hh; exfalso; simp at hh; try omega) _ | refine Only.trans ?_ (by assumption))))).mono ?_); rintro e w1 ⟨rfl, n1, rfl⟩))
    refine bodyPost_ret (v := .agg #[.int .i64 0, .slice none 0 0, .slice none 0 0, .slice none 0 0]) (by simp [results, Tryz.results73, go_sem]) rfl ⟨[.int .i64 0, .slice none 0 0, .slice none 0 0, .slice none 0 0], [], rfl, ?_, Fresh.nil _ _, (by with_reducible repeat (first | exact Only.refl _ _ | assumption | refine Only.drewN ?_ _ | refine Only.drew ?_ | refine Only.alloc ?_ _ | refine Only.setCell ?_ (by intro hh; exfalso; simp at hh; try omega) _ | refine Only.trans ?_ (by assumption)))⟩
    rw [Hp.out]; exact noCert_rep _
  rcases hq : inR l.length 1 4
  · have hp : opCert x l = noCert := by unfold opCert; rw [if_neg (by simp [hq])]
    have Hp := Lib.hid hp
    clear hp
    go_enter Tryz.func73, Tryz.ntmps73
    go_wp2_with (first | (go_at_call 119; (with_reducible refine (specIsWord_rd u x _ _ (Rp.keep hx (by with_reducible repeat (first | exact Only.refl _ _ | assumption | refine Only.drewN ?_ _ | refine Only.drew ?_ | refine Only.alloc ?_ _ | refine Only.setCell ?_ (by intro hh; exfalso; simp at hh; try omega) _ | refine Only.trans ?_ (by assumption))))).mono ?_); rintro e w1 ⟨rfl, n1, rfl⟩) | (go_at_call 120; (with_reducible refine (isTableCount_rd v l _ _ (Rp.keep h (by with_reducible repeat (first | exact Only.refl _ _ | assumption | refine Only.drewN ?_ _ | refine Only.drew ?_ | refine Only.alloc ?_ _ | refine Only.setCell ?_ (by intro hh; exfalso; simp at hh; try omega) _ | refine Only.trans ?_ (by assumption))))).mono ?_); rintro e w9 ⟨rfl, rfl⟩))
    refine bodyPost_ret (v := .agg #[.int .i64 0, .slice none 0 0, .slice none 0 0, .slice none 0 0]) (by simp [results, Tryz.results73, go_sem]) rfl ⟨[.int .i64 0, .slice none 0 0, .slice none 0 0, .slice none 0 0], [], rfl, ?_, Fresh.nil _ _, (by with_reducible repeat (first | exact Only.refl _ _ | assumption | refine Only.drewN ?_ _ | refine Only.drew ?_ | refine Only.alloc ?_ _ | refine Only.setCell ?_ (by intro hh; exfalso; simp at hh; try omega) _ | refine Only.trans ?_ (by assumption)))⟩
    rw [Hp.out]; exact noCert_rep _
  have hp : opCert x l = ⟨2, [], [x], l⟩ := by unfold opCert; rw [if_pos ⟨hv, hq⟩]
  have Hp := Lib.hid hp
  have hlen := validW_len hv
  clear hp
  go_enter Tryz.func73, Tryz.ntmps73
  go_wp2_with (first
    | (go_at_call 119; (with_reducible refine (specIsWord_rd u x _ _ (Rp.keep hx (by with_reducible repeat (first | exact Only.refl _ _ | assumption | refine Only.drewN ?_ _ | refine Only.drew ?_ | refine Only.alloc ?_ _ | refine Only.setCell ?_ (by intro hh; exfalso; simp at hh; try omega) _ | refine Only.trans ?_ (by assumption))))).mono ?_); rintro e w1 ⟨rfl, n1, rfl⟩)
    | (go_at_call 120; (with_reducible refine (isTableCount_rd v l _ _ (Rp.keep h (by with_reducible repeat (first | exact Only.refl _ _ | assumption | refine Only.drewN ?_ _ | refine Only.drew ?_ | refine Only.alloc ?_ _ | refine Only.setCell ?_ (by intro hh; exfalso; simp at hh; try omega) _ | refine Only.trans ?_ (by assumption))))).mono ?_); rintro e w9 ⟨rfl, rfl⟩)
    | (go_at_call 111; (with_reducible refine (copyInts_rd u x _ _ (Rp.keep hx (by with_reducible repeat (first | exact Only.refl _ _ | assumption | refine Only.drewN ?_ _ | refine Only.drew ?_ | refine Only.alloc ?_ _ | refine Only.setCell ?_ (by intro hh; exfalso; simp at hh; try omega) _ | refine Only.trans ?_ (by assumption)))) (by omega)).mono ?_); rintro e w2 ⟨v2, fp2, rfl, r2, F2, t2⟩; obtain ⟨A2, C2, _, _, rfl, -⟩ := r2.open_; have y2 := t2.cells_eq w.heap.size (by first | (simp; done) | (simp; omega)) (by simp); have z2 := t2.frozen_eq w.heap.size (by first | (simp; done) | (simp; omega)) (by simp); have s2 : w.heap.size < w2.heap.size := (by have := t2.size; first | omega | (simp at this; omega)))
    | (go_at_call 121; (with_reducible refine (copyTables_rd v l _ _ (Rp.keep h (by with_reducible repeat (first | exact Only.refl _ _ | assumption | refine Only.drewN ?_ _ | refine Only.drew ?_ | refine Only.alloc ?_ _ | refine Only.setCell ?_ (by intro hh; exfalso; simp at hh; try omega) _ | refine Only.trans ?_ (by assumption)))) hsm).mono ?_); rintro e w3 ⟨v3, fp3, rfl, r3, F3, t3⟩; obtain ⟨A3, C3, _, _, rfl, -⟩ := r3.open_; have y3 := t3.cells_eq w.heap.size (by simp; omega) (by simp); have z3 := t3.frozen_eq w.heap.size (by simp; omega) (by simp); have s3 : w2.heap.size < w3.heap.size := (by have := t3.size; simp at this; omega)))
  have HF := F2.mono (B' := w.heap.size) (by simp)
  have HG : ∀ b' ∈ fp3, w2.heap.size + 1 ≤ b' := fun b' hb => by have := F3.ge b' hb; simp at this; omega
  have HG2 : ∀ b' ∈ fp2, w.heap.size < b' := fun b' hb => by have := F2.ge b' hb; simp at this; omega
  have HL2 : ∀ b' ∈ fp2, b' < w2.heap.size := F2.lt
  obtain ⟨o1, o2⟩ := one_rd r2 25 w.heap.size HF (g := w2.heap.size) rfl (by omega)
  have hW : Only [w.heap.size] w3 ((((w3.setCell ⟨w.heap.size, 0, none⟩ (.int .i64 2)).setCell ⟨w.heap.size, 1, none⟩ (.slice none 0 0)).setCell ⟨w.heap.size, 2, none⟩ (.slice (some ⟨w2.heap.size, 0, none⟩) 1 1)).setCell ⟨w.heap.size, 3, none⟩ (.slice A3 l.length C3)) := (by with_reducible repeat (first | exact Only.refl _ _ | assumption | refine Only.drewN ?_ _ | refine Only.drew ?_ | refine Only.alloc ?_ _ | refine Only.setCell ?_ (by intro _; simp) _ | refine Only.trans ?_ (Only.weaken (by assumption) _)))
  have n1 := Rp.only (Rp.keep o1 t3) hW (fun b' hb hm => by
    simp at hm hb
    rcases hb with hb | hb
    · omega
    · have := HG2 b' hb; omega)
  have n2 := Rp.only r3 hW (fun b' hb hm => by have := HG b' hb; simp at hm; omega)
  have n3 := (Fresh.append (o2.keep t3) F3 (by simp; omega) (fun b' hb => by
    simp at hb ⊢
    rcases hb with hb | hb
    · omega
    · have := HL2 b' hb; omega)).only hW (fun b' hb hm => by
    simp at hm hb
    rcases hb with hb | hb | hb
    · omega
    · have := HG2 b' hb; omega
    · have := HG b' hb; omega)
  refine bodyPost_ret (v := .agg #[.int .i64 2, .slice none 0 0, .slice (some ⟨w2.heap.size, 0, none⟩) 1 1, .slice A3 l.length C3]) (by simp [results, Tryz.results73, go_sem, y3, y2, s2]) rfl ⟨[.int .i64 2, .slice none 0 0, .slice (some ⟨w2.heap.size, 0, none⟩) 1 1, .slice A3 l.length C3], _, rfl, ?_, n3, (by with_reducible repeat (first | exact Only.refl _ _ | assumption | refine Only.drewN ?_ _ | refine Only.drew ?_ | refine Only.alloc ?_ _ | refine Only.setCell ?_ (by intro hh; exfalso; simp at hh; try omega) _ | refine Only.trans ?_ (by assumption)))⟩
  rw [Hp.out]
  exact ⟨_, _, _, [], _, fp3, rfl, (by simp), ⟨by simp, by simp⟩, nil_rd _, n1, n2⟩
set_option maxHeartbeats 1000000 in
theorem implOpCert_rd (u : Value) (x : List Int) (fq : List Nat) (v : Value) (l : List Table) (fp : List Nat) (w : World) (hx : Rd w u x fq) (h : Rd w v l fp) (hsm : Sm.sm l) :
    Calls Tryz.prog 79 #[u, v] w fun e w' => ∃ cs fp', e = .returned (.agg cs.toArray) ∧ Rp.rep w' cs (opCert x l) fp' ∧ Fresh w.heap.size w' fp' ∧ Only [] w w' := by
  rcases hv : validW 8 x
  · have hp : opCert x l = noCert := by unfold opCert; rw [if_neg (by simp [hv])]
    have Hp := Lib.hid hp
    clear hp
    go_enter Tryz.func79, Tryz.ntmps79
    go_wp2_with ((go_at_call 130; (with_reducible refine (implIsWord_rd u x _ _ (Rp.keep hx (by with_reducible repeat (first | exact Only.refl _ _ | assumption | refine Only.drewN ?_ _ | refine Only.drew ?_ | refine Only.alloc ?_ _ | refine Only.setCell ?_ (by intro hh; exfalso; simp at hh; try omega) _ | refine Only.trans ?_ (by assumption))))).mono ?_); rintro e w1 ⟨rfl, t1⟩; have y1 := t1.cells_eq w.heap.size (by simp) (by simp); have z1 := t1.frozen_eq w.heap.size (by simp) (by simp); have s1 : w.heap.size < w1.heap.size := (by have := t1.size; simp at this; omega)))
    refine bodyPost_ret (v := .agg #[.int .i64 0, .slice none 0 0, .slice none 0 0, .slice none 0 0]) (by simp [results, Tryz.results79, go_sem, y1]) rfl ⟨[.int .i64 0, .slice none 0 0, .slice none 0 0, .slice none 0 0], [], rfl, ?_, Fresh.nil _ _, (by with_reducible repeat (first | exact Only.refl _ _ | assumption | refine Only.drewN ?_ _ | refine Only.drew ?_ | refine Only.alloc ?_ _ | refine Only.setCell ?_ (by intro hh; exfalso; simp at hh; try omega) _ | refine Only.trans ?_ (by assumption)))⟩
    rw [Hp.out]; exact noCert_rep _
  rcases hq : inR l.length 1 4
  · have hp : opCert x l = noCert := by unfold opCert; rw [if_neg (by simp [hq])]
    have Hp := Lib.hid hp
    clear hp
    go_enter Tryz.func79, Tryz.ntmps79
    go_wp2_with (first | (go_at_call 130; (with_reducible refine (implIsWord_rd u x _ _ (Rp.keep hx (by with_reducible repeat (first | exact Only.refl _ _ | assumption | refine Only.drewN ?_ _ | refine Only.drew ?_ | refine Only.alloc ?_ _ | refine Only.setCell ?_ (by intro hh; exfalso; simp at hh; try omega) _ | refine Only.trans ?_ (by assumption))))).mono ?_); rintro e w1 ⟨rfl, t1⟩; have y1 := t1.cells_eq w.heap.size (by simp) (by simp); have z1 := t1.frozen_eq w.heap.size (by simp) (by simp); have s1 : w.heap.size < w1.heap.size := (by have := t1.size; simp at this; omega)) | (first | (go_at_call 131; (with_reducible refine (lengthTable_rd v l _ _ (Rp.keep h (by with_reducible repeat (first | exact Only.refl _ _ | assumption | refine Only.drewN ?_ _ | refine Only.drew ?_ | refine Only.alloc ?_ _ | refine Only.setCell ?_ (by intro hh; exfalso; simp at hh; try omega) _ | refine Only.trans ?_ (by assumption))))).mono ?_); rintro e w9 ⟨rfl, rfl⟩) | (go_at_call 66; (with_reducible refine (within_any l.length 1 4 _).mono ?_); rintro e w9 ⟨rfl, rfl⟩)))
    refine bodyPost_ret (v := .agg #[.int .i64 0, .slice none 0 0, .slice none 0 0, .slice none 0 0]) (by simp [results, Tryz.results79, go_sem, y1]) rfl ⟨[.int .i64 0, .slice none 0 0, .slice none 0 0, .slice none 0 0], [], rfl, ?_, Fresh.nil _ _, (by with_reducible repeat (first | exact Only.refl _ _ | assumption | refine Only.drewN ?_ _ | refine Only.drew ?_ | refine Only.alloc ?_ _ | refine Only.setCell ?_ (by intro hh; exfalso; simp at hh; try omega) _ | refine Only.trans ?_ (by assumption)))⟩
    rw [Hp.out]; exact noCert_rep _
  have hp : opCert x l = ⟨2, [], [x], l⟩ := by unfold opCert; rw [if_pos ⟨hv, hq⟩]
  have Hp := Lib.hid hp
  have hlen := validW_len hv
  clear hp
  go_enter Tryz.func79, Tryz.ntmps79
  go_wp2_with (first
    | (go_at_call 130; (with_reducible refine (implIsWord_rd u x _ _ (Rp.keep hx (by with_reducible repeat (first | exact Only.refl _ _ | assumption | refine Only.drewN ?_ _ | refine Only.drew ?_ | refine Only.alloc ?_ _ | refine Only.setCell ?_ (by intro hh; exfalso; simp at hh; try omega) _ | refine Only.trans ?_ (by assumption))))).mono ?_); rintro e w1 ⟨rfl, t1⟩; have y1 := t1.cells_eq w.heap.size (by simp) (by simp); have z1 := t1.frozen_eq w.heap.size (by simp) (by simp); have s1 : w.heap.size < w1.heap.size := (by have := t1.size; simp at this; omega))
    | (first | (go_at_call 131; (with_reducible refine (lengthTable_rd v l _ _ (Rp.keep h (by with_reducible repeat (first | exact Only.refl _ _ | assumption | refine Only.drewN ?_ _ | refine Only.drew ?_ | refine Only.alloc ?_ _ | refine Only.setCell ?_ (by intro hh; exfalso; simp at hh; try omega) _ | refine Only.trans ?_ (by assumption))))).mono ?_); rintro e w9 ⟨rfl, rfl⟩) | (go_at_call 66; (with_reducible refine (within_any l.length 1 4 _).mono ?_); rintro e w9 ⟨rfl, rfl⟩))
    | (go_at_call 129; (with_reducible refine (Clone_rd u x _ _ (Rp.keep hx (by with_reducible repeat (first | exact Only.refl _ _ | assumption | refine Only.drewN ?_ _ | refine Only.drew ?_ | refine Only.alloc ?_ _ | refine Only.setCell ?_ (by intro hh; exfalso; simp at hh; try omega) _ | refine Only.trans ?_ (by assumption)))) (by omega)).mono ?_); rintro e w2 ⟨v2, fp2, rfl, r2, F2, t2⟩; obtain ⟨A2, C2, _, _, rfl, -⟩ := r2.open_; have y2 := t2.cells_eq w.heap.size s1 (by simp); have z2 := t2.frozen_eq w.heap.size s1 (by simp); have s2 : w.heap.size < w2.heap.size := (by have := t2.size; first | omega | (simp at this; omega)))
    | (go_at_call 132; (with_reducible refine (cloneTables_rd v l _ _ (Rp.keep h (by with_reducible repeat (first | exact Only.refl _ _ | assumption | refine Only.drewN ?_ _ | refine Only.drew ?_ | refine Only.alloc ?_ _ | refine Only.setCell ?_ (by intro hh; exfalso; simp at hh; try omega) _ | refine Only.trans ?_ (by assumption)))) hsm).mono ?_); rintro e w3 ⟨v3, fp3, rfl, r3, F3, t3⟩; obtain ⟨A3, C3, _, _, rfl, -⟩ := r3.open_; have y3 := t3.cells_eq w.heap.size (by simp; omega) (by simp); have z3 := t3.frozen_eq w.heap.size (by simp; omega) (by simp); have s3 : w2.heap.size < w3.heap.size := (by have := t3.size; simp at this; omega)))
  have HF := F2.mono (B' := w.heap.size) (by omega)
  have HG : ∀ b' ∈ fp3, w2.heap.size + 1 ≤ b' := fun b' hb => by have := F3.ge b' hb; simp at this; omega
  have HG2 : ∀ b' ∈ fp2, w.heap.size < b' := fun b' hb => by have := F2.ge b' hb; omega
  have HL2 : ∀ b' ∈ fp2, b' < w2.heap.size := F2.lt
  obtain ⟨o1, o2⟩ := one_rd r2 25 w.heap.size HF (g := w2.heap.size) rfl (by omega)
  have hW : Only [w.heap.size] w3 ((((w3.setCell ⟨w.heap.size, 0, none⟩ (.int .i64 2)).setCell ⟨w.heap.size, 1, none⟩ (.slice none 0 0)).setCell ⟨w.heap.size, 2, none⟩ (.slice (some ⟨w2.heap.size, 0, none⟩) 1 1)).setCell ⟨w.heap.size, 3, none⟩ (.slice A3 l.length C3)) := (by with_reducible repeat (first | exact Only.refl _ _ | assumption | refine Only.drewN ?_ _ | refine Only.drew ?_ | refine Only.alloc ?_ _ | refine Only.setCell ?_ (by intro _; simp) _ | refine Only.trans ?_ (Only.weaken (by assumption) _)))
  have n1 := Rp.only (Rp.keep o1 t3) hW (fun b' hb hm => by
    simp at hm hb
    rcases hb with hb | hb
    · omega
    · have := HG2 b' hb; omega)
  have n2 := Rp.only r3 hW (fun b' hb hm => by have := HG b' hb; simp at hm; omega)
  have n3 := (Fresh.append (o2.keep t3) F3 (by simp; omega) (fun b' hb => by
    simp at hb ⊢
    rcases hb with hb | hb
    · omega
    · have := HL2 b' hb; omega)).only hW (fun b' hb hm => by
    simp at hm hb
    rcases hb with hb | hb | hb
    · omega
    · have := HG2 b' hb; omega
    · have := HG b' hb; omega)
  refine bodyPost_ret (v := .agg #[.int .i64 2, .slice none 0 0, .slice (some ⟨w2.heap.size, 0, none⟩) 1 1, .slice A3 l.length C3]) (by simp [results, Tryz.results79, go_sem, y3, y2, y1, s2]) rfl ⟨[.int .i64 2, .slice none 0 0, .slice (some ⟨w2.heap.size, 0, none⟩) 1 1, .slice A3 l.length C3], _, rfl, ?_, n3, (by with_reducible repeat (first | exact Only.refl _ _ | assumption | refine Only.drewN ?_ _ | refine Only.drew ?_ | refine Only.alloc ?_ _ | refine Only.setCell ?_ (by intro hh; exfalso; simp at hh; try omega) _ | refine Only.trans ?_ (by assumption)))⟩
  rw [Hp.out]
  exact ⟨_, _, _, [], _, fp3, rfl, (by simp), ⟨by simp, by simp⟩, nil_rd _, n1, n2⟩
end Go.Proofs.YtlcoejncdbkhcaaGreat

namespace Go.Proofs.YtlcoejncdbkhcaaGreat
open Go.RowKit
set_option maxRecDepth 10000

theorem bTabsK_mem {x : Puzzle} : ∀ {trs : List (List Int)} {ts : List Table}, bTabsK x trs = some ts → ts.length = trs.length ∧ ∀ t ∈ ts, ∃ tr, bTab x tr = some t
  | [], ts, h => by unfold bTabsK at h; injection h with h; subst h; simp
  | tr :: trs, ts, h => by
    unfold bTabsK at h
    rw [Option.bind_eq_some_iff] at h
    obtain ⟨t, e1, e2⟩ := h
    rw [Option.map_eq_some_iff] at e2
    obtain ⟨ts', e3, e4⟩ := e2
    subst e4
    obtain ⟨a, b⟩ := bTabsK_mem e3
    refine ⟨by simp [a], fun t' ht' => ?_⟩
    rcases List.mem_cons.1 ht' with rfl | ht'
    · exact ⟨tr, e1⟩
    · exact b t' ht'
theorem bTabs_mem {x : Puzzle} {trs : List (List Int)} {ts : List Table} (h : bTabs x trs = some ts) : ts.length ≤ 4 ∧ ∀ t ∈ ts, ∃ tr, bTab x tr = some t := by
  unfold bTabs at h
  split at h
  · rename_i hq
    obtain ⟨q1, q2⟩ := inR_iff.1 hq
    obtain ⟨a, b⟩ := bTabsK_mem h
    exact ⟨by omega, b⟩
  · cases h
theorem bTabs_sm {x : Puzzle} {trs : List (List Int)} {ts : List Table} (h : bTabs x trs = some ts) : Sm.sm ts := by
  obtain ⟨h1, h2⟩ := bTabs_mem h
  refine ⟨by omega, fun t ht => ?_⟩
  obtain ⟨tr, e⟩ := h2 t ht
  obtain ⟨a1, a2, a3, -, a5, a6, a7⟩ := bTab_facts e
  have h8 := (trackB_iff.1 a2).2.len
  have h9 := (validPz_facts a1).2.1
  simp only at a5 a6 a7
  refine ⟨⟨by rw [a3]; omega, fun _ _ => trivial⟩, ⟨by omega, fun q hq => ⟨by rw [a7 q hq]; omega, fun _ _ => trivial⟩⟩, ⟨by omega, fun _ _ => trivial⟩⟩
end Go.Proofs.YtlcoejncdbkhcaaGreat
