/- The program's ReachablePatterns, BuildTable, BuildTables (law 16). What a search of patterns has met: lengths; a table's count. The law on BuildTables: its walk. (Printed by gen_exact.py.) From the row's own reading of an argument to 'rep'. From the row's own reading of an argument that is a struct, or a slice of structs, to 'rep'. (Printed by gen_conv.py.) FnExactBuildTables: for every argument that can be read, the call returns true, and the arguments read afterwards as before. No condition. (Printed by gen_row.py.) -/
import Derived.Test.YtpfmkjcngknecaaRowBuildTablesG16
import Derived.Test.YtpfmkjcngknecaaRowBuildTablesG17
import Derived.Deep.RegionHeld3
import Derived.Deep.DeepCutAuto
import Derived.Test.YtpfmkjcngknecaaRowBuildTablesG1
import Derived.ProofKit
import Derived.OpenShut
import Derived.Deep.Slices
import Derived.Test.YtpfmkjcngknecaaRowBuildTablesG3
import Derived.ShutString
import Derived.ChangeOld
namespace Go.Proofs.Ytpfmkjcngknecaa
open Go.RowKit
set_option maxRecDepth 10000

set_option maxHeartbeats 1000000 in
theorem implIsTrackedSet_any (cs : List Value) (x : Puzzle) (fp : List Nat) (v : Value) (l : List Int) (f2 : List Nat) (w : World) (h : Rp.rep w cs x fp) (h2 : Rd w v l f2) :
    Calls Try.prog 122 #[.agg cs.toArray, v] w fun e w' => e = .returned (.bool (validPz x && trackB x.points l)) ∧ Only [] w w' := by
  have h0 := h
  obtain ⟨v2, rfl, p0, p1, hm⟩ := h
  rcases hq : validPz x
  · go_enter Try.func122, Try.ntmps122
    go_wp2_with ((go_at_call 85; (with_reducible refine (implIsValidPuzzle_any [.int .i64 x.points, .string x.names, v2] x _ _ (Rp.keep h0 (by with_reducible repeat (first | exact Only.refl _ _ | assumption | refine Only.drewN ?_ _ | refine Only.drew ?_ | refine Only.alloc ?_ _ | refine Only.setCell ?_ (by intro hh; exfalso; simp at hh; try omega) _ | refine Only.trans ?_ (by assumption))))).mono ?_); rintro e w1 ⟨he, t1⟩; rw [hq] at he; subst he))
    go_ret
    exact ⟨rfl, (by with_reducible repeat (first | exact Only.refl _ _ | assumption | refine Only.drewN ?_ _ | refine Only.drew ?_ | refine Only.alloc ?_ _ | refine Only.setCell ?_ (by intro hh; exfalso; simp at hh; try omega) _ | refine Only.trans ?_ (by assumption)))⟩
  obtain ⟨g1, g2, g3, g4⟩ := validPz_facts hq
  have hB := Blk.new_at (w := w) (cs := [.int .i64 x.points, .string x.names, v2]) (t := 30) rfl
  go_enter Try.func122, Try.ntmps122
  go_wp2_with (first | (go_at_call 85; (with_reducible refine (implIsValidPuzzle_any [.int .i64 x.points, .string x.names, v2] x _ _ (Rp.keep h0 (by with_reducible repeat (first | exact Only.refl _ _ | assumption | refine Only.drewN ?_ _ | refine Only.drew ?_ | refine Only.alloc ?_ _ | refine Only.setCell ?_ (by intro hh; exfalso; simp at hh; try omega) _ | refine Only.trans ?_ (by assumption))))).mono ?_); rintro e w1 ⟨he, t1⟩; rw [hq] at he; subst he; have y0 := (hB.keep t1).cell 0 rfl) | (go_at_call 142; (with_reducible refine (isTracked_rd x.points v l _ _ (Rp.keep h2 (by with_reducible repeat (first | exact Only.refl _ _ | assumption | refine Only.drewN ?_ _ | refine Only.drew ?_ | refine Only.alloc ?_ _ | refine Only.setCell ?_ (by intro hh; exfalso; simp at hh; try omega) _ | refine Only.trans ?_ (by assumption)))) (by omega) (by omega)).mono ?_); rintro e w2 ⟨rfl, m2, rfl⟩))
  go_ret
  exact ⟨rfl, (by with_reducible repeat (first | exact Only.refl _ _ | assumption | refine Only.drewN ?_ _ | refine Only.drew ?_ | refine Only.alloc ?_ _ | refine Only.setCell ?_ (by intro hh; exfalso; simp at hh; try omega) _ | refine Only.trans ?_ (by assumption)))⟩
set_option maxHeartbeats 2000000 in
theorem reachPatterns_any (cs : List Value) (x : Puzzle) (fp : List Nat) (v : Value) (tr : List Int) (ft : List Nat) (w : World) (h : Rp.rep w cs x fp) (hv : Rd w v tr ft) :
    Calls Try.prog 97 #[.agg cs.toArray, v] w fun e w' => ∃ u1 u2 f1 f2, e = .returned (.tuple #[u1, u2, .bool (bfs16 x tr).isSome]) ∧
      Rd w' u1 ((bfs16 x tr).getD ([], [])).1 f1 ∧ Rd w' u2 ((bfs16 x tr).getD ([], [])).2 f2 ∧ Fresh w.heap.size w' (f1 ++ f2) ∧ Only [] w w' := by
  have h0 := h
  obtain ⟨v2, rfl, p0, p1, hm⟩ := h
  have X0 := Blk.new w [.int .i64 x.points, .string x.names, v2] 30
  simp only [List.toArray] at X0
  rcases hq : validPz x && trackB x.points tr
  · have Hn := Lib.hid (bfs16_no hq)
    have Hq := Lib.hid hq
    clear hq
    go_enter Try.func97, Try.ntmps97
    go_wp2_with (first
      | (go_at_call 122; (with_reducible refine (implIsTrackedSet_any [.int .i64 x.points, .string x.names, v2] x _ _ tr _ _ (Rp.keep h0 (by with_reducible repeat (first | exact Only.refl _ _ | assumption | refine Only.drewN ?_ _ | refine Only.drew ?_ | refine Only.alloc ?_ _ | refine Only.setCell ?_ (by intro hh; exfalso; simp at hh; try omega) _ | refine Only.trans ?_ (by assumption)))) (Rp.keep hv (by with_reducible repeat (first | exact Only.refl _ _ | assumption | refine Only.drewN ?_ _ | refine Only.drew ?_ | refine Only.alloc ?_ _ | refine Only.setCell ?_ (by intro hh; exfalso; simp at hh; try omega) _ | refine Only.trans ?_ (by assumption))))).mono ?_); rintro e w1 ⟨he, t1⟩; rw [Hq.out] at he; subst he)
      | fail "no arm")
    refine bodyPost_ret (v := .tuple #[.slice none 0 0, .slice none 0 0, .bool false]) (by simp [results, Try.results97, go_sem]) rfl ⟨.slice none 0 0, .slice none 0 0, [], [], by rw [Hn.out]; rfl, by rw [Hn.out]; exact nil_rd _, by rw [Hn.out]; exact nil_rd _, Fresh.nil _ _, (by with_reducible repeat (first | exact Only.refl _ _ | assumption | refine Only.drewN ?_ _ | refine Only.drew ?_ | refine Only.alloc ?_ _ | refine Only.setCell ?_ (by intro hh; exfalso; simp at hh; try omega) _ | refine Only.trans ?_ (by assumption)))⟩
  · have Hn := Lib.hid (bfs16_yes hq)
    obtain ⟨q1, q2⟩ := (Bool.and_eq_true _ _).mp hq
    have Hq := Lib.hid hq
    have Hv := Lib.hid q1
    have Hp := Lib.hid (trackB_pat q2)
    have htl : tr.length ≤ 1000 := by
      have h3 := (trackB_iff.1 q2).2.len
      have := (validPz_facts q1).2.1
      omega
    clear hq q1 q2
    go_enter Try.func97, Try.ntmps97
    go_wp2_with (first
      | (go_at_call 122; (with_reducible refine (implIsTrackedSet_any [.int .i64 x.points, .string x.names, v2] x _ _ tr _ _ (Rp.keep h0 (by with_reducible repeat (first | exact Only.refl _ _ | assumption | refine Only.drewN ?_ _ | refine Only.drew ?_ | refine Only.alloc ?_ _ | refine Only.setCell ?_ (by intro hh; exfalso; simp at hh; try omega) _ | refine Only.trans ?_ (by assumption)))) (Rp.keep hv (by with_reducible repeat (first | exact Only.refl _ _ | assumption | refine Only.drewN ?_ _ | refine Only.drew ?_ | refine Only.alloc ?_ _ | refine Only.setCell ?_ (by intro hh; exfalso; simp at hh; try omega) _ | refine Only.trans ?_ (by assumption))))).mono ?_); rintro e w1 ⟨he, t1⟩; rw [Hq.out] at he; subst he; have X1 := X0.keep t1; have g0 := X1.cell 0 rfl; have g1 := X1.cell 1 rfl; have g2 := X1.cell 2 rfl)
      | (go_at_call 123; (with_reducible refine (patterns_any [.int .i64 x.points, .string x.names, v2] x _ _ tr _ _ (Rp.keep h0 (by with_reducible repeat (first | exact Only.refl _ _ | assumption | refine Only.drewN ?_ _ | refine Only.drew ?_ | refine Only.alloc ?_ _ | refine Only.setCell ?_ (by intro hh; exfalso; simp at hh; try omega) _ | refine Only.trans ?_ (by assumption)))) (Rp.keep hv (by with_reducible repeat (first | exact Only.refl _ _ | assumption | refine Only.drewN ?_ _ | refine Only.drew ?_ | refine Only.alloc ?_ _ | refine Only.setCell ?_ (by intro hh; exfalso; simp at hh; try omega) _ | refine Only.trans ?_ (by assumption)))) Hv.out Hp.out htl).mono ?_); rintro e w2 ⟨u1, u2, f1, f2, rfl, r1, r2, F2, t2⟩)
      | fail "no arm")
    have K2 : Only [] w w2 := (by with_reducible repeat (first | exact Only.refl _ _ | assumption | refine Only.drewN ?_ _ | refine Only.drew ?_ | refine Only.alloc ?_ _ | refine Only.setCell ?_ (by intro hh; exfalso; simp at hh; try omega) _ | refine Only.trans ?_ (by assumption)))
    have hsz := t1.size
    simp at hsz
    refine bodyPost_ret (v := .tuple #[u1, u2, .bool (bFrom x 3001 0 ([tr], [0])).isSome]) (by simp [results, Try.results97, go_sem]) rfl ⟨u1, u2, f1, f2, by rw [Hn.out], by rw [Hn.out]; exact r1, by rw [Hn.out]; exact r2, F2.mono (by omega), K2⟩
set_option maxHeartbeats 4000000 in
theorem implBuildTable_any (cs : List Value) (x : Puzzle) (fp : List Nat) (v : Value) (tr : List Int) (ft : List Nat) (w : World) (h : Rp.rep w cs x fp) (hv : Rd w v tr ft) (htl : tr.length ≤ 2097152) :
    Calls Try.prog 60 #[.agg cs.toArray, v] w fun e w' => ∃ cs' fp', e = .returned (.tuple #[.agg (List.toArray cs'), .bool (bTab x tr).isSome]) ∧ Rp.rep w' cs' ((bTab x tr).getD noTab) fp' ∧ Fresh w.heap.size w' fp' ∧ Only [] w w' := by
  have h0 := h
  obtain ⟨v2, rfl, p0, p1, h2⟩ := h
  obtain ⟨A2, C2, _, _, rfl, -, -⟩ := h2.open_
  obtain ⟨a, cap, rfl, Iv⟩ := hv.ints
  clear Iv h2 p0 p1
  have X0 : Blk ((w.alloc (.cells #[.int .i64 x.points, .string x.names, .slice A2 x.moves.length C2] 30)).alloc (.cells #[.slice none 0 0, .slice none 0 0, .slice none 0 0] 66)) w.heap.size [.int .i64 x.points, .string x.names, .slice A2 x.moves.length C2] := (Blk.new w [.int .i64 x.points, .string x.names, .slice A2 x.moves.length C2] 30).keep ((Only.refl _ _).alloc _)
  have Y0 : Blk ((w.alloc (.cells #[.int .i64 x.points, .string x.names, .slice A2 x.moves.length C2] 30)).alloc (.cells #[.slice none 0 0, .slice none 0 0, .slice none 0 0] 66)) (w.heap.size + 1) [.slice none 0 0, .slice none 0 0, .slice none 0 0] := Blk.new_at (by simp)
  have x0 := X0.cell 0 rfl
  have x1 := X0.cell 1 rfl
  have x2 := X0.cell 2 rfl
  rcases hq : bfs16 x tr with _ | s
  · have Hq := Lib.hid hq
    have hb : bTab x tr = none := by unfold bTab; rw [hq]; rfl
    have Hb := Lib.hid hb
    clear hq hb
    go_enter Try.func60, Try.ntmps60
    go_wp2_with (first
      | (go_at_call 97; (with_reducible refine (reachPatterns_any [.int .i64 x.points, .string x.names, .slice A2 x.moves.length C2] x _ _ tr _ _ (Rp.keep h0 (by with_reducible repeat (first | exact Only.refl _ _ | assumption | refine Only.drewN ?_ _ | refine Only.drew ?_ | refine Only.alloc ?_ _ | refine Only.setCell ?_ (by intro hh; exfalso; simp at hh; try omega) _ | refine Only.trans ?_ (by assumption)))) (Rp.keep hv (by with_reducible repeat (first | exact Only.refl _ _ | assumption | refine Only.drewN ?_ _ | refine Only.drew ?_ | refine Only.alloc ?_ _ | refine Only.setCell ?_ (by intro hh; exfalso; simp at hh; try omega) _ | refine Only.trans ?_ (by assumption))))).mono ?_); rintro e w2 ⟨u1, u2, f1, f2, he, r1, r2, F2, t2⟩; rw [Hq.out] at he; subst he; have Y1 := Y0.keep t2; have g0 := Y1.cell 0 rfl; have g1 := Y1.cell 1 rfl; have g2 := Y1.cell 2 rfl; have p0 := Y1.frozen 0; have p1 := Y1.frozen 1; have p2 := Y1.frozen 2)
      | fail "no arm")
    have K2 : Only [] w w2 := (by with_reducible repeat (first | exact Only.refl _ _ | assumption | refine Only.drewN ?_ _ | refine Only.drew ?_ | refine Only.alloc ?_ _ | refine Only.setCell ?_ (by intro hh; exfalso; simp at hh; try omega) _ | refine Only.trans ?_ (by assumption)))
    have Yf := ((Y1.set 0 (.slice none 0 0)).set 1 (.slice none 0 0)).set 2 (.slice none 0 0)
    have kf := K2.then_ ((((Only.refl [w.heap.size + 1] w2).setCell (p := ⟨w.heap.size + 1, 0, none⟩) (by simp) (.slice none 0 0)).setCell (p := ⟨w.heap.size + 1, 1, none⟩) (by simp) (.slice none 0 0)).setCell (p := ⟨w.heap.size + 1, 2, none⟩) (by simp) (.slice none 0 0)) (by simp)
    obtain ⟨wf, hwf⟩ : ∃ wf, wf = (((w2.setCell ⟨w.heap.size + 1, 0, none⟩ (.slice none 0 0)).setCell ⟨w.heap.size + 1, 1, none⟩ (.slice none 0 0)).setCell ⟨w.heap.size + 1, 2, none⟩ (.slice none 0 0)) := ⟨_, rfl⟩
    rw [← hwf] at Yf kf ⊢
    simp only [List.set] at Yf
    clear hwf g0 g1 g2 p0 p1 p2
    have r0 := Yf.cell 0 rfl
    have r1 := Yf.cell 1 rfl
    have r2 := Yf.cell 2 rfl
    refine bodyPost_ret (v := .tuple #[.agg #[.slice none 0 0, .slice none 0 0, .slice none 0 0], .bool false]) (by simp [results, Try.results60, go_sem, r0, r1, r2]) rfl ⟨[.slice none 0 0, .slice none 0 0, .slice none 0 0], [], by rw [Hb.out]; rfl, ?_, Fresh.nil _ _, kf⟩
    rw [Hb.out]
    exact ⟨_, _, _, [], [], [], rfl, rfl, nil_rd _, nil_rd _, nil_rd _⟩
  · have Hq := Lib.hid hq
    have hb : bTab x tr = some ⟨tr, s.1, s.2⟩ := by unfold bTab; rw [hq]; rfl
    have Hb := Lib.hid hb
    clear hq hb
    go_enter Try.func60, Try.ntmps60
    go_wp2_with (first
      | (go_at_call 97; (with_reducible refine (reachPatterns_any [.int .i64 x.points, .string x.names, .slice A2 x.moves.length C2] x _ _ tr _ _ (Rp.keep h0 (by with_reducible repeat (first | exact Only.refl _ _ | assumption | refine Only.drewN ?_ _ | refine Only.drew ?_ | refine Only.alloc ?_ _ | refine Only.setCell ?_ (by intro hh; exfalso; simp at hh; try omega) _ | refine Only.trans ?_ (by assumption)))) (Rp.keep hv (by with_reducible repeat (first | exact Only.refl _ _ | assumption | refine Only.drewN ?_ _ | refine Only.drew ?_ | refine Only.alloc ?_ _ | refine Only.setCell ?_ (by intro hh; exfalso; simp at hh; try omega) _ | refine Only.trans ?_ (by assumption))))).mono ?_); rintro e w2 ⟨u1, u2, f1, f2, he, r1, r2, F2, t2⟩; rw [Hq.out] at he r1 r2; subst he; simp only [Option.getD] at r1 r2; obtain ⟨a1, c1, ob, fps, rfl, e1, S1⟩ := r1.open_; obtain ⟨a2, c2, rfl, I2⟩ := r2.ints; have Y1 := Y0.keep t2)
      | (go_at_call 98; (with_reducible refine (Clone_rd _ tr _ _ (Rp.keep hv (by with_reducible repeat (first | exact Only.refl _ _ | assumption | refine Only.drewN ?_ _ | refine Only.drew ?_ | refine Only.alloc ?_ _ | refine Only.setCell ?_ (by intro hh; exfalso; simp at hh; try omega) _ | refine Only.trans ?_ (by assumption)))) (by omega)).mono ?_); rintro e w3 ⟨u3, f3, rfl, r3, F3, t3⟩; obtain ⟨a3, c3, rfl, I3⟩ := r3.ints; have Y2 := Y1.keep t3; have g0 := Y2.cell 0 rfl; have g1 := Y2.cell 1 rfl; have g2 := Y2.cell 2 rfl; have p0 := Y2.frozen 0; have p1 := Y2.frozen 1; have p2 := Y2.frozen 2)
      | fail "no arm")
    have K2 : Only [] w w2 := (by with_reducible repeat (first | exact Only.refl _ _ | assumption | refine Only.drewN ?_ _ | refine Only.drew ?_ | refine Only.alloc ?_ _ | refine Only.setCell ?_ (by intro hh; exfalso; simp at hh; try omega) _ | refine Only.trans ?_ (by assumption)))
    have K3 := K2.trans t3
    have hsz := t2.size
    simp at hsz
    have F := (F2.keep t3).append F3 t2.size (fun g hg => F2.lt g hg)
    have hFg : ∀ g ∈ (f1 ++ f2) ++ f3, g ∉ [w.heap.size + 1] := fun g hg hm => by have := F.ge g hg; simp at this hm; omega
    have Yf := ((Y2.set 0 (.slice a3 tr.length c3)).set 1 (.slice a1 s.1.length c1)).set 2 (.slice a2 s.2.length c2)
    have kf : Only [w.heap.size + 1] w3 (((w3.setCell ⟨w.heap.size + 1, 0, none⟩ (.slice a3 tr.length c3)).setCell ⟨w.heap.size + 1, 1, none⟩ (.slice a1 s.1.length c1)).setCell ⟨w.heap.size + 1, 2, none⟩ (.slice a2 s.2.length c2)) := (((Only.refl _ _).setCell (by simp) _).setCell (by simp) _).setCell (by simp) _
    obtain ⟨wf, hwf⟩ : ∃ wf, wf = (((w3.setCell ⟨w.heap.size + 1, 0, none⟩ (.slice a3 tr.length c3)).setCell ⟨w.heap.size + 1, 1, none⟩ (.slice a1 s.1.length c1)).setCell ⟨w.heap.size + 1, 2, none⟩ (.slice a2 s.2.length c2)) := ⟨_, rfl⟩
    rw [← hwf] at Yf kf ⊢
    simp only [List.set] at Yf
    clear hwf g0 g1 g2 p0 p1 p2
    have z0 := Yf.cell 0 rfl
    have z1 := Yf.cell 1 rfl
    have z2 := Yf.cell 2 rfl
    have hP : ((f1 ++ f2) ++ f3).Perm (f3 ++ (f1 ++ f2)) := List.perm_append_comm
    have hFf := ((F.mono (B' := w.heap.size) (by simp; omega)).only kf hFg)
    refine bodyPost_ret (v := .tuple #[.agg #[.slice a3 tr.length c3, .slice a1 s.1.length c1, .slice a2 s.2.length c2], .bool true]) (by simp [results, Try.results60, go_sem, z0, z1, z2]) rfl ⟨[.slice a3 tr.length c3, .slice a1 s.1.length c1, .slice a2 s.2.length c2], f3 ++ (f1 ++ f2), by rw [Hb.out]; rfl, ?_, ⟨hP.nodup hFf.nd, fun b hb => hFf.ge b (hP.mem_iff.2 hb), hFf.own.sub fun b hb => hP.mem_iff.2 hb⟩, K3.then_ kf (by simp)⟩
    rw [Hb.out]
    exact ⟨_, _, _, f3, f1, f2, rfl, rfl, Rp.only r3 kf (fun g hg => hFg g (by simp [hg])), Rp.only (Rp.keep r1 t3) kf (fun g hg => hFg g (by simp [hg])), Rp.only (Rp.keep r2 t3) kf (fun g hg => hFg g (by simp [hg]))⟩
set_option maxHeartbeats 4000000 in
theorem implBuildTables_any (cs : List Value) (x : Puzzle) (fp : List Nat) (v : Value) (trs : List (List Int)) (ft : List Nat) (w : World) (h : Rp.rep w cs x fp) (hv : Rd w v trs ft) (hsm : ∀ y ∈ trs, y.length ≤ 2097152) :
    Calls Try.prog 24 #[.agg cs.toArray, v] w fun e w' => ∃ u fp', e = .returned (.tuple #[u, .bool (bTabs x trs).isSome]) ∧ Rd w' u ((bTabs x trs).getD []) fp' ∧ Fresh w.heap.size w' fp' ∧ Only [] w w' := by
  have h0 := h
  obtain ⟨v2, rfl, p0, p1, h2⟩ := h
  obtain ⟨A2, C2, _, _, rfl, -, -⟩ := h2.open_
  obtain ⟨a, cap, ob, fps, rfl, -, hS⟩ := hv.open_
  have hb := hS.bound
  obtain ⟨i0, hi, hz0, hz1, hz2⟩ := info_parts Try.infoTab
  clear p0 p1
  rcases hq : inR trs.length 1 4
  · have Hn := Lib.hid (by unfold bTabs; rw [hq]; rfl : bTabs x trs = none)
    have Hq := Lib.hid hq
    clear hq
    go_enter Try.func24, Try.ntmps24
    go_wp2_with (first
      | (go_at_call 59; (with_reducible refine (lengthRows_rd _ trs _ _ (Rp.keep hv (by with_reducible repeat (first | exact Only.refl _ _ | assumption | refine Only.drewN ?_ _ | refine Only.drew ?_ | refine Only.alloc ?_ _ | refine Only.setCell ?_ (by intro hh; exfalso; simp at hh; try omega) _ | refine Only.trans ?_ (by assumption))))).mono ?_); rintro e w ⟨rfl, rfl⟩)
      | (go_at_call 58; (with_reducible refine (within_any trs.length 1 4 _).mono ?_); rintro e w1 ⟨he, h1⟩; subst h1; rw [Hq.out] at he; subst he)
      | fail "no arm")
    refine bodyPost_ret (v := .tuple #[.slice none 0 0, .bool false]) (by simp [results, Try.results24, go_sem]) rfl ⟨.slice none 0 0, [], by rw [Hn.out]; rfl, ?_, Fresh.nil _ _, (by with_reducible repeat (first | exact Only.refl _ _ | assumption | refine Only.drewN ?_ _ | refine Only.drew ?_ | refine Only.alloc ?_ _ | refine Only.setCell ?_ (by intro hh; exfalso; simp at hh; try omega) _ | refine Only.trans ?_ (by assumption)))⟩
    rw [Hn.out]
    exact nil_rd _
  · have Hn := Lib.hid (by unfold bTabs; rw [if_pos hq] : bTabs x trs = bTabsK x trs)
    obtain ⟨q1, q2⟩ := inR_iff.1 hq
    have Hq := Lib.hid hq
    have Hsm := Lib.hid hsm
    clear hq hsm
    go_enter Try.func24, Try.ntmps24
    go_wp2_with (first
      | (go_at_call 59; (with_reducible refine (lengthRows_rd _ trs _ _ (Rp.keep hv (by with_reducible repeat (first | exact Only.refl _ _ | assumption | refine Only.drewN ?_ _ | refine Only.drew ?_ | refine Only.alloc ?_ _ | refine Only.setCell ?_ (by intro hh; exfalso; simp at hh; try omega) _ | refine Only.trans ?_ (by assumption))))).mono ?_); rintro e w ⟨rfl, rfl⟩)
      | (go_at_call 58; (with_reducible refine (within_any trs.length 1 4 _).mono ?_); rintro e w1 ⟨he, h1⟩; subst h1; rw [Hq.out] at he; subst he)
      | fail "no arm")
    have X1 := Blk.new w [.int .i64 x.points, .string x.names, .slice A2 x.moves.length C2] 30
    have K1 : Only [] w (w.alloc (.cells #[.int .i64 x.points, .string x.names, .slice A2 x.moves.length C2] 30)) := (Only.refl _ _).alloc _
    have s1 : (w.alloc (.cells #[.int .i64 x.points, .string x.names, .slice A2 x.moves.length C2] 30)).heap.size = w.heap.size + 1 := by simp
    simp only [List.toArray] at X1
    obtain ⟨w1, hw1⟩ : ∃ w1, w1 = (w.alloc (.cells #[.int .i64 x.points, .string x.names, .slice A2 x.moves.length C2] 30)) := ⟨_, rfl⟩
    rw [← hw1] at X1 K1 s1 ⊢
    have hs1 := Nat.le_of_eq s1
    have hs2 := Nat.le_of_eq s1.symm
    clear hw1 s1
    go_loopw [6, 17] (fun o i wr => ∃ (j : Nat) (ts : List Table) (fs : List (List Nat)), j ≤ trs.length ∧ i = .int .i64 j ∧ bTabsK x (trs.take j) = some ts ∧ ts.length = j ∧ Acc (w.heap.size + 1) 66 wr o ts fs ∧ Fresh (w.heap.size + 1) wr fs.flatten ∧ Only [] w1 wr)
      (fun _ i _ => trs.length - (intOf i).toNat)
    case atStart => exact ⟨0, [], [], Nat.zero_le _, rfl, rfl, rfl, Acc.nil _ _ _, Fresh.nil _ _, Only.refl _ _⟩
    case round =>
      obtain ⟨W2, hnew⟩ : ∃ W, W = wr := ⟨_, rfl⟩
      subst hnew
      obtain ⟨j, ts, fs, hj, rfl, hts, htl, hA, hF, hK⟩ := hrel
      have Hts := Lib.hid hts
      have htl4 : ts.length ≤ 4 := by omega
      have Htl := Lib.hid htl
      clear hts htl
      by_cases hlt : j < trs.length
      · obtain ⟨b, off, u, rfl, -, hc0, hu0⟩ := hS.atRow j hlt
        have hc := (K1.trans hK).cell (by simp) hc0
        have hu := Rp.keep hu0 (K1.trans hK)
        have X2 := X1.keep hK
        have x0 := X2.cell 0 rfl
        have x1 := X2.cell 1 rfl
        have x2 := X2.cell 2 rfl
        have KK := K1.trans hK
        have Hc := Lib.hid (fun (W : World) (hh : Only [] W2 W) => implBuildTable_any [.int .i64 x.points, .string x.names, .slice A2 x.moves.length C2] x _ u trs[j] _ W (Rp.keep h0 (KK.trans hh)) (Rp.keep hu hh) (Hsm.out _ (List.getElem_mem hlt)))
        have ka := (Only.refl [] W2).alloc (.cells #[.slice none 0 0, .slice none 0 0, .slice none 0 0] 66)
        have hca := ka.cell (by simp) hc
        have xa0 := ka.cell (by simp) x0
        have xa1 := ka.cell (by simp) x1
        have xa2 := ka.cell (by simp) x2
        clear hc0 hu0
        go_upto_region 7 with fail
        have hzW := KK.size
        have hc3 : ([.slice none 0 0, .slice none 0 0, .slice none 0 0] : List Value).length = 3 := rfl
        go_cut [9, 10] (fun s8 s9 wx => BT1 W2 wx s8 s9 (bTab x trs[j]))
        case first =>
          go_wp2_with (first
            | (go_at_call 60; (with_reducible refine (Hc.out _ (by with_reducible repeat (first | exact Only.refl _ _ | assumption | refine Only.drewN ?_ _ | refine Only.drew ?_ | refine Only.alloc ?_ _ | refine Only.setCell ?_ (by intro hh; exfalso; simp at hh; try omega) _ | refine Only.trans ?_ (by assumption)))).mono ?_); rintro e w4 ⟨cs4, f4, he4, r4, F4, t4⟩; have rr := id r4; obtain ⟨u1, u2, u3, e1, e2, e3, rfl, -, s1, s2, s3⟩ := r4; simp only [List.cons_append, List.nil_append] at rr; have hq1 := s1.open_; have hq2 := s2.open_; have hq3 := s3.open_; obtain ⟨a1, k1, _, _, rfl, -, -⟩ := hq1; obtain ⟨a2, k2, _, _, rfl, -, -⟩ := hq2; obtain ⟨a3, k3, _, _, rfl, -, -⟩ := hq3; subst he4; have Z := Blk.new w4 [.slice none 0 0, .slice none 0 0, .slice none 0 0] 66; have g0 := Z.cell 0 rfl; have g1 := Z.cell 1 rfl; have g2 := Z.cell 2 rfl; have p0 := Z.frozen 0; have p1 := Z.frozen 1; have p2 := Z.frozen 2)
            | fail "no arm")
          go_meet
          have KK5 : Only [] W2 w4 := (by with_reducible repeat (first | exact Only.refl _ _ | assumption | refine Only.drew ?_ | refine Only.alloc ?_ _ | refine Only.trans ?_ (by assumption)))
          with_reducible exact BT1.of2 KK5 rfl rfl rfl rr F4 rfl
        case rest =>
          have q7 := hcut
          clear hcut
          obtain ⟨g, B1, B2, B3, D1, D2, D3, f, rfl, rfl, z, r, F, k⟩ := q7
          rcases hbt : bTab x trs[j] with _ | t
          · have Hno := Lib.hid (bTabsK_none (List.getElem_mem hlt) hbt)
            rw [hbt] at z r
            simp only [Option.getD, Option.isSome] at z r ⊢
            clear hbt
            go_wp2
            refine bodyPost_ret (v := .tuple #[.slice none 0 0, .bool false]) (by simp [results, Try.results24, go_sem]) rfl ⟨.slice none 0 0, [], by rw [Hn.out, Hno.out]; rfl, by rw [Hn.out, Hno.out]; exact nil_rd _, Fresh.nil _ _, KK.trans k⟩
          · have hsn : bTabsK x (trs.take (j + 1)) = some (ts ++ [t]) := by rw [take_succ_get trs j hlt, bTabsK_snoc, Hts.out, hbt]; rfl
            have Hsn := Lib.hid hsn
            rw [hbt] at z r
            simp only [Option.getD, Option.isSome] at z r ⊢
            have d0 := z.cell 0 rfl
            have d1 := z.cell 1 rfl
            have d2 := z.cell 2 rfl
            clear hbt hsn
            have hF3 := F.keep ((Only.refl [] wc).alloc (.cells #[.slice B1 t.tracked.length D1, .slice B2 t.patterns.length D2, .slice B3 t.distances.length D3] 66))
            have hr3 := Rp.keep r ((Only.refl [] wc).alloc (.cells #[.slice B1 t.tracked.length D1, .slice B2 t.patterns.length D2, .slice B3 t.distances.length D3] 66))
            have kz := (hK.trans k).alloc (.cells #[.slice B1 t.tracked.length D1, .slice B2 t.patterns.length D2, .slice B3 t.distances.length D3] 66)
            have hwB : w.heap.size + 1 ≤ W2.heap.size := Nat.le_trans hs2 hK.size
            go_wp2_with (at_builtin; refine wpList_pushF rfl _ _ 41 rfl (w.heap.size + 1) 66 i0 _ 72 Try.underlying41 hi hz0 hz1 hz2 rfl (by decide) (by decide) W2 _ ts fs rfl hA hF (k.alloc _) hwB wc.heap.size 1 [.slice B1 t.tracked.length D1, .slice B2 t.patterns.length D2, .slice B3 t.distances.length D3] t f rfl (lit_src wc [.slice B1 t.tracked.length D1, .slice B2 t.patterns.length D2, .slice B3 t.distances.length D3] _ rfl) (by intro u hu; simp at hu; rcases hu with rfl | rfl | rfl <;> rfl) hr3 hF3 (by omega) w1 kz hs1 ?_; intro v9 w9 hA9 hF9 hK9 hW9)
            go_roundw
            case rel => exact ⟨j + 1, ts ++ [t], fs ++ [f], by omega, by go_num, Hsn.out, by simp [Htl.out], hA9, hF9, hK9⟩
            case measure => simp [intOf]; omega
      · obtain rfl : j = trs.length := by omega
        rw [List.take_length] at Hts
        have HA := Lib.hid hA
        clear hA
        go_wp2
        refine bodyPost_ret (v := .tuple #[u6, .bool true]) (by simp [results, Try.results24, go_sem]) rfl ⟨u6, _, by rw [Hn.out, Hts.out]; rfl, ?_, ((HA.out.fresh hF).mono (by omega)), K1.trans hK⟩
        rw [Hn.out, Hts.out]
        exact HA.out.rd (by decide)
end Go.Proofs.Ytpfmkjcngknecaa

namespace Go.Proofs.Ytpfmkjcngknecaa
open Go.RowKit
set_option maxRecDepth 10000

/-- what a search has met: lists of one length, as many depths -/
def Met16.ok (m : Nat) (s : Met16) : Prop := s.1.length = s.2.length ∧ s.1.length ≤ 3000 ∧ ∀ q ∈ s.1, q.length = m
theorem bMeet_ok {m : Nat} {s s' : Met16} {d : Int} {y : List Int} (h : bMeet s d y = some s') (hs : s.ok m) (hy : y.length = m) : s'.ok m := by
  obtain ⟨a, b, -⟩ := bMeet_len h hs.1 hs.2.1
  refine ⟨a, b, fun q hq => ?_⟩
  unfold bMeet at h
  split at h
  · injection h with h; subst h; exact hs.2.2 q hq
  · split at h
    · cases h
    · injection h with h; subst h
      rcases List.mem_append.1 hq with hq | hq
      · exact hs.2.2 q hq
      · simp at hq; subst hq; exact hy
theorem bLets_ok {x : Puzzle} {m : Nat} {q : List Int} {d : Int} (hq : q.length = m) : ∀ {ls : List Int} {s s' : Met16}, bLets x q d ls s = some s' → s.ok m → s'.ok m
  | [], s, s', h, hs => by unfold bLets at h; injection h with h; subst h; exact hs
  | l :: ls, s, s', h, hs => by
    unfold bLets at h
    rw [Option.bind_eq_some_iff] at h
    obtain ⟨s1, e1, e2⟩ := h
    exact bLets_ok hq e2 (bMeet_ok e1 hs (by unfold nxt; rw [PM.comp_len]; exact hq))
theorem bFrom_ok {x : Puzzle} {m : Nat} : ∀ {n k : Nat} {s s' : Met16}, bFrom x n k s = some s' → s.ok m → s'.ok m
  | 0, _, s, s', h, hs => by unfold bFrom at h; injection h with h; subst h; exact hs
  | n + 1, k, s, s', h, hs => by
    unfold bFrom at h
    split at h
    · rename_i hk
      rw [Option.bind_eq_some_iff] at h
      obtain ⟨s1, e1, e2⟩ := h
      refine bFrom_ok e2 (bLets_ok ?_ e1 hs)
      rw [List.getD_eq_getElem?_getD, List.getElem?_eq_getElem hk]
      exact hs.2.2 _ (List.getElem_mem hk)
    · injection h with h; subst h; exact hs
theorem cntL_rows {n : Nat} : ∀ {L : List (List Int)}, (∀ q ∈ L, q.length ≤ n) → cntL L ≤ L.length * n
  | [], _ => by simp [cntL]
  | a :: L, h => by
    have h1 := cntL_rows (L := L) fun q hq => h q (by simp [hq])
    have h2 := h a (by simp)
    have h3 : Mk.cnt a = a.length := cntL_ints a
    simp only [cntL, List.length_cons, h3]
    rw [Nat.add_mul]
    omega
theorem bTab_facts {x : Puzzle} {tr : List Int} {t : Table} (h : bTab x tr = some t) : validPz x = true ∧ trackB x.points tr = true ∧ t.tracked = tr ∧ bfs16 x tr = some (t.patterns, t.distances) ∧ Met16.ok tr.length (t.patterns, t.distances) := by
  unfold bTab at h
  rcases hb : bfs16 x tr with _ | s
  · rw [hb] at h; cases h
  · rw [hb] at h
    injection h with h
    subst h
    rcases hq : validPz x && trackB x.points tr
    · rw [bfs16_no hq] at hb; cases hb
    · obtain ⟨q1, q2⟩ := (Bool.and_eq_true _ _).mp hq
      refine ⟨q1, q2, rfl, rfl, ?_⟩
      rw [bfs16_yes hq] at hb
      exact bFrom_ok hb ⟨rfl, by simp, by simp⟩
theorem bTab_cnt {x : Puzzle} {tr : List Int} {t : Table} (h : bTab x tr = some t) : Mk.cnt t ≤ 64000 := by
  obtain ⟨h1, h2, h3, -, h5, h6, h7⟩ := bTab_facts h
  have h8 := (trackB_iff.1 h2).2.len
  have h9 := (validPz_facts h1).2.1
  have ha : tr.length ≤ 20 := by omega
  have hb : Mk.cnt t.patterns ≤ t.patterns.length * 20 := cntL_rows fun q hq => by rw [h7 q hq]; exact ha
  have hc : Mk.cnt t.distances = t.distances.length := cntL_ints _
  have hd : Mk.cnt t.tracked = tr.length := by rw [← h3]; exact cntL_ints _
  have he : Mk.cnt t = Mk.cnt t.tracked + (Mk.cnt t.patterns + Mk.cnt t.distances) := by simp only [Mk.cnt]; omega
  simp only at h5 h6
  omega
end Go.Proofs.Ytpfmkjcngknecaa

namespace Go.Proofs.Ytpfmkjcngknecaa
open Go.RowKit
set_option maxRecDepth 10000

theorem bTabsK_cnt {x : Puzzle} : ∀ {trs : List (List Int)} {ts : List Table}, bTabsK x trs = some ts → Mk.cnt ts ≤ trs.length * 64000
  | [], ts, h => by unfold bTabsK at h; injection h with h; subst h; simp [Mk.cnt, cntL]
  | tr :: trs, ts, h => by
    unfold bTabsK at h
    rw [Option.bind_eq_some_iff] at h
    obtain ⟨t, e1, e2⟩ := h
    rw [Option.map_eq_some_iff] at e2
    obtain ⟨ts', e3, e4⟩ := e2
    subst e4
    have h1 := bTab_cnt e1
    have h2 := bTabsK_cnt e3
    show cntL (t :: ts') ≤ _
    simp only [cntL, List.length_cons]
    have : Mk.cnt ts' = cntL ts' := rfl
    rw [Nat.add_mul]
    omega
theorem bTabs_cnt (x : Puzzle) (trs : List (List Int)) : Mk.cnt ((bTabs x trs).getD []) ≤ 256000 := by
  unfold bTabs
  rcases hq : inR trs.length 1 4
  · simp [Mk.cnt, cntL]
  · obtain ⟨q1, q2⟩ := inR_iff.1 hq
    rcases hb : bTabsK x trs with _ | ts
    · simp [Mk.cnt, cntL]
    · have := bTabsK_cnt hb
      simp only [if_true, Option.getD]
      have : trs.length * 64000 ≤ 4 * 64000 := Nat.mul_le_mul_right _ (by omega)
      omega
theorem sm_rows {l : List (List Int)} (h : Sm.sm l) : ∀ y ∈ l, y.length ≤ 2097152 := by
  intro y hy
  obtain ⟨-, h2⟩ := h
  exact (h2 y hy).1
set_option maxHeartbeats 4000000 in
theorem FnExactBuildTables_any (w : World) (caP : List Value) (aP : Puzzle) (faP : List Nat) (raP : Rp.rep w caP aP faP) (vaTrackedSets : Value) (aTrackedSets : List (List Int)) (faTrackedSets : List Nat) (raTrackedSets : Rd w vaTrackedSets aTrackedSets faTrackedSets) :
    Calls Try.prog 6 #[.agg caP.toArray, vaTrackedSets] w fun e w' => e = .returned (.bool true) ∧ Only [] w w' := by
  have qaP := raP
  obtain ⟨uaP2, rfl, -, -, zaP2⟩ := qaP
  obtain ⟨AaP2, CaP2, _, _, rfl, -⟩ := zaP2.open_
  have LaP := Rp.lt raP
  obtain ⟨AaTrackedSets, CaTrackedSets, _, _, rfl, -⟩ := raTrackedSets.open_
  have LaTrackedSets := Rp.lt raTrackedSets
  have hbaTrackedSets : aTrackedSets.length ≤ 9223372036854775807 := by obtain ⟨_, _, _, _, hq, -, hs⟩ := raTrackedSets.open_; have := hs.bound; exact this
  rcases szV_cases (1048576) aP with ⟨esaP, msaP⟩ | ⟨esaP, psaP, msaP⟩
  · go_enter Try.func6, Try.ntmps6
    go_wp2_with (with_reducible refine (szPuzzle_any [.int .i64 aP.points, .string aP.names, .slice AaP2 aP.moves.length CaP2] aP _ (1048576) _ (Rp.keep raP ((Only.refl [] _).alloc (.cells #[.int .i64 aP.points, .string aP.names, .slice AaP2 aP.moves.length CaP2] 24))) (by omega) (by omega)).mono ?_; rintro e w1 ⟨rfl, t0⟩)
    go_ret
    exact ⟨rfl, (by with_reducible repeat (first | exact Only.refl _ _ | assumption | refine Only.drewN ?_ _ | refine Only.drew ?_ | refine Only.alloc ?_ _ | refine Only.setCell ?_ (by intro hh; exfalso; simp at hh; try omega) _ | refine Only.trans ?_ (by assumption)))⟩
  have smaP : Sm.sm aP := SzSm.of_ _ (by omega)
  have csaP : Mk.cnt aP ≤ 1048576 := Nat.le_trans (CntSz.le aP) (by omega)
  rcases szV_cases (1048576 - (Sz.sz aP : Nat)) aTrackedSets with ⟨esaTrackedSets, msaTrackedSets⟩ | ⟨esaTrackedSets, psaTrackedSets, msaTrackedSets⟩
  · go_enter Try.func6, Try.ntmps6
    go_wp2_with fail
    with_reducible refine (szPuzzle_any [.int .i64 aP.points, .string aP.names, .slice AaP2 aP.moves.length CaP2] aP _ (1048576) _ (Rp.keep raP ((Only.refl [] _).alloc (.cells #[.int .i64 aP.points, .string aP.names, .slice AaP2 aP.moves.length CaP2] 24))) (by omega) (by omega)).mono ?_
    rintro e w1 ⟨rfl, t0⟩
    rw [esaP]
    have T0 : Only [] w w1 := ((Only.refl [] _).alloc (.cells #[.int .i64 aP.points, .string aP.names, .slice AaP2 aP.moves.length CaP2] 24)).trans t0
    have S0 : w.heap.size + 1 ≤ w1.heap.size := by have := t0.size; simp at this; omega
    have BaP : Blk w1 w.heap.size [.int .i64 aP.points, .string aP.names, .slice AaP2 aP.moves.length CaP2] := (Blk.keep (Blk.new_at (by simp)) t0)
    have LBaP : w.heap.size < w1.heap.size := BaP.lt
    have HBaP := Lib.hid BaP; clear BaP
    go_wp2_with (with_reducible refine (szInt64SS_rd (.slice AaTrackedSets aTrackedSets.length CaTrackedSets) aTrackedSets _ (1048576 - (Sz.sz aP : Nat)) _ (Rp.keep raTrackedSets T0) (by omega) (by omega)).mono ?_; rintro e w2 ⟨rfl, d1⟩)
    go_ret
    have t1 := d1.only []
    exact ⟨rfl, (by with_reducible repeat (first | exact Only.refl _ _ | assumption | refine Only.drewN ?_ _ | refine Only.drew ?_ | refine Only.alloc ?_ _ | refine Only.setCell ?_ (by intro hh; exfalso; simp at hh; try omega) _ | refine Only.trans ?_ (by assumption)))⟩
  have smaTrackedSets : Sm.sm aTrackedSets := SzSm.of_ _ (by omega)
  have csaTrackedSets : Mk.cnt aTrackedSets ≤ 1048576 := Nat.le_trans (CntSz.le aTrackedSets) (by omega)
  have hcnt := bTabs_cnt aP aTrackedSets
  go_enter Try.func6, Try.ntmps6
  go_wp2_with fail
  with_reducible refine (szPuzzle_any [.int .i64 aP.points, .string aP.names, .slice AaP2 aP.moves.length CaP2] aP _ (1048576) _ (Rp.keep raP ((Only.refl [] _).alloc (.cells #[.int .i64 aP.points, .string aP.names, .slice AaP2 aP.moves.length CaP2] 24))) (by omega) (by omega)).mono ?_
  rintro e w1 ⟨rfl, t0⟩
  rw [esaP]
  have T0 : Only [] w w1 := ((Only.refl [] _).alloc (.cells #[.int .i64 aP.points, .string aP.names, .slice AaP2 aP.moves.length CaP2] 24)).trans t0
  have S0 : w.heap.size + 1 ≤ w1.heap.size := by have := t0.size; simp at this; omega
  have BaP : Blk w1 w.heap.size [.int .i64 aP.points, .string aP.names, .slice AaP2 aP.moves.length CaP2] := (Blk.keep (Blk.new_at (by simp)) t0)
  have LBaP : w.heap.size < w1.heap.size := BaP.lt
  have HBaP := Lib.hid BaP; clear BaP
  go_wp2_with fail
  with_reducible refine (szInt64SS_rd (.slice AaTrackedSets aTrackedSets.length CaTrackedSets) aTrackedSets _ (1048576 - (Sz.sz aP : Nat)) _ (Rp.keep raTrackedSets T0) (by omega) (by omega)).mono ?_
  rintro e w2 ⟨rfl, d1⟩
  have t1 := d1.only []
  rw [esaTrackedSets]
  have T1 : Only [] w1 w2 := t1
  have S1 : w1.heap.size + 0 ≤ w2.heap.size := by have := T1.size; omega
  have caP_2_0 := ((Blk.keep HBaP.out T1)).cell 0 rfl
  have caP_2_1 := ((Blk.keep HBaP.out T1)).cell 1 rfl
  have caP_2_2 := ((Blk.keep HBaP.out T1)).cell 2 rfl
  go_wp2_with fail
  with_reducible refine (toPuzzle_any [.int .i64 aP.points, .string aP.names, .slice AaP2 aP.moves.length CaP2] aP _ _ (Rp.keep (Rp.keep raP T0) T1) smaP).mono ?_
  rintro e w3 ⟨u1, f1, rfl, r1, F1, t2⟩
  have T2 : Only [] w2 w3 := t2
  have S2 : w2.heap.size + 0 ≤ w3.heap.size := by have := T2.size; omega
  clear caP_2_0 caP_2_1 caP_2_2
  have q1 := r1
  obtain ⟨u12, rfl, -, -, z12⟩ := q1
  obtain ⟨A12, C12, _, _, rfl, -⟩ := z12.open_
  have L1 := Rp.lt r1
  have G1 : ∀ b ∈ f1, w2.heap.size ≤ b := fun b hb => by have := F1.ge b hb; omega
  go_wp2_with fail
  with_reducible refine (toInt64SS_sm (.slice AaTrackedSets aTrackedSets.length CaTrackedSets) aTrackedSets _ _ (Rp.keep (Rp.keep (Rp.keep raTrackedSets T0) T1) T2) smaTrackedSets).mono ?_
  rintro e w4 ⟨v2, f2, rfl, r2, F2, t3⟩
  have T3 : Only [] w3 w4 := t3
  have S3 : w3.heap.size + 0 ≤ w4.heap.size := by have := T3.size; omega
  have L2 := Rp.lt r2
  have G2 : ∀ b ∈ f2, w3.heap.size ≤ b := fun b hb => by have := F2.ge b hb; omega
  go_wp2_with fail
  with_reducible refine (specBuildTables_any [.int .i64 aP.points, .string aP.names, .slice A12 aP.moves.length C12] aP _ v2 aTrackedSets _ _ (Rp.keep r1 T3) r2 (sm_rows smaTrackedSets)).mono ?_
  rintro e w5 ⟨v3, f3, rfl, r3, F3, t4⟩
  have T4 : Only [] w4 w5 := t4
  have S4 : w4.heap.size + 0 ≤ w5.heap.size := by have := T4.size; omega
  have L3 := Rp.lt r3
  have G3 : ∀ b ∈ f3, w4.heap.size ≤ b := fun b hb => by have := F3.ge b hb; omega
  have caP_5_0 := ((Blk.keep (Blk.keep (Blk.keep (Blk.keep HBaP.out T1) T2) T3) T4)).cell 0 rfl
  have caP_5_1 := ((Blk.keep (Blk.keep (Blk.keep (Blk.keep HBaP.out T1) T2) T3) T4)).cell 1 rfl
  have caP_5_2 := ((Blk.keep (Blk.keep (Blk.keep (Blk.keep HBaP.out T1) T2) T3) T4)).cell 2 rfl
  go_wp2_with fail
  with_reducible refine (toPuzzle_any [.int .i64 aP.points, .string aP.names, .slice AaP2 aP.moves.length CaP2] aP _ _ (Rp.keep (Rp.keep (Rp.keep (Rp.keep (Rp.keep raP T0) T1) T2) T3) T4) smaP).mono ?_
  rintro e w6 ⟨u4, f4, rfl, r4, F4, t5⟩
  have T5 : Only [] w5 w6 := t5
  have S5 : w5.heap.size + 0 ≤ w6.heap.size := by have := T5.size; omega
  clear caP_5_0 caP_5_1 caP_5_2
  have q4 := r4
  obtain ⟨u42, rfl, -, -, z42⟩ := q4
  obtain ⟨A42, C42, _, _, rfl, -⟩ := z42.open_
  have L4 := Rp.lt r4
  have G4 : ∀ b ∈ f4, w5.heap.size ≤ b := fun b hb => by have := F4.ge b hb; omega
  go_wp2_with fail
  with_reducible refine (toInt64SS_sm (.slice AaTrackedSets aTrackedSets.length CaTrackedSets) aTrackedSets _ _ (Rp.keep (Rp.keep (Rp.keep (Rp.keep (Rp.keep (Rp.keep (Rp.keep raTrackedSets T0) T1) T2) T3) T4) T5) ((Only.refl [] _).alloc (.cells #[.int .i64 aP.points, .string aP.names, .slice A42 aP.moves.length C42] 30))) smaTrackedSets).mono ?_
  rintro e w7 ⟨v5, f5, rfl, r5, F5, t6⟩
  have T6 : Only [] w6 w7 := ((Only.refl [] _).alloc (.cells #[.int .i64 aP.points, .string aP.names, .slice A42 aP.moves.length C42] 30)).trans t6
  have S6 : w6.heap.size + 1 ≤ w7.heap.size := by have := t6.size; simp at this; omega
  have B4 : Blk w7 w6.heap.size [.int .i64 aP.points, .string aP.names, .slice A42 aP.moves.length C42] := (Blk.keep (Blk.new_at (by simp)) t6)
  have LB4 : w6.heap.size < w7.heap.size := B4.lt
  have HB4 := Lib.hid B4; clear B4
  have L5 := Rp.lt r5
  have G5 : ∀ b ∈ f5, w6.heap.size + 1 ≤ b := fun b hb => by have := F5.ge b hb; simp at this; omega
  have c4_7_0 := (HB4.out).cell 0 rfl
  have c4_7_1 := (HB4.out).cell 1 rfl
  have c4_7_2 := (HB4.out).cell 2 rfl
  go_wp2_with fail
  with_reducible refine (implBuildTables_any [.int .i64 aP.points, .string aP.names, .slice A42 aP.moves.length C42] aP _ v5 aTrackedSets _ _ (Rp.keep r4 T6) r5 (sm_rows smaTrackedSets)).mono ?_
  rintro e w8 ⟨v6, f6, rfl, r6, F6, t7⟩
  have T7 : Only [] w7 w8 := t7
  have S7 : w7.heap.size + 0 ≤ w8.heap.size := by have := T7.size; omega
  clear c4_7_0 c4_7_1 c4_7_2
  have L6 := Rp.lt r6
  have G6 : ∀ b ∈ f6, w7.heap.size ≤ b := fun b hb => by have := F6.ge b hb; omega
  have e8 : eqV ((bTabs aP aTrackedSets).getD []) ((bTabs aP aTrackedSets).getD []) = true := eqV_yes rfl
  go_wp2_with fail
  with_reducible refine (eqTableS_rd v6 v3 ((bTabs aP aTrackedSets).getD []) ((bTabs aP aTrackedSets).getD []) _ _ _ r6 (Rp.keep (Rp.keep (Rp.keep r3 T5) T6) T7)).mono ?_
  rintro e w9 ⟨rfl, t8⟩
  have T8 : Only [] w8 w9 := t8
  have S8 : w8.heap.size + 0 ≤ w9.heap.size := by have := T8.size; omega
  go_upto_region 14 with fail
  have e10 : eqV aP aP = true := eqV_yes rfl
  go_region_held3 (fun w' => Only [] w9 w' ∧ w'.cell? ⟨w6.heap.size, 0, none⟩ = some (.int .i64 aP.points) ∧ w'.cell? ⟨w6.heap.size, 1, none⟩ = some (.string aP.names) ∧ w'.cell? ⟨w6.heap.size, 2, none⟩ = some (.slice A42 aP.moves.length C42) ∧ w'.cell? ⟨w.heap.size, 0, none⟩ = some (.int .i64 aP.points) ∧ w'.cell? ⟨w.heap.size, 1, none⟩ = some (.string aP.names) ∧ w'.cell? ⟨w.heap.size, 2, none⟩ = some (.slice AaP2 aP.moves.length CaP2)) ((refine and_of ?_ (fun h__ => ⟨(Blk.keep (Blk.keep (Blk.keep HB4.out T7) T8) h__).cell 0 rfl, (Blk.keep (Blk.keep (Blk.keep HB4.out T7) T8) h__).cell 1 rfl, (Blk.keep (Blk.keep (Blk.keep HB4.out T7) T8) h__).cell 2 rfl, (Blk.keep (Blk.keep (Blk.keep (Blk.keep (Blk.keep (Blk.keep (Blk.keep (Blk.keep (Blk.keep HBaP.out T1) T2) T3) T4) T5) T6) T7) T8) h__).cell 0 rfl, (Blk.keep (Blk.keep (Blk.keep (Blk.keep (Blk.keep (Blk.keep (Blk.keep (Blk.keep (Blk.keep HBaP.out T1) T2) T3) T4) T5) T6) T7) T8) h__).cell 1 rfl, (Blk.keep (Blk.keep (Blk.keep (Blk.keep (Blk.keep (Blk.keep (Blk.keep (Blk.keep (Blk.keep HBaP.out T1) T2) T3) T4) T5) T6) T7) T8) h__).cell 2 rfl⟩); first | exact (Only.refl _ _).drew | exact Only.trans (And.left (by assumption)) (by assumption))) (first
    | (go_at_call 22; (with_reducible refine (toPuzzle_any [.int .i64 aP.points, .string aP.names, .slice AaP2 aP.moves.length CaP2] aP _ _ (Rp.keep (Rp.keep (Rp.keep (Rp.keep (Rp.keep (Rp.keep (Rp.keep (Rp.keep (Rp.keep (Rp.keep raP T0) T1) T2) T3) T4) T5) T6) T7) T8) (And.left (by assumption))) smaP).mono ?_); rintro e w10 ⟨u7, f7, rfl, r7, F7, t9⟩)
    | (go_at_call 26; (with_reducible refine (eqPuzzle_any [.int .i64 aP.points, .string aP.names, .slice A42 aP.moves.length C42] u7 aP aP _ _ _ (Rp.keep (Rp.keep (Rp.keep (Rp.keep r4 T6) T7) T8) (And.left (by assumption))) (Rp.keep r7 (by first | exact Only.refl _ _ | assumption | exact Only.trans (by assumption) (by assumption)))).mono ?_); rintro e w11 ⟨rfl, t10⟩)
    | fail "no arm")
  have T9 : Only [] w9 w10 := ((Only.refl _ _).drew).trans t9
  have S9 : w9.heap.size + 0 ≤ w10.heap.size := by have := T9.size; omega
  have L7 := Rp.lt r7
  have G7 : ∀ b ∈ f7, w9.heap.size ≤ b := fun b hb => by have := F7.ge b hb; first | omega | (simp at this; omega)
  have T10 : Only [] w10 w11 := t10
  have S10 : w10.heap.size + 0 ≤ w11.heap.size := by have := T10.size; omega
  go_wp2_with fail
  with_reducible refine (toInt64SS_sm (.slice AaTrackedSets aTrackedSets.length CaTrackedSets) aTrackedSets _ _ (Rp.keep (Rp.keep (Rp.keep (Rp.keep (Rp.keep (Rp.keep (Rp.keep (Rp.keep (Rp.keep (Rp.keep (Rp.keep raTrackedSets T0) T1) T2) T3) T4) T5) T6) T7) T8) T9) T10) smaTrackedSets).mono ?_
  rintro e w12 ⟨v8, f8, rfl, r8, F8, t11⟩
  have T11 : Only [] w11 w12 := t11
  have S11 : w11.heap.size + 0 ≤ w12.heap.size := by have := T11.size; omega
  have L8 := Rp.lt r8
  have G8 : ∀ b ∈ f8, w11.heap.size ≤ b := fun b hb => by have := F8.ge b hb; omega
  have e12 : eqV aTrackedSets aTrackedSets = true := eqV_yes rfl
  go_wp2_with fail
  with_reducible refine (eqInt64SS_rd v5 v8 aTrackedSets aTrackedSets _ _ _ (Rp.keep (Rp.keep (Rp.keep (Rp.keep (Rp.keep r5 T7) T8) T9) T10) T11) r8).mono ?_
  rintro e w13 ⟨rfl, d12⟩
  have t12 := d12.only []
  have T12 : Only [] w12 w13 := t12
  have S12 : w12.heap.size + 0 ≤ w13.heap.size := by have := T12.size; omega
  have c4_13_0 := ((Blk.keep (Blk.keep (Blk.keep (Blk.keep (Blk.keep (Blk.keep HB4.out T7) T8) T9) T10) T11) T12)).cell 0 rfl
  have c4_13_1 := ((Blk.keep (Blk.keep (Blk.keep (Blk.keep (Blk.keep (Blk.keep HB4.out T7) T8) T9) T10) T11) T12)).cell 1 rfl
  have c4_13_2 := ((Blk.keep (Blk.keep (Blk.keep (Blk.keep (Blk.keep (Blk.keep HB4.out T7) T8) T9) T10) T11) T12)).cell 2 rfl
  have m13 : (1 : Int) + (Mk.cnt aP : Nat) ≤ 4611686018427387904 := by omega
  go_wp2_with fail
  with_reducible refine (markPuzzle_any [.int .i64 aP.points, .string aP.names, .slice A42 aP.moves.length C42] aP f4 (1) _ (Rp.keep (Rp.keep (Rp.keep (Rp.keep (Rp.keep (Rp.keep (Rp.keep r4 T6) T7) T8) T9) T10) T11) T12) F4.nd (Own.keep (Own.keep (Own.keep (Own.keep (Own.keep (Own.keep (Own.keep F4.own T6) T7) T8) T9) T10) T11) T12) (by omega) m13).mono ?_
  rintro e w14 ⟨rfl, rr13, oo13, t13⟩
  have T13 : Only f4 w13 w14 := t13
  have S13 : w13.heap.size + 0 ≤ w14.heap.size := by have := T13.size; omega
  clear c4_13_0 c4_13_1 c4_13_2
  clear r4
  have r4 := rr13
  have O4 := oo13
  have m14 : (1 + (Mk.cnt aP : Nat) : Int) + (Mk.cnt aTrackedSets : Nat) ≤ 4611686018427387904 := by omega
  go_wp2_with fail
  with_reducible refine (markInt64SS_rd v5 aTrackedSets f5 (1 + (Mk.cnt aP : Nat)) _ (Rp.only (Rp.keep (Rp.keep (Rp.keep (Rp.keep (Rp.keep (Rp.keep r5 T7) T8) T9) T10) T11) T12) T13 (fun b hb hm => by have := G5 b hb; have := L4 b hm; omega)) F5.nd (Own.only (Own.keep (Own.keep (Own.keep (Own.keep (Own.keep (Own.keep F5.own T7) T8) T9) T10) T11) T12) T13 (fun b hb hm => by have := G5 b hb; have := L4 b hm; omega)) (by omega) m14).mono ?_
  rintro e w15 ⟨rfl, rr14, oo14, t14⟩
  have T14 : Only f5 w14 w15 := t14
  have S14 : w14.heap.size + 0 ≤ w15.heap.size := by have := T14.size; omega
  clear r5
  have r5 := rr14
  have O5 := oo14
  have e15 : eqV ((bTabs aP aTrackedSets).getD []) ((bTabs aP aTrackedSets).getD []) = true := eqV_yes rfl
  go_wp2_with fail
  with_reducible refine (eqTableS_rd v6 v3 ((bTabs aP aTrackedSets).getD []) ((bTabs aP aTrackedSets).getD []) _ _ _ (Rp.only (Rp.only (Rp.keep (Rp.keep (Rp.keep (Rp.keep (Rp.keep r6 T8) T9) T10) T11) T12) T13 (fun b hb hm => by have := G6 b hb; have := L4 b hm; omega)) T14 (fun b hb hm => by have := G6 b hb; have := L5 b hm; omega)) (Rp.only (Rp.only (Rp.keep (Rp.keep (Rp.keep (Rp.keep (Rp.keep (Rp.keep (Rp.keep (Rp.keep r3 T5) T6) T7) T8) T9) T10) T11) T12) T13 (fun b hb hm => by have := L3 b hb; have := G4 b hm; omega)) T14 (fun b hb hm => by have := L3 b hb; have := G5 b hm; omega))).mono ?_
  rintro e w16 ⟨rfl, t15⟩
  have T15 : Only [] w15 w16 := t15
  have S15 : w15.heap.size + 0 ≤ w16.heap.size := by have := T15.size; omega
  have m16 : (1 : Int) + (Mk.cnt ((bTabs aP aTrackedSets).getD []) : Nat) ≤ 4611686018427387904 := by omega
  go_wp2_with fail
  with_reducible refine (markTableS_rd v6 ((bTabs aP aTrackedSets).getD []) f6 (1) _ (Rp.keep (Rp.only (Rp.only (Rp.keep (Rp.keep (Rp.keep (Rp.keep (Rp.keep r6 T8) T9) T10) T11) T12) T13 (fun b hb hm => by have := G6 b hb; have := L4 b hm; omega)) T14 (fun b hb hm => by have := G6 b hb; have := L5 b hm; omega)) T15) F6.nd (Own.keep (Own.only (Own.only (Own.keep (Own.keep (Own.keep (Own.keep (Own.keep F6.own T8) T9) T10) T11) T12) T13 (fun b hb hm => by have := G6 b hb; have := L4 b hm; omega)) T14 (fun b hb hm => by have := G6 b hb; have := L5 b hm; omega)) T15) (by omega) m16).mono ?_
  rintro e w17 ⟨rfl, rr16, oo16, t16⟩
  have T16 : Only f6 w16 w17 := t16
  have S16 : w16.heap.size + 0 ≤ w17.heap.size := by have := T16.size; omega
  clear r6
  have r6 := rr16
  have O6 := oo16
  have h17 : heldV (1) (Mk.mark (1) ((bTabs aP aTrackedSets).getD [])) = 1 + (Mk.cnt ((bTabs aP aTrackedSets).getD []) : Nat) := heldV_mark (1) ((bTabs aP aTrackedSets).getD [])
  have m17 : (1 : Int) + (Mk.cnt (Mk.mark (1) ((bTabs aP aTrackedSets).getD [])) : Nat) ≤ 4611686018427387904 := by rw [MkL.cnt]; omega
  go_wp2_with fail
  with_reducible refine (heldTableS_rd v6 (Mk.mark (1) ((bTabs aP aTrackedSets).getD [])) _ (1) _ r6 (by omega) m17).mono ?_
  rintro e w18 ⟨rfl, t17⟩
  have T17 : Only [] w17 w18 := t17
  have S17 : w17.heap.size + 0 ≤ w18.heap.size := by have := T17.size; omega
  have caP_18_0 := ((Blk.keep (Blk.only (Blk.keep (Blk.only (Blk.only (Blk.keep (Blk.keep (Blk.keep (Blk.keep (Blk.keep (Blk.keep (Blk.keep (Blk.keep (Blk.keep (Blk.keep (Blk.keep (Blk.keep HBaP.out T1) T2) T3) T4) T5) T6) T7) T8) T9) T10) T11) T12) T13 (fun hm => by have := G4 _ hm; have := LBaP; omega)) T14 (fun hm => by have := G5 _ hm; have := LBaP; omega)) T15) T16 (fun hm => by have := G6 _ hm; have := LBaP; omega)) T17)).cell 0 rfl
  have caP_18_1 := ((Blk.keep (Blk.only (Blk.keep (Blk.only (Blk.only (Blk.keep (Blk.keep (Blk.keep (Blk.keep (Blk.keep (Blk.keep (Blk.keep (Blk.keep (Blk.keep (Blk.keep (Blk.keep (Blk.keep HBaP.out T1) T2) T3) T4) T5) T6) T7) T8) T9) T10) T11) T12) T13 (fun hm => by have := G4 _ hm; have := LBaP; omega)) T14 (fun hm => by have := G5 _ hm; have := LBaP; omega)) T15) T16 (fun hm => by have := G6 _ hm; have := LBaP; omega)) T17)).cell 1 rfl
  have caP_18_2 := ((Blk.keep (Blk.only (Blk.keep (Blk.only (Blk.only (Blk.keep (Blk.keep (Blk.keep (Blk.keep (Blk.keep (Blk.keep (Blk.keep (Blk.keep (Blk.keep (Blk.keep (Blk.keep (Blk.keep HBaP.out T1) T2) T3) T4) T5) T6) T7) T8) T9) T10) T11) T12) T13 (fun hm => by have := G4 _ hm; have := LBaP; omega)) T14 (fun hm => by have := G5 _ hm; have := LBaP; omega)) T15) T16 (fun hm => by have := G6 _ hm; have := LBaP; omega)) T17)).cell 2 rfl
  go_wp2_with fail
  with_reducible refine (toPuzzle_any [.int .i64 aP.points, .string aP.names, .slice AaP2 aP.moves.length CaP2] aP _ _ (Rp.keep (Rp.only (Rp.keep (Rp.only (Rp.only (Rp.keep (Rp.keep (Rp.keep (Rp.keep (Rp.keep (Rp.keep (Rp.keep (Rp.keep (Rp.keep (Rp.keep (Rp.keep (Rp.keep (Rp.keep raP T0) T1) T2) T3) T4) T5) T6) T7) T8) T9) T10) T11) T12) T13 (fun b hb hm => by have := LaP b hb; have := G4 b hm; omega)) T14 (fun b hb hm => by have := LaP b hb; have := G5 b hm; omega)) T15) T16 (fun b hb hm => by have := LaP b hb; have := G6 b hm; omega)) T17) smaP).mono ?_
  rintro e w19 ⟨u9, f9, rfl, r9, F9, t18⟩
  have T18 : Only [] w18 w19 := t18
  have S18 : w18.heap.size + 0 ≤ w19.heap.size := by have := T18.size; omega
  clear caP_18_0 caP_18_1 caP_18_2
  have q9 := r9
  obtain ⟨u92, rfl, -, -, z92⟩ := q9
  obtain ⟨A92, C92, _, _, rfl, -⟩ := z92.open_
  have L9 := Rp.lt r9
  have G9 : ∀ b ∈ f9, w18.heap.size ≤ b := fun b hb => by have := F9.ge b hb; omega
  go_wp2_with fail
  with_reducible refine (toInt64SS_sm (.slice AaTrackedSets aTrackedSets.length CaTrackedSets) aTrackedSets _ _ (Rp.keep (Rp.keep (Rp.only (Rp.keep (Rp.only (Rp.only (Rp.keep (Rp.keep (Rp.keep (Rp.keep (Rp.keep (Rp.keep (Rp.keep (Rp.keep (Rp.keep (Rp.keep (Rp.keep (Rp.keep (Rp.keep raTrackedSets T0) T1) T2) T3) T4) T5) T6) T7) T8) T9) T10) T11) T12) T13 (fun b hb hm => by have := LaTrackedSets b hb; have := G4 b hm; omega)) T14 (fun b hb hm => by have := LaTrackedSets b hb; have := G5 b hm; omega)) T15) T16 (fun b hb hm => by have := LaTrackedSets b hb; have := G6 b hm; omega)) T17) T18) smaTrackedSets).mono ?_
  rintro e w20 ⟨v10, f10, rfl, r10, F10, t19⟩
  have T19 : Only [] w19 w20 := t19
  have S19 : w19.heap.size + 0 ≤ w20.heap.size := by have := T19.size; omega
  have L10 := Rp.lt r10
  have G10 : ∀ b ∈ f10, w19.heap.size ≤ b := fun b hb => by have := F10.ge b hb; omega
  go_wp2_with fail
  with_reducible refine (implBuildTables_any [.int .i64 aP.points, .string aP.names, .slice A92 aP.moves.length C92] aP _ v10 aTrackedSets _ _ (Rp.keep r9 T19) r10 (sm_rows smaTrackedSets)).mono ?_
  rintro e w21 ⟨v11, f11, rfl, r11, F11, t20⟩
  have T20 : Only [] w20 w21 := t20
  have S20 : w20.heap.size + 0 ≤ w21.heap.size := by have := T20.size; omega
  have L11 := Rp.lt r11
  have G11 : ∀ b ∈ f11, w20.heap.size ≤ b := fun b hb => by have := F11.ge b hb; omega
  have e21 : eqV ((bTabs aP aTrackedSets).getD []) ((bTabs aP aTrackedSets).getD []) = true := eqV_yes rfl
  go_wp2_with fail
  with_reducible refine (eqTableS_rd v11 v3 ((bTabs aP aTrackedSets).getD []) ((bTabs aP aTrackedSets).getD []) _ _ _ r11 (Rp.keep (Rp.keep (Rp.keep (Rp.keep (Rp.only (Rp.keep (Rp.only (Rp.only (Rp.keep (Rp.keep (Rp.keep (Rp.keep (Rp.keep (Rp.keep (Rp.keep (Rp.keep r3 T5) T6) T7) T8) T9) T10) T11) T12) T13 (fun b hb hm => by have := L3 b hb; have := G4 b hm; omega)) T14 (fun b hb hm => by have := L3 b hb; have := G5 b hm; omega)) T15) T16 (fun b hb hm => by have := L3 b hb; have := G6 b hm; omega)) T17) T18) T19) T20)).mono ?_
  rintro e w22 ⟨rfl, t21⟩
  have T21 : Only [] w21 w22 := t21
  have S21 : w21.heap.size + 0 ≤ w22.heap.size := by have := T21.size; omega
  have h22 : heldV (1) (Mk.mark (1) ((bTabs aP aTrackedSets).getD [])) = 1 + (Mk.cnt ((bTabs aP aTrackedSets).getD []) : Nat) := heldV_mark (1) ((bTabs aP aTrackedSets).getD [])
  have m22 : (1 : Int) + (Mk.cnt (Mk.mark (1) ((bTabs aP aTrackedSets).getD [])) : Nat) ≤ 4611686018427387904 := by rw [MkL.cnt]; omega
  go_wp2_with fail
  with_reducible refine (heldTableS_rd v6 (Mk.mark (1) ((bTabs aP aTrackedSets).getD [])) _ (1) _ (Rp.keep (Rp.keep (Rp.keep (Rp.keep (Rp.keep r6 T17) T18) T19) T20) T21) (by omega) m22).mono ?_
  rintro e w23 ⟨rfl, t22⟩
  have T22 : Only [] w22 w23 := t22
  have S22 : w22.heap.size + 0 ≤ w23.heap.size := by have := T22.size; omega
  go_wp2
  go_ret
  refine ⟨rfl, ?_⟩
  exact (Only.keepThen (Only.keepThen (Only.keepThen (Only.keepThen (Only.keepThen (Only.keepThen (Only.then_ (Only.keepThen (Only.then_ (Only.then_ (Only.keepThen (Only.keepThen (Only.keepThen (Only.keepThen (Only.keepThen (Only.keepThen (Only.keepThen (Only.keepThen (Only.keepThen (Only.keepThen (Only.keepThen (Only.keepThen T0 T1) T2) T3) T4) T5) T6) T7) T8) T9) T10) T11) T12) T13 (fun b hb hl => by have := G4 b hb; omega)) T14 (fun b hb hl => by have := G5 b hb; omega)) T15) T16 (fun b hb hl => by have := G6 b hb; omega)) T17) T18) T19) T20) T21) T22)
end Go.Proofs.Ytpfmkjcngknecaa

namespace Go.Proofs.Ytpfmkjcngknecaa
open Go.RowKit Go.ChangeShapes Go.WideShapes Go.ChangeAt Go.Deep
set_option maxRecDepth 10000

theorem spot_of_cell {w : World} {a : Addr} {v : Value} (h : w.cell? a = some v) : a.spot = none := by
  unfold World.cell? at h
  split at h
  · split at h
    · cases h
    · rename_i hs; simpa using hs
  · cases h
section
variable {H : Type} {enc : TypeId × Value → H} {P : Program} {W : World} {sp : Nat → Bool} {hd : Bool}
theorem conv_int {t : TypeId} (ht : P.underlying t = some (.int .i64)) (fuel : Nat) (cs : List Value) (x : DataW H × List MemPlace) (h : DataW.trod enc P W 0 sp hd fuel t cs = some x) :
    ∃ (d : Int) (fp : List Nat), Rp.rep W cs d fp := by
  obtain ⟨n, rfl, -, hw⟩ := DataW.trod_int ht h
  refine ⟨n, [], rfl, ?_, rfl⟩
  have : (-9223372036854775808 : Int) ≤ n ∧ n ≤ 9223372036854775807 := by simpa [Lit.wf, IntKind.min, IntKind.max, IntKind.signed, IntKind.bits] using hw
  exact this
theorem conv_slice {t e : TypeId} {α : Type} [Rp α] [Inhabited α] (ht : P.underlying t = some (.slice e)) (hs : P.cellsOf e = Rp.size α) (hp : 0 < Rp.size α)
    (hE : ∀ fuel cs x, DataW.trod enc P W 0 sp hd fuel e cs = some x → ∃ (d : α) (fp : List Nat), Rp.rep W cs d fp)
    (fuel : Nat) (cs : List Value) (x : DataW H × List MemPlace) (h : DataW.trod enc P W 0 sp hd fuel t cs = some x) :
    ∃ (l : List α) (fp : List Nat), Rp.rep W cs l fp := by
  rcases open_slice ht h with ⟨rfl, -⟩ | ⟨a, len, cap, m, n, D, Pl, rfl, -, hl, hm, hmm, -, hi⟩
  · exact ⟨[], [], none, 0, [], [], rfl, rfl, SeqA.nil W none (by simp [maxLen])⟩
  · have hml : len ≤ m := by rw [hmm]; split <;> omega
    have hch : ∀ i, ∃ p : α × List Nat, i < len → ∃ cs', W.cells? 0 (a.add (i * P.cellsOf e)) (P.cellsOf e) = some cs' ∧ Rp.rep W cs' p.1 p.2 := by
      intro i
      by_cases hlt : i < len
      · obtain ⟨cs', hc, ht'⟩ := hi i (by omega)
        obtain ⟨d, fp, hr⟩ := hE _ _ _ ht'
        exact ⟨(d, fp), fun _ => ⟨cs', hc, hr⟩⟩
      · exact ⟨(default, []), fun hh => absurd hh hlt⟩
    obtain ⟨f, hf⟩ := Classical.axiomOfChoice hch
    rcases Nat.eq_zero_or_pos len with h0 | h0
    · subst h0
      exact ⟨[], [], some a, cap, [], [], rfl, rfl, SeqA.nil W _ hm⟩
    · obtain ⟨cs0, hc0, -⟩ := hf 0 h0
      obtain ⟨-, -, hcell0⟩ := World.cells?_some hc0
      rw [hs] at hcell0 hc0
      have hz := hcell0 0 hp
      have hadd0 : (a.add (0 * Rp.size α)).add 0 = a := by simp [Addr.add]
      rw [hadd0] at hz
      obtain ⟨-, hlen0, -⟩ := World.cells?_some hc0
      rw [List.getElem?_eq_getElem (by omega)] at hz
      have hspot := spot_of_cell hz
      have hblk := World.block_lt_of_cell? W a hz
      obtain ⟨b, off, spot⟩ := a
      simp only at hspot
      subst hspot
      refine ⟨(List.range len).map fun i => (f i).1, _, some ⟨b, off, none⟩, cap, [b], (List.range len).map fun i => (f i).2, by simp, rfl, ⟨by simpa using hl, hm, by simp, fun k hk => ?_, by simpa using hblk, by simp⟩⟩
      have hk' : k < len := by simpa using hk
      obtain ⟨cs', hc', hr⟩ := hf k hk'
      obtain ⟨-, hlen', hcell⟩ := World.cells?_some hc'
      rw [hs] at hcell hlen'
      refine ⟨b, off, cs', rfl, rfl, fun j u hu => ?_, by simpa using hr⟩
      have hj : j < Rp.size α := by rw [← hlen']; exact (List.getElem?_eq_some_iff.1 hu).1
      have h3 := hcell j hj
      have hadd : ((⟨b, off, none⟩ : Addr).add (k * Rp.size α)).add j = ⟨b, off + k * Rp.size α + j, none⟩ := by
        unfold Addr.add
        split <;> split <;> simp_all
      rw [hadd] at h3
      rw [h3]; exact hu
end
section
variable {H : Type} {enc : TypeId × Value → H} {W : World} {sp : Nat → Bool} {hd : Bool}
theorem conv_ints (fuel : Nat) (cs : List Value) (x : DataW H × List MemPlace) (h : DataW.trod enc Try.prog W 0 sp hd fuel 25 cs = some x) :
    ∃ (l : List Int) (fp : List Nat), Rp.rep W cs l fp :=
  conv_slice Try.underlying25 (by kernel_rfl) (by decide) (conv_int Try.underlying2) fuel cs x h
end
section
variable {H : Type} {enc : TypeId × Value → H} {W : World} {sp : Nat → Bool} {hd : Bool}
theorem conv_rows (fuel : Nat) (cs : List Value) (x : DataW H × List MemPlace) (h : DataW.trod enc Try.prog W 0 sp hd fuel 22 cs = some x) :
    ∃ (l : List (List Int)) (fp : List Nat), Rp.rep W cs l fp :=
  conv_slice Try.underlying22 (by kernel_rfl) (by decide) conv_ints fuel cs x h
end
end Go.Proofs.Ytpfmkjcngknecaa

namespace Go.Proofs.Ytpfmkjcngknecaa
open Go.RowKit Go.ChangeShapes Go.WideShapes Go.ChangeAt Go.Deep
set_option maxRecDepth 10000

instance : Inhabited Puzzle := ⟨⟨0, ByteArray.empty, []⟩⟩
section
variable {H : Type} {enc : TypeId × Value → H} {W : World} {sp : Nat → Bool} {hd : Bool}
theorem conv_Puzzle (fuel : Nat) (cs : List Value) (x : DataW H × List MemPlace) (h : DataW.trod enc Try.prog W 0 sp hd fuel 24 cs = some x) :
    ∃ (d : Puzzle) (fp : List Nat), Rp.rep W cs d fp := by
  obtain ⟨xs, n, -, rfl, hl, hlen, hg⟩ := DataW.trod_struct Try.underlying24 h
  have hl' : cs.length = 3 := hl.trans (by kernel_rfl)
  have hx : xs.length = 3 := hlen
  match cs, hl' with
  | [a0, a1, a2], _ =>
    have g0 := (hg 0 _ rfl).trans (List.getElem?_eq_getElem (by omega : 0 < xs.length))
    have z0 : Try.prog.cellsOf 2 = 1 := by kernel_rfl
    obtain ⟨n0, q0, -, w0⟩ := DataW.trod_int Try.underlying2 g0
    have q0' : [a0] = [Value.int .i64 n0] := by have q : List.take (Try.prog.cellsOf 2) (List.drop 0 [a0, a1, a2]) = _ := q0; rw [z0] at q; exact q
    have b0 : I64 n0 := id (α := (-9223372036854775808 : Int) ≤ n0 ∧ n0 ≤ 9223372036854775807) (by simpa [Lit.wf, IntKind.min, IntKind.max, IntKind.signed, IntKind.bits] using w0)
    injection q0' with q0'; subst q0'
    have g1 := (hg 1 _ rfl).trans (List.getElem?_eq_getElem (by omega : 1 < xs.length))
    have z1 : Try.prog.cellsOf 9 = 1 := by kernel_rfl
    obtain ⟨n1, q1, -, w1⟩ := DataW.trod_string Try.underlying9 g1
    have q1' : [a1] = [Value.string n1] := by have q : List.take (Try.prog.cellsOf 9) (List.drop 1 [Value.int .i64 n0, a1, a2]) = _ := q1; rw [z1] at q; exact q
    injection q1' with q1'; subst q1'
    have g2 := (hg 2 _ rfl).trans (List.getElem?_eq_getElem (by omega : 2 < xs.length))
    have z2 : Try.prog.cellsOf 22 = 1 := by kernel_rfl
    obtain ⟨d2, f2, r2⟩ := conv_rows _ _ _ g2
    have r2' : Rp.rep W [a2] d2 f2 := by have q : Rp.rep W (List.take (Try.prog.cellsOf 22) (List.drop 2 [Value.int .i64 n0, Value.string n1, a2])) _ _ := r2; rw [z2] at q; exact q
    exact ⟨⟨n0, n1, d2⟩, _, a2, rfl, b0, w1, r2'⟩
end
end Go.Proofs.Ytpfmkjcngknecaa

namespace Go.Proofs.Ytpfmkjcngknecaa
open Go.RowKit Go.ChangeShapes Go.WideShapes Go.ChangeAt
set_option maxRecDepth 10000
open Go.ChangeMaps (open_string shut_string)

namespace fnExactBuildTables
theorem own : ownKnob Try.prog.godebug = none := by kernel_rfl
theorem laidOut : laidOutB Try.prog = true := by kernel_rfl
set_option maxRecDepth 100000 in
theorem lifted (os : Os) (started : os.Started) (H : Type) (enc : TypeId × Value → H) :
    ReturnsInHanded {} Try.checked os 6 .any (Rows.fnExactBuildTablesSpec.pre6 enc Try.prog Try.f6 Rows.fnExactBuildTablesRow.domain false) (Rows.fnExactBuildTablesSpec.post enc Try.prog Try.f6 false true false false) := by
  refine returnsInHanded_of_change (C := Try.checked) own started (by kernel_rfl) Try.func6
    (ChangeSpec.witness6 (enc := enc) (C := Try.checked) false ⟨#[], #[.agg #[.int .i64 0, .string ByteArray.empty, .slice none 0 0], .slice none 0 0], []⟩ 8 (by kernel_rfl) (by kernel_rfl) (by kernel_rfl) (by kernel_rfl)) ?_
  intro W base args ds gs before hval0 hW hcnd _
  have hval : ∀ (j : Nat) t v, Try.f6.params[j]? = some t → args[j]? = some v → Value.okWide Try.prog W .any base t v := hval0
  have hW' := hW
  obtain ⟨p, q, hA0, hV, rfl, hfz, hnd⟩ := hW
  have hA : DataW.TrodAll enc Try.prog W 0 (fun _ => true) true Try.f6.params.toList args.toList ds p := hA0
  rw [Try.params6] at hA hval
  obtain ⟨v0, vs0, d0, ds0, p0, q0, hargs, rfl, rfl, h0, r0⟩ := trodAll_cons hA
  obtain ⟨v1, vs1, d1, ds1, p1, q1, rfl, rfl, rfl, h1, r1⟩ := trodAll_cons r0
  obtain ⟨rfl, rfl, rfl⟩ := trodAll_nil r1
  obtain rfl : args = #[v0, v1] := by cases args; simp_all
  obtain ⟨rfl, rfl⟩ := trodVars_none hV
  obtain ⟨⟨c0⟩, rfl, -⟩ := okWide_struct Try.underlying24 (hval 0 24 v0 rfl rfl)
  have k0 := h0
  have lt0 : ∀ x ∈ p0, x.block < W.heap.size := by obtain ⟨m, hm⟩ := k0; exact DataW.trod_lt m _ _ _ hm
  obtain ⟨l0, fp0, rp0⟩ : ∃ l fp, Rp.rep (α := Puzzle) W c0 l fp := by obtain ⟨fuel, hf⟩ := h0; exact conv_Puzzle fuel _ _ hf
  obtain ⟨a1, len1, cap1, rfl⟩ := okWide_slice Try.underlying22 (hval 1 22 v1 rfl rfl)
  have k1 := h1
  have lt1 : ∀ x ∈ p1, x.block < W.heap.size := by obtain ⟨m, hm⟩ := k1; exact DataW.trod_lt m _ _ _ hm
  obtain ⟨l1, fp1, rp1⟩ : ∃ l fp, Rd (α := List (List Int)) W (.slice a1 len1 cap1) l fp := by obtain ⟨fuel, hf⟩ := h1; exact conv_rows fuel _ _ hf
  clear hA0 hval0
  refine (FnExactBuildTables_any W c0 l0 fp0 rp0 (.slice a1 len1 cap1) l1 fp1 rp1).mono fun e W' ⟨he, hk⟩ => ?_
  subst he
  have bel : Below W.heap.size W W' := hk.below (Nat.le_refl _) (by simp)
  exact ⟨_, rfl, _, _, _, [], _, [], hW', trodAll_mk1 (shut_bool Try.underlying4 _), (trodAll_cons_mk (Below.trod laidOut (by kernel_rfl) (of_decide_eq_true (by kernel_rfl)) k0 bel lt0) (trodAll_cons_mk (Below.trod laidOut (by kernel_rfl) (of_decide_eq_true (by kernel_rfl)) k1 bel lt1) trodAll_mk0)), rfl, bel.frame _, fun h => by cases h⟩

theorem over : Rows.fnExactBuildTablesRow.holds Try.pinned (OpenSpec.ofChange Rows.fnExactBuildTablesSpec) :=
  OpenClaim.holds_of_wide 6 Try.f6 rfl rfl rfl rfl rfl rfl rfl ⟨rfl, rfl, rfl, rfl, rfl⟩ rfl rfl rfl rfl rfl (by kernel_rfl) Try.func6 (by kernel_rfl)
    (of_decide_eq_true (by kernel_rfl)) (by unfold Func.isWrapper; first | (rw [if_pos (by decide +kernel)]; kernel_rfl) | (rw [if_neg (by decide +kernel)]; exact ⟨rfl, rfl⟩))
    (fun os started H enc _ => lifted os started H enc)

theorem proved : Rows.FnExactBuildTablesSaid := over
end fnExactBuildTables
end Go.Proofs.Ytpfmkjcngknecaa
