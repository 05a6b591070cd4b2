/- IsGeneratorSet: the reference's and the program's. Puzzle: plain data, how it lies in memory, the laws' own helpers on it. (Printed by gen_struct.py.) IsValidPuzzle: the reference's and the program's. Equality of plain data: the reference's and the program's. Tracked sets, patterns and well-formed tables: the reference's and the program's. A table's faults, in plain words. Breadth-first search of patterns in plain words (law 16). Lists of one length in order; an index kept sorted by them (law 16). The reference's search: an index of lists kept sorted (law 16). -/
import Derived.Test.YtnagknkllkdkaaaGreatRowScrambleSessionG3
import Derived.Test.YtnagknkllkdkaaaGreatRowScrambleSessionG6
import Derived.Test.YtnagknkllkdkaaaGreatRowScrambleSessionG7
import Derived.Laws.CopyOwn
namespace Go.Proofs.YtnagknkllkdkaaaGreat
open Go.RowKit
set_option maxRecDepth 10000

set_option maxHeartbeats 400000 in
theorem IndexFunc_rows (f : FuncId) (caps : Array Value) (pr : List Int → Bool) (hcf : ∀ args w, (callFunc f args).run Tryz.prog w = .ok (.enter f args) w)
    (v : Value) (l : List (List Int)) (fp : List Nat) (w : World) (h : Rd w v l fp)
    (hc : ∀ x ∈ l, ∀ u f' w', Only [] w w' → Rd w' u x f' → Calls Tryz.prog f (#[u] ++ caps) w' fun e w'' => e = .returned (.bool (pr x)) ∧ Only [] w' w'') :
    Calls Tryz.prog 88 #[v, .func (.func f) #[] caps] w fun e w' => e = .returned (.int .i64 (idxF pr l)) ∧ Only [] w w' := by
  obtain ⟨a, cap, ob, fps, rfl, -, hI⟩ := h.open_
  have hb := hI.bound
  have HC := Lib.hid hc
  clear hc
  go_enter Tryz.func88, Tryz.ntmps88
  go_wp2
  go_loopw [5, 8] (fun i t wr => ∃ j : Nat, j ≤ l.length ∧ t = .int .i64 j ∧ (∀ x ∈ l.take j, pr x = false) ∧ Only [] w wr)
    (fun _ t _ => l.length - (intOf t).toNat)
  case atStart => exact ⟨0, Nat.zero_le _, rfl, by simp, Only.refl _ _⟩
  case round =>
    obtain ⟨j, hj, rfl, hr, hK⟩ := hrel
    have Hr := Lib.hid hr; clear hr
    by_cases hlt : j < l.length
    · obtain ⟨b, off, u, rfl, -, hc0, hv0⟩ := hI.atRow j hlt
      have hc := hK.cell (by simp) hc0
      have hv := Rp.keep hv0 hK
      clear hc0 hv0
      rcases hp : pr l[j]
      all_goals go_wp2_with (with_reducible refine (HC.out l[j] (List.getElem_mem _) u _ wr hK hv).mono ?_; rintro e w1 ⟨rfl, hk1⟩)
      · go_roundw
        case rel => exact ⟨j + 1, by omega, by go_num, by
          rw [take_succ_get l j hlt]; intro x hx
          rcases List.mem_append.1 hx with hx | hx
          · exact Hr.out x hx
          · simp at hx; subst hx; exact hp, hK.trans hk1⟩
        case measure => simp [intOf]; omega
      · go_ret
        exact ⟨ret_int (idxF_some hlt Hr.out hp).symm, hK.trans hk1⟩
    · go_wp2
      go_ret
      exact ⟨ret_int (idxF_none (by have := Hr.out; rwa [List.take_of_length_le (by omega)] at this)).symm, hK⟩
set_option maxHeartbeats 400000 in
theorem ContainsFunc_rows (f : FuncId) (caps : Array Value) (pr : List Int → Bool) (hcf : ∀ args w, (callFunc f args).run Tryz.prog w = .ok (.enter f args) w)
    (v : Value) (l : List (List Int)) (fp : List Nat) (w : World) (h : Rd w v l fp)
    (hc : ∀ x ∈ l, ∀ u f' w', Only [] w w' → Rd w' u x f' → Calls Tryz.prog f (#[u] ++ caps) w' fun e w'' => e = .returned (.bool (pr x)) ∧ Only [] w' w'') :
    Calls Tryz.prog 68 #[v, .func (.func f) #[] caps] w fun e w' => e = .returned (.bool (l.any pr)) ∧ Only [] w w' := by
  have HC := Lib.hid hc
  clear hc
  go_enter Tryz.func68, Tryz.ntmps68
  go_wp2_with ((go_at_call 88; (with_reducible refine (IndexFunc_rows f caps pr hcf v l _ w h HC.out).mono ?_); rintro e w1 ⟨rfl, hk⟩))
  go_ret
  exact ⟨ret_bool idxF_ge, hk⟩

def genB (n : Int) (g : List Int) : Bool := decide ((g.length : Int) = n) && permB g
def gensB (n : Int) (gens : List (List Int)) : Bool := inR n 1 20 && decide (gens.length ≤ 8) && gens.all (genB n)
set_option maxHeartbeats 1000000 in
theorem specIsGens_any (n : Int) (a : Option Addr) (cap : Nat) (l : List (List Int)) (ob : List Nat) (fps : List (List Nat)) (w : World) (h : SeqA w a cap l ob fps) :
    Calls Tryz.prog 34 #[.int .i64 n, .slice a l.length cap] w fun e w' => e = .returned (.bool (gensB n l)) ∧ Drew w w' := by
  have hb := h.bound
  rcases hq : inR n 1 20
  · go_enter Tryz.func34, Tryz.ntmps34
    go_wp2_with ((go_at_call 58; (with_reducible refine (inRange_any n 1 20 _).mono ?_); rintro e w ⟨rfl, rfl⟩))
    go_ret
    exact ⟨ret_bool (by unfold gensB; rw [hq]; rfl), Drew.refl _⟩
  by_cases hl : 8 < l.length
  · go_enter Tryz.func34, Tryz.ntmps34
    go_wp2_with ((go_at_call 58; (with_reducible refine (inRange_any n 1 20 _).mono ?_); rintro e w ⟨rfl, rfl⟩))
    go_ret
    exact ⟨ret_bool (by unfold gensB; rw [hq, decide_eq_false (by omega)]; rfl), Drew.refl _⟩
  have hfin : gensB n l = l.all (genB n) := by unfold gensB; rw [hq, decide_eq_true (by omega)]; rfl
  have Hfin := Lib.hid hfin; clear hfin
  go_enter Tryz.func34, Tryz.ntmps34
  go_wp2_with ((go_at_call 58; (with_reducible refine (inRange_any n 1 20 _).mono ?_); rintro e w ⟨rfl, rfl⟩))
  go_loopw [5] (fun i wr => ∃ j : Nat, j ≤ l.length ∧ i = .int .i64 j ∧ (∀ x ∈ l.take j, genB n x = true) ∧ Drew w wr)
    (fun i _ => l.length - (intOf i).toNat)
  case atStart => exact ⟨0, Nat.zero_le _, rfl, by simp, Drew.refl _⟩
  case round =>
    obtain ⟨j, hj, rfl, hr, k, rfl⟩ := hrel
    have Hr := Lib.hid hr; clear hr
    by_cases hlt : j < l.length
    · obtain ⟨b, off, v, rfl, -, hc, hv⟩ := h.atRow j hlt
      obtain ⟨a2, c2, rfl, hI⟩ := hv.ints
      have hb2 := hI.bound
      by_cases c1 : (l[j].length : Int) = n
      · have d1 : ((l[j].length : Int) != n) = false := by simp [c1]
        have C1 := Lib.hid c1; clear c1
        rcases c2 : permB l[j]
        all_goals go_wp2_with ((go_at_call 59; (with_reducible refine (specIsPerm_rd _ l[j] _ _ (Rp.keep hv (Only.ofDrewN _ _ _))).mono ?_); rintro e w1 ⟨rfl, n1, rfl⟩))
        · go_ret
          exact ⟨ret_bool (by rw [Hfin.out, eq_comm, List.all_eq_false]; exact ⟨l[j], List.getElem_mem _, by simp [genB, c2]⟩), ⟨_, rfl⟩⟩
        · go_roundw
          case rel => exact ⟨j + 1, by omega, by go_num, by
            rw [take_succ_get l j hlt]; intro x hx
            rcases List.mem_append.1 hx with hx | hx
            · exact Hr.out x hx
            · simp at hx; subst hx; simp [genB, c2, C1.out], ⟨_, rfl⟩⟩
          case measure => simp [intOf]; omega
      · have d1 : ((l[j].length : Int) != n) = true := by simp [c1]
        have C1 := Lib.hid c1; clear c1
        go_wp2
        go_ret
        exact ⟨ret_bool (by rw [Hfin.out, eq_comm, List.all_eq_false]; exact ⟨l[j], List.getElem_mem _, by simp [genB, C1.out]⟩), ⟨_, rfl⟩⟩
    · go_wp2
      go_ret
      exact ⟨ret_bool (by rw [Hfin.out, eq_comm, List.all_eq_true]; have := Hr.out; rwa [List.take_of_length_le (by omega)] at this), ⟨_, rfl⟩⟩
theorem specIsGens_rd (n : Int) (v : Value) (l : List (List Int)) (fp : List Nat) (w : World) (h : Rd w v l fp) :
    Calls Tryz.prog 34 #[.int .i64 n, v] w fun e w' => e = .returned (.bool (gensB n l)) ∧ Drew w w' := by
  obtain ⟨a, cap, ob, fps, rfl, -, hs⟩ := h.open_
  exact specIsGens_any n a cap l ob fps w hs
theorem lengthInt_q (v : Value) (l : List Int) (fp : List Nat) (w : World) (h : Rd w v l fp) :
    Calls Tryz.prog 52 #[v] w fun e w' => e = .returned (.int .i64 l.length) ∧ Drew w w' :=
  (lengthInt_rd v l fp w h).mono fun _ _ ⟨h1, h2⟩ => ⟨h1, by rw [h2]; exact Drew.refl _⟩
set_option maxHeartbeats 1000000 in
theorem IsGens_closure (n : Int) (u : Value) (x : List Int) (fp : List Nat) (b : Nat) (w : World) (h : Rd w u x fp) (hc : w.cell? ⟨b, 0, none⟩ = some (.int .i64 n)) :
    Calls Tryz.prog 72 #[u, .pointer (some ⟨b, 0, none⟩)] w fun e w' => e = .returned (.bool (!genB n x)) ∧ Only [] w w' := by
  obtain ⟨a, cap, rfl, hI⟩ := h.ints
  have hb := hI.bound
  by_cases c1 : (x.length : Int) = n
  · have d1 : ((x.length : Int) != n) = false := by simp [c1]
    have hg : genB n x = permB x := by simp [genB, c1]
    have Hg := Lib.hid hg; clear hg c1
    rcases c2 : permB x
    all_goals go_enter Tryz.func72, Tryz.ntmps72
    all_goals go_wp2
    all_goals go_quiet (first
      | (go_at_call 52; exact quiet_drewN0 (lengthInt_q _ x fp _ (Rp.keep h (Only.ofDrewN _ _ _))))
      | (go_at_call 73; exact quiet_drewN0 (implIsPerm_rd _ x fp _ (Rp.keep h (Only.ofDrewN _ _ _)))))
    all_goals go_wp2
    all_goals go_ret
    all_goals exact ⟨ret_bool (by rw [Hg.out, c2]; rfl), Only.ofDrewN _ _ _⟩
  · have d1 : ((x.length : Int) != n) = true := by simp [c1]
    have hg : genB n x = false := by simp [genB, c1]
    have Hg := Lib.hid hg; clear hg c1
    go_enter Tryz.func72, Tryz.ntmps72
    go_wp2
    go_quiet (first
      | (go_at_call 52; exact quiet_drewN0 (lengthInt_q _ x fp _ (Rp.keep h (Only.ofDrewN _ _ _))))
      | (go_at_call 73; exact quiet_drewN0 (implIsPerm_rd _ x fp _ (Rp.keep h (Only.ofDrewN _ _ _)))))
    go_wp2
    go_ret
    exact ⟨ret_bool (by rw [Hg.out]; rfl), Only.ofDrewN _ _ _⟩
set_option maxHeartbeats 1000000 in
theorem implIsGens_rd (n : Int) (v : Value) (l : List (List Int)) (fp : List Nat) (w : World) (h : Rd w v l fp) :
    Calls Tryz.prog 44 #[.int .i64 n, v] w fun e w' => e = .returned (.bool (gensB n l)) ∧ Only [] w w' := by
  obtain ⟨a, cap, ob, fps, rfl, -, hs⟩ := h.open_
  have hb := hs.bound
  rcases hq : inR n 1 20
  · go_enter Tryz.func44, Tryz.ntmps44
    go_wp2_with ((go_at_call 71; (with_reducible refine (within_any n 1 20 _).mono ?_); rintro e w1 ⟨rfl, rfl⟩))
    go_ret
    exact ⟨ret_bool (by unfold gensB; rw [hq]; rfl), (by with_reducible repeat (first | exact Only.refl _ _ | assumption | refine Only.drewN ?_ _ | refine Only.drew ?_ | refine Only.alloc ?_ _ | refine Only.setCell ?_ (by intro hh; exfalso; simp at hh; try omega) _ | refine Only.trans ?_ (by assumption)))⟩
  by_cases hl : l.length ≤ 8
  · have hfin : gensB n l = !(l.any fun x => !genB n x) := by unfold gensB; rw [hq, decide_eq_true hl, List.not_any_eq_all_not]; simp
    have Hfin := Lib.hid hfin; clear hfin
    have Hc := Lib.hid (ContainsFunc_rows 72 #[.pointer (some ⟨w.heap.size, 0, none⟩)] (fun x => !genB n x) Tryz.call72 (.slice a l.length cap) l _ (w.alloc (.cells #[.int .i64 n] 2)) (Rp.keep h (by with_reducible repeat (first | exact Only.refl _ _ | assumption | refine Only.drewN ?_ _ | refine Only.drew ?_ | refine Only.alloc ?_ _ | refine Only.setCell ?_ (by intro hh; exfalso; simp at hh; try omega) _ | refine Only.trans ?_ (by assumption))))
      (fun x _ u f' w' hw hu => IsGens_closure n u x f' w.heap.size w' hu (hw.cell (by simp) (by simp))))
    rcases hany : l.any fun x => !genB n x
    all_goals go_enter Tryz.func44, Tryz.ntmps44
    all_goals go_wp2_with (first | (go_at_call 71; refine (within_any n 1 20 _).mono ?_; rintro e w1 ⟨rfl, rfl⟩) | (go_at_call 68; (with_reducible refine (Hc.out).mono ?_); rintro e w1 ⟨rfl, hk⟩))
    all_goals go_ret
    all_goals exact ⟨ret_bool (by rw [Hfin.out, hany]; rfl), (by with_reducible repeat (first | exact Only.refl _ _ | assumption | refine Only.drewN ?_ _ | refine Only.drew ?_ | refine Only.alloc ?_ _ | refine Only.setCell ?_ (by intro hh; exfalso; simp at hh; try omega) _ | refine Only.trans ?_ (by assumption)))⟩
  · go_enter Tryz.func44, Tryz.ntmps44
    go_wp2_with ((go_at_call 71; (with_reducible refine (within_any n 1 20 _).mono ?_); rintro e w1 ⟨rfl, rfl⟩))
    go_ret
    exact ⟨ret_bool (by unfold gensB; rw [hq, decide_eq_false hl]; rfl), (by with_reducible repeat (first | exact Only.refl _ _ | assumption | refine Only.drewN ?_ _ | refine Only.drew ?_ | refine Only.alloc ?_ _ | refine Only.setCell ?_ (by intro hh; exfalso; simp at hh; try omega) _ | refine Only.trans ?_ (by assumption)))⟩
end Go.Proofs.YtnagknkllkdkaaaGreat

namespace Go.Proofs.YtnagknkllkdkaaaGreat
open Go.RowKit
set_option maxRecDepth 10000

structure Puzzle where
  points : Int
  names : ByteArray
  moves : List (List Int)

instance : Rp Puzzle where
  size := 3
  rep w cs x fp := ∃ v2, cs = [Value.int .i64 x.points] ++ [Value.string x.names] ++ [v2] ∧ I64 x.points ∧ x.names.size ≤ maxLen ∧ Rd w v2 x.moves fp
  len h := by
    obtain ⟨v2, rfl, p0, p1, h2⟩ := h
    rfl
  frame h hf := by
    obtain ⟨v2, hcs, p0, p1, h2⟩ := h
    exact ⟨v2, hcs, p0, p1, Rp.frame h2 fun b hb => hf b (by simp [hb])⟩
  lt h := by
    obtain ⟨v2, hcs, p0, p1, h2⟩ := h
    intro b hb
    exact Rp.lt h2 b hb

instance : Mk Puzzle where
  mark k x := ⟨x.points, x.names, Mk.mark (k) x.moves⟩
  cnt x := Mk.cnt x.moves
instance : Sz Puzzle where
  sz x := x.names.size + Sz.sz x.moves
instance : Sm Puzzle where
  sm x := Sm.sm x.moves
instance : SzSm Puzzle := ⟨fun x h => by
  have h' : x.names.size + Sz.sz x.moves ≤ 2097152 := h
  exact SzSm.of_ x.moves (by omega)⟩
instance : CntSz Puzzle := ⟨fun x => by
  have h' : Mk.cnt x.moves ≤ x.names.size + Sz.sz x.moves := by have := CntSz.le x.moves; omega
  exact h'⟩
instance : MkL Puzzle := ⟨fun k x => by simp [Mk.mark, markL_idem], fun k x => by simp [Mk.mark, Mk.cnt, markL_cnt]⟩
theorem Puzzle.eq_iff {x y : Puzzle} : x = y ↔ x.points = y.points ∧ x.names = y.names ∧ x.moves = y.moves := by
  cases x; cases y; simp

set_option maxHeartbeats 1000000 in
theorem eqPuzzle_any (cs cs' : List Value) (x y : Puzzle) (fp fp' : List Nat) (w : World) (h : Rp.rep w cs x fp) (h' : Rp.rep w cs' y fp') :
    Calls Tryz.prog 23 #[.agg cs.toArray, .agg cs'.toArray] w fun e w' => e = .returned (.bool (eqV x y)) ∧ Only [] w w' := by
  obtain ⟨v2, rfl, p0, p1, h2⟩ := h
  obtain ⟨v2', rfl, p0', p1', h2'⟩ := h'
  by_cases q0 : x.points ≠ y.points
  · have b0 : (x.points != y.points) = true := by simpa using q0
    go_enter Tryz.func23, Tryz.ntmps23
    go_wp2_with (first | (go_at_call 25; (with_reducible refine (eqInt64SS_rd v2 v2' x.moves y.moves _ _ _ (Rp.keep h2 (by with_reducible repeat (first | exact Only.refl _ _ | assumption | refine Only.drewN ?_ _ | refine Only.drew ?_ | refine Only.alloc ?_ _ | refine Only.setCell ?_ (by intro hh; exfalso; simp at hh; try omega) _ | refine Only.trans ?_ (by assumption)))) (Rp.keep h2' (by with_reducible repeat (first | exact Only.refl _ _ | assumption | refine Only.drewN ?_ _ | refine Only.drew ?_ | refine Only.alloc ?_ _ | refine Only.setCell ?_ (by intro hh; exfalso; simp at hh; try omega) _ | refine Only.trans ?_ (by assumption))))).mono ?_); rintro e w2 ⟨rfl, n2, rfl⟩))
    go_ret
    exact ⟨ret_bool (eqV_no (fun he => q0 (Puzzle.eq_iff.1 he).1)).symm, (by with_reducible repeat (first | exact Only.refl _ _ | assumption | refine Only.drewN ?_ _ | refine Only.drew ?_ | refine Only.alloc ?_ _ | refine Only.setCell ?_ (by intro hh; exfalso; simp at hh; try omega) _ | refine Only.trans ?_ (by assumption)))⟩
  have q0 : x.points = y.points := Classical.not_not.1 q0
  have b0 : (x.points != y.points) = false := by simpa using q0
  have Q0 := Lib.hid q0
  clear q0
  by_cases q1 : x.names ≠ y.names
  · have b1 := str_ne q1
    go_enter Tryz.func23, Tryz.ntmps23
    go_wp2_with (first | (go_at_call 25; (with_reducible refine (eqInt64SS_rd v2 v2' x.moves y.moves _ _ _ (Rp.keep h2 (by with_reducible repeat (first | exact Only.refl _ _ | assumption | refine Only.drewN ?_ _ | refine Only.drew ?_ | refine Only.alloc ?_ _ | refine Only.setCell ?_ (by intro hh; exfalso; simp at hh; try omega) _ | refine Only.trans ?_ (by assumption)))) (Rp.keep h2' (by with_reducible repeat (first | exact Only.refl _ _ | assumption | refine Only.drewN ?_ _ | refine Only.drew ?_ | refine Only.alloc ?_ _ | refine Only.setCell ?_ (by intro hh; exfalso; simp at hh; try omega) _ | refine Only.trans ?_ (by assumption))))).mono ?_); rintro e w2 ⟨rfl, n2, rfl⟩))
    go_ret
    exact ⟨ret_bool (eqV_no (fun he => q1 (Puzzle.eq_iff.1 he).2.1)).symm, (by with_reducible repeat (first | exact Only.refl _ _ | assumption | refine Only.drewN ?_ _ | refine Only.drew ?_ | refine Only.alloc ?_ _ | refine Only.setCell ?_ (by intro hh; exfalso; simp at hh; try omega) _ | refine Only.trans ?_ (by assumption)))⟩
  have q1 : x.names = y.names := Classical.not_not.1 q1
  have b1 := str_eq q1
  have Q1 := Lib.hid q1
  clear q1
  rcases q2 : eqV x.moves y.moves
  · go_enter Tryz.func23, Tryz.ntmps23
    go_wp2_with (first | (go_at_call 25; (with_reducible refine (eqInt64SS_rd v2 v2' x.moves y.moves _ _ _ (Rp.keep h2 (by with_reducible repeat (first | exact Only.refl _ _ | assumption | refine Only.drewN ?_ _ | refine Only.drew ?_ | refine Only.alloc ?_ _ | refine Only.setCell ?_ (by intro hh; exfalso; simp at hh; try omega) _ | refine Only.trans ?_ (by assumption)))) (Rp.keep h2' (by with_reducible repeat (first | exact Only.refl _ _ | assumption | refine Only.drewN ?_ _ | refine Only.drew ?_ | refine Only.alloc ?_ _ | refine Only.setCell ?_ (by intro hh; exfalso; simp at hh; try omega) _ | refine Only.trans ?_ (by assumption))))).mono ?_); rintro e w2 ⟨rfl, n2, rfl⟩))
    go_ret
    exact ⟨ret_bool (eqV_no (fun he => (eqV_iff'.1 q2) (Puzzle.eq_iff.1 he).2.2)).symm, (by with_reducible repeat (first | exact Only.refl _ _ | assumption | refine Only.drewN ?_ _ | refine Only.drew ?_ | refine Only.alloc ?_ _ | refine Only.setCell ?_ (by intro hh; exfalso; simp at hh; try omega) _ | refine Only.trans ?_ (by assumption)))⟩
  go_enter Tryz.func23, Tryz.ntmps23
  go_wp2_with (first | (go_at_call 25; (with_reducible refine (eqInt64SS_rd v2 v2' x.moves y.moves _ _ _ (Rp.keep h2 (by with_reducible repeat (first | exact Only.refl _ _ | assumption | refine Only.drewN ?_ _ | refine Only.drew ?_ | refine Only.alloc ?_ _ | refine Only.setCell ?_ (by intro hh; exfalso; simp at hh; try omega) _ | refine Only.trans ?_ (by assumption)))) (Rp.keep h2' (by with_reducible repeat (first | exact Only.refl _ _ | assumption | refine Only.drewN ?_ _ | refine Only.drew ?_ | refine Only.alloc ?_ _ | refine Only.setCell ?_ (by intro hh; exfalso; simp at hh; try omega) _ | refine Only.trans ?_ (by assumption))))).mono ?_); rintro e w2 ⟨rfl, n2, rfl⟩))
  go_ret
  exact ⟨ret_bool (eqV_yes (Puzzle.eq_iff.2 ⟨Q0.out, Q1.out, eqV_iff.1 q2⟩)).symm, (by with_reducible repeat (first | exact Only.refl _ _ | assumption | refine Only.drewN ?_ _ | refine Only.drew ?_ | refine Only.alloc ?_ _ | refine Only.setCell ?_ (by intro hh; exfalso; simp at hh; try omega) _ | refine Only.trans ?_ (by assumption)))⟩

set_option maxHeartbeats 1000000 in
theorem heldPuzzle_any (cs : List Value) (x : Puzzle) (fp : List Nat) (k : Int) (w : World) (h : Rp.rep w cs x fp) (h0 : 0 ≤ k) (hc : k + (Mk.cnt x : Nat) ≤ 4611686018427387904) :
    Calls Tryz.prog 29 #[.agg cs.toArray, .int .i64 k] w fun e w' => e = .returned (.int .i64 (heldV k x)) ∧ Only [] w w' := by
  obtain ⟨v2, rfl, p0, p1, h2⟩ := h
  have hcc : Mk.cnt x = Mk.cnt x.moves := rfl
  have Hcc := Lib.hid hcc; clear hcc
  have hb2 : k + (Mk.cnt x.moves : Nat) ≤ 4611686018427387904 := by have := Hcc.out; omega
  have hiff : x = Mk.mark k x ↔ x.moves = Mk.mark (k) x.moves := by
    rw [Puzzle.eq_iff]; simp [Mk.mark]
  have Hiff := Lib.hid hiff; clear hiff
  rcases heldV_pos (k) x.moves with ⟨e2, m2⟩ | ⟨e2, m2⟩
  · have M2 := Lib.hid m2; clear m2
    go_enter Tryz.func29, Tryz.ntmps29
    go_wp2_with (first | (go_at_call 31; (with_reducible refine (heldInt64SS_rd v2 x.moves _ (k) _ (Rp.keep h2 (by with_reducible repeat (first | exact Only.refl _ _ | assumption | refine Only.drewN ?_ _ | refine Only.drew ?_ | refine Only.alloc ?_ _ | refine Only.setCell ?_ (by intro hh; exfalso; simp at hh; try omega) _ | refine Only.trans ?_ (by assumption)))) (by omega) hb2).mono ?_); rintro e w2 ⟨rfl, n2, rfl⟩))
    go_ret
    exact ⟨ret_int (heldV_no (fun he => M2.out (Hiff.out.1 he))).symm, (by with_reducible repeat (first | exact Only.refl _ _ | assumption | refine Only.drewN ?_ _ | refine Only.drew ?_ | refine Only.alloc ?_ _ | refine Only.setCell ?_ (by intro hh; exfalso; simp at hh; try omega) _ | refine Only.trans ?_ (by assumption)))⟩
  have M2 := Lib.hid m2; clear m2
  go_enter Tryz.func29, Tryz.ntmps29
  go_wp2_with (first | (go_at_call 31; (with_reducible refine (heldInt64SS_rd v2 x.moves _ (k) _ (Rp.keep h2 (by with_reducible repeat (first | exact Only.refl _ _ | assumption | refine Only.drewN ?_ _ | refine Only.drew ?_ | refine Only.alloc ?_ _ | refine Only.setCell ?_ (by intro hh; exfalso; simp at hh; try omega) _ | refine Only.trans ?_ (by assumption)))) (by omega) hb2).mono ?_); rintro e w2 ⟨rfl, n2, rfl⟩))
  go_ret
  exact ⟨ret_int (by rw [heldV_yes (Hiff.out.2 M2.out)]; have := Hcc.out; omega), (by with_reducible repeat (first | exact Only.refl _ _ | assumption | refine Only.drewN ?_ _ | refine Only.drew ?_ | refine Only.alloc ?_ _ | refine Only.setCell ?_ (by intro hh; exfalso; simp at hh; try omega) _ | refine Only.trans ?_ (by assumption)))⟩

set_option maxHeartbeats 1000000 in
theorem szPuzzle_any (cs : List Value) (x : Puzzle) (fp : List Nat) (k : Int) (w : World) (h : Rp.rep w cs x fp) (h0 : 0 ≤ k) (h1 : k ≤ 2147483648) :
    Calls Tryz.prog 11 #[.agg cs.toArray, .int .i64 k] w fun e w' => e = .returned (.int .i64 (szV k x)) ∧ Only [] w w' := by
  obtain ⟨v2, rfl, p0, p1, h2⟩ := h
  have hcc : Sz.sz x = x.names.size + Sz.sz x.moves := rfl
  have Hcc := Lib.hid hcc; clear hcc
  have hm1 := p1
  unfold maxLen at hm1
  by_cases e1 : k - (x.names.size : Nat) < 0
  · go_enter Tryz.func11, Tryz.ntmps11
    go_wp2_with (first | (go_at_call 13; (with_reducible refine (szInt64SS_rd v2 x.moves _ (k - (x.names.size : Nat)) _ (Rp.keep h2 (by with_reducible repeat (first | exact Only.refl _ _ | assumption | refine Only.drewN ?_ _ | refine Only.drew ?_ | refine Only.alloc ?_ _ | refine Only.setCell ?_ (by intro hh; exfalso; simp at hh; try omega) _ | refine Only.trans ?_ (by assumption)))) (by omega) (by omega)).mono ?_); rintro e w2 ⟨rfl, n2, rfl⟩))
    go_ret
    exact ⟨ret_int (szV_no (by have := Hcc.out; omega)).symm, (by with_reducible repeat (first | exact Only.refl _ _ | assumption | refine Only.drewN ?_ _ | refine Only.drew ?_ | refine Only.alloc ?_ _ | refine Only.setCell ?_ (by intro hh; exfalso; simp at hh; try omega) _ | refine Only.trans ?_ (by assumption)))⟩
  rcases szV_cases (k - (x.names.size : Nat)) x.moves with ⟨e2, m2⟩ | ⟨e2, r2, m2⟩
  · go_enter Tryz.func11, Tryz.ntmps11
    go_wp2_with (first | (go_at_call 13; (with_reducible refine (szInt64SS_rd v2 x.moves _ (k - (x.names.size : Nat)) _ (Rp.keep h2 (by with_reducible repeat (first | exact Only.refl _ _ | assumption | refine Only.drewN ?_ _ | refine Only.drew ?_ | refine Only.alloc ?_ _ | refine Only.setCell ?_ (by intro hh; exfalso; simp at hh; try omega) _ | refine Only.trans ?_ (by assumption)))) (by omega) (by omega)).mono ?_); rintro e w2 ⟨rfl, n2, rfl⟩))
    go_ret
    exact ⟨ret_int (szV_no (by have := Hcc.out; omega)).symm, (by with_reducible repeat (first | exact Only.refl _ _ | assumption | refine Only.drewN ?_ _ | refine Only.drew ?_ | refine Only.alloc ?_ _ | refine Only.setCell ?_ (by intro hh; exfalso; simp at hh; try omega) _ | refine Only.trans ?_ (by assumption)))⟩
  go_enter Tryz.func11, Tryz.ntmps11
  go_wp2_with (first | (go_at_call 13; (with_reducible refine (szInt64SS_rd v2 x.moves _ (k - (x.names.size : Nat)) _ (Rp.keep h2 (by with_reducible repeat (first | exact Only.refl _ _ | assumption | refine Only.drewN ?_ _ | refine Only.drew ?_ | refine Only.alloc ?_ _ | refine Only.setCell ?_ (by intro hh; exfalso; simp at hh; try omega) _ | refine Only.trans ?_ (by assumption)))) (by omega) (by omega)).mono ?_); rintro e w2 ⟨rfl, n2, rfl⟩))
  go_ret
  exact ⟨ret_int (by rw [szV_yes (by have := Hcc.out; omega)]; have := Hcc.out; omega), (by with_reducible repeat (first | exact Only.refl _ _ | assumption | refine Only.drewN ?_ _ | refine Only.drew ?_ | refine Only.alloc ?_ _ | refine Only.setCell ?_ (by intro hh; exfalso; simp at hh; try omega) _ | refine Only.trans ?_ (by assumption)))⟩

set_option maxHeartbeats 1000000 in
theorem markPuzzle_any (cs : List Value) (x : Puzzle) (fp : List Nat) (k : Int) (w : World) (h : Rp.rep w cs x fp) (hnd : fp.Nodup) (ho : Own w fp) (h0 : 0 ≤ k) (hc : k + (Mk.cnt x : Nat) ≤ 4611686018427387904) :
    Calls Tryz.prog 26 #[.agg cs.toArray, .int .i64 k] w fun e w' => e = .returned (.int .i64 (k + (Mk.cnt x : Nat))) ∧ Rp.rep w' cs (Mk.mark k x) fp ∧ Own w' fp ∧ Only fp w w' := by
  obtain ⟨v2, rfl, p0, p1, h2⟩ := h
  have hcc : Mk.cnt x = Mk.cnt x.moves := rfl
  have Hcc := Lib.hid hcc; clear hcc
  have hb2 : k + (Mk.cnt x.moves : Nat) ≤ 4611686018427387904 := by have := Hcc.out; omega
  have n2 := hnd
  have l2 := Rp.lt h2
  go_enter Tryz.func26, Tryz.ntmps26
  go_wp2_with (first | (go_at_call 28; (with_reducible refine (markInt64SS_rd v2 x.moves fp (k) _ (Rp.keep h2 (by with_reducible repeat (first | exact Only.refl _ _ | assumption | refine Only.drewN ?_ _ | refine Only.drew ?_ | refine Only.alloc ?_ _ | refine Only.setCell ?_ (by intro hh; exfalso; simp at hh; try omega) _ | refine Only.trans ?_ (by assumption)))) n2 (ho.keep (by with_reducible repeat (first | exact Only.refl _ _ | assumption | refine Only.drewN ?_ _ | refine Only.drew ?_ | refine Only.alloc ?_ _ | refine Only.setCell ?_ (by intro hh; exfalso; simp at hh; try omega) _ | refine Only.trans ?_ (by assumption)))) (by omega) hb2).mono ?_); rintro e w2 ⟨rfl, r2, o2, t2⟩; have s2 : w.heap.size < w2.heap.size := (Nat.lt_of_lt_of_le (by simp) t2.size); have q2 := t2.cells_eq w.heap.size (by simp) (fun hm => absurd (l2 _ hm) (by omega))))
  go_ret
  have hk0 : Only [] w (w.alloc (.cells ([Value.int .i64 x.points] ++ [Value.string x.names] ++ [v2]).toArray 29)) := (by with_reducible repeat (first | exact Only.refl _ _ | assumption | refine Only.drewN ?_ _ | refine Only.drew ?_ | refine Only.alloc ?_ _ | refine Only.setCell ?_ (by intro hh; exfalso; simp at hh; try omega) _ | refine Only.trans ?_ (by assumption)))
  exact ⟨ret_int (by have := Hcc.out; omega), ⟨v2, rfl, p0, p1, r2⟩, o2, (hk0.weaken _).trans t2⟩

set_option maxHeartbeats 1000000 in
theorem toPuzzle_any (cs : List Value) (x : Puzzle) (fp : List Nat) (w : World) (h : Rp.rep w cs x fp) (hsm : Sm.sm x) :
    Calls Tryz.prog 17 #[.agg cs.toArray] w fun e w' => ∃ cs' fp', e = .returned (.agg cs'.toArray) ∧ Rp.rep w' cs' x fp' ∧ Fresh w.heap.size w' fp' ∧ Only [] w w' := by
  obtain ⟨v2, rfl, p0, p1, h2⟩ := h
  have g2 : Sm.sm x.moves := hsm
  go_enter Tryz.func17, Tryz.ntmps17
  go_wp2_with (first | (go_at_call 19; (with_reducible refine (toInt64SS_sm v2 x.moves _ _ (Rp.keep h2 (by with_reducible repeat (first | exact Only.refl _ _ | assumption | refine Only.drewN ?_ _ | refine Only.drew ?_ | refine Only.alloc ?_ _ | refine Only.setCell ?_ (by intro hh; exfalso; simp at hh; try omega) _ | refine Only.trans ?_ (by assumption)))) g2).mono ?_); rintro e w2 ⟨u2, fz2, rfl, r2, F2, t2⟩; have k2 := r2.open_; obtain ⟨A2, C2, _, _, rfl, -⟩ := k2; have s2 : w.heap.size + 1 + 1 < w2.heap.size := (by have := t2.size; simp at this; omega); have y20 := t2.cells_eq w.heap.size (by simp; try omega) (by simp); have z20 := t2.frozen_eq w.heap.size (by simp; try omega) (by simp); have y21 := t2.cells_eq (w.heap.size + 1) (by simp; try omega) (by simp); have z21 := t2.frozen_eq (w.heap.size + 1) (by simp; try omega) (by simp); have y22 := t2.cells_eq (w.heap.size + 1 + 1) (by simp; try omega) (by simp); have z22 := t2.frozen_eq (w.heap.size + 1 + 1) (by simp; try omega) (by simp)))
  have T2 := t2.size
  simp at T2
  refine bodyPost_ret (v := .agg #[.int .i64 x.points, .string x.names, .slice A2 x.moves.length C2]) (by simp [results, Tryz.results17, go_sem, y21]) rfl ⟨[.int .i64 x.points, .string x.names, .slice A2 x.moves.length C2], _, rfl, ⟨.slice A2 x.moves.length C2, rfl, p0, p1, Rp.only (fp' := [w.heap.size + 1, w.heap.size + 1 + 1]) r2 (by with_reducible repeat (first | exact Only.refl _ _ | assumption | refine Only.drewN ?_ _ | refine Only.drew ?_ | refine Only.alloc ?_ _ | refine Only.setCell ?_ (by intro _; simp) _ | refine Only.trans ?_ (Only.weaken (by assumption) _))) (fun b hb hm => by have := F2.ge b hb; simp at hm this; omega)⟩, Fresh.mono (F2.only (fp' := [w.heap.size + 1, w.heap.size + 1 + 1]) (by with_reducible repeat (first | exact Only.refl _ _ | assumption | refine Only.drewN ?_ _ | refine Only.drew ?_ | refine Only.alloc ?_ _ | refine Only.setCell ?_ (by intro _; simp) _ | refine Only.trans ?_ (Only.weaken (by assumption) _))) (fun b hb hm => by have := F2.ge b hb; simp at hm this; omega)) (by simp; try omega), (by with_reducible repeat (first | exact Only.refl _ _ | assumption | refine Only.drewN ?_ _ | refine Only.drew ?_ | refine Only.alloc ?_ _ | refine Only.setCell ?_ (by intro hh; exfalso; simp at hh; try omega) _ | refine Only.trans ?_ (by assumption)))⟩

end Go.Proofs.YtnagknkllkdkaaaGreat

namespace Go.Proofs.YtnagknkllkdkaaaGreat
open Go.RowKit
set_option maxRecDepth 10000

/-- the bytes of a string, as numbers -/
def bl (s : ByteArray) : List Int := s.data.toList.map fun b => (b.toNat : Int)
theorem bl_len (s : ByteArray) : (bl s).length = s.size := by
  unfold bl; rw [List.length_map, Array.length_toList]; rfl
theorem bl_get (s : ByteArray) (i : Nat) (h : i < s.size) (h' : i < (bl s).length) : (bl s)[i] = (s[i].toNat : Int) := by
  simp [bl]; rfl
def moveNameB (L : List Int) (i : Nat) : Bool := match L[i]? with
  | some b => inR b 65 90 && decide (b ∉ L.take i)
  | none => false
theorem moveNameB_of {L : List Int} {i : Nat} (h : i < L.length) : moveNameB L i = (inR L[i] 65 90 && decide (L[i] ∉ L.take i)) := by
  simp [moveNameB, h]
def namesB (s : ByteArray) : Bool := inR s.size 1 8 && ((bl s).all (fun b => inR b 65 90) && decide (bl s).Nodup)
def validPz (p : Puzzle) : Bool := gensB p.points p.moves && (namesB p.names && decide (p.names.size = p.moves.length))
theorem names_of {L : List Int} : (L.all (fun b => inR b 65 90) && decide L.Nodup) = true ↔ (∀ x ∈ L, inR x 65 90 = true) ∧ L.Nodup := by simp

set_option maxHeartbeats 1000000 in
theorem isMoveName_any (s : ByteArray) (i : Nat) (w : World) (hs : s.size ≤ maxLen) (hi : i < s.size) :
    Calls Tryz.prog 94 #[.string s, .int .i64 i] w fun e w' => e = .returned (.bool (moveNameB (bl s) i)) ∧ Drew w w' := by
  unfold maxLen at hs
  have hi1 : (0 : Int) ≤ (i : Int) := by omega
  have hi2 : (i : Int) < (s.size : Int) := by omega
  have hL : i < (bl s).length := by rw [bl_len]; exact hi
  have hfin : moveNameB (bl s) i = (inR (s[i].toNat : Int) 65 90 && decide ((s[i].toNat : Int) ∉ (bl s).take i)) := by rw [moveNameB_of hL, bl_get s i hi hL]
  have Hfin := Lib.hid hfin; clear hfin
  by_cases c1 : (s[i].toNat : Int) < 65
  · go_enter Tryz.func94, Tryz.ntmps94
    go_wp2
    go_ret
    exact ⟨ret_bool (by rw [Hfin.out, show inR (s[i].toNat : Int) 65 90 = false by rw [inR_not]; omega]; rfl), ⟨0, rfl⟩⟩
  by_cases c2 : 90 < (s[i].toNat : Int)
  · go_enter Tryz.func94, Tryz.ntmps94
    go_wp2
    go_ret
    exact ⟨ret_bool (by rw [Hfin.out, show inR (s[i].toNat : Int) 65 90 = false by rw [inR_not]; omega]; rfl), ⟨0, rfl⟩⟩
  have hR : moveNameB (bl s) i = decide ((s[i].toNat : Int) ∉ (bl s).take i) := by rw [Hfin.out, show inR (s[i].toNat : Int) 65 90 = true by rw [inR_iff]; omega]; rfl
  have HR := Lib.hid hR; clear hR Hfin
  go_enter Tryz.func94, Tryz.ntmps94
  go_wp2
  go_loopw [5] (fun t wr => ∃ j : Nat, j ≤ i ∧ t = .int .i64 j ∧ (s[i].toNat : Int) ∉ (bl s).take j ∧ Drew w wr)
    (fun t _ => i - (intOf t).toNat)
  case atStart => exact ⟨0, Nat.zero_le _, rfl, by simp, Drew.refl _⟩
  case round =>
    obtain ⟨j, hj, rfl, hr, k, rfl⟩ := hrel
    have Hr := Lib.hid hr; clear hr
    by_cases hlt : j < i
    · have hjs : j < s.size := by omega
      have hj1 : (0 : Int) ≤ (j : Int) := by omega
      have hj2 : (j : Int) < (s.size : Int) := by omega
      have hbj : (bl s)[j]'(by rw [bl_len]; exact hjs) = (s[j].toNat : Int) := bl_get s j hjs _
      have Hbj := Lib.hid hbj; clear hbj
      by_cases hx : (s[j].toNat : Int) = (s[i].toNat : Int)
      · have hq : ((s[j].toNat : Int) == (s[i].toNat : Int)) = true := by simp [hx]
        have Hx := Lib.hid hx; clear hx
        go_wp2
        go_quiet (fail)
        go_wp2
        go_ret
        exact ⟨ret_bool (by rw [HR.out, eq_comm, decide_eq_false_iff_not, Classical.not_not, ← Hx.out, ← Hbj.out]; exact List.mem_take_iff_getElem.2 ⟨j, by rw [bl_len]; omega, rfl⟩), ((Drew.refl _).drewN _).drewN _⟩
      · have hq : ((s[j].toNat : Int) == (s[i].toNat : Int)) = false := by simpa using hx
        have Hx := Lib.hid hx; clear hx
        go_wp2
        go_quiet (fail)
        go_wp2
        go_roundw
        case rel => exact ⟨j + 1, by omega, by go_num, by
          rw [take_succ_get (bl s) j (by rw [bl_len]; exact hjs)]; intro hm
          rcases List.mem_append.1 hm with hm | hm
          · exact Hr.out hm
          · simp at hm; rw [Hbj.out] at hm; exact Hx.out hm.symm, ⟨_, rfl⟩⟩
        case measure => simp [intOf]; omega
    · go_wp2
      go_ret
      exact ⟨ret_bool (by rw [HR.out, eq_comm, decide_eq_true_iff]; have := Hr.out; have e : j = i := (by omega); rwa [e] at this), ⟨_, rfl⟩⟩
theorem namesB_yes {L : List Int} (h : ∀ k, k < L.length → moveNameB L k = true) : (L.all (fun b => inR b 65 90) && decide L.Nodup) = true := by
  rw [names_of]
  have hk : ∀ k (hk : k < L.length), inR L[k] 65 90 = true ∧ L[k] ∉ L.take k := by
    intro k hk
    have := h k hk
    rw [moveNameB_of hk] at this
    simpa using this
  refine ⟨fun x hx => ?_, ?_⟩
  · obtain ⟨k, hk', rfl⟩ := List.getElem_of_mem hx
    exact (hk k hk').1
  · rw [List.nodup_iff_pairwise_ne, List.pairwise_iff_getElem]
    intro i j hi hj hij he
    exact (hk j hj).2 (List.mem_take_iff_getElem.2 ⟨i, by omega, he⟩)
theorem namesB_no {L : List Int} {k : Nat} (hk : k < L.length) (h : moveNameB L k = false) : (L.all (fun b => inR b 65 90) && decide L.Nodup) = false := by
  rw [← Bool.not_eq_true, names_of]
  rintro ⟨h1, h2⟩
  rw [moveNameB_of hk, h1 _ (List.getElem_mem _)] at h
  simp at h
  exact nodup_take_not hk h h2
set_option maxHeartbeats 2000000 in
theorem specIsValidPuzzle_any (cs : List Value) (x : Puzzle) (fp : List Nat) (w : World) (h : Rp.rep w cs x fp) :
    Calls Tryz.prog 79 #[.agg cs.toArray] w fun e w' => e = .returned (.bool (validPz x)) ∧ Only [] w w' := by
  obtain ⟨v2, rfl, p0, p1, h2⟩ := h
  obtain ⟨A2, C2, ob, fps, rfl, -, hs⟩ := h2.open_
  have hb := hs.bound
  have hm := p1; unfold maxLen at hm
  by_cases c1 : x.moves.length = 0
  · have hf : validPz x = false := by
      unfold validPz namesB
      rw [Bool.and_eq_false_iff, Bool.and_eq_false_iff, Bool.and_eq_false_iff]
      right
      by_cases hz : x.names.size = x.moves.length
      · left; left; rw [inR_not]; omega
      · right; exact decide_eq_false hz
    have Hf := Lib.hid hf; clear hf
    have d1 : ((x.moves.length : Int) == 0) = true := by simp [c1]
    have C1 := Lib.hid c1; clear c1
    go_enter Tryz.func79, Tryz.ntmps79
    go_wp2
    go_ret
    exact ⟨ret_bool Hf.out.symm, (by with_reducible repeat (first | exact Only.refl _ _ | assumption | refine Only.drewN ?_ _ | refine Only.drew ?_ | refine Only.alloc ?_ _ | refine Only.setCell ?_ (by intro hh; exfalso; simp at hh; try omega) _ | refine Only.trans ?_ (by assumption)))⟩
  have d1 : ((x.moves.length : Int) == 0) = false := by rw [beq_eq_false_iff_ne]; omega
  by_cases c2 : x.names.size = x.moves.length
  · have d2 : ((x.names.size : Int) != (x.moves.length : Int)) = false := by simp [c2]
    rcases c3 : gensB x.points x.moves
    · have hf : validPz x = false := by unfold validPz; rw [c3]; rfl
      have Hf := Lib.hid hf; clear hf
      have C2' := Lib.hid c2; clear c2
      have C1 := Lib.hid c1; clear c1
      go_enter Tryz.func79, Tryz.ntmps79
      go_wp2_with ((go_at_call 34; (with_reducible refine (specIsGens_rd x.points _ x.moves _ _ (Rp.keep h2 (by with_reducible repeat (first | exact Only.refl _ _ | assumption | refine Only.drewN ?_ _ | refine Only.drew ?_ | refine Only.alloc ?_ _ | refine Only.setCell ?_ (by intro hh; exfalso; simp at hh; try omega) _ | refine Only.trans ?_ (by assumption))))).mono ?_); rintro e w1 ⟨rfl, n1, rfl⟩))
      go_ret
      exact ⟨ret_bool Hf.out.symm, (by with_reducible repeat (first | exact Only.refl _ _ | assumption | refine Only.drewN ?_ _ | refine Only.drew ?_ | refine Only.alloc ?_ _ | refine Only.setCell ?_ (by intro hh; exfalso; simp at hh; try omega) _ | refine Only.trans ?_ (by assumption)))⟩
    have hl8 : x.moves.length ≤ 8 := by
      unfold gensB at c3; simp only [Bool.and_eq_true, decide_eq_true_eq] at c3; exact c3.1.2
    have hf : validPz x = ((bl x.names).all (fun b => inR b 65 90) && decide (bl x.names).Nodup) := by
      unfold validPz namesB; rw [c3, decide_eq_true c2, show inR x.names.size 1 8 = true by rw [inR_iff]; omega]; simp
    have Hf := Lib.hid hf; clear hf
    have C2' := Lib.hid c2; clear c2
    have C1 := Lib.hid c1; clear c1
    go_enter Tryz.func79, Tryz.ntmps79
    go_wp2_with ((go_at_call 34; (with_reducible refine (specIsGens_rd x.points _ x.moves _ _ (Rp.keep h2 (by with_reducible repeat (first | exact Only.refl _ _ | assumption | refine Only.drewN ?_ _ | refine Only.drew ?_ | refine Only.alloc ?_ _ | refine Only.setCell ?_ (by intro hh; exfalso; simp at hh; try omega) _ | refine Only.trans ?_ (by assumption))))).mono ?_); rintro e w1 ⟨rfl, n1, rfl⟩))
    go_loopw [3] (fun i wr => ∃ j : Nat, j ≤ x.names.size ∧ i = .int .i64 j ∧ (∀ k, k < j → moveNameB (bl x.names) k = true) ∧ Drew ((w.alloc (.cells #[.int .i64 x.points, .string x.names, .slice A2 x.moves.length C2] 29))) wr)
      (fun i _ => x.names.size - (intOf i).toNat)
    case atStart => exact ⟨0, Nat.zero_le _, rfl, by simp, ⟨_, rfl⟩⟩
    case round =>
      obtain ⟨j, hj, rfl, hr, k, rfl⟩ := hrel
      have Hr := Lib.hid hr; clear hr
      by_cases hlt : j < x.names.size
      · rcases c4 : moveNameB (bl x.names) j
        all_goals go_wp2_with ((go_at_call 94; (with_reducible refine (isMoveName_any x.names j _ p1 hlt).mono ?_); rintro e w1 ⟨rfl, n1, rfl⟩))
        · go_ret
          exact ⟨ret_bool (by rw [Hf.out, namesB_no (by rw [bl_len]; exact hlt) c4]), (by with_reducible repeat (first | exact Only.refl _ _ | assumption | refine Only.drewN ?_ _ | refine Only.drew ?_ | refine Only.alloc ?_ _ | refine Only.setCell ?_ (by intro hh; exfalso; simp at hh; try omega) _ | refine Only.trans ?_ (by assumption)))⟩
        · go_roundw
          case rel => exact ⟨j + 1, by omega, by go_num, fun k hk => by
            by_cases hkj : k = j
            · subst hkj; exact c4
            · exact Hr.out k (by omega), ⟨_, rfl⟩⟩
          case measure => simp [intOf]; omega
      · go_wp2
        go_ret
        exact ⟨ret_bool (by rw [Hf.out, namesB_yes (fun k hk => Hr.out k (by rw [bl_len] at hk; omega))]), (by with_reducible repeat (first | exact Only.refl _ _ | assumption | refine Only.drewN ?_ _ | refine Only.drew ?_ | refine Only.alloc ?_ _ | refine Only.setCell ?_ (by intro hh; exfalso; simp at hh; try omega) _ | refine Only.trans ?_ (by assumption)))⟩
  · have d2 : ((x.names.size : Int) != (x.moves.length : Int)) = true := by simp only [bne_iff_ne, ne_eq]; omega
    have hf : validPz x = false := by unfold validPz; rw [decide_eq_false c2]; simp
    have Hf := Lib.hid hf; clear hf
    have C2' := Lib.hid c2; clear c2
    have C1 := Lib.hid c1; clear c1
    go_enter Tryz.func79, Tryz.ntmps79
    go_wp2
    go_ret
    exact ⟨ret_bool Hf.out.symm, (by with_reducible repeat (first | exact Only.refl _ _ | assumption | refine Only.drewN ?_ _ | refine Only.drew ?_ | refine Only.alloc ?_ _ | refine Only.setCell ?_ (by intro hh; exfalso; simp at hh; try omega) _ | refine Only.trans ?_ (by assumption)))⟩
set_option maxHeartbeats 2000000 in
theorem isNames_any (s : ByteArray) (w : World) (hs : s.size ≤ maxLen) :
    Calls Tryz.prog 95 #[.string s] w fun e w' => e = .returned (.bool (namesB s)) ∧ Drew w w' := by
  unfold maxLen at hs
  have hno : ∀ k, k < s.size → moveNameB (bl s) k = false → namesB s = false := by
    intro k hk h
    unfold namesB
    rw [namesB_no (by rw [bl_len]; exact hk) h]; simp
  have hyes : (∀ k, k < s.size → moveNameB (bl s) k = true) → namesB s = inR s.size 1 8 := by
    intro h
    unfold namesB
    rw [namesB_yes (fun k hk => h k (by rw [bl_len] at hk; exact hk))]; simp
  have Hno := Lib.hid hno; clear hno
  have Hyes := Lib.hid hyes; clear hyes
  go_enter Tryz.func95, Tryz.ntmps95
  go_wp2
  go_loopw [7] (fun i wr => ∃ j : Nat, j ≤ s.size ∧ i = .int .i64 j ∧ (∀ k, k < j → moveNameB (bl s) k = true) ∧ Drew w wr)
    (fun i _ => s.size - (intOf i).toNat)
  case atStart => exact ⟨0, Nat.zero_le _, rfl, by simp, Drew.refl _⟩
  case round =>
    obtain ⟨j, hj, rfl, hr, k, rfl⟩ := hrel
    have Hr := Lib.hid hr; clear hr
    by_cases hlt : j < s.size
    · have hi1 : (0 : Int) ≤ (j : Int) := by omega
      have hi2 : (j : Int) < (s.size : Int) := by omega
      have hL : j < (bl s).length := by rw [bl_len]; exact hlt
      have hbj : (bl s)[j] = (s[j].toNat : Int) := bl_get s j hlt _
      have hmn : moveNameB (bl s) j = (inR (s[j].toNat : Int) 65 90 && decide ((s[j].toNat : Int) ∉ (bl s).take j)) := by rw [moveNameB_of hL, hbj]
      have Hmn := Lib.hid hmn; clear hmn hbj hL
      have hw : wrap64 (s[j].toNat : Int) = (s[j].toNat : Int) := wrap64_small _ (by omega) (by have := UInt8.toNat_lt s[j]; omega)
      rcases c1 : inR (s[j].toNat : Int) 65 90
      · go_wp2_with ((go_at_call 71; (with_reducible refine (within_any (s[j].toNat : Int) 65 90 _).mono ?_); rintro e w1 ⟨rfl, rfl⟩))
        go_ret
        exact ⟨ret_bool (Hno.out j hlt (by rw [Hmn.out, c1]; rfl)).symm, ⟨_, rfl⟩⟩
      go_wp2_with ((go_at_call 71; (with_reducible refine (within_any (s[j].toNat : Int) 65 90 _).mono ?_); rintro e w1 ⟨rfl, rfl⟩))
      go_loopw [17] (fun i wr => ∃ q : Nat, q ≤ j ∧ i = .int .i64 q ∧ (s[j].toNat : Int) ∉ (bl s).take q ∧ Drew w wr)
        (fun i _ => j - (intOf i).toNat)
      case atStart => exact ⟨0, Nat.zero_le _, rfl, by simp, ⟨_, rfl⟩⟩
      case round =>
        obtain ⟨q, hq, rfl, hu, k2, rfl⟩ := hrel
        have Hu := Lib.hid hu; clear hu
        by_cases hlq : q < j
        · have hqs : q < s.size := by omega
          have hq1 : (0 : Int) ≤ (q : Int) := by omega
          have hq2 : (q : Int) < (s.size : Int) := by omega
          have hbq : (bl s)[q]'(by rw [bl_len]; exact hqs) = (s[q].toNat : Int) := bl_get s q hqs _
          have Hbq := Lib.hid hbq; clear hbq
          by_cases hx : (s[q].toNat : Int) = (s[j].toNat : Int)
          · have hqq : ((s[q].toNat : Int) == (s[j].toNat : Int)) = true := by simp [hx]
            have Hx := Lib.hid hx; clear hx
            go_wp2
            go_quiet (fail)
            go_wp2
            go_ret
            exact ⟨ret_bool (Hno.out j hlt (by rw [Hmn.out, c1, decide_eq_false (by rw [Classical.not_not, ← Hx.out, ← Hbq.out]; exact List.mem_take_iff_getElem.2 ⟨q, by rw [bl_len]; omega, rfl⟩)]; rfl)).symm, ((Drew.refl _).drewN _).drewN _⟩
          · have hqq : ((s[q].toNat : Int) == (s[j].toNat : Int)) = false := by simpa using hx
            have Hx := Lib.hid hx; clear hx
            go_wp2
            go_quiet (fail)
            go_wp2
            go_roundw
            case rel => exact ⟨q + 1, by omega, by go_num, by
              rw [take_succ_get (bl s) q (by rw [bl_len]; exact hqs)]; intro hm
              rcases List.mem_append.1 hm with hm | hm
              · exact Hu.out hm
              · simp at hm; rw [Hbq.out] at hm; exact Hx.out hm.symm, ⟨_, rfl⟩⟩
            case measure => simp [intOf]; omega
        · have hqj : q = j := by omega
          have Hqj := Lib.hid hqj; clear hqj
          go_wp2
          go_roundw
          case rel => exact ⟨j + 1, by omega, by go_num, fun z hz => by
            by_cases hzj : z = j
            · subst hzj; rw [Hmn.out, c1, decide_eq_true (by have := Hu.out; rwa [Hqj.out] at this)]; rfl
            · exact Hr.out z (by omega), ⟨_, rfl⟩⟩
          case measure => simp [intOf]; omega
    · rcases c5 : inR s.size 1 8
      all_goals go_wp2_with ((go_at_call 71; (with_reducible refine (within_any s.size 1 8 _).mono ?_); rintro e w1 ⟨rfl, rfl⟩))
      all_goals go_ret
      all_goals exact ⟨ret_bool (by rw [Hyes.out (fun z hz => Hr.out z (by omega)), c5]), ⟨_, rfl⟩⟩
set_option maxHeartbeats 2000000 in
theorem implIsValidPuzzle_any (cs : List Value) (x : Puzzle) (fp : List Nat) (w : World) (h : Rp.rep w cs x fp) :
    Calls Tryz.prog 85 #[.agg cs.toArray] w fun e w' => e = .returned (.bool (validPz x)) ∧ Only [] w w' := by
  obtain ⟨v2, rfl, p0, p1, h2⟩ := h
  obtain ⟨A2, C2, ob, fps, rfl, -, hs⟩ := h2.open_
  have hb := hs.bound
  have hm := p1; unfold maxLen at hm
  have G : ∀ w', Only [] w w' → Calls Tryz.prog 44 #[.int .i64 x.points, .slice A2 x.moves.length C2] w' fun e w'' => e = .returned (.bool (gensB x.points x.moves)) ∧ Only [] w' w'' :=
    fun w' hw => implIsGens_rd x.points _ x.moves _ w' (Rp.keep h2 hw)
  have HG := Lib.hid G; clear G
  rcases c3 : gensB x.points x.moves
  · have hf : validPz x = false := by unfold validPz; rw [c3]; rfl
    have Hf := Lib.hid hf; clear hf
    go_enter Tryz.func85, Tryz.ntmps85
    go_wp2_with ((go_at_call 44; (with_reducible refine (HG.out _ (by with_reducible repeat (first | exact Only.refl _ _ | assumption | refine Only.drewN ?_ _ | refine Only.drew ?_ | refine Only.alloc ?_ _ | refine Only.setCell ?_ (by intro hh; exfalso; simp at hh; try omega) _ | refine Only.trans ?_ (by assumption)))).mono ?_); rintro e w1 ⟨rfl, t1⟩; have y1 := t1.cells_eq w.heap.size (by simp) (by simp)))
    go_ret
    exact ⟨ret_bool Hf.out.symm, (by with_reducible repeat (first | exact Only.refl _ _ | assumption | refine Only.drewN ?_ _ | refine Only.drew ?_ | refine Only.alloc ?_ _ | refine Only.setCell ?_ (by intro hh; exfalso; simp at hh; try omega) _ | refine Only.trans ?_ (by assumption)))⟩
  rcases c4 : namesB x.names
  · have hf : validPz x = false := by unfold validPz; rw [c3, c4]; rfl
    have Hf := Lib.hid hf; clear hf
    go_enter Tryz.func85, Tryz.ntmps85
    go_wp2_with (first | (go_at_call 44; (with_reducible refine (HG.out _ (by with_reducible repeat (first | exact Only.refl _ _ | assumption | refine Only.drewN ?_ _ | refine Only.drew ?_ | refine Only.alloc ?_ _ | refine Only.setCell ?_ (by intro hh; exfalso; simp at hh; try omega) _ | refine Only.trans ?_ (by assumption)))).mono ?_); rintro e w1 ⟨rfl, t1⟩; have y1 := t1.cells_eq w.heap.size (by simp) (by simp)) | (go_at_call 95; (with_reducible refine (isNames_any x.names _ p1).mono ?_); rintro e w2 ⟨rfl, n2, rfl⟩))
    go_ret
    exact ⟨ret_bool Hf.out.symm, (by with_reducible repeat (first | exact Only.refl _ _ | assumption | refine Only.drewN ?_ _ | refine Only.drew ?_ | refine Only.alloc ?_ _ | refine Only.setCell ?_ (by intro hh; exfalso; simp at hh; try omega) _ | refine Only.trans ?_ (by assumption)))⟩
  have hf : validPz x = decide (x.names.size = x.moves.length) := by unfold validPz; rw [c3, c4]; rfl
  have Hf := Lib.hid hf; clear hf
  by_cases c5 : x.names.size = x.moves.length
  · have d5 : ((x.names.size : Int) == (x.moves.length : Int)) = true := by simp [c5]
    have C5 := Lib.hid c5; clear c5
    go_enter Tryz.func85, Tryz.ntmps85
    go_wp2_with (first | (go_at_call 44; (with_reducible refine (HG.out _ (by with_reducible repeat (first | exact Only.refl _ _ | assumption | refine Only.drewN ?_ _ | refine Only.drew ?_ | refine Only.alloc ?_ _ | refine Only.setCell ?_ (by intro hh; exfalso; simp at hh; try omega) _ | refine Only.trans ?_ (by assumption)))).mono ?_); rintro e w1 ⟨rfl, t1⟩; have y1 := t1.cells_eq w.heap.size (by simp) (by simp)) | (go_at_call 95; (with_reducible refine (isNames_any x.names _ p1).mono ?_); rintro e w2 ⟨rfl, n2, rfl⟩))
    go_ret
    exact ⟨ret_bool (by rw [Hf.out, decide_eq_true C5.out]), (by with_reducible repeat (first | exact Only.refl _ _ | assumption | refine Only.drewN ?_ _ | refine Only.drew ?_ | refine Only.alloc ?_ _ | refine Only.setCell ?_ (by intro hh; exfalso; simp at hh; try omega) _ | refine Only.trans ?_ (by assumption)))⟩
  · have d5 : ((x.names.size : Int) == (x.moves.length : Int)) = false := by rw [beq_eq_false_iff_ne]; omega
    have C5 := Lib.hid c5; clear c5
    go_enter Tryz.func85, Tryz.ntmps85
    go_wp2_with (first | (go_at_call 44; (with_reducible refine (HG.out _ (by with_reducible repeat (first | exact Only.refl _ _ | assumption | refine Only.drewN ?_ _ | refine Only.drew ?_ | refine Only.alloc ?_ _ | refine Only.setCell ?_ (by intro hh; exfalso; simp at hh; try omega) _ | refine Only.trans ?_ (by assumption)))).mono ?_); rintro e w1 ⟨rfl, t1⟩; have y1 := t1.cells_eq w.heap.size (by simp) (by simp)) | (go_at_call 95; (with_reducible refine (isNames_any x.names _ p1).mono ?_); rintro e w2 ⟨rfl, n2, rfl⟩))
    go_ret
    exact ⟨ret_bool (by rw [Hf.out, decide_eq_false C5.out]), (by with_reducible repeat (first | exact Only.refl _ _ | assumption | refine Only.drewN ?_ _ | refine Only.drew ?_ | refine Only.alloc ?_ _ | refine Only.setCell ?_ (by intro hh; exfalso; simp at hh; try omega) _ | refine Only.trans ?_ (by assumption)))⟩
end Go.Proofs.YtnagknkllkdkaaaGreat

namespace Go.Proofs.YtnagknkllkdkaaaGreat
open Go.RowKit
set_option maxRecDepth 10000
end Go.Proofs.YtnagknkllkdkaaaGreat


namespace Go.Proofs.YtnagknkllkdkaaaGreat
open Go.RowKit
set_option maxRecDepth 10000

/-- a strictly increasing list of points of n -/
def Inc (n : Int) (l : List Int) : Prop := (∀ x ∈ l, 0 ≤ x ∧ x < n) ∧ l.Pairwise (· < ·)
instance (n : Int) (l : List Int) : Decidable (Inc n l) := inferInstanceAs (Decidable (_ ∧ _))
/-- distinct points of n -/
def Dis (n : Int) (l : List Int) : Prop := (∀ x ∈ l, 0 ≤ x ∧ x < n) ∧ l.Nodup
instance (n : Int) (l : List Int) : Decidable (Dis n l) := inferInstanceAs (Decidable (_ ∧ _))
def patB (n : Int) (k : Nat) (l : List Int) : Bool := decide (l.length = k) && decide (Dis n l)
theorem inc_ge {l : List Int} (h0 : ∀ x ∈ l, 0 ≤ x) (hp : l.Pairwise (· < ·)) : ∀ k (hk : k < l.length), (k : Int) ≤ l[k] := by
  intro k
  induction k with
  | zero => intro hk; have := h0 _ (List.getElem_mem hk); omega
  | succ k ih =>
    intro hk
    have h1 := ih (by omega)
    have h2 := List.pairwise_iff_getElem.1 hp k (k + 1) (by omega) hk (by omega)
    omega
theorem Inc.len {n : Int} {l : List Int} (h : Inc n l) : (l.length : Int) ≤ n ∨ l.length = 0 := by
  rcases Nat.eq_zero_or_pos l.length with h0 | h0
  · exact .inr h0
  · left
    have h1 := inc_ge (fun x hx => (h.1 x hx).1) h.2 (l.length - 1) (by omega)
    have h2 := (h.1 l[l.length - 1] (List.getElem_mem _)).2
    omega
theorem patB_iff {n : Int} {k : Nat} {l : List Int} : patB n k l = true ↔ l.length = k ∧ Dis n l := by simp [patB]
end Go.Proofs.YtnagknkllkdkaaaGreat

namespace Go.Proofs.YtnagknkllkdkaaaGreat
open Go.RowKit
set_option maxRecDepth 10000
/-- the index of the first pattern that is this one, -1 if there is none -/
def idxL (l : List (List Int)) (p : List Int) : Int := idxF (fun q => decide (q = p)) l
/-- the pattern behind a letter -/
def nxt (x : Puzzle) (p : List Int) (l : Int) : List Int := PM.comp p (mv x.moves l)
/-- where a letter leads -/
def nextI (x : Puzzle) (t : Table) (p : List Int) (l : Int) : Int := idxL t.patterns (nxt x p l)
/-- a letter leads to an entry of this distance -/
def leads (x : Puzzle) (t : Table) (p : List Int) (d : Int) (l : Int) : Bool := decide (0 ≤ nextI x t p l) && decide (t.distances.getD (nextI x t p l).toNat 0 = d)
structure Fault where
  kind : Int
  entry : Int
  letter : Int
instance : Rp Fault where
  size := 3
  rep _ cs x fp := cs = [Value.int .i64 x.kind, Value.int .i64 x.entry, Value.int .i64 x.letter] ∧ (I64 x.kind ∧ I64 x.entry ∧ I64 x.letter) ∧ fp = []
  len h := by rw [h.1]; rfl
  frame h _ := h
  lt h := by rw [h.2.2]; simp
def one (b : Bool) (f : Fault) : List Fault := if b = true then [f] else []
end Go.Proofs.YtnagknkllkdkaaaGreat

namespace Go.Proofs.YtnagknkllkdkaaaGreat
open Go.RowKit
set_option maxRecDepth 10000
end Go.Proofs.YtnagknkllkdkaaaGreat

namespace Go.Proofs.YtnagknkllkdkaaaGreat
open Go.RowKit
set_option maxRecDepth 10000

/-- a precedes b -/
def prec : List Int → List Int → Bool
  | a :: xs, b :: ys => if a = b then prec xs ys else decide (a < b)
  | _, _ => false
theorem prec_trans : ∀ {a b c : List Int}, a.length = b.length → b.length = c.length → prec a b = true → prec b c = true → prec a c = true
  | [], _, _, _, _, h, _ => by cases h
  | _ :: _, [], _, h, _, _, _ => by cases h
  | _ :: _, _ :: _, [], _, h, _, _ => by cases h
  | a :: xs, b :: ys, c :: zs, h1, h2, h3, h4 => by
    unfold prec at h3 h4 ⊢
    by_cases e1 : a = b
    · by_cases e2 : b = c
      · rw [if_pos e1] at h3; rw [if_pos e2] at h4; rw [if_pos (e1.trans e2)]
        exact prec_trans (by simpa using h1) (by simpa using h2) h3 h4
      · rw [if_neg e2] at h4; subst e1; rw [if_neg e2]; exact h4
    · rw [if_neg e1] at h3
      have h3 := of_decide_eq_true h3
      by_cases e2 : b = c
      · subst e2; rw [if_neg e1]; exact decide_eq_true h3
      · rw [if_neg e2] at h4
        have h4 := of_decide_eq_true h4
        rw [if_neg (by omega)]; exact decide_eq_true (by omega)
theorem prec_tri : ∀ {a b : List Int}, a.length = b.length → a ≠ b → prec a b = false → prec b a = true
  | [], [], _, h, _ => absurd rfl h
  | [], _ :: _, h, _, _ => by cases h
  | _ :: _, [], h, _, _ => by cases h
  | a :: xs, b :: ys, h1, h2, h3 => by
    unfold prec at h3 ⊢
    by_cases e1 : a = b
    · subst e1
      rw [if_pos rfl] at h3 ⊢
      exact prec_tri (by simpa using h1) (fun e => h2 (by rw [e])) h3
    · rw [if_neg e1] at h3
      rw [if_neg (fun e => e1 e.symm)]
      have := of_decide_eq_false h3
      exact decide_eq_true (by omega)
/-- so: an index of the lists L, sorted by them -/
structure Srt (m : Nat) (L : List (List Int)) (so : List Nat) : Prop where
  len : so.length = L.length
  many : ∀ x ∈ L, x.length = m
  in_ : ∀ i ∈ so, i < L.length
  all : ∀ i, i < L.length → i ∈ so
  asc : ∀ (i j : Nat) (hi : i < so.length) (hj : j < so.length), i < j → prec (L.getD so[i] []) (L.getD so[j] []) = true
theorem Srt.nil (m : Nat) : Srt m [] [] := ⟨rfl, by simp, by simp, by simp, by simp⟩
theorem Srt.mem {m : Nat} {L : List (List Int)} {so : List Nat} (h : Srt m L so) {i : Nat} (hi : i < so.length) : L.getD so[i] [] ∈ L := by
  have := h.in_ so[i] (List.getElem_mem hi)
  rw [List.getD_eq_getElem?_getD, List.getElem?_eq_getElem this]
  exact List.getElem_mem this
/-- k: the place at which s is or would be -/
structure Slot (L : List (List Int)) (so : List Nat) (s : List Int) (k : Nat) : Prop where
  le : k ≤ so.length
  lo : ∀ (i : Nat) (hi : i < so.length), i < k → prec (L.getD so[i] []) s = true
  hi : ∀ (i : Nat) (hi : i < so.length), k ≤ i → prec (L.getD so[i] []) s = false
theorem Srt.below {m : Nat} {L : List (List Int)} {so : List Nat} (h : Srt m L so) {s : List Int} (hs : s.length = m) {k : Nat} (hk : k < so.length) (hp : prec (L.getD so[k] []) s = true) {i : Nat} (hi : i < so.length) (hik : i ≤ k) : prec (L.getD so[i] []) s = true := by
  rcases Nat.lt_or_eq_of_le hik with hlt | rfl
  · exact prec_trans (by rw [h.many _ (h.mem hi), h.many _ (h.mem hk)]) (by rw [h.many _ (h.mem hk), hs]) (h.asc i k hi hk hlt) hp
  · exact hp
/-- one list more -/
theorem Srt.add {m : Nat} {L : List (List Int)} {so : List Nat} (h : Srt m L so) {s : List Int} (hs : s.length = m) (hn : s ∉ L) {k : Nat} (hk : Slot L so s k) : Srt m (L ++ [s]) (so.take k ++ L.length :: so.drop k) := by
  have hD : ∀ (t : Nat) (ht : t < so.length), (L ++ [s]).getD so[t] [] = L.getD so[t] [] := fun t ht => by
    have := h.in_ so[t] (List.getElem_mem ht)
    simp only [List.getD_eq_getElem?_getD, List.getElem?_append_left this]
  have hS : (L ++ [s]).getD L.length [] = s := by simp [List.getD_eq_getElem?_getD]
  have hle := hk.le
  have hG : ∀ (t : Nat) (ht : t < (so.take k ++ L.length :: so.drop k).length), (L ++ [s]).getD (so.take k ++ L.length :: so.drop k)[t] [] = if t < k then L.getD (so.getD t 0) [] else if t = k then s else L.getD (so.getD (t - 1) 0) [] := by
    intro t ht
    have htl : t < so.length + 1 := by simp at ht; omega
    by_cases h1 : t < k
    · rw [if_pos h1]
      rw [List.getElem_append_left (by simp; omega), List.getElem_take]
      rw [hD t (by omega)]
      simp [List.getD_eq_getElem?_getD, List.getElem?_eq_getElem (show t < so.length by omega)]
    · rw [if_neg h1]
      have hkl : (so.take k).length = k := by simp; omega
      rw [List.getElem_append_right (by rw [hkl]; omega)]
      by_cases h2 : t = k
      · subst h2; rw [if_pos rfl]; simp only [hkl, Nat.sub_self, List.getElem_cons_zero]; exact hS
      · rw [if_neg h2]
        have h3 : t - (so.take k).length = (t - 1 - k) + 1 := by rw [hkl]; omega
        simp only [h3, List.getElem_cons_succ, List.getElem_drop]
        have h4 : k + (t - 1 - k) = t - 1 := by omega
        have h5 : t - 1 < so.length := by omega
        simp only [h4]
        rw [hD _ h5]
        simp [List.getD_eq_getElem?_getD, List.getElem?_eq_getElem h5]
  refine ⟨?_, ?_, ?_, ?_, ?_⟩
  · have := h.len; simp; omega
  · intro x hx
    rcases List.mem_append.1 hx with hx | hx
    · exact h.many x hx
    · simp at hx; subst hx; exact hs
  · intro i hi
    rw [List.length_append, List.length_singleton]
    rcases List.mem_append.1 hi with hi | hi
    · have := h.in_ i (List.mem_of_mem_take hi); omega
    · rcases List.mem_cons.1 hi with rfl | hi
      · omega
      · have := h.in_ i (List.mem_of_mem_drop hi); omega
  · intro i hi
    rw [List.length_append, List.length_singleton] at hi
    by_cases he : i = L.length
    · subst he; simp
    · have := h.all i (by omega)
      rw [← List.take_append_drop k so] at this
      rcases List.mem_append.1 this with h1 | h1
      · exact List.mem_append_left _ h1
      · exact List.mem_append_right _ (List.mem_cons_of_mem _ h1)
  · intro i j hi hj hij
    rw [hG i hi, hG j hj]
    have hjl : j < so.length + 1 := by simp at hj; omega
    have gd : ∀ (t : Nat) (ht : t < so.length), so.getD t 0 = so[t] := fun t ht => by simp [List.getD_eq_getElem?_getD, List.getElem?_eq_getElem ht]
    by_cases j1 : j < k
    · rw [if_pos j1, if_pos (by omega), gd i (by omega), gd j (by omega)]
      exact h.asc i j (by omega) (by omega) hij
    · rw [if_neg j1]
      by_cases j2 : j = k
      · subst j2
        rw [if_pos rfl, if_pos hij, gd i (by omega)]
        exact hk.lo i (by omega) hij
      · rw [if_neg j2, gd (j - 1) (by omega)]
        by_cases i1 : i < k
        · rw [if_pos i1, gd i (by omega)]
          exact h.asc i (j - 1) (by omega) (by omega) (by omega)
        · rw [if_neg i1]
          by_cases i2 : i = k
          · rw [if_pos i2]
            have hj1 : j - 1 < so.length := by omega
            have hne : L.getD so[j - 1] [] ≠ s := fun e => hn (e ▸ h.mem hj1)
            exact prec_tri (by rw [h.many _ (h.mem hj1), hs]) hne (hk.hi (j - 1) hj1 (by omega))
          · rw [if_neg i2, gd (i - 1) (by omega)]
            exact h.asc (i - 1) (j - 1) (by omega) (by omega) (by omega)
end Go.Proofs.YtnagknkllkdkaaaGreat

namespace Go.Proofs.YtnagknkllkdkaaaGreat
open Go.RowKit
set_option maxRecDepth 10000


/-- the index as numbers -/
def soI (so : List Nat) : List Int := so.map fun i : Nat => (i : Int)
/-- what a search holds, as its functions read it -/
structure SrR (w : World) (A1 A2 A3 : Option Addr) (C1 C2 C3 : Nat) (L : List (List Int)) (D : List Int) (so : List Nat) (ob : List Nat) (fps : List (List Nat)) (fd fs : List Nat) : Prop where
  ls : SeqA w A1 C1 L ob fps
  dp : IntsA w A2 C2 D fd
  st : IntsA w A3 C3 (soI so) fs
theorem SrR.keep {w w' : World} {A1 A2 A3 : Option Addr} {C1 C2 C3 : Nat} {L : List (List Int)} {D : List Int} {so : List Nat} {ob : List Nat} {fps : List (List Nat)} {fd fs : List Nat} (h : SrR w A1 A2 A3 C1 C2 C3 L D so ob fps fd fs) (ho : Only [] w w') : SrR w' A1 A2 A3 C1 C2 C3 L D so ob fps fd fs :=
  ⟨h.ls.frame fun b hb => ho.block b (h.ls.lt_all b hb) (by simp), h.dp.keep ho, h.st.keep ho⟩
theorem SrR.only {w w' : World} {A1 A2 A3 : Option Addr} {C1 C2 C3 : Nat} {L : List (List Int)} {D : List Int} {so : List Nat} {ob : List Nat} {fps : List (List Nat)} {fd fs fp : List Nat} (h : SrR w A1 A2 A3 C1 C2 C3 L D so ob fps fd fs) (ho : Only fp w w') (hd : ∀ g ∈ (ob ++ fps.flatten) ++ (fd ++ fs), g ∉ fp) : SrR w' A1 A2 A3 C1 C2 C3 L D so ob fps fd fs :=
  ⟨h.ls.frame fun b hb => ho.block b (h.ls.lt_all b hb) (hd b (List.mem_append_left _ hb)), h.dp.only ho fun b hb => hd b (List.mem_append_right _ (List.mem_append_left _ hb)), h.st.only ho fun b hb => hd b (List.mem_append_right _ (List.mem_append_right _ hb))⟩



end Go.Proofs.YtnagknkllkdkaaaGreat
