/- IsGeneratorSet: the reference's and the program's. Puzzle: plain data, how it lies in memory, the laws' own helpers on it. (Printed by gen_struct.py.) IsValidPuzzle: the reference's and the program's. Equality of plain data: the reference's and the program's. Tracked sets, patterns and well-formed tables: the reference's and the program's. A table's faults, in plain words. Breadth-first search of patterns in plain words (law 16). Lists of one length in order; an index kept sorted by them (law 16). The reference's search: an index of lists kept sorted (law 16). The making of chains: the reference's emptyChain and buildChain; membership. States and reachable states: the reference's and the program's functions. Session: plain data, how it lies in memory, the laws' own helpers on it. (Printed by gen_struct.py.) Valid sessions: the reference's and the program's functions. A new session: the reference's and the program's. What the functions on sessions do with words and histories: pushes, evaluation of words, copies. Words evaluated: the reference's and the program's functions. Histories: a word more, a word less; copies of sessions. -/
import Derived.Test.YtbediokigibdlaaRowCosetRepresentativesG3
import Derived.Test.YtbediokigibdlaaRowCosetRepresentativesG6
import Derived.Test.YtbediokigibdlaaRowCosetRepresentativesG7
import Derived.Laws.CopyOwn
import Derived.StillTailTactics
import Derived.Deep.RegionHeld3
import Derived.Deep.DeepCutAuto
import Derived.BigQuiet
namespace Go.Proofs.Ytbediokigibdlaa
open Go.RowKit
set_option maxRecDepth 10000

set_option maxHeartbeats 400000 in
theorem IndexFunc_rows (f : FuncId) (caps : Array Value) (pr : List Int → Bool) (hcf : ∀ args w, (callFunc f args).run Try.prog w = .ok (.enter f args) w)
    (v : Value) (l : List (List Int)) (fp : List Nat) (w : World) (h : Rd w v l fp)
    (hc : ∀ x ∈ l, ∀ u f' w', Only [] w w' → Rd w' u x f' → Calls Try.prog f (#[u] ++ caps) w' fun e w'' => e = .returned (.bool (pr x)) ∧ Only [] w' w'') :
    Calls Try.prog 89 #[v, .func (.func f) #[] caps] w fun e w' => e = .returned (.int .i64 (idxF pr l)) ∧ Only [] w w' := by
  obtain ⟨a, cap, ob, fps, rfl, -, hI⟩ := h.open_
  have hb := hI.bound
  have HC := Lib.hid hc
  clear hc
  go_enter Try.func89, Try.ntmps89
  go_wp2
  go_loopw [5, 8] (fun i t wr => ∃ j : Nat, j ≤ l.length ∧ t = .int .i64 j ∧ (∀ x ∈ l.take j, pr x = false) ∧ Only [] w wr)
    (fun _ t _ => l.length - (intOf t).toNat)
  case atStart => exact ⟨0, Nat.zero_le _, rfl, by simp, Only.refl _ _⟩
  case round =>
    obtain ⟨j, hj, rfl, hr, hK⟩ := hrel
    have Hr := Lib.hid hr; clear hr
    by_cases hlt : j < l.length
    · obtain ⟨b, off, u, rfl, -, hc0, hv0⟩ := hI.atRow j hlt
      have hc := hK.cell (by simp) hc0
      have hv := Rp.keep hv0 hK
      clear hc0 hv0
      rcases hp : pr l[j]
      all_goals go_wp2_with (with_reducible refine (HC.out l[j] (List.getElem_mem _) u _ wr hK hv).mono ?_; rintro e w1 ⟨rfl, hk1⟩)
      · go_roundw
        case rel => exact ⟨j + 1, by omega, by go_num, by
          rw [take_succ_get l j hlt]; intro x hx
          rcases List.mem_append.1 hx with hx | hx
          · exact Hr.out x hx
          · simp at hx; subst hx; exact hp, hK.trans hk1⟩
        case measure => simp [intOf]; omega
      · go_ret
        exact ⟨ret_int (idxF_some hlt Hr.out hp).symm, hK.trans hk1⟩
    · go_wp2
      go_ret
      exact ⟨ret_int (idxF_none (by have := Hr.out; rwa [List.take_of_length_le (by omega)] at this)).symm, hK⟩
set_option maxHeartbeats 400000 in
theorem ContainsFunc_rows (f : FuncId) (caps : Array Value) (pr : List Int → Bool) (hcf : ∀ args w, (callFunc f args).run Try.prog w = .ok (.enter f args) w)
    (v : Value) (l : List (List Int)) (fp : List Nat) (w : World) (h : Rd w v l fp)
    (hc : ∀ x ∈ l, ∀ u f' w', Only [] w w' → Rd w' u x f' → Calls Try.prog f (#[u] ++ caps) w' fun e w'' => e = .returned (.bool (pr x)) ∧ Only [] w' w'') :
    Calls Try.prog 45 #[v, .func (.func f) #[] caps] w fun e w' => e = .returned (.bool (l.any pr)) ∧ Only [] w w' := by
  have HC := Lib.hid hc
  clear hc
  go_enter Try.func45, Try.ntmps45
  go_wp2_with ((go_at_call 89; (with_reducible refine (IndexFunc_rows f caps pr hcf v l _ w h HC.out).mono ?_); rintro e w1 ⟨rfl, hk⟩))
  go_ret
  exact ⟨ret_bool idxF_ge, hk⟩

def genB (n : Int) (g : List Int) : Bool := decide ((g.length : Int) = n) && permB g
def gensB (n : Int) (gens : List (List Int)) : Bool := inR n 1 20 && decide (gens.length ≤ 8) && gens.all (genB n)
set_option maxHeartbeats 1000000 in
theorem specIsGens_any (n : Int) (a : Option Addr) (cap : Nat) (l : List (List Int)) (ob : List Nat) (fps : List (List Nat)) (w : World) (h : SeqA w a cap l ob fps) :
    Calls Try.prog 10 #[.int .i64 n, .slice a l.length cap] w fun e w' => e = .returned (.bool (gensB n l)) ∧ Drew w w' := by
  have hb := h.bound
  rcases hq : inR n 1 20
  · go_enter Try.func10, Try.ntmps10
    go_wp2_with ((go_at_call 41; (with_reducible refine (inRange_any n 1 20 _).mono ?_); rintro e w ⟨rfl, rfl⟩))
    go_ret
    exact ⟨ret_bool (by unfold gensB; rw [hq]; rfl), Drew.refl _⟩
  by_cases hl : 8 < l.length
  · go_enter Try.func10, Try.ntmps10
    go_wp2_with ((go_at_call 41; (with_reducible refine (inRange_any n 1 20 _).mono ?_); rintro e w ⟨rfl, rfl⟩))
    go_ret
    exact ⟨ret_bool (by unfold gensB; rw [hq, decide_eq_false (by omega)]; rfl), Drew.refl _⟩
  have hfin : gensB n l = l.all (genB n) := by unfold gensB; rw [hq, decide_eq_true (by omega)]; rfl
  have Hfin := Lib.hid hfin; clear hfin
  go_enter Try.func10, Try.ntmps10
  go_wp2_with ((go_at_call 41; (with_reducible refine (inRange_any n 1 20 _).mono ?_); rintro e w ⟨rfl, rfl⟩))
  go_loopw [5] (fun i wr => ∃ j : Nat, j ≤ l.length ∧ i = .int .i64 j ∧ (∀ x ∈ l.take j, genB n x = true) ∧ Drew w wr)
    (fun i _ => l.length - (intOf i).toNat)
  case atStart => exact ⟨0, Nat.zero_le _, rfl, by simp, Drew.refl _⟩
  case round =>
    obtain ⟨j, hj, rfl, hr, k, rfl⟩ := hrel
    have Hr := Lib.hid hr; clear hr
    by_cases hlt : j < l.length
    · obtain ⟨b, off, v, rfl, -, hc, hv⟩ := h.atRow j hlt
      obtain ⟨a2, c2, rfl, hI⟩ := hv.ints
      have hb2 := hI.bound
      by_cases c1 : (l[j].length : Int) = n
      · have d1 : ((l[j].length : Int) != n) = false := by simp [c1]
        have C1 := Lib.hid c1; clear c1
        rcases c2 : permB l[j]
        all_goals go_wp2_with ((go_at_call 42; (with_reducible refine (specIsPerm_rd _ l[j] _ _ (Rp.keep hv (Only.ofDrewN _ _ _))).mono ?_); rintro e w1 ⟨rfl, n1, rfl⟩))
        · go_ret
          exact ⟨ret_bool (by rw [Hfin.out, eq_comm, List.all_eq_false]; exact ⟨l[j], List.getElem_mem _, by simp [genB, c2]⟩), ⟨_, rfl⟩⟩
        · go_roundw
          case rel => exact ⟨j + 1, by omega, by go_num, by
            rw [take_succ_get l j hlt]; intro x hx
            rcases List.mem_append.1 hx with hx | hx
            · exact Hr.out x hx
            · simp at hx; subst hx; simp [genB, c2, C1.out], ⟨_, rfl⟩⟩
          case measure => simp [intOf]; omega
      · have d1 : ((l[j].length : Int) != n) = true := by simp [c1]
        have C1 := Lib.hid c1; clear c1
        go_wp2
        go_ret
        exact ⟨ret_bool (by rw [Hfin.out, eq_comm, List.all_eq_false]; exact ⟨l[j], List.getElem_mem _, by simp [genB, C1.out]⟩), ⟨_, rfl⟩⟩
    · go_wp2
      go_ret
      exact ⟨ret_bool (by rw [Hfin.out, eq_comm, List.all_eq_true]; have := Hr.out; rwa [List.take_of_length_le (by omega)] at this), ⟨_, rfl⟩⟩
theorem specIsGens_rd (n : Int) (v : Value) (l : List (List Int)) (fp : List Nat) (w : World) (h : Rd w v l fp) :
    Calls Try.prog 10 #[.int .i64 n, v] w fun e w' => e = .returned (.bool (gensB n l)) ∧ Drew w w' := by
  obtain ⟨a, cap, ob, fps, rfl, -, hs⟩ := h.open_
  exact specIsGens_any n a cap l ob fps w hs
theorem lengthInt_q (v : Value) (l : List Int) (fp : List Nat) (w : World) (h : Rd w v l fp) :
    Calls Try.prog 74 #[v] w fun e w' => e = .returned (.int .i64 l.length) ∧ Drew w w' :=
  (lengthInt_rd v l fp w h).mono fun _ _ ⟨h1, h2⟩ => ⟨h1, by rw [h2]; exact Drew.refl _⟩
set_option maxHeartbeats 1000000 in
theorem IsGens_closure (n : Int) (u : Value) (x : List Int) (fp : List Nat) (b : Nat) (w : World) (h : Rd w u x fp) (hc : w.cell? ⟨b, 0, none⟩ = some (.int .i64 n)) :
    Calls Try.prog 87 #[u, .pointer (some ⟨b, 0, none⟩)] w fun e w' => e = .returned (.bool (!genB n x)) ∧ Only [] w w' := by
  obtain ⟨a, cap, rfl, hI⟩ := h.ints
  have hb := hI.bound
  by_cases c1 : (x.length : Int) = n
  · have d1 : ((x.length : Int) != n) = false := by simp [c1]
    have hg : genB n x = permB x := by simp [genB, c1]
    have Hg := Lib.hid hg; clear hg c1
    rcases c2 : permB x
    all_goals go_enter Try.func87, Try.ntmps87
    all_goals go_wp2
    all_goals go_quiet (first
      | (go_at_call 74; exact quiet_drewN0 (lengthInt_q _ x fp _ (Rp.keep h (Only.ofDrewN _ _ _))))
      | (go_at_call 76; exact quiet_drewN0 (implIsPerm_rd _ x fp _ (Rp.keep h (Only.ofDrewN _ _ _)))))
    all_goals go_wp2
    all_goals go_ret
    all_goals exact ⟨ret_bool (by rw [Hg.out, c2]; rfl), Only.ofDrewN _ _ _⟩
  · have d1 : ((x.length : Int) != n) = true := by simp [c1]
    have hg : genB n x = false := by simp [genB, c1]
    have Hg := Lib.hid hg; clear hg c1
    go_enter Try.func87, Try.ntmps87
    go_wp2
    go_quiet (first
      | (go_at_call 74; exact quiet_drewN0 (lengthInt_q _ x fp _ (Rp.keep h (Only.ofDrewN _ _ _))))
      | (go_at_call 76; exact quiet_drewN0 (implIsPerm_rd _ x fp _ (Rp.keep h (Only.ofDrewN _ _ _)))))
    go_wp2
    go_ret
    exact ⟨ret_bool (by rw [Hg.out]; rfl), Only.ofDrewN _ _ _⟩
set_option maxHeartbeats 1000000 in
theorem implIsGens_rd (n : Int) (v : Value) (l : List (List Int)) (fp : List Nat) (w : World) (h : Rd w v l fp) :
    Calls Try.prog 43 #[.int .i64 n, v] w fun e w' => e = .returned (.bool (gensB n l)) ∧ Only [] w w' := by
  obtain ⟨a, cap, ob, fps, rfl, -, hs⟩ := h.open_
  have hb := hs.bound
  rcases hq : inR n 1 20
  · go_enter Try.func43, Try.ntmps43
    go_wp2_with ((go_at_call 60; (with_reducible refine (within_any n 1 20 _).mono ?_); rintro e w1 ⟨rfl, rfl⟩))
    go_ret
    exact ⟨ret_bool (by unfold gensB; rw [hq]; rfl), (by with_reducible repeat (first | exact Only.refl _ _ | assumption | refine Only.drewN ?_ _ | refine Only.drew ?_ | refine Only.alloc ?_ _ | refine Only.setCell ?_ (by intro hh; exfalso; simp at hh; try omega) _ | refine Only.trans ?_ (by assumption)))⟩
  by_cases hl : l.length ≤ 8
  · have hfin : gensB n l = !(l.any fun x => !genB n x) := by unfold gensB; rw [hq, decide_eq_true hl, List.not_any_eq_all_not]; simp
    have Hfin := Lib.hid hfin; clear hfin
    have Hc := Lib.hid (ContainsFunc_rows 87 #[.pointer (some ⟨w.heap.size, 0, none⟩)] (fun x => !genB n x) Try.call87 (.slice a l.length cap) l _ (w.alloc (.cells #[.int .i64 n] 2)) (Rp.keep h (by with_reducible repeat (first | exact Only.refl _ _ | assumption | refine Only.drewN ?_ _ | refine Only.drew ?_ | refine Only.alloc ?_ _ | refine Only.setCell ?_ (by intro hh; exfalso; simp at hh; try omega) _ | refine Only.trans ?_ (by assumption))))
      (fun x _ u f' w' hw hu => IsGens_closure n u x f' w.heap.size w' hu (hw.cell (by simp) (by simp))))
    rcases hany : l.any fun x => !genB n x
    all_goals go_enter Try.func43, Try.ntmps43
    all_goals go_wp2_with (first | (go_at_call 60; refine (within_any n 1 20 _).mono ?_; rintro e w1 ⟨rfl, rfl⟩) | (go_at_call 45; (with_reducible refine (Hc.out).mono ?_); rintro e w1 ⟨rfl, hk⟩))
    all_goals go_ret
    all_goals exact ⟨ret_bool (by rw [Hfin.out, hany]; rfl), (by with_reducible repeat (first | exact Only.refl _ _ | assumption | refine Only.drewN ?_ _ | refine Only.drew ?_ | refine Only.alloc ?_ _ | refine Only.setCell ?_ (by intro hh; exfalso; simp at hh; try omega) _ | refine Only.trans ?_ (by assumption)))⟩
  · go_enter Try.func43, Try.ntmps43
    go_wp2_with ((go_at_call 60; (with_reducible refine (within_any n 1 20 _).mono ?_); rintro e w1 ⟨rfl, rfl⟩))
    go_ret
    exact ⟨ret_bool (by unfold gensB; rw [hq, decide_eq_false hl]; rfl), (by with_reducible repeat (first | exact Only.refl _ _ | assumption | refine Only.drewN ?_ _ | refine Only.drew ?_ | refine Only.alloc ?_ _ | refine Only.setCell ?_ (by intro hh; exfalso; simp at hh; try omega) _ | refine Only.trans ?_ (by assumption)))⟩
end Go.Proofs.Ytbediokigibdlaa

namespace Go.Proofs.Ytbediokigibdlaa
open Go.RowKit
set_option maxRecDepth 10000

structure Puzzle where
  points : Int
  names : ByteArray
  moves : List (List Int)

instance : Rp Puzzle where
  size := 3
  rep w cs x fp := ∃ v2, cs = [Value.int .i64 x.points] ++ [Value.string x.names] ++ [v2] ∧ I64 x.points ∧ x.names.size ≤ maxLen ∧ Rd w v2 x.moves fp
  len h := by
    obtain ⟨v2, rfl, p0, p1, h2⟩ := h
    rfl
  frame h hf := by
    obtain ⟨v2, hcs, p0, p1, h2⟩ := h
    exact ⟨v2, hcs, p0, p1, Rp.frame h2 fun b hb => hf b (by simp [hb])⟩
  lt h := by
    obtain ⟨v2, hcs, p0, p1, h2⟩ := h
    intro b hb
    exact Rp.lt h2 b hb

instance : Mk Puzzle where
  mark k x := ⟨x.points, x.names, Mk.mark (k) x.moves⟩
  cnt x := Mk.cnt x.moves
instance : Sz Puzzle where
  sz x := x.names.size + Sz.sz x.moves
instance : Sm Puzzle where
  sm x := Sm.sm x.moves
instance : SzSm Puzzle := ⟨fun x h => by
  have h' : x.names.size + Sz.sz x.moves ≤ 2097152 := h
  exact SzSm.of_ x.moves (by omega)⟩
instance : CntSz Puzzle := ⟨fun x => by
  have h' : Mk.cnt x.moves ≤ x.names.size + Sz.sz x.moves := by have := CntSz.le x.moves; omega
  exact h'⟩
instance : MkL Puzzle := ⟨fun k x => by simp [Mk.mark, markL_idem], fun k x => by simp [Mk.mark, Mk.cnt, markL_cnt]⟩
end Go.Proofs.Ytbediokigibdlaa


namespace Go.Proofs.Ytbediokigibdlaa
open Go.RowKit
set_option maxRecDepth 10000

/-- the bytes of a string, as numbers -/
def bl (s : ByteArray) : List Int := s.data.toList.map fun b => (b.toNat : Int)
def namesB (s : ByteArray) : Bool := inR s.size 1 8 && ((bl s).all (fun b => inR b 65 90) && decide (bl s).Nodup)
def validPz (p : Puzzle) : Bool := gensB p.points p.moves && (namesB p.names && decide (p.names.size = p.moves.length))
end Go.Proofs.Ytbediokigibdlaa

namespace Go.Proofs.Ytbediokigibdlaa
open Go.RowKit
set_option maxRecDepth 10000

set_option maxHeartbeats 400000 in
theorem equalInts_any (a a' : Option Addr) (cap cap' : Nat) (l l' : List Int) (fp fp' : List Nat) (w : World) (h : IntsA w a cap l fp) (h' : IntsA w a' cap' l' fp') :
    Calls Try.prog 94 #[.slice a l.length cap, .slice a' l'.length cap'] w fun e w' => e = .returned (.bool (eqV l l')) ∧ Drew w w' := by
  have hb := h.bound
  have hb' := h'.bound
  by_cases hl : l.length = l'.length
  · have hne : ((l.length : Int) != (l'.length : Int)) = false := by simp [hl]
    have Hl := Lib.hid hl; clear hl
    go_enter Try.func94, Try.ntmps94
    go_wp2
    go_loopw [5] (fun i wr => ∃ j : Nat, j ≤ l.length ∧ i = .int .i64 j ∧ l.take j = l'.take j ∧ Drew w wr)
      (fun i _ => l.length - (intOf i).toNat)
    case atStart => exact ⟨0, Nat.zero_le _, rfl, rfl, Drew.refl _⟩
    case round =>
      obtain ⟨j, hj, rfl, hr, n, rfl⟩ := hrel
      have Hr := Lib.hid hr; clear hr
      by_cases hlt : j < l.length
      · have hlt' : j < l'.length := by have := Hl.out; omega
        obtain ⟨b, off, ha, -, hc⟩ := h.at_ j hlt
        obtain ⟨b', off', ha', -, hc'⟩ := h'.at_ j hlt'
        go_wp2
        go_quiet (fail)
        go_wp2
        · have hne : (l[j] != l'[j]) = true := by assumption
          go_ret
          exact ⟨ret_bool (eqInts_no hlt hlt' hne).symm, ((Drew.refl _).drewN _).drewN _⟩
        · have heq : (l[j] != l'[j]) = false := by assumption
          go_roundw
          case rel => exact ⟨j + 1, by omega, by go_num, eqInts_step hlt hlt' heq Hr.out, ⟨_, rfl⟩⟩
          case measure => simp [intOf]; omega
      · go_wp2
        go_ret
        exact ⟨ret_bool (eqL_yes Hl.out hlt Hr.out).symm, (Drew.refl _).drewN n⟩
  · have hne : ((l.length : Int) != (l'.length : Int)) = true := by simp; omega
    go_enter Try.func94, Try.ntmps94
    go_wp2
    go_ret
    exact ⟨ret_bool (eqL_len hne).symm, Drew.refl _⟩

theorem equalInts_rd (v v' : Value) (l l' : List Int) (fp fp' : List Nat) (w : World) (h : Rd w v l fp) (h' : Rd w v' l' fp') :
    Calls Try.prog 94 #[v, v'] w fun e w' => e = .returned (.bool (eqV l l')) ∧ Drew w w' := by
  obtain ⟨a, cap, rfl, hI⟩ := h.ints
  obtain ⟨a', cap', rfl, hI'⟩ := h'.ints
  exact equalInts_any a a' cap cap' l l' fp fp' w hI hI'

set_option maxHeartbeats 400000 in
theorem Equal_any (a a' : Option Addr) (cap cap' : Nat) (l l' : List Int) (fp fp' : List Nat) (w : World) (h : IntsA w a cap l fp) (h' : IntsA w a' cap' l' fp') :
    Calls Try.prog 65 #[.slice a l.length cap, .slice a' l'.length cap'] w fun e w' => e = .returned (.bool (eqV l l')) ∧ Drew w w' := by
  have hb := h.bound
  have hb' := h'.bound
  by_cases hl : l.length = l'.length
  · have hne : ((l.length : Int) != (l'.length : Int)) = false := by simp [hl]
    have Hl := Lib.hid hl; clear hl
    go_enter Try.func65, Try.ntmps65
    go_wp2
    go_loopw [5, 13] (fun _ i wr => ∃ j : Nat, j ≤ l.length ∧ i = .int .i64 j ∧ l.take j = l'.take j ∧ Drew w wr)
      (fun _ i _ => l.length - (intOf i).toNat)
    case atStart => exact ⟨0, Nat.zero_le _, rfl, rfl, Drew.refl _⟩
    case round =>
      obtain ⟨j, hj, rfl, hr, n, rfl⟩ := hrel
      have Hr := Lib.hid hr; clear hr
      by_cases hlt : j < l.length
      · have hlt' : j < l'.length := by have := Hl.out; omega
        obtain ⟨b, off, ha, -, hc⟩ := h.at_ j hlt
        obtain ⟨b', off', ha', -, hc'⟩ := h'.at_ j hlt'
        go_wp2
        go_quiet (fail)
        go_wp2
        · have hne : (l[j] != l'[j]) = true := by assumption
          go_ret
          exact ⟨ret_bool (eqInts_no hlt hlt' hne).symm, ((Drew.refl _).drewN _).drewN _⟩
        · have heq : (l[j] != l'[j]) = false := by assumption
          go_roundw
          case rel => exact ⟨j + 1, by omega, by go_num, eqInts_step hlt hlt' heq Hr.out, ⟨_, rfl⟩⟩
          case measure => simp [intOf]; omega
      · go_wp2
        go_ret
        exact ⟨ret_bool (eqL_yes Hl.out hlt Hr.out).symm, (Drew.refl _).drewN n⟩
  · have hne : ((l.length : Int) != (l'.length : Int)) = true := by simp; omega
    go_enter Try.func65, Try.ntmps65
    go_wp2
    go_ret
    exact ⟨ret_bool (eqL_len hne).symm, Drew.refl _⟩

theorem Equal_rd (v v' : Value) (l l' : List Int) (fp fp' : List Nat) (w : World) (h : Rd w v l fp) (h' : Rd w v' l' fp') :
    Calls Try.prog 65 #[v, v'] w fun e w' => e = .returned (.bool (eqV l l')) ∧ Drew w w' := by
  obtain ⟨a, cap, rfl, hI⟩ := h.ints
  obtain ⟨a', cap', rfl, hI'⟩ := h'.ints
  exact Equal_any a a' cap cap' l l' fp fp' w hI hI'


end Go.Proofs.Ytbediokigibdlaa


namespace Go.Proofs.Ytbediokigibdlaa
open Go.RowKit
set_option maxRecDepth 10000

/-- a strictly increasing list of points of n -/
def Inc (n : Int) (l : List Int) : Prop := (∀ x ∈ l, 0 ≤ x ∧ x < n) ∧ l.Pairwise (· < ·)
instance (n : Int) (l : List Int) : Decidable (Inc n l) := inferInstanceAs (Decidable (_ ∧ _))
/-- distinct points of n -/
def Dis (n : Int) (l : List Int) : Prop := (∀ x ∈ l, 0 ≤ x ∧ x < n) ∧ l.Nodup
instance (n : Int) (l : List Int) : Decidable (Dis n l) := inferInstanceAs (Decidable (_ ∧ _))
def trackB (n : Int) (l : List Int) : Bool := decide (0 < l.length) && decide (Inc n l)
def patB (n : Int) (k : Nat) (l : List Int) : Bool := decide (l.length = k) && decide (Dis n l)
theorem inc_ge {l : List Int} (h0 : ∀ x ∈ l, 0 ≤ x) (hp : l.Pairwise (· < ·)) : ∀ k (hk : k < l.length), (k : Int) ≤ l[k] := by
  intro k
  induction k with
  | zero => intro hk; have := h0 _ (List.getElem_mem hk); omega
  | succ k ih =>
    intro hk
    have h1 := ih (by omega)
    have h2 := List.pairwise_iff_getElem.1 hp k (k + 1) (by omega) hk (by omega)
    omega
theorem Inc.len {n : Int} {l : List Int} (h : Inc n l) : (l.length : Int) ≤ n ∨ l.length = 0 := by
  rcases Nat.eq_zero_or_pos l.length with h0 | h0
  · exact .inr h0
  · left
    have h1 := inc_ge (fun x hx => (h.1 x hx).1) h.2 (l.length - 1) (by omega)
    have h2 := (h.1 l[l.length - 1] (List.getElem_mem _)).2
    omega
theorem trackB_iff {n : Int} {l : List Int} : trackB n l = true ↔ 0 < l.length ∧ Inc n l := by simp [trackB]
theorem patB_iff {n : Int} {k : Nat} {l : List Int} : patB n k l = true ↔ l.length = k ∧ Dis n l := by simp [patB]
def wfT (t : Table) : Bool := trackB 20 t.tracked && (inR t.patterns.length 1 3000 && (decide (t.distances.length = t.patterns.length) && (t.patterns.all (patB 20 t.tracked.length) && t.distances.all (fun d => inR d 0 3000))))
theorem wfT_iff {t : Table} : wfT t = true ↔ trackB 20 t.tracked = true ∧ (1 ≤ t.patterns.length ∧ t.patterns.length ≤ 3000) ∧ t.distances.length = t.patterns.length ∧ (∀ x ∈ t.patterns, patB 20 t.tracked.length x = true) ∧ (∀ d ∈ t.distances, inR d 0 3000 = true) := by
  simp [wfT, inR]; omega
theorem mem_take_stepR {l : List (List Int)} {j : Nat} (h : j < l.length) {P : List Int → Prop} (h1 : ∀ x ∈ l.take j, P x) (h2 : P l[j]) : ∀ x ∈ l.take (j + 1), P x := by
  rw [take_succ_get l j h]
  intro x hx
  rcases List.mem_append.1 hx with hx | hx
  · exact h1 x hx
  · simp at hx; subst hx; exact h2


end Go.Proofs.Ytbediokigibdlaa

namespace Go.Proofs.Ytbediokigibdlaa
open Go.RowKit
set_option maxRecDepth 10000

theorem validPz_facts {x : Puzzle} (h : validPz x = true) : 1 ≤ x.points ∧ x.points ≤ 20 ∧ x.moves.length ≤ 8 ∧ ∀ y ∈ x.moves, (y.length : Int) = x.points ∧ permB y = true := by
  unfold validPz at h
  rw [Bool.and_eq_true] at h
  have h1 := h.1
  unfold gensB at h1
  rw [Bool.and_eq_true, Bool.and_eq_true, inR_iff, decide_eq_true_iff, List.all_eq_true] at h1
  refine ⟨h1.1.1.1, h1.1.1.2, h1.1.2, fun y hy => ?_⟩
  have := h1.2 y hy
  unfold genB at this
  simpa using this
theorem validPz_pn {x : Puzzle} (h : validPz x = true) : ∀ g ∈ x.moves, PM.PN x.points.toNat g := by
  intro g hg
  obtain ⟨h1, h2, h3, h4⟩ := validPz_facts h
  obtain ⟨h5, h6⟩ := h4 g hg
  exact ⟨by omega, (permB_iff.1 h6).2⟩
/-- the tables that can be checked -/
def checkT (x : Puzzle) (t : Table) : Bool := validPz x && (wfT t && (trackB x.points t.tracked && t.patterns.all (patB x.points t.tracked.length)))
theorem checkT_iff {x : Puzzle} {t : Table} : checkT x t = true ↔ validPz x = true ∧ wfT t = true ∧ trackB x.points t.tracked = true ∧ ∀ p ∈ t.patterns, patB x.points t.tracked.length p = true := by
  simp [checkT]
/-- the index of the first pattern that is this one, -1 if there is none -/
def idxL (l : List (List Int)) (p : List Int) : Int := idxF (fun q => decide (q = p)) l
/-- the pattern behind a letter -/
def nxt (x : Puzzle) (p : List Int) (l : Int) : List Int := PM.comp p (mv x.moves l)
/-- where a letter leads -/
def nextI (x : Puzzle) (t : Table) (p : List Int) (l : Int) : Int := idxL t.patterns (nxt x p l)
/-- a letter leads to an entry of this distance -/
def leads (x : Puzzle) (t : Table) (p : List Int) (d : Int) (l : Int) : Bool := decide (0 ≤ nextI x t p l) && decide (t.distances.getD (nextI x t p l).toNat 0 = d)
/-- the first letter that leads to an entry of this distance, 0 if there is none -/
def descL (x : Puzzle) (t : Table) (p : List Int) (d : Int) : Int := ((ltrs x.moves.length).find? (leads x t p d)).getD 0
structure Fault where
  kind : Int
  entry : Int
  letter : Int
instance : Rp Fault where
  size := 3
  rep _ cs x fp := cs = [Value.int .i64 x.kind, Value.int .i64 x.entry, Value.int .i64 x.letter] ∧ (I64 x.kind ∧ I64 x.entry ∧ I64 x.letter) ∧ fp = []
  len h := by rw [h.1]; rfl
  frame h _ := h
  lt h := by rw [h.2.2]; simp
def atD (t : Table) (i : Int) : Int := t.distances.getD i.toNat 0
def atP (t : Table) (i : Nat) : List Int := t.patterns.getD i []
def one (b : Bool) (f : Fault) : List Fault := if b = true then [f] else []
/-- the fault of a letter -/
def letF (x : Puzzle) (t : Table) (i : Nat) (l : Int) : List Fault :=
  if nextI x t (atP t i) l < 0 then [⟨4, i, l⟩] else if inR (atD t (nextI x t (atP t i) l) - atD t i) (-1) 1 = true then [] else [⟨5, i, l⟩]
def entF (x : Puzzle) (t : Table) (i : Nat) : List Fault :=
  one (decide (i = 0) && (decide (atD t i ≠ 0) || decide (atP t 0 ≠ t.tracked))) ⟨1, i, 0⟩ ++
  (one (decide (idxL t.patterns (atP t i) < i)) ⟨2, i, 0⟩ ++
  (one (decide (0 < i) && decide (atD t i = 0)) ⟨3, i, 0⟩ ++
  ((ltrs x.moves.length).flatMap (letF x t i) ++
  one (decide (0 < atD t i) && decide (descL x t (atP t i) (atD t i - 1) = 0)) ⟨6, i, 0⟩)))
theorem idxF_nonneg_or {α : Type} (pr : α → Bool) (l : List α) : idxF pr l = -1 ∨ ∃ k : Nat, ∃ h : k < l.length, idxF pr l = k ∧ pr l[k] = true := by
  unfold idxF
  cases h : l.findIdx? pr with
  | none => exact .inl rfl
  | some i =>
    right
    obtain ⟨hi, hp, -⟩ := List.findIdx?_eq_some_iff_getElem.1 h
    exact ⟨i, hi, rfl, hp⟩
theorem idxL_lt {l : List (List Int)} {p : List Int} : -1 ≤ idxL l p ∧ idxL l p < l.length := by
  rcases idxF_nonneg_or (fun q => decide (q = p)) l with h | ⟨k, hk, h, -⟩
  · unfold idxL; omega
  · unfold idxL; omega
end Go.Proofs.Ytbediokigibdlaa

namespace Go.Proofs.Ytbediokigibdlaa
open Go.RowKit
set_option maxRecDepth 10000

/-- the patterns met so far and their depths -/
abbrev Met16 := List (List Int) × List Int
/-- a pattern of depth d is met; none: too many -/
def bMeet (s : Met16) (d : Int) (y : List Int) : Option Met16 := if y ∈ s.1 then some s else if s.1.length = 3000 then none else some (s.1 ++ [y], s.2 ++ [d])
/-- the letters from an entry -/
def bLets (x : Puzzle) (q : List Int) (d : Int) : List Int → Met16 → Option Met16
  | [], s => some s
  | l :: ls, s => (bMeet s d (nxt x q l)).bind (bLets x q d ls)
/-- the entries from the k-th on; n: enough -/
def bFrom (x : Puzzle) : Nat → Nat → Met16 → Option Met16
  | 0, _, s => some s
  | n + 1, k, s => if k < s.1.length then (bLets x (s.1.getD k []) (s.2.getD k 0 + 1) (ltrs x.moves.length) s).bind (bFrom x n (k + 1)) else some s
def bfs16 (x : Puzzle) (tr : List Int) : Option Met16 := if (validPz x && trackB x.points tr) = true then bFrom x 3001 0 ([tr], [0]) else none
end Go.Proofs.Ytbediokigibdlaa

namespace Go.Proofs.Ytbediokigibdlaa
open Go.RowKit
set_option maxRecDepth 10000

/-- a precedes b -/
def prec : List Int → List Int → Bool
  | a :: xs, b :: ys => if a = b then prec xs ys else decide (a < b)
  | _, _ => false
theorem prec_irr : ∀ (a : List Int), prec a a = false
  | [] => rfl
  | a :: xs => by simp [prec, prec_irr xs]
theorem prec_trans : ∀ {a b c : List Int}, a.length = b.length → b.length = c.length → prec a b = true → prec b c = true → prec a c = true
  | [], _, _, _, _, h, _ => by cases h
  | _ :: _, [], _, h, _, _, _ => by cases h
  | _ :: _, _ :: _, [], _, h, _, _ => by cases h
  | a :: xs, b :: ys, c :: zs, h1, h2, h3, h4 => by
    unfold prec at h3 h4 ⊢
    by_cases e1 : a = b
    · by_cases e2 : b = c
      · rw [if_pos e1] at h3; rw [if_pos e2] at h4; rw [if_pos (e1.trans e2)]
        exact prec_trans (by simpa using h1) (by simpa using h2) h3 h4
      · rw [if_neg e2] at h4; subst e1; rw [if_neg e2]; exact h4
    · rw [if_neg e1] at h3
      have h3 := of_decide_eq_true h3
      by_cases e2 : b = c
      · subst e2; rw [if_neg e1]; exact decide_eq_true h3
      · rw [if_neg e2] at h4
        have h4 := of_decide_eq_true h4
        rw [if_neg (by omega)]; exact decide_eq_true (by omega)
theorem prec_tri : ∀ {a b : List Int}, a.length = b.length → a ≠ b → prec a b = false → prec b a = true
  | [], [], _, h, _ => absurd rfl h
  | [], _ :: _, h, _, _ => by cases h
  | _ :: _, [], h, _, _ => by cases h
  | a :: xs, b :: ys, h1, h2, h3 => by
    unfold prec at h3 ⊢
    by_cases e1 : a = b
    · subst e1
      rw [if_pos rfl] at h3 ⊢
      exact prec_tri (by simpa using h1) (fun e => h2 (by rw [e])) h3
    · rw [if_neg e1] at h3
      rw [if_neg (fun e => e1 e.symm)]
      have := of_decide_eq_false h3
      exact decide_eq_true (by omega)
theorem prec_drop : ∀ {a b : List Int} {j : Nat}, (∀ i, i < j → a[i]? = b[i]?) → j ≤ a.length → j ≤ b.length → prec a b = prec (a.drop j) (b.drop j)
  | _, _, 0, _, _, _ => by simp
  | [], _, j + 1, _, h, _ => by simp at h
  | _ :: _, [], j + 1, _, _, h => by simp at h
  | a :: xs, b :: ys, j + 1, h, h1, h2 => by
    have h0 := h 0 (by omega)
    simp only [List.getElem?_cons_zero, Option.some.injEq] at h0
    rw [List.drop_succ_cons, List.drop_succ_cons]
    rw [show prec (a :: xs) (b :: ys) = if a = b then prec xs ys else decide (a < b) from rfl, if_pos h0]
    exact prec_drop (fun i hi => by simpa using h (i + 1) (by omega)) (by simpa using h1) (by simpa using h2)
theorem prec_at {a b : List Int} {j : Nat} (h : ∀ i, i < j → a[i]? = b[i]?) (h1 : j < a.length) (h2 : j < b.length) (hne : a[j] ≠ b[j]) : prec a b = decide (a[j] < b[j]) := by
  rw [prec_drop h (by omega) (by omega), List.drop_eq_getElem_cons h1, List.drop_eq_getElem_cons h2]
  rw [show ∀ (x y : Int) (xs ys : List Int), prec (x :: xs) (y :: ys) = if x = y then prec xs ys else decide (x < y) from fun _ _ _ _ => rfl, if_neg hne]
theorem prec_all {a b : List Int} (h : ∀ i, i < a.length → a[i]? = b[i]?) (hl : a.length = b.length) : prec a b = false := by
  rw [prec_drop h (Nat.le_refl _) (by omega), List.drop_length]
  rfl

/-- so: an index of the lists L, sorted by them -/
structure Srt (m : Nat) (L : List (List Int)) (so : List Nat) : Prop where
  len : so.length = L.length
  many : ∀ x ∈ L, x.length = m
  in_ : ∀ i ∈ so, i < L.length
  all : ∀ i, i < L.length → i ∈ so
  asc : ∀ (i j : Nat) (hi : i < so.length) (hj : j < so.length), i < j → prec (L.getD so[i] []) (L.getD so[j] []) = true
theorem Srt.nil (m : Nat) : Srt m [] [] := ⟨rfl, by simp, by simp, by simp, by simp⟩
theorem Srt.mem {m : Nat} {L : List (List Int)} {so : List Nat} (h : Srt m L so) {i : Nat} (hi : i < so.length) : L.getD so[i] [] ∈ L := by
  have := h.in_ so[i] (List.getElem_mem hi)
  rw [List.getD_eq_getElem?_getD, List.getElem?_eq_getElem this]
  exact List.getElem_mem this
/-- k: the place at which s is or would be -/
structure Slot (L : List (List Int)) (so : List Nat) (s : List Int) (k : Nat) : Prop where
  le : k ≤ so.length
  lo : ∀ (i : Nat) (hi : i < so.length), i < k → prec (L.getD so[i] []) s = true
  hi : ∀ (i : Nat) (hi : i < so.length), k ≤ i → prec (L.getD so[i] []) s = false
theorem Srt.below {m : Nat} {L : List (List Int)} {so : List Nat} (h : Srt m L so) {s : List Int} (hs : s.length = m) {k : Nat} (hk : k < so.length) (hp : prec (L.getD so[k] []) s = true) {i : Nat} (hi : i < so.length) (hik : i ≤ k) : prec (L.getD so[i] []) s = true := by
  rcases Nat.lt_or_eq_of_le hik with hlt | rfl
  · exact prec_trans (by rw [h.many _ (h.mem hi), h.many _ (h.mem hk)]) (by rw [h.many _ (h.mem hk), hs]) (h.asc i k hi hk hlt) hp
  · exact hp
/-- one list more -/
theorem Srt.add {m : Nat} {L : List (List Int)} {so : List Nat} (h : Srt m L so) {s : List Int} (hs : s.length = m) (hn : s ∉ L) {k : Nat} (hk : Slot L so s k) : Srt m (L ++ [s]) (so.take k ++ L.length :: so.drop k) := by
  have hD : ∀ (t : Nat) (ht : t < so.length), (L ++ [s]).getD so[t] [] = L.getD so[t] [] := fun t ht => by
    have := h.in_ so[t] (List.getElem_mem ht)
    simp only [List.getD_eq_getElem?_getD, List.getElem?_append_left this]
  have hS : (L ++ [s]).getD L.length [] = s := by simp [List.getD_eq_getElem?_getD]
  have hle := hk.le
  have hG : ∀ (t : Nat) (ht : t < (so.take k ++ L.length :: so.drop k).length), (L ++ [s]).getD (so.take k ++ L.length :: so.drop k)[t] [] = if t < k then L.getD (so.getD t 0) [] else if t = k then s else L.getD (so.getD (t - 1) 0) [] := by
    intro t ht
    have htl : t < so.length + 1 := by simp at ht; omega
    by_cases h1 : t < k
    · rw [if_pos h1]
      rw [List.getElem_append_left (by simp; omega), List.getElem_take]
      rw [hD t (by omega)]
      simp [List.getD_eq_getElem?_getD, List.getElem?_eq_getElem (show t < so.length by omega)]
    · rw [if_neg h1]
      have hkl : (so.take k).length = k := by simp; omega
      rw [List.getElem_append_right (by rw [hkl]; omega)]
      by_cases h2 : t = k
      · subst h2; rw [if_pos rfl]; simp only [hkl, Nat.sub_self, List.getElem_cons_zero]; exact hS
      · rw [if_neg h2]
        have h3 : t - (so.take k).length = (t - 1 - k) + 1 := by rw [hkl]; omega
        simp only [h3, List.getElem_cons_succ, List.getElem_drop]
        have h4 : k + (t - 1 - k) = t - 1 := by omega
        have h5 : t - 1 < so.length := by omega
        simp only [h4]
        rw [hD _ h5]
        simp [List.getD_eq_getElem?_getD, List.getElem?_eq_getElem h5]
  refine ⟨?_, ?_, ?_, ?_, ?_⟩
  · have := h.len; simp; omega
  · intro x hx
    rcases List.mem_append.1 hx with hx | hx
    · exact h.many x hx
    · simp at hx; subst hx; exact hs
  · intro i hi
    rw [List.length_append, List.length_singleton]
    rcases List.mem_append.1 hi with hi | hi
    · have := h.in_ i (List.mem_of_mem_take hi); omega
    · rcases List.mem_cons.1 hi with rfl | hi
      · omega
      · have := h.in_ i (List.mem_of_mem_drop hi); omega
  · intro i hi
    rw [List.length_append, List.length_singleton] at hi
    by_cases he : i = L.length
    · subst he; simp
    · have := h.all i (by omega)
      rw [← List.take_append_drop k so] at this
      rcases List.mem_append.1 this with h1 | h1
      · exact List.mem_append_left _ h1
      · exact List.mem_append_right _ (List.mem_cons_of_mem _ h1)
  · intro i j hi hj hij
    rw [hG i hi, hG j hj]
    have hjl : j < so.length + 1 := by simp at hj; omega
    have gd : ∀ (t : Nat) (ht : t < so.length), so.getD t 0 = so[t] := fun t ht => by simp [List.getD_eq_getElem?_getD, List.getElem?_eq_getElem ht]
    by_cases j1 : j < k
    · rw [if_pos j1, if_pos (by omega), gd i (by omega), gd j (by omega)]
      exact h.asc i j (by omega) (by omega) hij
    · rw [if_neg j1]
      by_cases j2 : j = k
      · subst j2
        rw [if_pos rfl, if_pos hij, gd i (by omega)]
        exact hk.lo i (by omega) hij
      · rw [if_neg j2, gd (j - 1) (by omega)]
        by_cases i1 : i < k
        · rw [if_pos i1, gd i (by omega)]
          exact h.asc i (j - 1) (by omega) (by omega) (by omega)
        · rw [if_neg i1]
          by_cases i2 : i = k
          · rw [if_pos i2]
            have hj1 : j - 1 < so.length := by omega
            have hne : L.getD so[j - 1] [] ≠ s := fun e => hn (e ▸ h.mem hj1)
            exact prec_tri (by rw [h.many _ (h.mem hj1), hs]) hne (hk.hi (j - 1) hj1 (by omega))
          · rw [if_neg i2, gd (i - 1) (by omega)]
            exact h.asc (i - 1) (j - 1) (by omega) (by omega) (by omega)
end Go.Proofs.Ytbediokigibdlaa

namespace Go.Proofs.Ytbediokigibdlaa
open Go.RowKit
set_option maxRecDepth 10000


/-- the index as numbers -/
def soI (so : List Nat) : List Int := so.map fun i : Nat => (i : Int)
/-- what a search holds, as its functions read it -/
structure SrR (w : World) (A1 A2 A3 : Option Addr) (C1 C2 C3 : Nat) (L : List (List Int)) (D : List Int) (so : List Nat) (ob : List Nat) (fps : List (List Nat)) (fd fs : List Nat) : Prop where
  ls : SeqA w A1 C1 L ob fps
  dp : IntsA w A2 C2 D fd
  st : IntsA w A3 C3 (soI so) fs
theorem SrR.keep {w w' : World} {A1 A2 A3 : Option Addr} {C1 C2 C3 : Nat} {L : List (List Int)} {D : List Int} {so : List Nat} {ob : List Nat} {fps : List (List Nat)} {fd fs : List Nat} (h : SrR w A1 A2 A3 C1 C2 C3 L D so ob fps fd fs) (ho : Only [] w w') : SrR w' A1 A2 A3 C1 C2 C3 L D so ob fps fd fs :=
  ⟨h.ls.frame fun b hb => ho.block b (h.ls.lt_all b hb) (by simp), h.dp.keep ho, h.st.keep ho⟩
theorem SrR.only {w w' : World} {A1 A2 A3 : Option Addr} {C1 C2 C3 : Nat} {L : List (List Int)} {D : List Int} {so : List Nat} {ob : List Nat} {fps : List (List Nat)} {fd fs fp : List Nat} (h : SrR w A1 A2 A3 C1 C2 C3 L D so ob fps fd fs) (ho : Only fp w w') (hd : ∀ g ∈ (ob ++ fps.flatten) ++ (fd ++ fs), g ∉ fp) : SrR w' A1 A2 A3 C1 C2 C3 L D so ob fps fd fs :=
  ⟨h.ls.frame fun b hb => ho.block b (h.ls.lt_all b hb) (hd b (List.mem_append_left _ hb)), h.dp.only ho fun b hb => hd b (List.mem_append_right _ (List.mem_append_left _ hb)), h.st.only ho fun b hb => hd b (List.mem_append_right _ (List.mem_append_right _ hb))⟩



end Go.Proofs.Ytbediokigibdlaa

namespace Go.Proofs.Ytbediokigibdlaa
open Go.RowKit
set_option maxRecDepth 10000

def empV (eb : Nat → Nat) (j : Nat) : List RawV := (List.range j).map fun k => ⟨.slice (some ⟨eb k, 0, none⟩) 0 0⟩
theorem empV_len (eb : Nat → Nat) (j : Nat) : (empV eb j).length = j := by simp [empV]
theorem empV_succ (eb : Nat → Nat) (j b : Nat) : empV (updF eb j b) (j + 1) = empV eb j ++ [⟨.slice (some ⟨b, 0, none⟩) 0 0⟩] := by
  unfold empV
  rw [List.range_succ, List.map_append]
  congr 1
  · refine List.map_congr_left fun k hk => ?_
    rw [updF_other _ _ (by have := List.mem_range.1 hk; omega)]
  · simp [updF_same]
/-- the reference's chain as far as it is made: j1 rows, j2 lists of generators -/
structure SR (eR eG : TypeId) (n : Nat) (w : World) (g : Nat) (j1 j2 : Nat) (wr : World) (S : Key → List Nat) (tv gt : Value) (rb : Nat → Nat) (iv : Nat → Value) (eb : Nat → Nat) : Prop where
  em : Em eR w.heap.size n j1 wr S tv rb iv
  gS : S .g = [g]
  acc : ∃ fs, Acc w.heap.size eR wr gt (empV eb j2) fs ∧ fs.flatten = []
  gtS : gt.ownBlock.toList = S .gt
  emp : ∀ k, k < j2 → S (.emp k) = [eb k] ∧ Acc w.heap.size eG wr (.slice (some ⟨eb k, 0, none⟩) 0 0) ([] : List (List Int)) []
  blk : Blk wr g [.int .i64 n, tv, gt]
  keep : Only [] w wr
section
variable {eR eG eI : TypeId} {n : Nat} {w wr w1 w2 w4 w5 w8 w9 : World} {g j j1 j2 : Nat} {S : Key → List Nat} {tv gt : Value} {rb : Nat → Nat} {iv : Nat → Value} {eb : Nat → Nat}
theorem SR.row (h : SR eR eG n w g j j2 wr S tv gt rb iv eb) (hj : j < n)
    (hown : w1.ownsRow wr.heap.size eI 1 (.slice (some ⟨wr.heap.size, 0, none⟩) n n) n (List.replicate n (.slice none 0 0))) (h1 : Only [] wr w1)
    {v2 : Value} {f2 : List Nat} (r2 : Rd w2 v2 (PM.pts n) f2) (F2 : Fresh w1.heap.size w2 f2) (h2 : Only [] w1 w2) (h4 : Only [] (w2.setCell ⟨wr.heap.size, j, none⟩ v2) w4)
    {tv' : Value} {fs' : List (List Nat)} (hA : Acc w.heap.size eR w5 tv' (rowsV n rb j ++ [⟨rowV n wr.heap.size⟩]) fs') (hfs : fs'.flatten = []) (h5 : Only tv.ownBlock.toList w4 w5) (hb : tv'.ownBlock = tv.ownBlock ∨ tv'.ownBlock = some w4.heap.size) :
    ∃ S' rb' iv', SR eR eG n w g (j + 1) j2 (w5.setCell ⟨g, 1, none⟩ tv') S' tv' gt rb' iv' eb := by
  obtain ⟨S', hE', e1, e2, e3⟩ := h.em.step hj hown h1 r2 F2 h2 h4 hA hfs h5 hb
  have hst := setCell_only w5 g 1 tv'
  have hst2 := setCell_only w2 wr.heap.size j v2
  have hgS : g ∈ S .g := by rw [h.gS]; simp
  have hgS' : g ∈ S' .g := by rw [e1]; exact hgS
  have hglt := h.em.sep.lt _ _ hgS
  have hgtv : g ∉ tv.ownBlock.toList := by rw [h.em.tvS]; exact h.em.sep.sep _ _ (by simp) _ hgS
  have hwr : w.heap.size ≤ wr.heap.size := h.keep.size
  have hw2 : wr.heap.size ≤ w2.heap.size := Nat.le_trans h1.size h2.size
  have key : ∀ {β : Type} [Rp β] {e : TypeId} {v : Value} {l : List β} {fs : List (List Nat)}, Acc w.heap.size e wr v l fs → fs.flatten = [] → (∀ b ∈ v.ownBlock.toList, b ∉ S .g ∧ b ∉ S .tv ∧ b < wr.heap.size) → Acc w.heap.size e (w5.setCell ⟨g, 1, none⟩ tv') v l fs := by
    intro β _ e v l fs hA hfs hv
    refine ((((((hA.keep h1).keep h2).only hst2 (by rw [hfs]; simp) fun x hx hm => ?_).keep h4).only h5 (by rw [hfs]; simp) fun x hx hm => ?_).only hst (by rw [hfs]; simp) fun x hx hm => ?_)
    · have e : x = wr.heap.size := by simpa using hm
      have := (hv x (by simp [hx])).2.2; omega
    · rw [h.em.tvS] at hm
      exact (hv x (by simp [hx])).2.1 hm
    · have e : x = g := by simpa using hm
      subst e
      exact (hv x (by simp [hx])).1 hgS
  obtain ⟨fs, hacc, hfs0⟩ := h.acc
  refine ⟨S', _, _, hE'.only hst fun b hb' => ?_, by rw [e1, h.gS], ⟨fs, key hacc hfs0 fun b hb' => ?_, hfs0⟩, by rw [e2]; exact h.gtS, fun k hk => ⟨by rw [e3]; exact (h.emp k hk).1, key (h.emp k hk).2 rfl fun b hb' => ?_⟩, ?_, ?_⟩
  · have e : b = g := by simpa using hb'
    subst e
    exact ⟨hE'.sep.sep _ _ (by simp) _ hgS', fun k => hE'.sep.sep _ _ (by simp) _ hgS', fun k => hE'.sep.sep _ _ (by simp) _ hgS'⟩
  · rw [h.gtS] at hb'
    exact ⟨h.em.sep.sep _ _ (by simp) _ hb', h.em.sep.sep _ _ (by simp) _ hb', h.em.sep.lt _ _ hb'⟩
  · have hb2 : b ∈ S (.emp k) := by rw [(h.emp k hk).1]; simpa [Value.ownBlock, eq_comm] using hb'
    exact ⟨h.em.sep.sep _ _ (by simp) _ hb2, h.em.sep.sep _ _ (by simp) _ hb2, h.em.sep.lt _ _ hb2⟩
  · have := (((((h.blk.keep h1).keep h2).only hst2 (by simp; omega)).keep h4).only h5 hgtv).set 1 tv'
    simpa using this
  · refine ((((h.keep.trans h1).trans h2).setCell (fun h => by simp at h; omega) _).trans h4).then_ h5 (fun x hx hl => ?_) |>.setCell (fun h' => ?_) _
    · rw [h.em.tvS] at hx
      have := h.em.sep.ge _ _ hx; omega
    · have := h.em.sep.ge _ _ hgS
      have h'' : g < w.heap.size := h'
      omega
theorem SR.gen {e0 : Nat} (he0 : e0 = wr.heap.size) (h : SR eR eG n w g j1 j wr S tv gt rb iv eb) (h8 : Only [] (wr.alloc (.cells #[] eG)) w8)
    {gt' : Value} {fs' : List (List Nat)} (hA : Acc w.heap.size eR w9 gt' (empV eb j ++ [⟨.slice (some ⟨e0, 0, none⟩) 0 0⟩]) fs') (hfs : fs'.flatten = []) (h9 : Only gt.ownBlock.toList w8 w9) (hb : gt'.ownBlock = gt.ownBlock ∨ gt'.ownBlock = some w8.heap.size) :
    ∃ S' eb', SR eR eG n w g j1 (j + 1) (w9.setCell ⟨g, 2, none⟩ gt') S' tv gt' rb iv eb' := by
  subst he0
  have hst := setCell_only w9 g 2 gt'
  have h7 : Only [] wr (wr.alloc (.cells #[] eG)) := (Only.refl _ _).alloc _
  have h78 := h7.trans h8
  have hs7 : (wr.alloc (.cells #[] eG)).heap.size = wr.heap.size + 1 := by simp
  have hs8 := h8.size
  have hs9 := h9.size
  have hgS : g ∈ S .g := by rw [h.gS]; simp
  have hglt := h.em.sep.lt _ _ hgS
  have hwr : w.heap.size ≤ wr.heap.size := h.keep.size
  have hggt : g ∉ gt.ownBlock.toList := by rw [h.gtS]; exact h.em.sep.sep _ _ (by simp) _ hgS
  -- the old rows
  have hE9 : Em eR w.heap.size n j1 (w9.setCell ⟨g, 2, none⟩ gt') S tv rb iv := ((h.em.keep h78).only h9 fun b hb' => by
    rw [h.gtS] at hb'
    exact ⟨h.em.sep.sep _ _ (by simp) _ hb', fun k => h.em.sep.sep _ _ (by simp) _ hb', fun k => h.em.sep.sep _ _ (by simp) _ hb'⟩).only hst fun b hb' => by
    have e : b = g := by simpa using hb'
    subst e
    exact ⟨h.em.sep.sep _ _ (by simp) _ hgS, fun k => h.em.sep.sep _ _ (by simp) _ hgS, fun k => h.em.sep.sep _ _ (by simp) _ hgS⟩
  have hemp : ∀ k b, k < j → b ∈ S (.emp k) → b ∉ gt.ownBlock.toList ∧ b ≠ g ∧ b < wr.heap.size := fun k b hk hb' => by
    refine ⟨by rw [h.gtS]; exact h.em.sep.sep _ _ (by simp) _ hb', fun e => h.em.sep.sep .g (.emp k) (by simp) _ hgS (e ▸ hb'), h.em.sep.lt _ _ hb'⟩
  have hS1 : Sep w.heap.size w8 (updS S (.emp j) [wr.heap.size]) := h.em.sep.upd (fun x hx => by
    have e : x = wr.heap.size := by simpa using hx
    omega) (by omega)
  have hgt'S : ∀ x, gt'.ownBlock = some x → x ≠ g := fun x hx e => by
    subst e
    rcases hb with hb | hb
    · rw [hb] at hx; exact hggt (by simp [hx])
    · rw [hb] at hx; injection hx with hx; omega
  have hblk : Blk (w9.setCell ⟨g, 2, none⟩ gt') g [.int .i64 n, tv, gt'] := by
    have := ((h.blk.keep h78).only h9 hggt).set 2 gt'
    simpa using this
  have hkeep : Only [] w (w9.setCell ⟨g, 2, none⟩ gt') := by
    refine ((h.keep.trans h78).then_ h9 fun x hx hl => ?_).setCell (fun h' => ?_) _
    · rw [h.gtS] at hx
      have := h.em.sep.ge _ _ hx; omega
    · have := h.em.sep.ge _ _ hgS
      have h'' : g < w.heap.size := h'
      omega
  have hacc : Acc w.heap.size eR (w9.setCell ⟨g, 2, none⟩ gt') gt' (empV (updF eb j wr.heap.size) (j + 1)) fs' := by
    rw [empV_succ]
    exact hA.only hst (by rw [hfs]; simp) fun x hx hm => hgt'S x hx (by simpa using hm)
  have hnew : Acc w.heap.size eG (w9.setCell ⟨g, 2, none⟩ gt') (.slice (some ⟨wr.heap.size, 0, none⟩) 0 0) ([] : List (List Int)) [] := by
    refine (((Acc.made wr w.heap.size eG rfl hwr).keep h8).only h9 (by simp) fun x hx hm => ?_).only hst (by simp) fun x hx hm => ?_
    · have e : wr.heap.size = x := by simpa [Value.ownBlock] using hx
      rw [h.gtS] at hm
      have := h.em.sep.lt _ _ hm; omega
    · have e : wr.heap.size = x := by simpa [Value.ownBlock] using hx
      have e2 : x = g := by simpa using hm
      omega
  have key : ∀ S' : Key → List Nat, Sep w.heap.size (w9.setCell ⟨g, 2, none⟩ gt') S' → gt'.ownBlock.toList = S' .gt → S' .tv = S .tv → S' .g = S .g → (∀ k, S' (.row k) = S (.row k)) → (∀ k, S' (.idn k) = S (.idn k)) → (∀ k, S' (.emp k) = updS S (.emp j) [wr.heap.size] (.emp k)) →
      SR eR eG n w g j1 (j + 1) (w9.setCell ⟨g, 2, none⟩ gt') S' tv gt' rb iv (updF eb j wr.heap.size) := by
    intro S' hs hgt htv hg hr hi he
    refine ⟨hE9.reS hs htv hr hi, by rw [hg]; exact h.gS, ⟨fs', hacc, hfs⟩, hgt, fun k hk => ?_, hblk, hkeep⟩
    rw [he k]
    by_cases e : k = j
    · subst e
      rw [updS_same, updF_same]
      exact ⟨rfl, hnew⟩
    · rw [updS_other _ _ (by simpa using e), updF_other _ _ e]
      obtain ⟨p1, p2⟩ := h.emp k (by omega)
      have hin : eb k ∈ S (.emp k) := by rw [p1]; simp
      obtain ⟨q1, q2, q3⟩ := hemp k (eb k) (by omega) hin
      refine ⟨p1, ((p2.keep h78).only h9 (by simp) fun x hx hm => ?_).only hst (by simp) fun x hx hm => ?_⟩
      · have e : eb k = x := by simpa [Value.ownBlock] using hx
        subst e; exact q1 hm
      · have e : eb k = x := by simpa [Value.ownBlock] using hx
        subst e; exact q2 (by simpa using hm)
  have hsz9 : (w9.setCell ⟨g, 2, none⟩ gt').heap.size = w9.heap.size := by simp [World.setCell]
  rcases hb with hb | hb
  · refine ⟨updS S (.emp j) [wr.heap.size], _, key _ (hS1.keep (by omega)) ?_ ?_ ?_ (fun k => ?_) (fun k => ?_) (fun k => rfl)⟩
    · rw [hb, h.gtS, updS_other _ _ (by simp)]
    all_goals rw [updS_other _ _ (by simp)]
  · have hlt := (hA.ownlt _ hb).2
    refine ⟨updS (updS S (.emp j) [wr.heap.size]) .gt [w8.heap.size], _, key _ (hS1.upd (fun x hx => by
      have e : x = w8.heap.size := by simpa using hx
      omega) (by omega)) ?_ ?_ ?_ (fun k => ?_) (fun k => ?_) (fun k => ?_)⟩
    · rw [hb, updS_same]; rfl
    · rw [updS_other _ _ (by simp), updS_other _ _ (by simp)]
    · rw [updS_other _ _ (by simp), updS_other _ _ (by simp)]
    · rw [updS_other _ _ (by simp), updS_other _ _ (by simp)]
    · rw [updS_other _ _ (by simp), updS_other _ _ (by simp)]
    · rw [updS_other _ _ (by simp)]
theorem SR.fin (h : SR eR eG n w g n n wr S tv gt rb iv eb) (hn : 0 < n) (hn20 : n ≤ 20) : NC1 eG 2 1 n w (.pointer (some ⟨g, 0, none⟩)) wr := by
  obtain ⟨fs, hA, hfs⟩ := h.acc
  have hlen := empV_len eb n
  obtain ⟨bg, cG, hgt, -⟩ := hA.raw (k := 0) (by omega)
  rw [hlen] at hgt
  have hbg : S .gt = [bg] := by rw [← h.gtS, hgt]; rfl
  obtain ⟨css, hown, -, -⟩ := hA.own
  have hob := (own_fresh hown).own
  rw [h.gtS, hbg] at hob
  obtain ⟨L, M, F, e1, e2, e3, -, hC⟩ := h.em.ch (eG := eG) (oG := 2) (oT := 1) (cG := cG) hn hn20 (fun k => .slice (some ⟨eb k, 0, none⟩) 0 0) h.gS hbg (h.blk.cell 0 rfl) (by rw [h.blk.cell 2 rfl, hgt]) (h.blk.cell 1 rfl)
    (fun k hk => by
      obtain ⟨g', c', q1, q2⟩ := hA.raw (k := k) (by omega)
      have q3 := hgt.symm.trans q1
      injection q3 with q4 _ _
      injection q4 with q5
      injection q5 with q6 _ _
      rw [← q6] at q2
      rw [q2]; simp [empV])
    (fun k hk => (h.emp k hk).2) (fun k hk => by rw [(h.emp k hk).1]; rfl) hob
  exact ⟨L, _, M, F, by rw [e1], e2, e3, hC, h.keep⟩
end
set_option maxHeartbeats 2000000 in
theorem emptyChain_any (n : Nat) (hn : 0 < n) (hn20 : n ≤ 20) (w : World) :
    Calls Try.prog 82 #[.int .i64 n] w fun e w' => ∃ v, e = .returned v ∧ NC1 36 2 1 n w v w' := by
  obtain ⟨i2, hi2, hz20, hz21, hz22⟩ := info_parts Try.info222
  obtain ⟨i1, hi, hz0, hz1, hz2⟩ := info_parts Try.info22
  have HN0 : Hid (∃ S tv gt rb iv eb, SR 24 36 n w w.heap.size 0 0 (w.alloc (.cells #[.int .i64 n, .slice none 0 0, .slice none 0 0] 87)) S tv gt rb iv eb) := Lib.hid (by
    have hsz : (w.alloc (.cells #[.int .i64 n, .slice none 0 0, .slice none 0 0] 87)).heap.size = w.heap.size + 1 := by simp
    exact ⟨updS (updS (fun _ => []) .g [w.heap.size]) .gt [], .slice none 0 0, .slice none 0 0, fun _ => 0, fun _ => .slice none 0 0, fun _ => 0, Em.start _ n (Sep.start _ _ (by omega) (by simp) (by simp) (by simp)) (by rw [updS_other _ _ (by simp), updS_other _ _ (by simp)]) _ _, by rw [updS_other _ _ (by simp), updS_same], ⟨[], Acc.nil _ _ _, rfl⟩, by rw [updS_same]; rfl, by intro k hk; omega, Blk.new w _ _, (Only.refl _ _).alloc _⟩)
  go_enter Try.func82, Try.ntmps82
  go_wp2
  go_loopw [4] (fun i wr => ∃ (j : Nat), j ≤ n ∧ i = .int .i64 j ∧ ∃ S tv gt rb iv eb, SR 24 36 n w w.heap.size j j wr S tv gt rb iv eb)
    (fun i _ => n - (intOf i).toNat)
  case atStart => exact ⟨0, Nat.zero_le _, rfl, HN0.out⟩
  case round =>
    obtain ⟨W2, hnew⟩ : ∃ W, W = wr := ⟨_, rfl⟩
    subst hnew
    obtain ⟨j, hj, rfl, S, tv, gt, rb, iv, eb, hN⟩ := hrel
    by_cases hlt : j < n
    · have hE := hN.em
      have hgS : w.heap.size ∈ S .g := by rw [hN.gS]; simp
      have hglt := hE.sep.lt _ _ hgS
      have hgtv : w.heap.size ∉ tv.ownBlock.toList := by rw [hE.tvS]; exact hE.sep.sep _ _ (by simp) _ hgS
      have hggt : w.heap.size ∉ gt.ownBlock.toList := by rw [hN.gtS]; exact hE.sep.sep _ _ (by simp) _ hgS
      obtain ⟨fs, hA, hfs⟩ := hE.acc
      have hrl := rowsV_len n rb j
      have hel := empV_len eb j
      have hne : w.heap.size ≠ W2.heap.size := by omega
      have hBn : w.heap.size ≤ W2.heap.size := hN.keep.size
      have htvlt : ∀ g, tv.ownBlock = some g → g ∉ [W2.heap.size] := fun g hg hm => by
        have h5 := (hA.ownlt g hg).2
        have h6 : g = W2.heap.size := by simpa using hm
        omega
      have HN := Lib.hid hN
      have HA := Lib.hid hA
      have Hfs := Lib.hid hfs
      have Hrl := Lib.hid hrl
      have Hel := Lib.hid hel
      have Hgtv := Lib.hid hgtv
      have Hggt := Lib.hid hggt
      have Htvlt := Lib.hid htvlt
      clear hN hE hA hfs hrl hel hgS hgtv hggt htvlt
      go_wp2_with (first
        | (at_make; refine wpList_make_full _ rfl _ _ 24 rfl W2.heap.size 36 i1 _ 1 Try.underlying24 hi hz0 hz1 _ _ _ _ n rfl rfl rfl rfl (by rw [hz2]; omega) (by unfold maxLen; omega) (Nat.le_refl _) ?_; intro w3 hown hg; rw [madeNils', Nat.mul_one] at hown; have h3 : Only [] W2 w3 := (Only.refl _ _).grown hg (by simp); have Hown := Lib.hid hown; clear hown hg)
        | (go_at_call 55; (with_reducible refine (specIdentity_any n w3 (by omega)).mono ?_); rintro en w4 ⟨v4, f4, rfl, r4, F4, t4⟩; obtain ⟨a4, c4, rfl, -⟩ := r4.ints; have hO4 := owns_keep Hown.out t4; have c40 := (hO4.cellAt j (by omega)); rw [List.getElem?_replicate, if_pos hlt] at c40; have z40 := hO4.frozenAt j; have HO4 := Lib.hid hO4; clear hO4; have c41 := ((HN.out.blk.keep h3).keep t4).cell 1 rfl)
        | (at_builtin; go_loud (refine wpList_push2d (α := RawV) rfl (.tmp 25) (.tmp 27) 79 rfl w.heap.size 24 i2 _ 24 Try.underlying79 hi2 hz20 hz21 hz22 rfl (by decide) (by decide) (w4.setCell ⟨W2.heap.size, j, none⟩ _) tv (rowsV n rb j) fs rfl (((HA.out.keep h3).keep t4).only (setCell_only w4 _ j _) (by rw [Hfs.out]; simp) Htvlt.out) ((Only.refl _ _).alloc _) (Nat.le_trans hBn (Nat.le_trans (Nat.le_trans h3.size t4.size) (setCell_only w4 _ j _).size)) _ 1 [.slice (some ⟨W2.heap.size, 0, none⟩) n n] ⟨rowV n W2.heap.size⟩ [] rfl (lit_src _ [.slice (some ⟨W2.heap.size, 0, none⟩) n n] _ (by simp only [World.size_setCell])) (by intro u hu; simp at hu; subst hu; rfl) ⟨rfl, rfl⟩ (by simp) (by rw [Hrl.out]; omega) ?_; intro v5 w5 hA5 hO5 hb5; obtain ⟨a5, n5, c5, rfl⟩ : ∃ a n c, v5 = Value.slice a n c := (let ⟨a, c, hh⟩ := hA5.form; ⟨a, _, c, hh⟩); have hB5 := ((((HN.out.blk.keep h3).keep t4).only (setCell_only w4 W2.heap.size j _) (by simpa using hne)).keep ((Only.refl _ _).alloc _)).only hO5 Hgtv.out; have y5 := hB5.cell 1 rfl; have z5 := hB5.frozen 1; clear hB5; obtain ⟨S6, rb6, iv6, hN6⟩ := HN.out.row hlt Hown.out h3 r4 F4 t4 ((Only.refl _ _).alloc _) hA5 (by rw [List.flatten_append, Hfs.out]; rfl) hO5 hb5; obtain ⟨fs6, hA6, hfs6⟩ := hN6.acc; have y6 := hN6.blk.cell 2 rfl; have hn6 : w.heap.size ≤ (w5.setCell ⟨w.heap.size, 1, none⟩ (.slice a5 n5 c5)).heap.size := hN6.keep.size; have HN6 := Lib.hid hN6; have Hn6 := Lib.hid hn6; have HA6 := Lib.hid hA6; have Hfs6 := Lib.hid hfs6; clear hN6 hA6 hfs6 hn6))
        | (at_builtin; go_loud (refine wpList_push2d (α := RawV) rfl (.tmp 35) (.tmp 37) 79 rfl w.heap.size 24 i2 _ 24 Try.underlying79 hi2 hz20 hz21 hz22 rfl (by decide) (by decide) (w5.setCell ⟨w.heap.size, 1, none⟩ _) gt (empV eb j) fs6 rfl HA6.out (((Only.refl _ _).alloc _).alloc _) Hn6.out _ 1 [.slice (some ⟨w5.heap.size, 0, none⟩) 0 0] ⟨.slice (some ⟨w5.heap.size, 0, none⟩) 0 0⟩ [] rfl (lit_src _ [.slice (some ⟨w5.heap.size, 0, none⟩) 0 0] _ (by simp [World.size_setCell])) (by intro u hu; simp at hu; subst hu; rfl) ⟨rfl, rfl⟩ (by simp) (by rw [Hel.out]; omega) ?_; intro v9 w9 hA9 hO9 hb9; obtain ⟨a9, n9, c9, rfl⟩ : ∃ a n c, v9 = Value.slice a n c := (let ⟨a, c, hh⟩ := hA9.form; ⟨a, _, c, hh⟩); have hB9 := (HN6.out.blk.keep (((Only.refl _ _).alloc _).alloc _)).only hO9 Hggt.out; have y9 := hB9.cell 2 rfl; have z9 := hB9.frozen 2; clear hB9))
        | fail "no arm")
      go_roundw
      case rel => exact ⟨j + 1, by omega, by go_num, (let ⟨S', eb', hh⟩ := SR.gen (by simp) HN6.out ((Only.refl _ _).alloc _) hA9 (by rw [List.flatten_append, Hfs6.out]; rfl) hO9 (hb9.imp id fun h => h.trans (by simp)); ⟨S', _, _, _, _, eb', hh⟩)⟩
      case measure => simp [intOf]; omega
    · obtain rfl : j = n := by omega
      have HF := Lib.hid (hN.fin hn hn20)
      clear hN
      go_wp2
      go_ret
      exact ⟨_, rfl, HF.out⟩
theorem specGen0 {n : Nat} {B : Nat} {L : Lay} {gv : Nat → Value} {G : PM.Gens} {T : PM.Rows} {M F : List Nat} {w : World} (hC : Ch 36 B w L gv n G T M F) (hoG : L.oG = 2) (hoT : L.oT = 1) (hI : PM.Inv n 0 G T) (hL : PM.Ln n 0 G T)
    {p : List Int} {vp : Value} {fp : List Nat} (hp : PM.PN n p) (hv : Rd w vp p fp) (hf : ∀ b ∈ fp, b ∉ M) (hB : B ≤ w.heap.size) :
    Calls Try.prog 83 #[.pointer (some ⟨L.g, 0, none⟩), .int .i64 0, vp] w fun en w' => en = .returned (.tuple #[]) ∧ AddP 36 B L n 0 p G T M F fp gv w w' :=
  specGen_any B L hoG hoT n n 0 (by omega) (by omega) gv G T M F w hC hI hL p vp fp (PM.May.zero G hp) hv hf hB
set_option maxHeartbeats 2000000 in
theorem buildChain_any (n : Nat) (hn : 0 < n) (hn20 : n ≤ 20) (vg : Value) (gens : List (List Int)) (fpg : List Nat) (w : World) (hg : Rd w vg gens fpg) (hpn : ∀ g ∈ gens, PM.PN n g) (hgl : gens.length ≤ 1000) :
    Calls Try.prog 37 #[.int .i64 n, vg] w fun e w' => ∃ (L : Lay) (gv : Nat → Value) (G : PM.Gens) (T : PM.Rows) (M F : List Nat), e = .returned (.pointer (some ⟨L.g, 0, none⟩)) ∧ L.oG = 2 ∧ L.oT = 1 ∧ Ch 36 w.heap.size w' L gv n G T M F ∧ PM.Chain n gens G T ∧ Only [] w w' := by
  obtain ⟨ag, cg, obg, fpsg, rfl, hfpg, hSg⟩ := hg.open_
  have hgb := hSg.bound
  have Hpn := Lib.hid hpn
  have HSg := Lib.hid hSg
  clear hpn hSg hg hfpg
  go_enter Try.func37, Try.ntmps37
  go_wp2_with (first
    | (go_at_call 82; (with_reducible refine (emptyChain_any n hn hn20 w).mono ?_); rintro en w1 ⟨v1, rfl, hN1⟩; obtain ⟨⟨g', bg', bt', cG', cT', oG', oT', rb'⟩, gv0, M0, F0, es, eoG, eoT, hC, hK⟩ := hN1; subst es; have eoG' : oG' = 2 := eoG; subst eoG'; have eoT' : oT' = 1 := eoT; subst eoT'; have HL0 := Lib.hid (CL.start gens hC hK); clear eoG eoT hC hK)
    | fail "no arm")
  go_loopw [6] (fun i wr => ∃ m : Nat, m ≤ gens.length ∧ i = .int .i64 m ∧ CL 36 ⟨g', bg', bt', cG', cT', 2, 1, rb'⟩ n gens w m wr)
    (fun i _ => gens.length - (intOf i).toNat)
  case atStart => exact ⟨0, Nat.zero_le _, rfl, HL0.out⟩
  case round =>
    obtain ⟨W3, hnew⟩ : ∃ W, W = wr := ⟨_, rfl⟩
    subst hnew
    obtain ⟨m, hm, rfl, hCL⟩ := hrel
    obtain ⟨gv3, G3, T3, M3, F3, hC3, hc3, hL3, hK3⟩ := hCL
    by_cases hltm : m < gens.length
    · obtain ⟨b, off, u, rfl, hob, hcu0, hru0⟩ := HSg.out.atRow m hltm
      have hcu := hK3.cell (by simp) hcu0
      have hru := Rp.keep hru0 hK3
      have hgm : gens[m] ∈ gens := List.getElem_mem _
      have hpm := Hpn.out _ hgm
      have hlm : gens[m].length ≤ 1073741824 := by rw [hpm.1]; omega
      have HC3 := Lib.hid hC3
      have Hc3 := Lib.hid hc3
      have HL3 := Lib.hid hL3
      have HK3 := Lib.hid hK3
      have Hru := Lib.hid hru
      have Hpm := Lib.hid hpm
      have Hlm := Lib.hid hlm
      clear hcu0 hru0 hC3 hc3 hL3 hK3 hru hpm hob hgm hlm
      go_wp2_with (first
        | (go_at_call 84; (with_reducible refine (copyInts_rd _ _ _ _ Hru.out Hlm.out).mono ?_); rintro en w4 ⟨v4, f4, rfl, r4, F4, t4⟩)
        | (go_at_call 83; (with_reducible refine (specGen0 (HC3.out.keep t4) rfl rfl Hc3.out.inv HL3.out Hpm.out r4 (notin_fresh HC3.out.lM (Nat.le_refl _) F4) (Nat.le_trans HK3.out.size t4.size)).mono ?_); rintro en w5 ⟨rfl, ha5⟩)
        | fail "no arm")
      go_roundw
      case rel => exact ⟨m + 1, by omega, by go_num, CL.step HC3.out Hc3.out HK3.out t4 hltm ha5⟩
      case measure => simp [intOf]; omega
    · obtain rfl : m = gens.length := by omega
      rw [List.take_length] at hc3
      have Hc3 := Lib.hid hc3
      have HC3 := Lib.hid hC3
      have HK3 := Lib.hid hK3
      clear hC3 hc3 hL3 hK3
      go_wp2
      go_ret
      exact ⟨_, gv3, G3, T3, M3, F3, rfl, rfl, rfl, HC3.out, Hc3.out, HK3.out⟩
end Go.Proofs.Ytbediokigibdlaa

namespace Go.Proofs.Ytbediokigibdlaa
open Go.RowKit
set_option maxRecDepth 10000

open Classical in
/-- membership in the group that gens generate -/
noncomputable def memB (n : Nat) (gens : List (List Int)) (p : List Int) : Bool := decide (PM.Grp n gens p)
def stateB (x : Puzzle) (s : List Int) : Bool := validPz x && genB x.points s
noncomputable def reachB (x : Puzzle) (s : List Int) : Bool := stateB x s && memB x.points.toNat x.moves s
theorem gensB_iff {n : Int} {gens : List (List Int)} : gensB n gens = true ↔ (1 ≤ n ∧ n ≤ 20) ∧ gens.length ≤ 8 ∧ ∀ g ∈ gens, PM.PN n.toNat g := by
  unfold gensB
  rw [Bool.and_eq_true, Bool.and_eq_true, inR_iff, decide_eq_true_iff, List.all_eq_true]
  constructor
  · rintro ⟨⟨h1, h2⟩, h3⟩
    refine ⟨h1, h2, fun g hg => ?_⟩
    have h := h3 g hg
    unfold genB at h
    rw [Bool.and_eq_true, decide_eq_true_iff, permB_iff] at h
    exact ⟨by omega, h.2.2⟩
  · rintro ⟨h1, h2, h3⟩
    refine ⟨⟨h1, h2⟩, fun g hg => ?_⟩
    obtain ⟨h4, h5⟩ := h3 g hg
    unfold genB
    rw [Bool.and_eq_true, decide_eq_true_iff, permB_iff]
    exact ⟨by omega, ⟨by omega, by omega⟩, h5⟩
theorem specSift0 {e : TypeId} {B : Nat} {L : Lay} {gv : Nat → Value} {n : Nat} {G : PM.Gens} {T : PM.Rows} {M F : List Nat} {w : World} (hC : Ch e B w L gv n G T M F) (hw : PM.WF n T) (hT : L.oT = 1)
    {vp : Value} {p : List Int} {fp : List Nat} (hp : Rd w vp p fp) (pp : PM.PN n p) :
    Calls Try.prog 85 #[.pointer (some ⟨L.g, 0, none⟩), .int .i64 0, vp] w fun e w' => ∃ (v : Value) (lv : Nat), e = .returned (.tuple #[v, .int .i64 lv]) ∧ PM.has T n n p = decide (lv = n) ∧ Only [] w w' :=
  specSift_any w hC hw hT 0 vp p fp (Nat.zero_le _) hp pp
set_option maxHeartbeats 1000000 in
theorem chainHas_any {e : TypeId} {B : Nat} {L : Lay} {gv : Nat → Value} {n : Nat} {G : PM.Gens} {T : PM.Rows} {M F : List Nat} (w : World) (hC : Ch e B w L gv n G T M F) (hw : PM.WF n T) (hT : L.oT = 1)
    (vp : Value) (p : List Int) (fp : List Nat) (hp : Rd w vp p fp) (pp : PM.PN n p) :
    Calls Try.prog 38 #[.pointer (some ⟨L.g, 0, none⟩), vp] w fun e w' => e = .returned (.bool (PM.has T n n p)) ∧ Only [] w w' := by
  have cn0 := hC.cn
  obtain ⟨ap, cp, rfl, -⟩ := hp.ints
  rcases hh : PM.has T n n p
  · have Hh := Lib.hid hh
    clear hh
    go_enter Try.func38, Try.ntmps38
    go_wp2_with (first | (go_at_call 85; (with_reducible refine (specSift0 hC hw hT hp pp).mono ?_); rintro en w1 ⟨v1, lv1, rfl, he, t1⟩; rw [Hh.out] at he; have hlv : lv1 ≠ n := of_decide_eq_false he.symm; clear he; have hlv2 : ((lv1 : Int) == (n : Int)) = false := (by rw [beq_eq_false_iff_ne]; omega); have cn1 := t1.cell (by simp) cn0) | fail "no arm")
    go_ret
    exact ⟨rfl, t1⟩
  · have Hh := Lib.hid hh
    clear hh
    go_enter Try.func38, Try.ntmps38
    go_wp2_with (first | (go_at_call 85; (with_reducible refine (specSift0 hC hw hT hp pp).mono ?_); rintro en w1 ⟨v1, lv1, rfl, he, t1⟩; rw [Hh.out] at he; have hlv : n = lv1 := (of_decide_eq_true he.symm).symm; clear he; subst hlv; have cn1 := t1.cell (by simp) cn0) | fail "no arm")
    go_ret
    exact ⟨rfl, t1⟩
theorem memB_has {n : Nat} {gens : List (List Int)} {G : PM.Gens} {T : PM.Rows} (h : PM.Chain n gens G T) (hn : 0 < n) (hp : ∀ g ∈ gens, PM.PN n g) {p : List Int} (hpn : PM.PN n p) : PM.has T n n p = memB n gens p := by
  rw [Bool.eq_iff_iff, h.has_iff hn hp hpn]
  unfold memB
  simp


theorem implHas0 {e : TypeId} {B : Nat} {L : Lay} {gv : Nat → Value} {n : Nat} {G : PM.Gens} {T : PM.Rows} {M F : List Nat} {w : World} (hC : Ch e B w L gv n G T M F) (hw : PM.WF n T) (hT : L.oT = 2)
    {vp : Value} {p : List Int} {fp : List Nat} (hp : Rd w vp p fp) (pp : PM.PN n p) :
    Calls Try.prog 35 #[.pointer (some ⟨L.g, 0, none⟩), .int .i64 0, vp] w fun e w' => e = .returned (.bool (PM.has T n n p)) ∧ Only [] w w' :=
  implHas_any w hC hw hT 0 vp p fp (Nat.zero_le _) hp pp
end Go.Proofs.Ytbediokigibdlaa

namespace Go.Proofs.Ytbediokigibdlaa
open Go.RowKit
set_option maxRecDepth 10000

structure Session where
  puzzle : Puzzle
  state : List Int
  history : List (List Int)
  future : List (List Int)

instance : Rp Session where
  size := 6
  rep w cs x fp := ∃ c0 v1 v2 v3 f0 f1 f2 f3, cs = c0 ++ [v1] ++ [v2] ++ [v3] ∧ fp = f0 ++ (f1 ++ (f2 ++ f3)) ∧ Rp.rep w c0 x.puzzle f0 ∧ Rd w v1 x.state f1 ∧ Rd w v2 x.history f2 ∧ Rd w v3 x.future f3
  len h := by
    obtain ⟨c0, v1, v2, v3, f0, f1, f2, f3, rfl, -, h0, h1, h2, h3⟩ := h
    simp [Rp.len h0, Rp.size]
  frame h hf := by
    obtain ⟨c0, v1, v2, v3, f0, f1, f2, f3, hcs, rfl, h0, h1, h2, h3⟩ := h
    exact ⟨c0, v1, v2, v3, f0, f1, f2, f3, hcs, rfl, Rp.frame h0 fun b hb => hf b (by simp [hb]), Rp.frame h1 fun b hb => hf b (by simp [hb]), Rp.frame h2 fun b hb => hf b (by simp [hb]), Rp.frame h3 fun b hb => hf b (by simp [hb])⟩
  lt h := by
    obtain ⟨c0, v1, v2, v3, f0, f1, f2, f3, hcs, rfl, h0, h1, h2, h3⟩ := h
    intro b hb
    simp only [List.mem_append] at hb
    rcases hb with hb | hb | hb | hb
    · exact Rp.lt h0 b hb
    · exact Rp.lt h1 b hb
    · exact Rp.lt h2 b hb
    · exact Rp.lt h3 b hb

instance : Mk Session where
  mark k x := ⟨Mk.mark (k) x.puzzle, Mk.mark (k + (Mk.cnt x.puzzle : Nat)) x.state, Mk.mark (k + (Mk.cnt x.puzzle : Nat) + (Mk.cnt x.state : Nat)) x.history, Mk.mark (k + (Mk.cnt x.puzzle : Nat) + (Mk.cnt x.state : Nat) + (Mk.cnt x.history : Nat)) x.future⟩
  cnt x := Mk.cnt x.puzzle + Mk.cnt x.state + Mk.cnt x.history + Mk.cnt x.future
instance : Sz Session where
  sz x := Sz.sz x.puzzle + Sz.sz x.state + Sz.sz x.history + Sz.sz x.future
instance : Sm Session where
  sm x := Sm.sm x.puzzle ∧ Sm.sm x.state ∧ Sm.sm x.history ∧ Sm.sm x.future
instance : SzSm Session := ⟨fun x h => by
  have h' : Sz.sz x.puzzle + Sz.sz x.state + Sz.sz x.history + Sz.sz x.future ≤ 2097152 := h
  exact ⟨SzSm.of_ x.puzzle (by omega), SzSm.of_ x.state (by omega), SzSm.of_ x.history (by omega), SzSm.of_ x.future (by omega)⟩⟩
instance : CntSz Session := ⟨fun x => by
  have h' : Mk.cnt x.puzzle + Mk.cnt x.state + Mk.cnt x.history + Mk.cnt x.future ≤ Sz.sz x.puzzle + Sz.sz x.state + Sz.sz x.history + Sz.sz x.future := by have := CntSz.le x.puzzle; have := CntSz.le x.state; have := CntSz.le x.history; have := CntSz.le x.future; omega
  exact h'⟩
instance : MkL Session := ⟨fun k x => by simp [Mk.mark, Mk.cnt, markL_idem, markL_cnt], fun k x => by simp [Mk.mark, Mk.cnt, markL_cnt]⟩
end Go.Proofs.Ytbediokigibdlaa


namespace Go.Proofs.Ytbediokigibdlaa
open Go.RowKit
set_option maxRecDepth 10000
end Go.Proofs.Ytbediokigibdlaa

namespace Go.Proofs.Ytbediokigibdlaa
open Go.RowKit
set_option maxRecDepth 10000
end Go.Proofs.Ytbediokigibdlaa

namespace Go.Proofs.Ytbediokigibdlaa
open Go.RowKit
set_option maxRecDepth 10000
section
variable {α : Type} [Rp α] {w w' : World} {a : Option Addr} {cap : Nat} {xs : List α} {ob : List Nat} {fps : List (List Nat)}
/-- the first k elements -/
theorem SeqA.take (h : SeqA w a cap xs ob fps) (k : Nat) : SeqA w a cap (xs.take k) ob (fps.take k) := by
  have hnf := h.nf
  refine ⟨by have := h.len; simp; omega, h.cap, by simp [hnf], fun j hj => ?_, h.lt, h.one⟩
  have hj' : j < xs.length := by simp at hj; omega
  obtain ⟨b, off, cs, h1, h2, h3, h4⟩ := h.at_ j hj'
  refine ⟨b, off, cs, h1, h2, h3, ?_⟩
  simpa using h4
end
end Go.Proofs.Ytbediokigibdlaa

namespace Go.Proofs.Ytbediokigibdlaa
open Go.RowKit
set_option maxRecDepth 10000
end Go.Proofs.Ytbediokigibdlaa

namespace Go.Proofs.Ytbediokigibdlaa
open Go.RowKit
set_option maxRecDepth 10000
theorem flatten_take : ∀ (fs : List (List Nat)) (k : Nat), (fs.take k).flatten.Sublist fs.flatten
  | [], _ => by simp
  | _ :: _, 0 => by simp
  | f :: fs, k + 1 => by simpa using List.Sublist.append (List.Sublist.refl f) (flatten_take fs k)
theorem Fresh.sublist {B : Nat} {w : World} {fp fp' : List Nat} (h : Fresh B w fp) (hs : fp'.Sublist fp) : Fresh B w fp' :=
  ⟨h.nd.sublist hs, fun b hb => h.ge b (hs.subset hb), h.own.sub fun _ hb => hs.subset hb⟩
section
variable {α : Type} [Rp α] {B : Nat} {e : TypeId} {w : World} {v : Value} {l : List α} {fs : List (List Nat)}
end
end Go.Proofs.Ytbediokigibdlaa
