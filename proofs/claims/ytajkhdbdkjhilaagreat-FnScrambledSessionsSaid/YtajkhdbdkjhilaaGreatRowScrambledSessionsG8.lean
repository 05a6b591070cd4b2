/- IsGeneratorSet: the reference's and the program's. Puzzle: plain data, how it lies in memory, the laws' own helpers on it. (Printed by gen_struct.py.) IsValidPuzzle: the reference's and the program's. States and reachable states: the reference's and the program's functions. Session: plain data, how it lies in memory, the laws' own helpers on it. (Printed by gen_struct.py.) -/
import Derived.Test.YtajkhdbdkjhilaaGreatRowScrambledSessionsG3
import Derived.Test.YtajkhdbdkjhilaaGreatRowScrambledSessionsG6
import Derived.Test.YtajkhdbdkjhilaaGreatRowScrambledSessionsG7
namespace Go.Proofs.YtajkhdbdkjhilaaGreat
open Go.RowKit
set_option maxRecDepth 10000

set_option maxHeartbeats 400000 in
theorem IndexFunc_rows (f : FuncId) (caps : Array Value) (pr : List Int → Bool) (hcf : ∀ args w, (callFunc f args).run Tryz.prog w = .ok (.enter f args) w)
    (v : Value) (l : List (List Int)) (fp : List Nat) (w : World) (h : Rd w v l fp)
    (hc : ∀ x ∈ l, ∀ u f' w', Only [] w w' → Rd w' u x f' → Calls Tryz.prog f (#[u] ++ caps) w' fun e w'' => e = .returned (.bool (pr x)) ∧ Only [] w' w'') :
    Calls Tryz.prog 120 #[v, .func (.func f) #[] caps] w fun e w' => e = .returned (.int .i64 (idxF pr l)) ∧ Only [] w w' := by
  obtain ⟨a, cap, ob, fps, rfl, -, hI⟩ := h.open_
  have hb := hI.bound
  have HC := Lib.hid hc
  clear hc
  go_enter Tryz.func120, Tryz.ntmps120
  go_wp2
  go_loopw [5, 8] (fun i t wr => ∃ j : Nat, j ≤ l.length ∧ t = .int .i64 j ∧ (∀ x ∈ l.take j, pr x = false) ∧ Only [] w wr)
    (fun _ t _ => l.length - (intOf t).toNat)
  case atStart => exact ⟨0, Nat.zero_le _, rfl, by simp, Only.refl _ _⟩
  case round =>
    obtain ⟨j, hj, rfl, hr, hK⟩ := hrel
    have Hr := Lib.hid hr; clear hr
    by_cases hlt : j < l.length
    · obtain ⟨b, off, u, rfl, -, hc0, hv0⟩ := hI.atRow j hlt
      have hc := hK.cell (by simp) hc0
      have hv := Rp.keep hv0 hK
      clear hc0 hv0
      rcases hp : pr l[j]
      all_goals go_wp2_with (with_reducible refine (HC.out l[j] (List.getElem_mem _) u _ wr hK hv).mono ?_; rintro e w1 ⟨rfl, hk1⟩)
      · go_roundw
        case rel => exact ⟨j + 1, by omega, by go_num, by
          rw [take_succ_get l j hlt]; intro x hx
          rcases List.mem_append.1 hx with hx | hx
          · exact Hr.out x hx
          · simp at hx; subst hx; exact hp, hK.trans hk1⟩
        case measure => simp [intOf]; omega
      · go_ret
        exact ⟨ret_int (idxF_some hlt Hr.out hp).symm, hK.trans hk1⟩
    · go_wp2
      go_ret
      exact ⟨ret_int (idxF_none (by have := Hr.out; rwa [List.take_of_length_le (by omega)] at this)).symm, hK⟩
set_option maxHeartbeats 400000 in
theorem ContainsFunc_rows (f : FuncId) (caps : Array Value) (pr : List Int → Bool) (hcf : ∀ args w, (callFunc f args).run Tryz.prog w = .ok (.enter f args) w)
    (v : Value) (l : List (List Int)) (fp : List Nat) (w : World) (h : Rd w v l fp)
    (hc : ∀ x ∈ l, ∀ u f' w', Only [] w w' → Rd w' u x f' → Calls Tryz.prog f (#[u] ++ caps) w' fun e w'' => e = .returned (.bool (pr x)) ∧ Only [] w' w'') :
    Calls Tryz.prog 80 #[v, .func (.func f) #[] caps] w fun e w' => e = .returned (.bool (l.any pr)) ∧ Only [] w w' := by
  have HC := Lib.hid hc
  clear hc
  go_enter Tryz.func80, Tryz.ntmps80
  go_wp2_with ((go_at_call 120; (with_reducible refine (IndexFunc_rows f caps pr hcf v l _ w h HC.out).mono ?_); rintro e w1 ⟨rfl, hk⟩))
  go_ret
  exact ⟨ret_bool idxF_ge, hk⟩

def genB (n : Int) (g : List Int) : Bool := decide ((g.length : Int) = n) && permB g
def gensB (n : Int) (gens : List (List Int)) : Bool := inR n 1 20 && decide (gens.length ≤ 8) && gens.all (genB n)
set_option maxHeartbeats 1000000 in
theorem specIsGens_any (n : Int) (a : Option Addr) (cap : Nat) (l : List (List Int)) (ob : List Nat) (fps : List (List Nat)) (w : World) (h : SeqA w a cap l ob fps) :
    Calls Tryz.prog 102 #[.int .i64 n, .slice a l.length cap] w fun e w' => e = .returned (.bool (gensB n l)) ∧ Drew w w' := by
  have hb := h.bound
  rcases hq : inR n 1 20
  · go_enter Tryz.func102, Tryz.ntmps102
    go_wp2_with ((go_at_call 49; (with_reducible refine (inRange_any n 1 20 _).mono ?_); rintro e w ⟨rfl, rfl⟩))
    go_ret
    exact ⟨ret_bool (by unfold gensB; rw [hq]; rfl), Drew.refl _⟩
  by_cases hl : 8 < l.length
  · go_enter Tryz.func102, Tryz.ntmps102
    go_wp2_with ((go_at_call 49; (with_reducible refine (inRange_any n 1 20 _).mono ?_); rintro e w ⟨rfl, rfl⟩))
    go_ret
    exact ⟨ret_bool (by unfold gensB; rw [hq, decide_eq_false (by omega)]; rfl), Drew.refl _⟩
  have hfin : gensB n l = l.all (genB n) := by unfold gensB; rw [hq, decide_eq_true (by omega)]; rfl
  have Hfin := Lib.hid hfin; clear hfin
  go_enter Tryz.func102, Tryz.ntmps102
  go_wp2_with ((go_at_call 49; (with_reducible refine (inRange_any n 1 20 _).mono ?_); rintro e w ⟨rfl, rfl⟩))
  go_loopw [5] (fun i wr => ∃ j : Nat, j ≤ l.length ∧ i = .int .i64 j ∧ (∀ x ∈ l.take j, genB n x = true) ∧ Drew w wr)
    (fun i _ => l.length - (intOf i).toNat)
  case atStart => exact ⟨0, Nat.zero_le _, rfl, by simp, Drew.refl _⟩
  case round =>
    obtain ⟨j, hj, rfl, hr, k, rfl⟩ := hrel
    have Hr := Lib.hid hr; clear hr
    by_cases hlt : j < l.length
    · obtain ⟨b, off, v, rfl, -, hc, hv⟩ := h.atRow j hlt
      obtain ⟨a2, c2, rfl, hI⟩ := hv.ints
      have hb2 := hI.bound
      by_cases c1 : (l[j].length : Int) = n
      · have d1 : ((l[j].length : Int) != n) = false := by simp [c1]
        have C1 := Lib.hid c1; clear c1
        rcases c2 : permB l[j]
        all_goals go_wp2_with ((go_at_call 103; (with_reducible refine (specIsPerm_rd _ l[j] _ _ (Rp.keep hv (Only.ofDrewN _ _ _))).mono ?_); rintro e w1 ⟨rfl, n1, rfl⟩))
        · go_ret
          exact ⟨ret_bool (by rw [Hfin.out, eq_comm, List.all_eq_false]; exact ⟨l[j], List.getElem_mem _, by simp [genB, c2]⟩), ⟨_, rfl⟩⟩
        · go_roundw
          case rel => exact ⟨j + 1, by omega, by go_num, by
            rw [take_succ_get l j hlt]; intro x hx
            rcases List.mem_append.1 hx with hx | hx
            · exact Hr.out x hx
            · simp at hx; subst hx; simp [genB, c2, C1.out], ⟨_, rfl⟩⟩
          case measure => simp [intOf]; omega
      · have d1 : ((l[j].length : Int) != n) = true := by simp [c1]
        have C1 := Lib.hid c1; clear c1
        go_wp2
        go_ret
        exact ⟨ret_bool (by rw [Hfin.out, eq_comm, List.all_eq_false]; exact ⟨l[j], List.getElem_mem _, by simp [genB, C1.out]⟩), ⟨_, rfl⟩⟩
    · go_wp2
      go_ret
      exact ⟨ret_bool (by rw [Hfin.out, eq_comm, List.all_eq_true]; have := Hr.out; rwa [List.take_of_length_le (by omega)] at this), ⟨_, rfl⟩⟩
theorem specIsGens_rd (n : Int) (v : Value) (l : List (List Int)) (fp : List Nat) (w : World) (h : Rd w v l fp) :
    Calls Tryz.prog 102 #[.int .i64 n, v] w fun e w' => e = .returned (.bool (gensB n l)) ∧ Drew w w' := by
  obtain ⟨a, cap, ob, fps, rfl, -, hs⟩ := h.open_
  exact specIsGens_any n a cap l ob fps w hs
theorem lengthInt_q (v : Value) (l : List Int) (fp : List Nat) (w : World) (h : Rd w v l fp) :
    Calls Tryz.prog 89 #[v] w fun e w' => e = .returned (.int .i64 l.length) ∧ Drew w w' :=
  (lengthInt_rd v l fp w h).mono fun _ _ ⟨h1, h2⟩ => ⟨h1, by rw [h2]; exact Drew.refl _⟩
set_option maxHeartbeats 1000000 in
theorem IsGens_closure (n : Int) (u : Value) (x : List Int) (fp : List Nat) (b : Nat) (w : World) (h : Rd w u x fp) (hc : w.cell? ⟨b, 0, none⟩ = some (.int .i64 n)) :
    Calls Tryz.prog 124 #[u, .pointer (some ⟨b, 0, none⟩)] w fun e w' => e = .returned (.bool (!genB n x)) ∧ Only [] w w' := by
  obtain ⟨a, cap, rfl, hI⟩ := h.ints
  have hb := hI.bound
  by_cases c1 : (x.length : Int) = n
  · have d1 : ((x.length : Int) != n) = false := by simp [c1]
    have hg : genB n x = permB x := by simp [genB, c1]
    have Hg := Lib.hid hg; clear hg c1
    rcases c2 : permB x
    all_goals go_enter Tryz.func124, Tryz.ntmps124
    all_goals go_wp2
    all_goals go_quiet (first
      | (go_at_call 89; exact quiet_drewN0 (lengthInt_q _ x fp _ (Rp.keep h (Only.ofDrewN _ _ _))))
      | (go_at_call 125; exact quiet_drewN0 (implIsPerm_rd _ x fp _ (Rp.keep h (Only.ofDrewN _ _ _)))))
    all_goals go_wp2
    all_goals go_ret
    all_goals exact ⟨ret_bool (by rw [Hg.out, c2]; rfl), Only.ofDrewN _ _ _⟩
  · have d1 : ((x.length : Int) != n) = true := by simp [c1]
    have hg : genB n x = false := by simp [genB, c1]
    have Hg := Lib.hid hg; clear hg c1
    go_enter Tryz.func124, Tryz.ntmps124
    go_wp2
    go_quiet (first
      | (go_at_call 89; exact quiet_drewN0 (lengthInt_q _ x fp _ (Rp.keep h (Only.ofDrewN _ _ _))))
      | (go_at_call 125; exact quiet_drewN0 (implIsPerm_rd _ x fp _ (Rp.keep h (Only.ofDrewN _ _ _)))))
    go_wp2
    go_ret
    exact ⟨ret_bool (by rw [Hg.out]; rfl), Only.ofDrewN _ _ _⟩
set_option maxHeartbeats 1000000 in
theorem implIsGens_rd (n : Int) (v : Value) (l : List (List Int)) (fp : List Nat) (w : World) (h : Rd w v l fp) :
    Calls Tryz.prog 95 #[.int .i64 n, v] w fun e w' => e = .returned (.bool (gensB n l)) ∧ Only [] w w' := by
  obtain ⟨a, cap, ob, fps, rfl, -, hs⟩ := h.open_
  have hb := hs.bound
  rcases hq : inR n 1 20
  · go_enter Tryz.func95, Tryz.ntmps95
    go_wp2_with ((go_at_call 115; (with_reducible refine (within_any n 1 20 _).mono ?_); rintro e w1 ⟨rfl, rfl⟩))
    go_ret
    exact ⟨ret_bool (by unfold gensB; rw [hq]; rfl), (by with_reducible repeat (first | exact Only.refl _ _ | assumption | refine Only.drewN ?_ _ | refine Only.drew ?_ | refine Only.alloc ?_ _ | refine Only.setCell ?_ (by intro hh; exfalso; simp at hh; try omega) _ | refine Only.trans ?_ (by assumption)))⟩
  by_cases hl : l.length ≤ 8
  · have hfin : gensB n l = !(l.any fun x => !genB n x) := by unfold gensB; rw [hq, decide_eq_true hl, List.not_any_eq_all_not]; simp
    have Hfin := Lib.hid hfin; clear hfin
    have Hc := Lib.hid (ContainsFunc_rows 124 #[.pointer (some ⟨w.heap.size, 0, none⟩)] (fun x => !genB n x) Tryz.call124 (.slice a l.length cap) l _ (w.alloc (.cells #[.int .i64 n] 2)) (Rp.keep h (by with_reducible repeat (first | exact Only.refl _ _ | assumption | refine Only.drewN ?_ _ | refine Only.drew ?_ | refine Only.alloc ?_ _ | refine Only.setCell ?_ (by intro hh; exfalso; simp at hh; try omega) _ | refine Only.trans ?_ (by assumption))))
      (fun x _ u f' w' hw hu => IsGens_closure n u x f' w.heap.size w' hu (hw.cell (by simp) (by simp))))
    rcases hany : l.any fun x => !genB n x
    all_goals go_enter Tryz.func95, Tryz.ntmps95
    all_goals go_wp2_with (first | (go_at_call 115; refine (within_any n 1 20 _).mono ?_; rintro e w1 ⟨rfl, rfl⟩) | (go_at_call 80; (with_reducible refine (Hc.out).mono ?_); rintro e w1 ⟨rfl, hk⟩))
    all_goals go_ret
    all_goals exact ⟨ret_bool (by rw [Hfin.out, hany]; rfl), (by with_reducible repeat (first | exact Only.refl _ _ | assumption | refine Only.drewN ?_ _ | refine Only.drew ?_ | refine Only.alloc ?_ _ | refine Only.setCell ?_ (by intro hh; exfalso; simp at hh; try omega) _ | refine Only.trans ?_ (by assumption)))⟩
  · go_enter Tryz.func95, Tryz.ntmps95
    go_wp2_with ((go_at_call 115; (with_reducible refine (within_any n 1 20 _).mono ?_); rintro e w1 ⟨rfl, rfl⟩))
    go_ret
    exact ⟨ret_bool (by unfold gensB; rw [hq, decide_eq_false hl]; rfl), (by with_reducible repeat (first | exact Only.refl _ _ | assumption | refine Only.drewN ?_ _ | refine Only.drew ?_ | refine Only.alloc ?_ _ | refine Only.setCell ?_ (by intro hh; exfalso; simp at hh; try omega) _ | refine Only.trans ?_ (by assumption)))⟩
end Go.Proofs.YtajkhdbdkjhilaaGreat

namespace Go.Proofs.YtajkhdbdkjhilaaGreat
open Go.RowKit
set_option maxRecDepth 10000

structure Puzzle where
  points : Int
  names : ByteArray
  moves : List (List Int)

instance : Rp Puzzle where
  size := 3
  rep w cs x fp := ∃ v2, cs = [Value.int .i64 x.points] ++ [Value.string x.names] ++ [v2] ∧ I64 x.points ∧ x.names.size ≤ maxLen ∧ Rd w v2 x.moves fp
  len h := by
    obtain ⟨v2, rfl, p0, p1, h2⟩ := h
    rfl
  frame h hf := by
    obtain ⟨v2, hcs, p0, p1, h2⟩ := h
    exact ⟨v2, hcs, p0, p1, Rp.frame h2 fun b hb => hf b (by simp [hb])⟩
  lt h := by
    obtain ⟨v2, hcs, p0, p1, h2⟩ := h
    intro b hb
    exact Rp.lt h2 b hb

instance : Mk Puzzle where
  mark k x := ⟨x.points, x.names, Mk.mark (k) x.moves⟩
  cnt x := Mk.cnt x.moves
instance : Sz Puzzle where
  sz x := x.names.size + Sz.sz x.moves
instance : Sm Puzzle where
  sm x := Sm.sm x.moves
instance : SzSm Puzzle := ⟨fun x h => by
  have h' : x.names.size + Sz.sz x.moves ≤ 2097152 := h
  exact SzSm.of_ x.moves (by omega)⟩
instance : CntSz Puzzle := ⟨fun x => by
  have h' : Mk.cnt x.moves ≤ x.names.size + Sz.sz x.moves := by have := CntSz.le x.moves; omega
  exact h'⟩
instance : MkL Puzzle := ⟨fun k x => by simp [Mk.mark, markL_idem], fun k x => by simp [Mk.mark, Mk.cnt, markL_cnt]⟩
end Go.Proofs.YtajkhdbdkjhilaaGreat


namespace Go.Proofs.YtajkhdbdkjhilaaGreat
open Go.RowKit
set_option maxRecDepth 10000

/-- the bytes of a string, as numbers -/
def bl (s : ByteArray) : List Int := s.data.toList.map fun b => (b.toNat : Int)
theorem bl_len (s : ByteArray) : (bl s).length = s.size := by
  unfold bl; rw [List.length_map, Array.length_toList]; rfl
theorem bl_get (s : ByteArray) (i : Nat) (h : i < s.size) (h' : i < (bl s).length) : (bl s)[i] = (s[i].toNat : Int) := by
  simp [bl]; rfl
def moveNameB (L : List Int) (i : Nat) : Bool := match L[i]? with
  | some b => inR b 65 90 && decide (b ∉ L.take i)
  | none => false
theorem moveNameB_of {L : List Int} {i : Nat} (h : i < L.length) : moveNameB L i = (inR L[i] 65 90 && decide (L[i] ∉ L.take i)) := by
  simp [moveNameB, h]
def namesB (s : ByteArray) : Bool := inR s.size 1 8 && ((bl s).all (fun b => inR b 65 90) && decide (bl s).Nodup)
def validPz (p : Puzzle) : Bool := gensB p.points p.moves && (namesB p.names && decide (p.names.size = p.moves.length))
theorem names_of {L : List Int} : (L.all (fun b => inR b 65 90) && decide L.Nodup) = true ↔ (∀ x ∈ L, inR x 65 90 = true) ∧ L.Nodup := by simp

set_option maxHeartbeats 1000000 in
theorem isMoveName_any (s : ByteArray) (i : Nat) (w : World) (hs : s.size ≤ maxLen) (hi : i < s.size) :
    Calls Tryz.prog 122 #[.string s, .int .i64 i] w fun e w' => e = .returned (.bool (moveNameB (bl s) i)) ∧ Drew w w' := by
  unfold maxLen at hs
  have hi1 : (0 : Int) ≤ (i : Int) := by omega
  have hi2 : (i : Int) < (s.size : Int) := by omega
  have hL : i < (bl s).length := by rw [bl_len]; exact hi
  have hfin : moveNameB (bl s) i = (inR (s[i].toNat : Int) 65 90 && decide ((s[i].toNat : Int) ∉ (bl s).take i)) := by rw [moveNameB_of hL, bl_get s i hi hL]
  have Hfin := Lib.hid hfin; clear hfin
  by_cases c1 : (s[i].toNat : Int) < 65
  · go_enter Tryz.func122, Tryz.ntmps122
    go_wp2
    go_ret
    exact ⟨ret_bool (by rw [Hfin.out, show inR (s[i].toNat : Int) 65 90 = false by rw [inR_not]; omega]; rfl), ⟨0, rfl⟩⟩
  by_cases c2 : 90 < (s[i].toNat : Int)
  · go_enter Tryz.func122, Tryz.ntmps122
    go_wp2
    go_ret
    exact ⟨ret_bool (by rw [Hfin.out, show inR (s[i].toNat : Int) 65 90 = false by rw [inR_not]; omega]; rfl), ⟨0, rfl⟩⟩
  have hR : moveNameB (bl s) i = decide ((s[i].toNat : Int) ∉ (bl s).take i) := by rw [Hfin.out, show inR (s[i].toNat : Int) 65 90 = true by rw [inR_iff]; omega]; rfl
  have HR := Lib.hid hR; clear hR Hfin
  go_enter Tryz.func122, Tryz.ntmps122
  go_wp2
  go_loopw [5] (fun t wr => ∃ j : Nat, j ≤ i ∧ t = .int .i64 j ∧ (s[i].toNat : Int) ∉ (bl s).take j ∧ Drew w wr)
    (fun t _ => i - (intOf t).toNat)
  case atStart => exact ⟨0, Nat.zero_le _, rfl, by simp, Drew.refl _⟩
  case round =>
    obtain ⟨j, hj, rfl, hr, k, rfl⟩ := hrel
    have Hr := Lib.hid hr; clear hr
    by_cases hlt : j < i
    · have hjs : j < s.size := by omega
      have hj1 : (0 : Int) ≤ (j : Int) := by omega
      have hj2 : (j : Int) < (s.size : Int) := by omega
      have hbj : (bl s)[j]'(by rw [bl_len]; exact hjs) = (s[j].toNat : Int) := bl_get s j hjs _
      have Hbj := Lib.hid hbj; clear hbj
      by_cases hx : (s[j].toNat : Int) = (s[i].toNat : Int)
      · have hq : ((s[j].toNat : Int) == (s[i].toNat : Int)) = true := by simp [hx]
        have Hx := Lib.hid hx; clear hx
        go_wp2
        go_quiet (fail)
        go_wp2
        go_ret
        exact ⟨ret_bool (by rw [HR.out, eq_comm, decide_eq_false_iff_not, Classical.not_not, ← Hx.out, ← Hbj.out]; exact List.mem_take_iff_getElem.2 ⟨j, by rw [bl_len]; omega, rfl⟩), ((Drew.refl _).drewN _).drewN _⟩
      · have hq : ((s[j].toNat : Int) == (s[i].toNat : Int)) = false := by simpa using hx
        have Hx := Lib.hid hx; clear hx
        go_wp2
        go_quiet (fail)
        go_wp2
        go_roundw
        case rel => exact ⟨j + 1, by omega, by go_num, by
          rw [take_succ_get (bl s) j (by rw [bl_len]; exact hjs)]; intro hm
          rcases List.mem_append.1 hm with hm | hm
          · exact Hr.out hm
          · simp at hm; rw [Hbj.out] at hm; exact Hx.out hm.symm, ⟨_, rfl⟩⟩
        case measure => simp [intOf]; omega
    · go_wp2
      go_ret
      exact ⟨ret_bool (by rw [HR.out, eq_comm, decide_eq_true_iff]; have := Hr.out; have e : j = i := (by omega); rwa [e] at this), ⟨_, rfl⟩⟩
theorem namesB_yes {L : List Int} (h : ∀ k, k < L.length → moveNameB L k = true) : (L.all (fun b => inR b 65 90) && decide L.Nodup) = true := by
  rw [names_of]
  have hk : ∀ k (hk : k < L.length), inR L[k] 65 90 = true ∧ L[k] ∉ L.take k := by
    intro k hk
    have := h k hk
    rw [moveNameB_of hk] at this
    simpa using this
  refine ⟨fun x hx => ?_, ?_⟩
  · obtain ⟨k, hk', rfl⟩ := List.getElem_of_mem hx
    exact (hk k hk').1
  · rw [List.nodup_iff_pairwise_ne, List.pairwise_iff_getElem]
    intro i j hi hj hij he
    exact (hk j hj).2 (List.mem_take_iff_getElem.2 ⟨i, by omega, he⟩)
theorem namesB_no {L : List Int} {k : Nat} (hk : k < L.length) (h : moveNameB L k = false) : (L.all (fun b => inR b 65 90) && decide L.Nodup) = false := by
  rw [← Bool.not_eq_true, names_of]
  rintro ⟨h1, h2⟩
  rw [moveNameB_of hk, h1 _ (List.getElem_mem _)] at h
  simp at h
  exact nodup_take_not hk h h2
set_option maxHeartbeats 2000000 in
theorem specIsValidPuzzle_any (cs : List Value) (x : Puzzle) (fp : List Nat) (w : World) (h : Rp.rep w cs x fp) :
    Calls Tryz.prog 85 #[.agg cs.toArray] w fun e w' => e = .returned (.bool (validPz x)) ∧ Only [] w w' := by
  obtain ⟨v2, rfl, p0, p1, h2⟩ := h
  obtain ⟨A2, C2, ob, fps, rfl, -, hs⟩ := h2.open_
  have hb := hs.bound
  have hm := p1; unfold maxLen at hm
  by_cases c1 : x.moves.length = 0
  · have hf : validPz x = false := by
      unfold validPz namesB
      rw [Bool.and_eq_false_iff, Bool.and_eq_false_iff, Bool.and_eq_false_iff]
      right
      by_cases hz : x.names.size = x.moves.length
      · left; left; rw [inR_not]; omega
      · right; exact decide_eq_false hz
    have Hf := Lib.hid hf; clear hf
    have d1 : ((x.moves.length : Int) == 0) = true := by simp [c1]
    have C1 := Lib.hid c1; clear c1
    go_enter Tryz.func85, Tryz.ntmps85
    go_wp2
    go_ret
    exact ⟨ret_bool Hf.out.symm, (by with_reducible repeat (first | exact Only.refl _ _ | assumption | refine Only.drewN ?_ _ | refine Only.drew ?_ | refine Only.alloc ?_ _ | refine Only.setCell ?_ (by intro hh; exfalso; simp at hh; try omega) _ | refine Only.trans ?_ (by assumption)))⟩
  have d1 : ((x.moves.length : Int) == 0) = false := by rw [beq_eq_false_iff_ne]; omega
  by_cases c2 : x.names.size = x.moves.length
  · have d2 : ((x.names.size : Int) != (x.moves.length : Int)) = false := by simp [c2]
    rcases c3 : gensB x.points x.moves
    · have hf : validPz x = false := by unfold validPz; rw [c3]; rfl
      have Hf := Lib.hid hf; clear hf
      have C2' := Lib.hid c2; clear c2
      have C1 := Lib.hid c1; clear c1
      go_enter Tryz.func85, Tryz.ntmps85
      go_wp2_with ((go_at_call 102; (with_reducible refine (specIsGens_rd x.points _ x.moves _ _ (Rp.keep h2 (by with_reducible repeat (first | exact Only.refl _ _ | assumption | refine Only.drewN ?_ _ | refine Only.drew ?_ | refine Only.alloc ?_ _ | refine Only.setCell ?_ (by intro hh; exfalso; simp at hh; try omega) _ | refine Only.trans ?_ (by assumption))))).mono ?_); rintro e w1 ⟨rfl, n1, rfl⟩))
      go_ret
      exact ⟨ret_bool Hf.out.symm, (by with_reducible repeat (first | exact Only.refl _ _ | assumption | refine Only.drewN ?_ _ | refine Only.drew ?_ | refine Only.alloc ?_ _ | refine Only.setCell ?_ (by intro hh; exfalso; simp at hh; try omega) _ | refine Only.trans ?_ (by assumption)))⟩
    have hl8 : x.moves.length ≤ 8 := by
      unfold gensB at c3; simp only [Bool.and_eq_true, decide_eq_true_eq] at c3; exact c3.1.2
    have hf : validPz x = ((bl x.names).all (fun b => inR b 65 90) && decide (bl x.names).Nodup) := by
      unfold validPz namesB; rw [c3, decide_eq_true c2, show inR x.names.size 1 8 = true by rw [inR_iff]; omega]; simp
    have Hf := Lib.hid hf; clear hf
    have C2' := Lib.hid c2; clear c2
    have C1 := Lib.hid c1; clear c1
    go_enter Tryz.func85, Tryz.ntmps85
    go_wp2_with ((go_at_call 102; (with_reducible refine (specIsGens_rd x.points _ x.moves _ _ (Rp.keep h2 (by with_reducible repeat (first | exact Only.refl _ _ | assumption | refine Only.drewN ?_ _ | refine Only.drew ?_ | refine Only.alloc ?_ _ | refine Only.setCell ?_ (by intro hh; exfalso; simp at hh; try omega) _ | refine Only.trans ?_ (by assumption))))).mono ?_); rintro e w1 ⟨rfl, n1, rfl⟩))
    go_loopw [3] (fun i wr => ∃ j : Nat, j ≤ x.names.size ∧ i = .int .i64 j ∧ (∀ k, k < j → moveNameB (bl x.names) k = true) ∧ Drew ((w.alloc (.cells #[.int .i64 x.points, .string x.names, .slice A2 x.moves.length C2] 26))) wr)
      (fun i _ => x.names.size - (intOf i).toNat)
    case atStart => exact ⟨0, Nat.zero_le _, rfl, by simp, ⟨_, rfl⟩⟩
    case round =>
      obtain ⟨j, hj, rfl, hr, k, rfl⟩ := hrel
      have Hr := Lib.hid hr; clear hr
      by_cases hlt : j < x.names.size
      · rcases c4 : moveNameB (bl x.names) j
        all_goals go_wp2_with ((go_at_call 122; (with_reducible refine (isMoveName_any x.names j _ p1 hlt).mono ?_); rintro e w1 ⟨rfl, n1, rfl⟩))
        · go_ret
          exact ⟨ret_bool (by rw [Hf.out, namesB_no (by rw [bl_len]; exact hlt) c4]), (by with_reducible repeat (first | exact Only.refl _ _ | assumption | refine Only.drewN ?_ _ | refine Only.drew ?_ | refine Only.alloc ?_ _ | refine Only.setCell ?_ (by intro hh; exfalso; simp at hh; try omega) _ | refine Only.trans ?_ (by assumption)))⟩
        · go_roundw
          case rel => exact ⟨j + 1, by omega, by go_num, fun k hk => by
            by_cases hkj : k = j
            · subst hkj; exact c4
            · exact Hr.out k (by omega), ⟨_, rfl⟩⟩
          case measure => simp [intOf]; omega
      · go_wp2
        go_ret
        exact ⟨ret_bool (by rw [Hf.out, namesB_yes (fun k hk => Hr.out k (by rw [bl_len] at hk; omega))]), (by with_reducible repeat (first | exact Only.refl _ _ | assumption | refine Only.drewN ?_ _ | refine Only.drew ?_ | refine Only.alloc ?_ _ | refine Only.setCell ?_ (by intro hh; exfalso; simp at hh; try omega) _ | refine Only.trans ?_ (by assumption)))⟩
  · have d2 : ((x.names.size : Int) != (x.moves.length : Int)) = true := by simp only [bne_iff_ne, ne_eq]; omega
    have hf : validPz x = false := by unfold validPz; rw [decide_eq_false c2]; simp
    have Hf := Lib.hid hf; clear hf
    have C2' := Lib.hid c2; clear c2
    have C1 := Lib.hid c1; clear c1
    go_enter Tryz.func85, Tryz.ntmps85
    go_wp2
    go_ret
    exact ⟨ret_bool Hf.out.symm, (by with_reducible repeat (first | exact Only.refl _ _ | assumption | refine Only.drewN ?_ _ | refine Only.drew ?_ | refine Only.alloc ?_ _ | refine Only.setCell ?_ (by intro hh; exfalso; simp at hh; try omega) _ | refine Only.trans ?_ (by assumption)))⟩
set_option maxHeartbeats 2000000 in
theorem isNames_any (s : ByteArray) (w : World) (hs : s.size ≤ maxLen) :
    Calls Tryz.prog 101 #[.string s] w fun e w' => e = .returned (.bool (namesB s)) ∧ Drew w w' := by
  unfold maxLen at hs
  have hno : ∀ k, k < s.size → moveNameB (bl s) k = false → namesB s = false := by
    intro k hk h
    unfold namesB
    rw [namesB_no (by rw [bl_len]; exact hk) h]; simp
  have hyes : (∀ k, k < s.size → moveNameB (bl s) k = true) → namesB s = inR s.size 1 8 := by
    intro h
    unfold namesB
    rw [namesB_yes (fun k hk => h k (by rw [bl_len] at hk; exact hk))]; simp
  have Hno := Lib.hid hno; clear hno
  have Hyes := Lib.hid hyes; clear hyes
  go_enter Tryz.func101, Tryz.ntmps101
  go_wp2
  go_loopw [7] (fun i wr => ∃ j : Nat, j ≤ s.size ∧ i = .int .i64 j ∧ (∀ k, k < j → moveNameB (bl s) k = true) ∧ Drew w wr)
    (fun i _ => s.size - (intOf i).toNat)
  case atStart => exact ⟨0, Nat.zero_le _, rfl, by simp, Drew.refl _⟩
  case round =>
    obtain ⟨j, hj, rfl, hr, k, rfl⟩ := hrel
    have Hr := Lib.hid hr; clear hr
    by_cases hlt : j < s.size
    · have hi1 : (0 : Int) ≤ (j : Int) := by omega
      have hi2 : (j : Int) < (s.size : Int) := by omega
      have hL : j < (bl s).length := by rw [bl_len]; exact hlt
      have hbj : (bl s)[j] = (s[j].toNat : Int) := bl_get s j hlt _
      have hmn : moveNameB (bl s) j = (inR (s[j].toNat : Int) 65 90 && decide ((s[j].toNat : Int) ∉ (bl s).take j)) := by rw [moveNameB_of hL, hbj]
      have Hmn := Lib.hid hmn; clear hmn hbj hL
      have hw : wrap64 (s[j].toNat : Int) = (s[j].toNat : Int) := wrap64_small _ (by omega) (by have := UInt8.toNat_lt s[j]; omega)
      rcases c1 : inR (s[j].toNat : Int) 65 90
      · go_wp2_with ((go_at_call 115; (with_reducible refine (within_any (s[j].toNat : Int) 65 90 _).mono ?_); rintro e w1 ⟨rfl, rfl⟩))
        go_ret
        exact ⟨ret_bool (Hno.out j hlt (by rw [Hmn.out, c1]; rfl)).symm, ⟨_, rfl⟩⟩
      go_wp2_with ((go_at_call 115; (with_reducible refine (within_any (s[j].toNat : Int) 65 90 _).mono ?_); rintro e w1 ⟨rfl, rfl⟩))
      go_loopw [17] (fun i wr => ∃ q : Nat, q ≤ j ∧ i = .int .i64 q ∧ (s[j].toNat : Int) ∉ (bl s).take q ∧ Drew w wr)
        (fun i _ => j - (intOf i).toNat)
      case atStart => exact ⟨0, Nat.zero_le _, rfl, by simp, ⟨_, rfl⟩⟩
      case round =>
        obtain ⟨q, hq, rfl, hu, k2, rfl⟩ := hrel
        have Hu := Lib.hid hu; clear hu
        by_cases hlq : q < j
        · have hqs : q < s.size := by omega
          have hq1 : (0 : Int) ≤ (q : Int) := by omega
          have hq2 : (q : Int) < (s.size : Int) := by omega
          have hbq : (bl s)[q]'(by rw [bl_len]; exact hqs) = (s[q].toNat : Int) := bl_get s q hqs _
          have Hbq := Lib.hid hbq; clear hbq
          by_cases hx : (s[q].toNat : Int) = (s[j].toNat : Int)
          · have hqq : ((s[q].toNat : Int) == (s[j].toNat : Int)) = true := by simp [hx]
            have Hx := Lib.hid hx; clear hx
            go_wp2
            go_quiet (fail)
            go_wp2
            go_ret
            exact ⟨ret_bool (Hno.out j hlt (by rw [Hmn.out, c1, decide_eq_false (by rw [Classical.not_not, ← Hx.out, ← Hbq.out]; exact List.mem_take_iff_getElem.2 ⟨q, by rw [bl_len]; omega, rfl⟩)]; rfl)).symm, ((Drew.refl _).drewN _).drewN _⟩
          · have hqq : ((s[q].toNat : Int) == (s[j].toNat : Int)) = false := by simpa using hx
            have Hx := Lib.hid hx; clear hx
            go_wp2
            go_quiet (fail)
            go_wp2
            go_roundw
            case rel => exact ⟨q + 1, by omega, by go_num, by
              rw [take_succ_get (bl s) q (by rw [bl_len]; exact hqs)]; intro hm
              rcases List.mem_append.1 hm with hm | hm
              · exact Hu.out hm
              · simp at hm; rw [Hbq.out] at hm; exact Hx.out hm.symm, ⟨_, rfl⟩⟩
            case measure => simp [intOf]; omega
        · have hqj : q = j := by omega
          have Hqj := Lib.hid hqj; clear hqj
          go_wp2
          go_roundw
          case rel => exact ⟨j + 1, by omega, by go_num, fun z hz => by
            by_cases hzj : z = j
            · subst hzj; rw [Hmn.out, c1, decide_eq_true (by have := Hu.out; rwa [Hqj.out] at this)]; rfl
            · exact Hr.out z (by omega), ⟨_, rfl⟩⟩
          case measure => simp [intOf]; omega
    · rcases c5 : inR s.size 1 8
      all_goals go_wp2_with ((go_at_call 115; (with_reducible refine (within_any s.size 1 8 _).mono ?_); rintro e w1 ⟨rfl, rfl⟩))
      all_goals go_ret
      all_goals exact ⟨ret_bool (by rw [Hyes.out (fun z hz => Hr.out z (by omega)), c5]), ⟨_, rfl⟩⟩
set_option maxHeartbeats 2000000 in
theorem implIsValidPuzzle_any (cs : List Value) (x : Puzzle) (fp : List Nat) (w : World) (h : Rp.rep w cs x fp) :
    Calls Tryz.prog 55 #[.agg cs.toArray] w fun e w' => e = .returned (.bool (validPz x)) ∧ Only [] w w' := by
  obtain ⟨v2, rfl, p0, p1, h2⟩ := h
  obtain ⟨A2, C2, ob, fps, rfl, -, hs⟩ := h2.open_
  have hb := hs.bound
  have hm := p1; unfold maxLen at hm
  have G : ∀ w', Only [] w w' → Calls Tryz.prog 95 #[.int .i64 x.points, .slice A2 x.moves.length C2] w' fun e w'' => e = .returned (.bool (gensB x.points x.moves)) ∧ Only [] w' w'' :=
    fun w' hw => implIsGens_rd x.points _ x.moves _ w' (Rp.keep h2 hw)
  have HG := Lib.hid G; clear G
  rcases c3 : gensB x.points x.moves
  · have hf : validPz x = false := by unfold validPz; rw [c3]; rfl
    have Hf := Lib.hid hf; clear hf
    go_enter Tryz.func55, Tryz.ntmps55
    go_wp2_with ((go_at_call 95; (with_reducible refine (HG.out _ (by with_reducible repeat (first | exact Only.refl _ _ | assumption | refine Only.drewN ?_ _ | refine Only.drew ?_ | refine Only.alloc ?_ _ | refine Only.setCell ?_ (by intro hh; exfalso; simp at hh; try omega) _ | refine Only.trans ?_ (by assumption)))).mono ?_); rintro e w1 ⟨rfl, t1⟩; have y1 := t1.cells_eq w.heap.size (by simp) (by simp)))
    go_ret
    exact ⟨ret_bool Hf.out.symm, (by with_reducible repeat (first | exact Only.refl _ _ | assumption | refine Only.drewN ?_ _ | refine Only.drew ?_ | refine Only.alloc ?_ _ | refine Only.setCell ?_ (by intro hh; exfalso; simp at hh; try omega) _ | refine Only.trans ?_ (by assumption)))⟩
  rcases c4 : namesB x.names
  · have hf : validPz x = false := by unfold validPz; rw [c3, c4]; rfl
    have Hf := Lib.hid hf; clear hf
    go_enter Tryz.func55, Tryz.ntmps55
    go_wp2_with (first | (go_at_call 95; (with_reducible refine (HG.out _ (by with_reducible repeat (first | exact Only.refl _ _ | assumption | refine Only.drewN ?_ _ | refine Only.drew ?_ | refine Only.alloc ?_ _ | refine Only.setCell ?_ (by intro hh; exfalso; simp at hh; try omega) _ | refine Only.trans ?_ (by assumption)))).mono ?_); rintro e w1 ⟨rfl, t1⟩; have y1 := t1.cells_eq w.heap.size (by simp) (by simp)) | (go_at_call 101; (with_reducible refine (isNames_any x.names _ p1).mono ?_); rintro e w2 ⟨rfl, n2, rfl⟩))
    go_ret
    exact ⟨ret_bool Hf.out.symm, (by with_reducible repeat (first | exact Only.refl _ _ | assumption | refine Only.drewN ?_ _ | refine Only.drew ?_ | refine Only.alloc ?_ _ | refine Only.setCell ?_ (by intro hh; exfalso; simp at hh; try omega) _ | refine Only.trans ?_ (by assumption)))⟩
  have hf : validPz x = decide (x.names.size = x.moves.length) := by unfold validPz; rw [c3, c4]; rfl
  have Hf := Lib.hid hf; clear hf
  by_cases c5 : x.names.size = x.moves.length
  · have d5 : ((x.names.size : Int) == (x.moves.length : Int)) = true := by simp [c5]
    have C5 := Lib.hid c5; clear c5
    go_enter Tryz.func55, Tryz.ntmps55
    go_wp2_with (first | (go_at_call 95; (with_reducible refine (HG.out _ (by with_reducible repeat (first | exact Only.refl _ _ | assumption | refine Only.drewN ?_ _ | refine Only.drew ?_ | refine Only.alloc ?_ _ | refine Only.setCell ?_ (by intro hh; exfalso; simp at hh; try omega) _ | refine Only.trans ?_ (by assumption)))).mono ?_); rintro e w1 ⟨rfl, t1⟩; have y1 := t1.cells_eq w.heap.size (by simp) (by simp)) | (go_at_call 101; (with_reducible refine (isNames_any x.names _ p1).mono ?_); rintro e w2 ⟨rfl, n2, rfl⟩))
    go_ret
    exact ⟨ret_bool (by rw [Hf.out, decide_eq_true C5.out]), (by with_reducible repeat (first | exact Only.refl _ _ | assumption | refine Only.drewN ?_ _ | refine Only.drew ?_ | refine Only.alloc ?_ _ | refine Only.setCell ?_ (by intro hh; exfalso; simp at hh; try omega) _ | refine Only.trans ?_ (by assumption)))⟩
  · have d5 : ((x.names.size : Int) == (x.moves.length : Int)) = false := by rw [beq_eq_false_iff_ne]; omega
    have C5 := Lib.hid c5; clear c5
    go_enter Tryz.func55, Tryz.ntmps55
    go_wp2_with (first | (go_at_call 95; (with_reducible refine (HG.out _ (by with_reducible repeat (first | exact Only.refl _ _ | assumption | refine Only.drewN ?_ _ | refine Only.drew ?_ | refine Only.alloc ?_ _ | refine Only.setCell ?_ (by intro hh; exfalso; simp at hh; try omega) _ | refine Only.trans ?_ (by assumption)))).mono ?_); rintro e w1 ⟨rfl, t1⟩; have y1 := t1.cells_eq w.heap.size (by simp) (by simp)) | (go_at_call 101; (with_reducible refine (isNames_any x.names _ p1).mono ?_); rintro e w2 ⟨rfl, n2, rfl⟩))
    go_ret
    exact ⟨ret_bool (by rw [Hf.out, decide_eq_false C5.out]), (by with_reducible repeat (first | exact Only.refl _ _ | assumption | refine Only.drewN ?_ _ | refine Only.drew ?_ | refine Only.alloc ?_ _ | refine Only.setCell ?_ (by intro hh; exfalso; simp at hh; try omega) _ | refine Only.trans ?_ (by assumption)))⟩
end Go.Proofs.YtajkhdbdkjhilaaGreat

namespace Go.Proofs.YtajkhdbdkjhilaaGreat
open Go.RowKit
set_option maxRecDepth 10000

open Classical in
/-- membership in the group that gens generate -/
noncomputable def memB (n : Nat) (gens : List (List Int)) (p : List Int) : Bool := decide (PM.Grp n gens p)
def stateB (x : Puzzle) (s : List Int) : Bool := validPz x && genB x.points s
noncomputable def reachB (x : Puzzle) (s : List Int) : Bool := stateB x s && memB x.points.toNat x.moves s
theorem gensB_iff {n : Int} {gens : List (List Int)} : gensB n gens = true ↔ (1 ≤ n ∧ n ≤ 20) ∧ gens.length ≤ 8 ∧ ∀ g ∈ gens, PM.PN n.toNat g := by
  unfold gensB
  rw [Bool.and_eq_true, Bool.and_eq_true, inR_iff, decide_eq_true_iff, List.all_eq_true]
  constructor
  · rintro ⟨⟨h1, h2⟩, h3⟩
    refine ⟨h1, h2, fun g hg => ?_⟩
    have h := h3 g hg
    unfold genB at h
    rw [Bool.and_eq_true, decide_eq_true_iff, permB_iff] at h
    exact ⟨by omega, h.2.2⟩
  · rintro ⟨h1, h2, h3⟩
    refine ⟨⟨h1, h2⟩, fun g hg => ?_⟩
    obtain ⟨h4, h5⟩ := h3 g hg
    unfold genB
    rw [Bool.and_eq_true, decide_eq_true_iff, permB_iff]
    exact ⟨by omega, ⟨by omega, by omega⟩, h5⟩
theorem genB_iff {n : Int} {g : List Int} (h0 : 1 ≤ n) (h1 : n ≤ 20) : genB n g = true ↔ PM.PN n.toNat g := by
  unfold genB
  rw [Bool.and_eq_true, decide_eq_true_iff, permB_iff]
  constructor
  · rintro ⟨h2, -, h3⟩; exact ⟨by omega, h3⟩
  · rintro ⟨h2, h3⟩; exact ⟨by omega, ⟨by omega, by omega⟩, h3⟩
theorem validPz_gensB {x : Puzzle} (h : validPz x = true) : gensB x.points x.moves = true := by
  unfold validPz at h
  rw [Bool.and_eq_true] at h
  exact h.1
theorem stateB_pn {x : Puzzle} {s : List Int} (h : stateB x s = true) : (1 ≤ x.points ∧ x.points ≤ 20) ∧ x.moves.length ≤ 8 ∧ (∀ g ∈ x.moves, PM.PN x.points.toNat g) ∧ PM.PN x.points.toNat s := by
  unfold stateB at h
  rw [Bool.and_eq_true] at h
  obtain ⟨a, b, c⟩ := gensB_iff.1 (validPz_gensB h.1)
  exact ⟨a, b, c, (genB_iff a.1 a.2).1 h.2⟩
theorem reachB_state {x : Puzzle} {s : List Int} (h : reachB x s = true) : stateB x s = true := by
  unfold reachB at h
  rw [Bool.and_eq_true] at h; exact h.1
theorem stateB_valid {x : Puzzle} {s : List Int} (h : stateB x s = true) : validPz x = true := by
  unfold stateB at h
  rw [Bool.and_eq_true] at h; exact h.1
set_option maxHeartbeats 1000000 in
theorem isPermOf_rd (n : Int) (v : Value) (s : List Int) (fp : List Nat) (w : World) (h : Rd w v s fp) :
    Calls Tryz.prog 86 #[.int .i64 n, v] w fun e w' => e = .returned (.bool (genB n s)) ∧ Drew w w' := by
  obtain ⟨a, cap, rfl, hI⟩ := h.ints
  have hb := hI.bound
  by_cases c1 : (s.length : Int) = n
  · have d1 : ((s.length : Int) == n) = true := by simp [c1]
    have hg : genB n s = permB s := by simp [genB, c1]
    have Hg := Lib.hid hg; clear hg c1
    go_enter Tryz.func86, Tryz.ntmps86
    go_wp2_with ((go_at_call 103; (with_reducible refine (specIsPerm_rd _ s fp _ h).mono ?_); rintro e w1 ⟨rfl, t1⟩))
    go_ret
    exact ⟨ret_bool Hg.out.symm, t1⟩
  · have d1 : ((s.length : Int) == n) = false := by simp [c1]
    have hg : genB n s = false := by simp [genB, c1]
    have Hg := Lib.hid hg; clear hg c1
    go_enter Tryz.func86, Tryz.ntmps86
    go_wp2
    go_ret
    exact ⟨ret_bool Hg.out.symm, Drew.refl _⟩
set_option maxHeartbeats 1000000 in
theorem specIsState_any (cs : List Value) (x : Puzzle) (fp : List Nat) (v : Value) (s : List Int) (fs : List Nat) (w : World) (h : Rp.rep w cs x fp) (hs : Rd w v s fs) :
    Calls Tryz.prog 45 #[.agg cs.toArray, v] w fun e w' => e = .returned (.bool (stateB x s)) ∧ Only [] w w' := by
  have h0 := h
  obtain ⟨v2, rfl, p0, p1, h2⟩ := h
  obtain ⟨A2, C2, ob, fps, rfl, -, -⟩ := h2.open_
  rcases hq : validPz x
  all_goals have hf : stateB x s = (validPz x && genB x.points s) := rfl
  all_goals rw [hq] at hf
  all_goals have Hf := Lib.hid hf
  all_goals clear hf
  all_goals go_enter Tryz.func45, Tryz.ntmps45
  all_goals go_wp2_with (first | (go_at_call 85; (with_reducible refine (specIsValidPuzzle_any [.int .i64 x.points, .string x.names, .slice A2 x.moves.length C2] x _ _ (Rp.keep h0 (by with_reducible repeat (first | exact Only.refl _ _ | assumption | refine Only.drewN ?_ _ | refine Only.drew ?_ | refine Only.alloc ?_ _ | refine Only.setCell ?_ (by intro hh; exfalso; simp at hh; try omega) _ | refine Only.trans ?_ (by assumption))))).mono ?_); rintro e w1 ⟨rfl, t1⟩; have y1 := t1.cells_eq w.heap.size (by simp) (by simp)) | (go_at_call 86; (with_reducible refine (isPermOf_rd x.points _ s _ _ (Rp.keep hs (by with_reducible repeat (first | exact Only.refl _ _ | assumption | refine Only.drewN ?_ _ | refine Only.drew ?_ | refine Only.alloc ?_ _ | refine Only.setCell ?_ (by intro hh; exfalso; simp at hh; try omega) _ | refine Only.trans ?_ (by assumption))))).mono ?_); rintro e w2 ⟨rfl, d2⟩; have t2 := d2.only []) | fail "no arm")
  all_goals go_ret
  all_goals exact ⟨ret_bool Hf.out.symm, (by with_reducible repeat (first | exact Only.refl _ _ | assumption | refine Only.drewN ?_ _ | refine Only.drew ?_ | refine Only.alloc ?_ _ | refine Only.setCell ?_ (by intro hh; exfalso; simp at hh; try omega) _ | refine Only.trans ?_ (by assumption)))⟩
set_option maxHeartbeats 1000000 in
theorem implIsStateOf_any (cs : List Value) (x : Puzzle) (fp : List Nat) (v : Value) (s : List Int) (fs : List Nat) (w : World) (h : Rp.rep w cs x fp) (hs : Rd w v s fs) :
    Calls Tryz.prog 117 #[.agg cs.toArray, v] w fun e w' => e = .returned (.bool (genB x.points s)) ∧ Only [] w w' := by
  have h0 := h
  obtain ⟨v2, rfl, p0, p1, h2⟩ := h
  obtain ⟨A2, C2, ob, fps, rfl, -, -⟩ := h2.open_
  by_cases c1 : (s.length : Int) = x.points
  · have d1 : ((s.length : Int) == x.points) = true := by simp [c1]
    have hg : genB x.points s = permB s := by simp [genB, c1]
    have Hg := Lib.hid hg; clear hg c1
    go_enter Tryz.func117, Tryz.ntmps117
    go_wp2
    go_quiet (first
      | (go_at_call 89; exact quiet_drewN0 (lengthInt_q _ s fs _ (Rp.keep hs (by with_reducible repeat (first | exact Only.refl _ _ | assumption | refine Only.drewN ?_ _ | refine Only.drew ?_ | refine Only.alloc ?_ _ | refine Only.setCell ?_ (by intro hh; exfalso; simp at hh; try omega) _ | refine Only.trans ?_ (by assumption))))))
      | (go_at_call 89; exact quiet_drewN (lengthInt_q _ s fs _ (Rp.keep hs (by with_reducible repeat (first | exact Only.refl _ _ | assumption | refine Only.drewN ?_ _ | refine Only.drew ?_ | refine Only.alloc ?_ _ | refine Only.setCell ?_ (by intro hh; exfalso; simp at hh; try omega) _ | refine Only.trans ?_ (by assumption))))))
      | (go_at_call 125; exact quiet_drewN (implIsPerm_rd _ s fs _ (Rp.keep hs (by with_reducible repeat (first | exact Only.refl _ _ | assumption | refine Only.drewN ?_ _ | refine Only.drew ?_ | refine Only.alloc ?_ _ | refine Only.setCell ?_ (by intro hh; exfalso; simp at hh; try omega) _ | refine Only.trans ?_ (by assumption))))))
      | (go_at_call 125; exact quiet_drewN0 (implIsPerm_rd _ s fs _ (Rp.keep hs (by with_reducible repeat (first | exact Only.refl _ _ | assumption | refine Only.drewN ?_ _ | refine Only.drew ?_ | refine Only.alloc ?_ _ | refine Only.setCell ?_ (by intro hh; exfalso; simp at hh; try omega) _ | refine Only.trans ?_ (by assumption)))))))
    go_wp2
    go_ret
    exact ⟨ret_bool Hg.out.symm, (by with_reducible repeat (first | exact Only.refl _ _ | assumption | refine Only.drewN ?_ _ | refine Only.drew ?_ | refine Only.alloc ?_ _ | refine Only.setCell ?_ (by intro hh; exfalso; simp at hh; try omega) _ | refine Only.trans ?_ (by assumption)))⟩
  · have d1 : ((s.length : Int) == x.points) = false := by simp [c1]
    have hg : genB x.points s = false := by simp [genB, c1]
    have Hg := Lib.hid hg; clear hg c1
    go_enter Tryz.func117, Tryz.ntmps117
    go_wp2
    go_quiet (first
      | (go_at_call 89; exact quiet_drewN0 (lengthInt_q _ s fs _ (Rp.keep hs (by with_reducible repeat (first | exact Only.refl _ _ | assumption | refine Only.drewN ?_ _ | refine Only.drew ?_ | refine Only.alloc ?_ _ | refine Only.setCell ?_ (by intro hh; exfalso; simp at hh; try omega) _ | refine Only.trans ?_ (by assumption))))))
      | (go_at_call 89; exact quiet_drewN (lengthInt_q _ s fs _ (Rp.keep hs (by with_reducible repeat (first | exact Only.refl _ _ | assumption | refine Only.drewN ?_ _ | refine Only.drew ?_ | refine Only.alloc ?_ _ | refine Only.setCell ?_ (by intro hh; exfalso; simp at hh; try omega) _ | refine Only.trans ?_ (by assumption)))))))
    go_wp2
    go_ret
    exact ⟨ret_bool Hg.out.symm, (by with_reducible repeat (first | exact Only.refl _ _ | assumption | refine Only.drewN ?_ _ | refine Only.drew ?_ | refine Only.alloc ?_ _ | refine Only.setCell ?_ (by intro hh; exfalso; simp at hh; try omega) _ | refine Only.trans ?_ (by assumption)))⟩
set_option maxHeartbeats 1000000 in
theorem implIsState_any (cs : List Value) (x : Puzzle) (fp : List Nat) (v : Value) (s : List Int) (fs : List Nat) (w : World) (h : Rp.rep w cs x fp) (hs : Rd w v s fs) :
    Calls Tryz.prog 77 #[.agg cs.toArray, v] w fun e w' => e = .returned (.bool (stateB x s)) ∧ Only [] w w' := by
  have h0 := h
  obtain ⟨v2, rfl, p0, p1, h2⟩ := h
  obtain ⟨A2, C2, ob, fps, rfl, -, -⟩ := h2.open_
  rcases hq : validPz x
  all_goals have hf : stateB x s = (validPz x && genB x.points s) := rfl
  all_goals rw [hq] at hf
  all_goals have Hf := Lib.hid hf
  all_goals clear hf
  all_goals go_enter Tryz.func77, Tryz.ntmps77
  all_goals go_wp2_with (first | (go_at_call 55; (with_reducible refine (implIsValidPuzzle_any [.int .i64 x.points, .string x.names, .slice A2 x.moves.length C2] x _ _ (Rp.keep h0 (by with_reducible repeat (first | exact Only.refl _ _ | assumption | refine Only.drewN ?_ _ | refine Only.drew ?_ | refine Only.alloc ?_ _ | refine Only.setCell ?_ (by intro hh; exfalso; simp at hh; try omega) _ | refine Only.trans ?_ (by assumption))))).mono ?_); rintro e w1 ⟨rfl, t1⟩; have y1 := t1.cells_eq w.heap.size (by simp) (by simp)) | (go_at_call 117; (with_reducible refine (implIsStateOf_any [.int .i64 x.points, .string x.names, .slice A2 x.moves.length C2] x _ _ s _ _ (Rp.keep h0 (by with_reducible repeat (first | exact Only.refl _ _ | assumption | refine Only.drewN ?_ _ | refine Only.drew ?_ | refine Only.alloc ?_ _ | refine Only.setCell ?_ (by intro hh; exfalso; simp at hh; try omega) _ | refine Only.trans ?_ (by assumption)))) (Rp.keep hs (by with_reducible repeat (first | exact Only.refl _ _ | assumption | refine Only.drewN ?_ _ | refine Only.drew ?_ | refine Only.alloc ?_ _ | refine Only.setCell ?_ (by intro hh; exfalso; simp at hh; try omega) _ | refine Only.trans ?_ (by assumption))))).mono ?_); rintro e w2 ⟨rfl, t2⟩) | fail "no arm")
  all_goals go_ret
  all_goals exact ⟨ret_bool Hf.out.symm, (by with_reducible repeat (first | exact Only.refl _ _ | assumption | refine Only.drewN ?_ _ | refine Only.drew ?_ | refine Only.alloc ?_ _ | refine Only.setCell ?_ (by intro hh; exfalso; simp at hh; try omega) _ | refine Only.trans ?_ (by assumption)))⟩
theorem specSift0 {e : TypeId} {B : Nat} {L : Lay} {gv : Nat → Value} {n : Nat} {G : PM.Gens} {T : PM.Rows} {M F : List Nat} {w : World} (hC : Ch e B w L gv n G T M F) (hw : PM.WF n T) (hT : L.oT = 1)
    {vp : Value} {p : List Int} {fp : List Nat} (hp : Rd w vp p fp) (pp : PM.PN n p) :
    Calls Tryz.prog 129 #[.pointer (some ⟨L.g, 0, none⟩), .int .i64 0, vp] w fun e w' => ∃ (v : Value) (lv : Nat), e = .returned (.tuple #[v, .int .i64 lv]) ∧ PM.has T n n p = decide (lv = n) ∧ Only [] w w' :=
  specSift_any w hC hw hT 0 vp p fp (Nat.zero_le _) hp pp
set_option maxHeartbeats 1000000 in
theorem chainHas_any {e : TypeId} {B : Nat} {L : Lay} {gv : Nat → Value} {n : Nat} {G : PM.Gens} {T : PM.Rows} {M F : List Nat} (w : World) (hC : Ch e B w L gv n G T M F) (hw : PM.WF n T) (hT : L.oT = 1)
    (vp : Value) (p : List Int) (fp : List Nat) (hp : Rd w vp p fp) (pp : PM.PN n p) :
    Calls Tryz.prog 104 #[.pointer (some ⟨L.g, 0, none⟩), vp] w fun e w' => e = .returned (.bool (PM.has T n n p)) ∧ Only [] w w' := by
  have cn0 := hC.cn
  obtain ⟨ap, cp, rfl, -⟩ := hp.ints
  rcases hh : PM.has T n n p
  · have Hh := Lib.hid hh
    clear hh
    go_enter Tryz.func104, Tryz.ntmps104
    go_wp2_with (first | (go_at_call 129; (with_reducible refine (specSift0 hC hw hT hp pp).mono ?_); rintro en w1 ⟨v1, lv1, rfl, he, t1⟩; rw [Hh.out] at he; have hlv : lv1 ≠ n := of_decide_eq_false he.symm; clear he; have hlv2 : ((lv1 : Int) == (n : Int)) = false := (by rw [beq_eq_false_iff_ne]; omega); have cn1 := t1.cell (by simp) cn0) | fail "no arm")
    go_ret
    exact ⟨rfl, t1⟩
  · have Hh := Lib.hid hh
    clear hh
    go_enter Tryz.func104, Tryz.ntmps104
    go_wp2_with (first | (go_at_call 129; (with_reducible refine (specSift0 hC hw hT hp pp).mono ?_); rintro en w1 ⟨v1, lv1, rfl, he, t1⟩; rw [Hh.out] at he; have hlv : n = lv1 := (of_decide_eq_true he.symm).symm; clear he; subst hlv; have cn1 := t1.cell (by simp) cn0) | fail "no arm")
    go_ret
    exact ⟨rfl, t1⟩
theorem memB_has {n : Nat} {gens : List (List Int)} {G : PM.Gens} {T : PM.Rows} (h : PM.Chain n gens G T) (hn : 0 < n) (hp : ∀ g ∈ gens, PM.PN n g) {p : List Int} (hpn : PM.PN n p) : PM.has T n n p = memB n gens p := by
  rw [Bool.eq_iff_iff, h.has_iff hn hp hpn]
  unfold memB
  simp
set_option maxHeartbeats 1000000 in
theorem specIsMember_yes (n : Nat) (vg vp : Value) (gens : List (List Int)) (p : List Int) (fg fp : List Nat) (w : World) (hg : Rd w vg gens fg) (hp : Rd w vp p fp) (hgs : gensB n gens = true) (hpn : PM.PN n p) :
    Calls Tryz.prog 57 #[.int .i64 n, vg, vp] w fun e w' => e = .returned (.bool (memB n gens p)) ∧ Only [] w w' := by
  obtain ⟨h1, h2, h3⟩ := gensB_iff.1 hgs
  have hn : 0 < n := by omega
  have hn20 : n ≤ 20 := by omega
  have h3' : ∀ g ∈ gens, PM.PN n g := fun g hg => by simpa using h3 g hg
  have hpm : permB p = true := permB_iff.2 ⟨by have := hpn.1; omega, hpn.2⟩
  have hlen : ((p.length : Int) == (n : Int)) = true := by rw [beq_iff_eq]; have := hpn.1; omega
  obtain ⟨ap, cp, rfl, hIp⟩ := hp.ints
  have hb := hIp.bound
  have Hgs := Lib.hid hgs
  have Hpn := Lib.hid hpn
  have H3 := Lib.hid h3'
  have Hpm := Lib.hid hpm
  clear h1 h3 h3' hgs hpn hpm
  go_enter Tryz.func57, Tryz.ntmps57
  go_wp2_with (first
    | (go_at_call 102; (with_reducible refine (specIsGens_rd n vg gens fg _ (Rp.keep hg (by with_reducible repeat (first | exact Only.refl _ _ | assumption | refine Only.drewN ?_ _ | refine Only.drew ?_ | refine Only.alloc ?_ _ | refine Only.setCell ?_ (by intro hh; exfalso; simp at hh; try omega) _ | refine Only.trans ?_ (by assumption))))).mono ?_); rintro en w1 ⟨he, d1⟩; rw [Hgs.out] at he; subst he; have t1 := d1.only [])
    | (go_at_call 103; (with_reducible refine (specIsPerm_rd _ p fp _ (Rp.keep hp (by with_reducible repeat (first | exact Only.refl _ _ | assumption | refine Only.drewN ?_ _ | refine Only.drew ?_ | refine Only.alloc ?_ _ | refine Only.setCell ?_ (by intro hh; exfalso; simp at hh; try omega) _ | refine Only.trans ?_ (by assumption))))).mono ?_); rintro en w2 ⟨he, d2⟩; rw [Hpm.out] at he; subst he; have t2 := d2.only [])
    | (go_at_call 105; (with_reducible refine (buildChain_any n hn hn20 vg gens fg _ (Rp.keep hg (by with_reducible repeat (first | exact Only.refl _ _ | assumption | refine Only.drewN ?_ _ | refine Only.drew ?_ | refine Only.alloc ?_ _ | refine Only.setCell ?_ (by intro hh; exfalso; simp at hh; try omega) _ | refine Only.trans ?_ (by assumption)))) H3.out (by omega)).mono ?_); rintro en w3 ⟨L, gv, G, T, M, F, rfl, hoG, hoT, hC, hCh, t3⟩; have HC := Lib.hid hC; have HCh := Lib.hid hCh; have HoT := Lib.hid hoT; clear hC hCh hoT hoG)
    | (go_at_call 104; (with_reducible refine (chainHas_any _ HC.out HCh.out.inv.wf HoT.out _ p fp (Rp.keep hp (by with_reducible repeat (first | exact Only.refl _ _ | assumption | refine Only.drewN ?_ _ | refine Only.drew ?_ | refine Only.alloc ?_ _ | refine Only.setCell ?_ (by intro hh; exfalso; simp at hh; try omega) _ | refine Only.trans ?_ (by assumption)))) Hpn.out).mono ?_); rintro en w4 ⟨he, t4⟩; rw [memB_has HCh.out hn H3.out Hpn.out] at he; subst he)
    | fail "no arm")
  go_ret
  exact ⟨rfl, (by with_reducible repeat (first | exact Only.refl _ _ | assumption | refine Only.drewN ?_ _ | refine Only.drew ?_ | refine Only.alloc ?_ _ | refine Only.setCell ?_ (by intro hh; exfalso; simp at hh; try omega) _ | refine Only.trans ?_ (by assumption)))⟩
theorem specIsMember_i (n : Int) (vg vp : Value) (gens : List (List Int)) (p : List Int) (fg fp : List Nat) (w : World) (hg : Rd w vg gens fg) (hp : Rd w vp p fp) (hgs : gensB n gens = true) (hpn : PM.PN n.toNat p) :
    Calls Tryz.prog 57 #[.int .i64 n, vg, vp] w fun e w' => e = .returned (.bool (memB n.toNat gens p)) ∧ Only [] w w' := by
  have h1 := (gensB_iff.1 hgs).1
  obtain ⟨m, rfl⟩ := Int.eq_ofNat_of_zero_le (by omega : 0 ≤ n)
  exact specIsMember_yes m vg vp gens p fg fp w hg hp hgs hpn
set_option maxHeartbeats 1000000 in
theorem specIsReachable_any (cs : List Value) (x : Puzzle) (fp : List Nat) (v : Value) (s : List Int) (fs : List Nat) (w : World) (h : Rp.rep w cs x fp) (hs : Rd w v s fs) :
    Calls Tryz.prog 21 #[.agg cs.toArray, v] w fun e w' => e = .returned (.bool (reachB x s)) ∧ Only [] w w' := by
  have h0 := h
  obtain ⟨v2, rfl, p0, p1, h2⟩ := h
  obtain ⟨A2, C2, ob, fps, rfl, -, -⟩ := h2.open_
  rcases hq : stateB x s
  · have hf : reachB x s = false := by unfold reachB; rw [hq]; rfl
    have Hf := Lib.hid hf
    clear hf
    go_enter Tryz.func21, Tryz.ntmps21
    go_wp2_with (first
      | (go_at_call 45; (with_reducible refine (specIsState_any [.int .i64 x.points, .string x.names, .slice A2 x.moves.length C2] x _ _ s _ _ (Rp.keep h0 (by with_reducible repeat (first | exact Only.refl _ _ | assumption | refine Only.drewN ?_ _ | refine Only.drew ?_ | refine Only.alloc ?_ _ | refine Only.setCell ?_ (by intro hh; exfalso; simp at hh; try omega) _ | refine Only.trans ?_ (by assumption)))) (Rp.keep hs (by with_reducible repeat (first | exact Only.refl _ _ | assumption | refine Only.drewN ?_ _ | refine Only.drew ?_ | refine Only.alloc ?_ _ | refine Only.setCell ?_ (by intro hh; exfalso; simp at hh; try omega) _ | refine Only.trans ?_ (by assumption))))).mono ?_); rintro e w1 ⟨rfl, t1⟩; have y1 := t1.cells_eq w.heap.size (by simp) (by simp)) | fail "no arm")
    go_ret
    exact ⟨ret_bool Hf.out.symm, (by with_reducible repeat (first | exact Only.refl _ _ | assumption | refine Only.drewN ?_ _ | refine Only.drew ?_ | refine Only.alloc ?_ _ | refine Only.setCell ?_ (by intro hh; exfalso; simp at hh; try omega) _ | refine Only.trans ?_ (by assumption)))⟩
  · have hf : reachB x s = memB x.points.toNat x.moves s := by unfold reachB; rw [hq]; rfl
    have Hf := Lib.hid hf
    have hgs := validPz_gensB (stateB_valid hq)
    have hpn := (stateB_pn hq).2.2.2
    have Hgs := Lib.hid hgs
    have Hpn := Lib.hid hpn
    clear hf hgs hpn
    go_enter Tryz.func21, Tryz.ntmps21
    go_wp2_with (first
      | (go_at_call 45; (with_reducible refine (specIsState_any [.int .i64 x.points, .string x.names, .slice A2 x.moves.length C2] x _ _ s _ _ (Rp.keep h0 (by with_reducible repeat (first | exact Only.refl _ _ | assumption | refine Only.drewN ?_ _ | refine Only.drew ?_ | refine Only.alloc ?_ _ | refine Only.setCell ?_ (by intro hh; exfalso; simp at hh; try omega) _ | refine Only.trans ?_ (by assumption)))) (Rp.keep hs (by with_reducible repeat (first | exact Only.refl _ _ | assumption | refine Only.drewN ?_ _ | refine Only.drew ?_ | refine Only.alloc ?_ _ | refine Only.setCell ?_ (by intro hh; exfalso; simp at hh; try omega) _ | refine Only.trans ?_ (by assumption))))).mono ?_); rintro e w1 ⟨rfl, t1⟩; have y1 := t1.cells_eq w.heap.size (by simp) (by simp))
      | (go_at_call 57; (with_reducible refine (specIsMember_i x.points _ _ x.moves s _ _ _ (Rp.keep h2 (by with_reducible repeat (first | exact Only.refl _ _ | assumption | refine Only.drewN ?_ _ | refine Only.drew ?_ | refine Only.alloc ?_ _ | refine Only.setCell ?_ (by intro hh; exfalso; simp at hh; try omega) _ | refine Only.trans ?_ (by assumption)))) (Rp.keep hs (by with_reducible repeat (first | exact Only.refl _ _ | assumption | refine Only.drewN ?_ _ | refine Only.drew ?_ | refine Only.alloc ?_ _ | refine Only.setCell ?_ (by intro hh; exfalso; simp at hh; try omega) _ | refine Only.trans ?_ (by assumption)))) Hgs.out Hpn.out).mono ?_); rintro e w2 ⟨rfl, t2⟩) | fail "no arm")
    go_ret
    exact ⟨ret_bool Hf.out.symm, (by with_reducible repeat (first | exact Only.refl _ _ | assumption | refine Only.drewN ?_ _ | refine Only.drew ?_ | refine Only.alloc ?_ _ | refine Only.setCell ?_ (by intro hh; exfalso; simp at hh; try omega) _ | refine Only.trans ?_ (by assumption)))⟩
theorem implHas0 {e : TypeId} {B : Nat} {L : Lay} {gv : Nat → Value} {n : Nat} {G : PM.Gens} {T : PM.Rows} {M F : List Nat} {w : World} (hC : Ch e B w L gv n G T M F) (hw : PM.WF n T) (hT : L.oT = 2)
    {vp : Value} {p : List Int} {fp : List Nat} (hp : Rd w vp p fp) (pp : PM.PN n p) :
    Calls Tryz.prog 79 #[.pointer (some ⟨L.g, 0, none⟩), .int .i64 0, vp] w fun e w' => e = .returned (.bool (PM.has T n n p)) ∧ Only [] w w' :=
  implHas_any w hC hw hT 0 vp p fp (Nat.zero_le _) hp pp
theorem implNewChain_i (n : Int) (hn : 1 ≤ n) (hn20 : n ≤ 20) (vg : Value) (gens : List (List Int)) (fpg : List Nat) (w : World) (hg : Rd w vg gens fpg) (hpn : ∀ g ∈ gens, PM.PN n.toNat g) (hgl : gens.length ≤ 1000) :
    Calls Tryz.prog 78 #[.int .i64 n, vg] w fun e w' => ∃ (L : Lay) (gv : Nat → Value) (G : PM.Gens) (T : PM.Rows) (M F : List Nat), e = .returned (.pointer (some ⟨L.g, 0, none⟩)) ∧ L.oG = 1 ∧ L.oT = 2 ∧ Ch 27 w.heap.size w' L gv n.toNat G T M F ∧ PM.Chain n.toNat gens G T ∧ Only [] w w' := by
  obtain ⟨m, rfl⟩ := Int.eq_ofNat_of_zero_le (by omega : 0 ≤ n)
  exact implNewChain_any m (by omega) (by omega) vg gens fpg w hg hpn hgl
set_option maxHeartbeats 1000000 in
theorem implIsReachable_any (cs : List Value) (x : Puzzle) (fp : List Nat) (v : Value) (s : List Int) (fs : List Nat) (w : World) (h : Rp.rep w cs x fp) (hs : Rd w v s fs) :
    Calls Tryz.prog 36 #[.agg cs.toArray, v] w fun e w' => e = .returned (.bool (reachB x s)) ∧ Only [] w w' := by
  have h0 := h
  obtain ⟨v2, rfl, p0, p1, h2⟩ := h
  obtain ⟨A2, C2, ob, fps, rfl, -, -⟩ := h2.open_
  rcases hq : stateB x s
  · have hf : reachB x s = false := by unfold reachB; rw [hq]; rfl
    have Hf := Lib.hid hf
    clear hf
    go_enter Tryz.func36, Tryz.ntmps36
    go_wp2_with (first
      | (go_at_call 77; (with_reducible refine (implIsState_any [.int .i64 x.points, .string x.names, .slice A2 x.moves.length C2] x _ _ s _ _ (Rp.keep h0 (by with_reducible repeat (first | exact Only.refl _ _ | assumption | refine Only.drewN ?_ _ | refine Only.drew ?_ | refine Only.alloc ?_ _ | refine Only.setCell ?_ (by intro hh; exfalso; simp at hh; try omega) _ | refine Only.trans ?_ (by assumption)))) (Rp.keep hs (by with_reducible repeat (first | exact Only.refl _ _ | assumption | refine Only.drewN ?_ _ | refine Only.drew ?_ | refine Only.alloc ?_ _ | refine Only.setCell ?_ (by intro hh; exfalso; simp at hh; try omega) _ | refine Only.trans ?_ (by assumption))))).mono ?_); rintro e w1 ⟨rfl, t1⟩; have y1 := t1.cells_eq w.heap.size (by simp) (by simp)) | fail "no arm")
    go_ret
    exact ⟨ret_bool Hf.out.symm, (by with_reducible repeat (first | exact Only.refl _ _ | assumption | refine Only.drewN ?_ _ | refine Only.drew ?_ | refine Only.alloc ?_ _ | refine Only.setCell ?_ (by intro hh; exfalso; simp at hh; try omega) _ | refine Only.trans ?_ (by assumption)))⟩
  · have hf : reachB x s = memB x.points.toNat x.moves s := by unfold reachB; rw [hq]; rfl
    have Hf := Lib.hid hf
    obtain ⟨⟨n1, n20⟩, hml, hmp, hpn⟩ := stateB_pn hq
    have Hmp := Lib.hid hmp
    have Hpn := Lib.hid hpn
    clear hf hmp hpn
    go_enter Tryz.func36, Tryz.ntmps36
    go_wp2_with (first
      | (go_at_call 77; (with_reducible refine (implIsState_any [.int .i64 x.points, .string x.names, .slice A2 x.moves.length C2] x _ _ s _ _ (Rp.keep h0 (by with_reducible repeat (first | exact Only.refl _ _ | assumption | refine Only.drewN ?_ _ | refine Only.drew ?_ | refine Only.alloc ?_ _ | refine Only.setCell ?_ (by intro hh; exfalso; simp at hh; try omega) _ | refine Only.trans ?_ (by assumption)))) (Rp.keep hs (by with_reducible repeat (first | exact Only.refl _ _ | assumption | refine Only.drewN ?_ _ | refine Only.drew ?_ | refine Only.alloc ?_ _ | refine Only.setCell ?_ (by intro hh; exfalso; simp at hh; try omega) _ | refine Only.trans ?_ (by assumption))))).mono ?_); rintro e w1 ⟨rfl, t1⟩; have y1 := t1.cells_eq w.heap.size (by simp) (by simp))
      | (go_at_call 78; (with_reducible refine (implNewChain_i x.points n1 n20 _ x.moves _ _ (Rp.keep h2 (by with_reducible repeat (first | exact Only.refl _ _ | assumption | refine Only.drewN ?_ _ | refine Only.drew ?_ | refine Only.alloc ?_ _ | refine Only.setCell ?_ (by intro hh; exfalso; simp at hh; try omega) _ | refine Only.trans ?_ (by assumption)))) Hmp.out (by omega)).mono ?_); rintro en w3 ⟨L, gv, G, T, M, F, rfl, hoG, hoT, hC, hCh, t3⟩; have HC := Lib.hid hC; have HCh := Lib.hid hCh; have HoT := Lib.hid hoT; clear hC hCh hoT hoG)
      | (go_at_call 79; (with_reducible refine (implHas0 HC.out HCh.out.inv.wf HoT.out (Rp.keep hs (by with_reducible repeat (first | exact Only.refl _ _ | assumption | refine Only.drewN ?_ _ | refine Only.drew ?_ | refine Only.alloc ?_ _ | refine Only.setCell ?_ (by intro hh; exfalso; simp at hh; try omega) _ | refine Only.trans ?_ (by assumption)))) Hpn.out).mono ?_); rintro en w4 ⟨he, t4⟩; rw [memB_has HCh.out (by omega) Hmp.out Hpn.out] at he; subst he) | fail "no arm")
    go_ret
    exact ⟨ret_bool Hf.out.symm, (by with_reducible repeat (first | exact Only.refl _ _ | assumption | refine Only.drewN ?_ _ | refine Only.drew ?_ | refine Only.alloc ?_ _ | refine Only.setCell ?_ (by intro hh; exfalso; simp at hh; try omega) _ | refine Only.trans ?_ (by assumption)))⟩
end Go.Proofs.YtajkhdbdkjhilaaGreat

namespace Go.Proofs.YtajkhdbdkjhilaaGreat
open Go.RowKit
set_option maxRecDepth 10000

structure Session where
  puzzle : Puzzle
  state : List Int
  history : List (List Int)
  future : List (List Int)

instance : Rp Session where
  size := 6
  rep w cs x fp := ∃ c0 v1 v2 v3 f0 f1 f2 f3, cs = c0 ++ [v1] ++ [v2] ++ [v3] ∧ fp = f0 ++ (f1 ++ (f2 ++ f3)) ∧ Rp.rep w c0 x.puzzle f0 ∧ Rd w v1 x.state f1 ∧ Rd w v2 x.history f2 ∧ Rd w v3 x.future f3
  len h := by
    obtain ⟨c0, v1, v2, v3, f0, f1, f2, f3, rfl, -, h0, h1, h2, h3⟩ := h
    simp [Rp.len h0, Rp.size]
  frame h hf := by
    obtain ⟨c0, v1, v2, v3, f0, f1, f2, f3, hcs, rfl, h0, h1, h2, h3⟩ := h
    exact ⟨c0, v1, v2, v3, f0, f1, f2, f3, hcs, rfl, Rp.frame h0 fun b hb => hf b (by simp [hb]), Rp.frame h1 fun b hb => hf b (by simp [hb]), Rp.frame h2 fun b hb => hf b (by simp [hb]), Rp.frame h3 fun b hb => hf b (by simp [hb])⟩
  lt h := by
    obtain ⟨c0, v1, v2, v3, f0, f1, f2, f3, hcs, rfl, h0, h1, h2, h3⟩ := h
    intro b hb
    simp only [List.mem_append] at hb
    rcases hb with hb | hb | hb | hb
    · exact Rp.lt h0 b hb
    · exact Rp.lt h1 b hb
    · exact Rp.lt h2 b hb
    · exact Rp.lt h3 b hb

instance : Mk Session where
  mark k x := ⟨Mk.mark (k) x.puzzle, Mk.mark (k + (Mk.cnt x.puzzle : Nat)) x.state, Mk.mark (k + (Mk.cnt x.puzzle : Nat) + (Mk.cnt x.state : Nat)) x.history, Mk.mark (k + (Mk.cnt x.puzzle : Nat) + (Mk.cnt x.state : Nat) + (Mk.cnt x.history : Nat)) x.future⟩
  cnt x := Mk.cnt x.puzzle + Mk.cnt x.state + Mk.cnt x.history + Mk.cnt x.future
instance : Sz Session where
  sz x := Sz.sz x.puzzle + Sz.sz x.state + Sz.sz x.history + Sz.sz x.future
instance : Sm Session where
  sm x := Sm.sm x.puzzle ∧ Sm.sm x.state ∧ Sm.sm x.history ∧ Sm.sm x.future
instance : SzSm Session := ⟨fun x h => by
  have h' : Sz.sz x.puzzle + Sz.sz x.state + Sz.sz x.history + Sz.sz x.future ≤ 2097152 := h
  exact ⟨SzSm.of_ x.puzzle (by omega), SzSm.of_ x.state (by omega), SzSm.of_ x.history (by omega), SzSm.of_ x.future (by omega)⟩⟩
instance : CntSz Session := ⟨fun x => by
  have h' : Mk.cnt x.puzzle + Mk.cnt x.state + Mk.cnt x.history + Mk.cnt x.future ≤ Sz.sz x.puzzle + Sz.sz x.state + Sz.sz x.history + Sz.sz x.future := by have := CntSz.le x.puzzle; have := CntSz.le x.state; have := CntSz.le x.history; have := CntSz.le x.future; omega
  exact h'⟩
instance : MkL Session := ⟨fun k x => by simp [Mk.mark, Mk.cnt, markL_idem, markL_cnt], fun k x => by simp [Mk.mark, Mk.cnt, markL_cnt]⟩
end Go.Proofs.YtajkhdbdkjhilaaGreat

