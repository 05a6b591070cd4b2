/- IsValidPuzzle: the reference's and the program's. Equality of plain data: the reference's and the program's. Tracked sets, patterns and well-formed tables: the reference's and the program's. Inverses, letters, positions after a letter: the reference's and the program's. A table's faults, in plain words. The laws' drawn permutations, puzzles, tracked sets (laws 10, 11). The laws' drawn tracked sets (laws 10, 11). Maps from strings to numbers that a call makes; the key of a list of small numbers. The first pattern with a key, in plain words. -/
import Derived.Test.YtndcifpbbnebmaaGreatRowRandomStatesG7
import Derived.Test.YtndcifpbbnebmaaGreatRowRandomStatesG6
import Derived.Test.YtndcifpbbnebmaaGreatRowRandomStatesG2
import Derived.Test.YtndcifpbbnebmaaGreatRowRandomStatesG3
import Derived.Test.YtndcifpbbnebmaaGreatRowRandomStatesG1
import Derived.Maps.OwnSet
import Derived.StringKeys
import Derived.Laws.BytesArg
namespace Go.Proofs.YtndcifpbbnebmaaGreat
open Go.RowKit
set_option maxRecDepth 10000

/-- the bytes of a string, as numbers -/
def bl (s : ByteArray) : List Int := s.data.toList.map fun b => (b.toNat : Int)
theorem bl_len (s : ByteArray) : (bl s).length = s.size := by
  unfold bl; rw [List.length_map, Array.length_toList]; rfl
theorem bl_get (s : ByteArray) (i : Nat) (h : i < s.size) (h' : i < (bl s).length) : (bl s)[i] = (s[i].toNat : Int) := by
  simp [bl]; rfl
def moveNameB (L : List Int) (i : Nat) : Bool := match L[i]? with
  | some b => inR b 65 90 && decide (b ∉ L.take i)
  | none => false
theorem moveNameB_of {L : List Int} {i : Nat} (h : i < L.length) : moveNameB L i = (inR L[i] 65 90 && decide (L[i] ∉ L.take i)) := by
  simp [moveNameB, h]
def namesB (s : ByteArray) : Bool := inR s.size 1 8 && ((bl s).all (fun b => inR b 65 90) && decide (bl s).Nodup)
def validPz (p : Puzzle) : Bool := gensB p.points p.moves && (namesB p.names && decide (p.names.size = p.moves.length))
theorem names_of {L : List Int} : (L.all (fun b => inR b 65 90) && decide L.Nodup) = true ↔ (∀ x ∈ L, inR x 65 90 = true) ∧ L.Nodup := by simp

set_option maxHeartbeats 1000000 in
theorem isMoveName_any (s : ByteArray) (i : Nat) (w : World) (hs : s.size ≤ maxLen) (hi : i < s.size) :
    Calls Tryz.prog 59 #[.string s, .int .i64 i] w fun e w' => e = .returned (.bool (moveNameB (bl s) i)) ∧ Drew w w' := by
  unfold maxLen at hs
  have hi1 : (0 : Int) ≤ (i : Int) := by omega
  have hi2 : (i : Int) < (s.size : Int) := by omega
  have hL : i < (bl s).length := by rw [bl_len]; exact hi
  have hfin : moveNameB (bl s) i = (inR (s[i].toNat : Int) 65 90 && decide ((s[i].toNat : Int) ∉ (bl s).take i)) := by rw [moveNameB_of hL, bl_get s i hi hL]
  have Hfin := Lib.hid hfin; clear hfin
  by_cases c1 : (s[i].toNat : Int) < 65
  · go_enter Tryz.func59, Tryz.ntmps59
    go_wp2
    go_ret
    exact ⟨ret_bool (by rw [Hfin.out, show inR (s[i].toNat : Int) 65 90 = false by rw [inR_not]; omega]; rfl), ⟨0, rfl⟩⟩
  by_cases c2 : 90 < (s[i].toNat : Int)
  · go_enter Tryz.func59, Tryz.ntmps59
    go_wp2
    go_ret
    exact ⟨ret_bool (by rw [Hfin.out, show inR (s[i].toNat : Int) 65 90 = false by rw [inR_not]; omega]; rfl), ⟨0, rfl⟩⟩
  have hR : moveNameB (bl s) i = decide ((s[i].toNat : Int) ∉ (bl s).take i) := by rw [Hfin.out, show inR (s[i].toNat : Int) 65 90 = true by rw [inR_iff]; omega]; rfl
  have HR := Lib.hid hR; clear hR Hfin
  go_enter Tryz.func59, Tryz.ntmps59
  go_wp2
  go_loopw [5] (fun t wr => ∃ j : Nat, j ≤ i ∧ t = .int .i64 j ∧ (s[i].toNat : Int) ∉ (bl s).take j ∧ Drew w wr)
    (fun t _ => i - (intOf t).toNat)
  case atStart => exact ⟨0, Nat.zero_le _, rfl, by simp, Drew.refl _⟩
  case round =>
    obtain ⟨j, hj, rfl, hr, k, rfl⟩ := hrel
    have Hr := Lib.hid hr; clear hr
    by_cases hlt : j < i
    · have hjs : j < s.size := by omega
      have hj1 : (0 : Int) ≤ (j : Int) := by omega
      have hj2 : (j : Int) < (s.size : Int) := by omega
      have hbj : (bl s)[j]'(by rw [bl_len]; exact hjs) = (s[j].toNat : Int) := bl_get s j hjs _
      have Hbj := Lib.hid hbj; clear hbj
      by_cases hx : (s[j].toNat : Int) = (s[i].toNat : Int)
      · have hq : ((s[j].toNat : Int) == (s[i].toNat : Int)) = true := by simp [hx]
        have Hx := Lib.hid hx; clear hx
        go_wp2
        go_quiet (fail)
        go_wp2
        go_ret
        exact ⟨ret_bool (by rw [HR.out, eq_comm, decide_eq_false_iff_not, Classical.not_not, ← Hx.out, ← Hbj.out]; exact List.mem_take_iff_getElem.2 ⟨j, by rw [bl_len]; omega, rfl⟩), ((Drew.refl _).drewN _).drewN _⟩
      · have hq : ((s[j].toNat : Int) == (s[i].toNat : Int)) = false := by simpa using hx
        have Hx := Lib.hid hx; clear hx
        go_wp2
        go_quiet (fail)
        go_wp2
        go_roundw
        case rel => exact ⟨j + 1, by omega, by go_num, by
          rw [take_succ_get (bl s) j (by rw [bl_len]; exact hjs)]; intro hm
          rcases List.mem_append.1 hm with hm | hm
          · exact Hr.out hm
          · simp at hm; rw [Hbj.out] at hm; exact Hx.out hm.symm, ⟨_, rfl⟩⟩
        case measure => simp [intOf]; omega
    · go_wp2
      go_ret
      exact ⟨ret_bool (by rw [HR.out, eq_comm, decide_eq_true_iff]; have := Hr.out; have e : j = i := (by omega); rwa [e] at this), ⟨_, rfl⟩⟩
theorem namesB_yes {L : List Int} (h : ∀ k, k < L.length → moveNameB L k = true) : (L.all (fun b => inR b 65 90) && decide L.Nodup) = true := by
  rw [names_of]
  have hk : ∀ k (hk : k < L.length), inR L[k] 65 90 = true ∧ L[k] ∉ L.take k := by
    intro k hk
    have := h k hk
    rw [moveNameB_of hk] at this
    simpa using this
  refine ⟨fun x hx => ?_, ?_⟩
  · obtain ⟨k, hk', rfl⟩ := List.getElem_of_mem hx
    exact (hk k hk').1
  · rw [List.nodup_iff_pairwise_ne, List.pairwise_iff_getElem]
    intro i j hi hj hij he
    exact (hk j hj).2 (List.mem_take_iff_getElem.2 ⟨i, by omega, he⟩)
theorem namesB_no {L : List Int} {k : Nat} (hk : k < L.length) (h : moveNameB L k = false) : (L.all (fun b => inR b 65 90) && decide L.Nodup) = false := by
  rw [← Bool.not_eq_true, names_of]
  rintro ⟨h1, h2⟩
  rw [moveNameB_of hk, h1 _ (List.getElem_mem _)] at h
  simp at h
  exact nodup_take_not hk h h2
set_option maxHeartbeats 2000000 in
theorem specIsValidPuzzle_any (cs : List Value) (x : Puzzle) (fp : List Nat) (w : World) (h : Rp.rep w cs x fp) :
    Calls Tryz.prog 31 #[.agg cs.toArray] w fun e w' => e = .returned (.bool (validPz x)) ∧ Only [] w w' := by
  obtain ⟨v2, rfl, p0, p1, h2⟩ := h
  obtain ⟨A2, C2, ob, fps, rfl, -, hs⟩ := h2.open_
  have hb := hs.bound
  have hm := p1; unfold maxLen at hm
  by_cases c1 : x.moves.length = 0
  · have hf : validPz x = false := by
      unfold validPz namesB
      rw [Bool.and_eq_false_iff, Bool.and_eq_false_iff, Bool.and_eq_false_iff]
      right
      by_cases hz : x.names.size = x.moves.length
      · left; left; rw [inR_not]; omega
      · right; exact decide_eq_false hz
    have Hf := Lib.hid hf; clear hf
    have d1 : ((x.moves.length : Int) == 0) = true := by simp [c1]
    have C1 := Lib.hid c1; clear c1
    go_enter Tryz.func31, Tryz.ntmps31
    go_wp2
    go_ret
    exact ⟨ret_bool Hf.out.symm, (by with_reducible repeat (first | exact Only.refl _ _ | assumption | refine Only.drewN ?_ _ | refine Only.drew ?_ | refine Only.alloc ?_ _ | refine Only.setCell ?_ (by intro hh; exfalso; simp at hh; try omega) _ | refine Only.trans ?_ (by assumption)))⟩
  have d1 : ((x.moves.length : Int) == 0) = false := by rw [beq_eq_false_iff_ne]; omega
  by_cases c2 : x.names.size = x.moves.length
  · have d2 : ((x.names.size : Int) != (x.moves.length : Int)) = false := by simp [c2]
    rcases c3 : gensB x.points x.moves
    · have hf : validPz x = false := by unfold validPz; rw [c3]; rfl
      have Hf := Lib.hid hf; clear hf
      have C2' := Lib.hid c2; clear c2
      have C1 := Lib.hid c1; clear c1
      go_enter Tryz.func31, Tryz.ntmps31
      go_wp2_with ((go_at_call 27; (with_reducible refine (specIsGens_rd x.points _ x.moves _ _ (Rp.keep h2 (by with_reducible repeat (first | exact Only.refl _ _ | assumption | refine Only.drewN ?_ _ | refine Only.drew ?_ | refine Only.alloc ?_ _ | refine Only.setCell ?_ (by intro hh; exfalso; simp at hh; try omega) _ | refine Only.trans ?_ (by assumption))))).mono ?_); rintro e w1 ⟨rfl, n1, rfl⟩))
      go_ret
      exact ⟨ret_bool Hf.out.symm, (by with_reducible repeat (first | exact Only.refl _ _ | assumption | refine Only.drewN ?_ _ | refine Only.drew ?_ | refine Only.alloc ?_ _ | refine Only.setCell ?_ (by intro hh; exfalso; simp at hh; try omega) _ | refine Only.trans ?_ (by assumption)))⟩
    have hl8 : x.moves.length ≤ 8 := by
      unfold gensB at c3; simp only [Bool.and_eq_true, decide_eq_true_eq] at c3; exact c3.1.2
    have hf : validPz x = ((bl x.names).all (fun b => inR b 65 90) && decide (bl x.names).Nodup) := by
      unfold validPz namesB; rw [c3, decide_eq_true c2, show inR x.names.size 1 8 = true by rw [inR_iff]; omega]; simp
    have Hf := Lib.hid hf; clear hf
    have C2' := Lib.hid c2; clear c2
    have C1 := Lib.hid c1; clear c1
    go_enter Tryz.func31, Tryz.ntmps31
    go_wp2_with ((go_at_call 27; (with_reducible refine (specIsGens_rd x.points _ x.moves _ _ (Rp.keep h2 (by with_reducible repeat (first | exact Only.refl _ _ | assumption | refine Only.drewN ?_ _ | refine Only.drew ?_ | refine Only.alloc ?_ _ | refine Only.setCell ?_ (by intro hh; exfalso; simp at hh; try omega) _ | refine Only.trans ?_ (by assumption))))).mono ?_); rintro e w1 ⟨rfl, n1, rfl⟩))
    go_loopw [3] (fun i wr => ∃ j : Nat, j ≤ x.names.size ∧ i = .int .i64 j ∧ (∀ k, k < j → moveNameB (bl x.names) k = true) ∧ Drew ((w.alloc (.cells #[.int .i64 x.points, .string x.names, .slice A2 x.moves.length C2] 29))) wr)
      (fun i _ => x.names.size - (intOf i).toNat)
    case atStart => exact ⟨0, Nat.zero_le _, rfl, by simp, ⟨_, rfl⟩⟩
    case round =>
      obtain ⟨j, hj, rfl, hr, k, rfl⟩ := hrel
      have Hr := Lib.hid hr; clear hr
      by_cases hlt : j < x.names.size
      · rcases c4 : moveNameB (bl x.names) j
        all_goals go_wp2_with ((go_at_call 59; (with_reducible refine (isMoveName_any x.names j _ p1 hlt).mono ?_); rintro e w1 ⟨rfl, n1, rfl⟩))
        · go_ret
          exact ⟨ret_bool (by rw [Hf.out, namesB_no (by rw [bl_len]; exact hlt) c4]), (by with_reducible repeat (first | exact Only.refl _ _ | assumption | refine Only.drewN ?_ _ | refine Only.drew ?_ | refine Only.alloc ?_ _ | refine Only.setCell ?_ (by intro hh; exfalso; simp at hh; try omega) _ | refine Only.trans ?_ (by assumption)))⟩
        · go_roundw
          case rel => exact ⟨j + 1, by omega, by go_num, fun k hk => by
            by_cases hkj : k = j
            · subst hkj; exact c4
            · exact Hr.out k (by omega), ⟨_, rfl⟩⟩
          case measure => simp [intOf]; omega
      · go_wp2
        go_ret
        exact ⟨ret_bool (by rw [Hf.out, namesB_yes (fun k hk => Hr.out k (by rw [bl_len] at hk; omega))]), (by with_reducible repeat (first | exact Only.refl _ _ | assumption | refine Only.drewN ?_ _ | refine Only.drew ?_ | refine Only.alloc ?_ _ | refine Only.setCell ?_ (by intro hh; exfalso; simp at hh; try omega) _ | refine Only.trans ?_ (by assumption)))⟩
  · have d2 : ((x.names.size : Int) != (x.moves.length : Int)) = true := by simp only [bne_iff_ne, ne_eq]; omega
    have hf : validPz x = false := by unfold validPz; rw [decide_eq_false c2]; simp
    have Hf := Lib.hid hf; clear hf
    have C2' := Lib.hid c2; clear c2
    have C1 := Lib.hid c1; clear c1
    go_enter Tryz.func31, Tryz.ntmps31
    go_wp2
    go_ret
    exact ⟨ret_bool Hf.out.symm, (by with_reducible repeat (first | exact Only.refl _ _ | assumption | refine Only.drewN ?_ _ | refine Only.drew ?_ | refine Only.alloc ?_ _ | refine Only.setCell ?_ (by intro hh; exfalso; simp at hh; try omega) _ | refine Only.trans ?_ (by assumption)))⟩
set_option maxHeartbeats 2000000 in
theorem isNames_any (s : ByteArray) (w : World) (hs : s.size ≤ maxLen) :
    Calls Tryz.prog 40 #[.string s] w fun e w' => e = .returned (.bool (namesB s)) ∧ Drew w w' := by
  unfold maxLen at hs
  have hno : ∀ k, k < s.size → moveNameB (bl s) k = false → namesB s = false := by
    intro k hk h
    unfold namesB
    rw [namesB_no (by rw [bl_len]; exact hk) h]; simp
  have hyes : (∀ k, k < s.size → moveNameB (bl s) k = true) → namesB s = inR s.size 1 8 := by
    intro h
    unfold namesB
    rw [namesB_yes (fun k hk => h k (by rw [bl_len] at hk; exact hk))]; simp
  have Hno := Lib.hid hno; clear hno
  have Hyes := Lib.hid hyes; clear hyes
  go_enter Tryz.func40, Tryz.ntmps40
  go_wp2
  go_loopw [7] (fun i wr => ∃ j : Nat, j ≤ s.size ∧ i = .int .i64 j ∧ (∀ k, k < j → moveNameB (bl s) k = true) ∧ Drew w wr)
    (fun i _ => s.size - (intOf i).toNat)
  case atStart => exact ⟨0, Nat.zero_le _, rfl, by simp, Drew.refl _⟩
  case round =>
    obtain ⟨j, hj, rfl, hr, k, rfl⟩ := hrel
    have Hr := Lib.hid hr; clear hr
    by_cases hlt : j < s.size
    · have hi1 : (0 : Int) ≤ (j : Int) := by omega
      have hi2 : (j : Int) < (s.size : Int) := by omega
      have hL : j < (bl s).length := by rw [bl_len]; exact hlt
      have hbj : (bl s)[j] = (s[j].toNat : Int) := bl_get s j hlt _
      have hmn : moveNameB (bl s) j = (inR (s[j].toNat : Int) 65 90 && decide ((s[j].toNat : Int) ∉ (bl s).take j)) := by rw [moveNameB_of hL, hbj]
      have Hmn := Lib.hid hmn; clear hmn hbj hL
      have hw : wrap64 (s[j].toNat : Int) = (s[j].toNat : Int) := wrap64_small _ (by omega) (by have := UInt8.toNat_lt s[j]; omega)
      rcases c1 : inR (s[j].toNat : Int) 65 90
      · go_wp2_with ((go_at_call 41; (with_reducible refine (within_any (s[j].toNat : Int) 65 90 _).mono ?_); rintro e w1 ⟨rfl, rfl⟩))
        go_ret
        exact ⟨ret_bool (Hno.out j hlt (by rw [Hmn.out, c1]; rfl)).symm, ⟨_, rfl⟩⟩
      go_wp2_with ((go_at_call 41; (with_reducible refine (within_any (s[j].toNat : Int) 65 90 _).mono ?_); rintro e w1 ⟨rfl, rfl⟩))
      go_loopw [17] (fun i wr => ∃ q : Nat, q ≤ j ∧ i = .int .i64 q ∧ (s[j].toNat : Int) ∉ (bl s).take q ∧ Drew w wr)
        (fun i _ => j - (intOf i).toNat)
      case atStart => exact ⟨0, Nat.zero_le _, rfl, by simp, ⟨_, rfl⟩⟩
      case round =>
        obtain ⟨q, hq, rfl, hu, k2, rfl⟩ := hrel
        have Hu := Lib.hid hu; clear hu
        by_cases hlq : q < j
        · have hqs : q < s.size := by omega
          have hq1 : (0 : Int) ≤ (q : Int) := by omega
          have hq2 : (q : Int) < (s.size : Int) := by omega
          have hbq : (bl s)[q]'(by rw [bl_len]; exact hqs) = (s[q].toNat : Int) := bl_get s q hqs _
          have Hbq := Lib.hid hbq; clear hbq
          by_cases hx : (s[q].toNat : Int) = (s[j].toNat : Int)
          · have hqq : ((s[q].toNat : Int) == (s[j].toNat : Int)) = true := by simp [hx]
            have Hx := Lib.hid hx; clear hx
            go_wp2
            go_quiet (fail)
            go_wp2
            go_ret
            exact ⟨ret_bool (Hno.out j hlt (by rw [Hmn.out, c1, decide_eq_false (by rw [Classical.not_not, ← Hx.out, ← Hbq.out]; exact List.mem_take_iff_getElem.2 ⟨q, by rw [bl_len]; omega, rfl⟩)]; rfl)).symm, ((Drew.refl _).drewN _).drewN _⟩
          · have hqq : ((s[q].toNat : Int) == (s[j].toNat : Int)) = false := by simpa using hx
            have Hx := Lib.hid hx; clear hx
            go_wp2
            go_quiet (fail)
            go_wp2
            go_roundw
            case rel => exact ⟨q + 1, by omega, by go_num, by
              rw [take_succ_get (bl s) q (by rw [bl_len]; exact hqs)]; intro hm
              rcases List.mem_append.1 hm with hm | hm
              · exact Hu.out hm
              · simp at hm; rw [Hbq.out] at hm; exact Hx.out hm.symm, ⟨_, rfl⟩⟩
            case measure => simp [intOf]; omega
        · have hqj : q = j := by omega
          have Hqj := Lib.hid hqj; clear hqj
          go_wp2
          go_roundw
          case rel => exact ⟨j + 1, by omega, by go_num, fun z hz => by
            by_cases hzj : z = j
            · subst hzj; rw [Hmn.out, c1, decide_eq_true (by have := Hu.out; rwa [Hqj.out] at this)]; rfl
            · exact Hr.out z (by omega), ⟨_, rfl⟩⟩
          case measure => simp [intOf]; omega
    · rcases c5 : inR s.size 1 8
      all_goals go_wp2_with ((go_at_call 41; (with_reducible refine (within_any s.size 1 8 _).mono ?_); rintro e w1 ⟨rfl, rfl⟩))
      all_goals go_ret
      all_goals exact ⟨ret_bool (by rw [Hyes.out (fun z hz => Hr.out z (by omega)), c5]), ⟨_, rfl⟩⟩
set_option maxHeartbeats 2000000 in
theorem implIsValidPuzzle_any (cs : List Value) (x : Puzzle) (fp : List Nat) (w : World) (h : Rp.rep w cs x fp) :
    Calls Tryz.prog 20 #[.agg cs.toArray] w fun e w' => e = .returned (.bool (validPz x)) ∧ Only [] w w' := by
  obtain ⟨v2, rfl, p0, p1, h2⟩ := h
  obtain ⟨A2, C2, ob, fps, rfl, -, hs⟩ := h2.open_
  have hb := hs.bound
  have hm := p1; unfold maxLen at hm
  have G : ∀ w', Only [] w w' → Calls Tryz.prog 39 #[.int .i64 x.points, .slice A2 x.moves.length C2] w' fun e w'' => e = .returned (.bool (gensB x.points x.moves)) ∧ Only [] w' w'' :=
    fun w' hw => implIsGens_rd x.points _ x.moves _ w' (Rp.keep h2 hw)
  have HG := Lib.hid G; clear G
  rcases c3 : gensB x.points x.moves
  · have hf : validPz x = false := by unfold validPz; rw [c3]; rfl
    have Hf := Lib.hid hf; clear hf
    go_enter Tryz.func20, Tryz.ntmps20
    go_wp2_with ((go_at_call 39; (with_reducible refine (HG.out _ (by with_reducible repeat (first | exact Only.refl _ _ | assumption | refine Only.drewN ?_ _ | refine Only.drew ?_ | refine Only.alloc ?_ _ | refine Only.setCell ?_ (by intro hh; exfalso; simp at hh; try omega) _ | refine Only.trans ?_ (by assumption)))).mono ?_); rintro e w1 ⟨rfl, t1⟩; have y1 := t1.cells_eq w.heap.size (by simp) (by simp)))
    go_ret
    exact ⟨ret_bool Hf.out.symm, (by with_reducible repeat (first | exact Only.refl _ _ | assumption | refine Only.drewN ?_ _ | refine Only.drew ?_ | refine Only.alloc ?_ _ | refine Only.setCell ?_ (by intro hh; exfalso; simp at hh; try omega) _ | refine Only.trans ?_ (by assumption)))⟩
  rcases c4 : namesB x.names
  · have hf : validPz x = false := by unfold validPz; rw [c3, c4]; rfl
    have Hf := Lib.hid hf; clear hf
    go_enter Tryz.func20, Tryz.ntmps20
    go_wp2_with (first | (go_at_call 39; (with_reducible refine (HG.out _ (by with_reducible repeat (first | exact Only.refl _ _ | assumption | refine Only.drewN ?_ _ | refine Only.drew ?_ | refine Only.alloc ?_ _ | refine Only.setCell ?_ (by intro hh; exfalso; simp at hh; try omega) _ | refine Only.trans ?_ (by assumption)))).mono ?_); rintro e w1 ⟨rfl, t1⟩; have y1 := t1.cells_eq w.heap.size (by simp) (by simp)) | (go_at_call 40; (with_reducible refine (isNames_any x.names _ p1).mono ?_); rintro e w2 ⟨rfl, n2, rfl⟩))
    go_ret
    exact ⟨ret_bool Hf.out.symm, (by with_reducible repeat (first | exact Only.refl _ _ | assumption | refine Only.drewN ?_ _ | refine Only.drew ?_ | refine Only.alloc ?_ _ | refine Only.setCell ?_ (by intro hh; exfalso; simp at hh; try omega) _ | refine Only.trans ?_ (by assumption)))⟩
  have hf : validPz x = decide (x.names.size = x.moves.length) := by unfold validPz; rw [c3, c4]; rfl
  have Hf := Lib.hid hf; clear hf
  by_cases c5 : x.names.size = x.moves.length
  · have d5 : ((x.names.size : Int) == (x.moves.length : Int)) = true := by simp [c5]
    have C5 := Lib.hid c5; clear c5
    go_enter Tryz.func20, Tryz.ntmps20
    go_wp2_with (first | (go_at_call 39; (with_reducible refine (HG.out _ (by with_reducible repeat (first | exact Only.refl _ _ | assumption | refine Only.drewN ?_ _ | refine Only.drew ?_ | refine Only.alloc ?_ _ | refine Only.setCell ?_ (by intro hh; exfalso; simp at hh; try omega) _ | refine Only.trans ?_ (by assumption)))).mono ?_); rintro e w1 ⟨rfl, t1⟩; have y1 := t1.cells_eq w.heap.size (by simp) (by simp)) | (go_at_call 40; (with_reducible refine (isNames_any x.names _ p1).mono ?_); rintro e w2 ⟨rfl, n2, rfl⟩))
    go_ret
    exact ⟨ret_bool (by rw [Hf.out, decide_eq_true C5.out]), (by with_reducible repeat (first | exact Only.refl _ _ | assumption | refine Only.drewN ?_ _ | refine Only.drew ?_ | refine Only.alloc ?_ _ | refine Only.setCell ?_ (by intro hh; exfalso; simp at hh; try omega) _ | refine Only.trans ?_ (by assumption)))⟩
  · have d5 : ((x.names.size : Int) == (x.moves.length : Int)) = false := by rw [beq_eq_false_iff_ne]; omega
    have C5 := Lib.hid c5; clear c5
    go_enter Tryz.func20, Tryz.ntmps20
    go_wp2_with (first | (go_at_call 39; (with_reducible refine (HG.out _ (by with_reducible repeat (first | exact Only.refl _ _ | assumption | refine Only.drewN ?_ _ | refine Only.drew ?_ | refine Only.alloc ?_ _ | refine Only.setCell ?_ (by intro hh; exfalso; simp at hh; try omega) _ | refine Only.trans ?_ (by assumption)))).mono ?_); rintro e w1 ⟨rfl, t1⟩; have y1 := t1.cells_eq w.heap.size (by simp) (by simp)) | (go_at_call 40; (with_reducible refine (isNames_any x.names _ p1).mono ?_); rintro e w2 ⟨rfl, n2, rfl⟩))
    go_ret
    exact ⟨ret_bool (by rw [Hf.out, decide_eq_false C5.out]), (by with_reducible repeat (first | exact Only.refl _ _ | assumption | refine Only.drewN ?_ _ | refine Only.drew ?_ | refine Only.alloc ?_ _ | refine Only.setCell ?_ (by intro hh; exfalso; simp at hh; try omega) _ | refine Only.trans ?_ (by assumption)))⟩
end Go.Proofs.YtndcifpbbnebmaaGreat

namespace Go.Proofs.YtndcifpbbnebmaaGreat
open Go.RowKit
set_option maxRecDepth 10000

set_option maxHeartbeats 400000 in
theorem equalInts_any (a a' : Option Addr) (cap cap' : Nat) (l l' : List Int) (fp fp' : List Nat) (w : World) (h : IntsA w a cap l fp) (h' : IntsA w a' cap' l' fp') :
    Calls Tryz.prog 97 #[.slice a l.length cap, .slice a' l'.length cap'] w fun e w' => e = .returned (.bool (eqV l l')) ∧ Drew w w' := by
  have hb := h.bound
  have hb' := h'.bound
  by_cases hl : l.length = l'.length
  · have hne : ((l.length : Int) != (l'.length : Int)) = false := by simp [hl]
    have Hl := Lib.hid hl; clear hl
    go_enter Tryz.func97, Tryz.ntmps97
    go_wp2
    go_loopw [5] (fun i wr => ∃ j : Nat, j ≤ l.length ∧ i = .int .i64 j ∧ l.take j = l'.take j ∧ Drew w wr)
      (fun i _ => l.length - (intOf i).toNat)
    case atStart => exact ⟨0, Nat.zero_le _, rfl, rfl, Drew.refl _⟩
    case round =>
      obtain ⟨j, hj, rfl, hr, n, rfl⟩ := hrel
      have Hr := Lib.hid hr; clear hr
      by_cases hlt : j < l.length
      · have hlt' : j < l'.length := by have := Hl.out; omega
        obtain ⟨b, off, ha, -, hc⟩ := h.at_ j hlt
        obtain ⟨b', off', ha', -, hc'⟩ := h'.at_ j hlt'
        go_wp2
        go_quiet (fail)
        go_wp2
        · have hne : (l[j] != l'[j]) = true := by assumption
          go_ret
          exact ⟨ret_bool (eqInts_no hlt hlt' hne).symm, ((Drew.refl _).drewN _).drewN _⟩
        · have heq : (l[j] != l'[j]) = false := by assumption
          go_roundw
          case rel => exact ⟨j + 1, by omega, by go_num, eqInts_step hlt hlt' heq Hr.out, ⟨_, rfl⟩⟩
          case measure => simp [intOf]; omega
      · go_wp2
        go_ret
        exact ⟨ret_bool (eqL_yes Hl.out hlt Hr.out).symm, (Drew.refl _).drewN n⟩
  · have hne : ((l.length : Int) != (l'.length : Int)) = true := by simp; omega
    go_enter Tryz.func97, Tryz.ntmps97
    go_wp2
    go_ret
    exact ⟨ret_bool (eqL_len hne).symm, Drew.refl _⟩

theorem equalInts_rd (v v' : Value) (l l' : List Int) (fp fp' : List Nat) (w : World) (h : Rd w v l fp) (h' : Rd w v' l' fp') :
    Calls Tryz.prog 97 #[v, v'] w fun e w' => e = .returned (.bool (eqV l l')) ∧ Drew w w' := by
  obtain ⟨a, cap, rfl, hI⟩ := h.ints
  obtain ⟨a', cap', rfl, hI'⟩ := h'.ints
  exact equalInts_any a a' cap cap' l l' fp fp' w hI hI'




end Go.Proofs.YtndcifpbbnebmaaGreat


namespace Go.Proofs.YtndcifpbbnebmaaGreat
open Go.RowKit
set_option maxRecDepth 10000

/-- a strictly increasing list of points of n -/
def Inc (n : Int) (l : List Int) : Prop := (∀ x ∈ l, 0 ≤ x ∧ x < n) ∧ l.Pairwise (· < ·)
instance (n : Int) (l : List Int) : Decidable (Inc n l) := inferInstanceAs (Decidable (_ ∧ _))
/-- distinct points of n -/
def Dis (n : Int) (l : List Int) : Prop := (∀ x ∈ l, 0 ≤ x ∧ x < n) ∧ l.Nodup
instance (n : Int) (l : List Int) : Decidable (Dis n l) := inferInstanceAs (Decidable (_ ∧ _))
def trackB (n : Int) (l : List Int) : Bool := decide (0 < l.length) && decide (Inc n l)
def patB (n : Int) (k : Nat) (l : List Int) : Bool := decide (l.length = k) && decide (Dis n l)
theorem inc_ge {l : List Int} (h0 : ∀ x ∈ l, 0 ≤ x) (hp : l.Pairwise (· < ·)) : ∀ k (hk : k < l.length), (k : Int) ≤ l[k] := by
  intro k
  induction k with
  | zero => intro hk; have := h0 _ (List.getElem_mem hk); omega
  | succ k ih =>
    intro hk
    have h1 := ih (by omega)
    have h2 := List.pairwise_iff_getElem.1 hp k (k + 1) (by omega) hk (by omega)
    omega
theorem Inc.len {n : Int} {l : List Int} (h : Inc n l) : (l.length : Int) ≤ n ∨ l.length = 0 := by
  rcases Nat.eq_zero_or_pos l.length with h0 | h0
  · exact .inr h0
  · left
    have h1 := inc_ge (fun x hx => (h.1 x hx).1) h.2 (l.length - 1) (by omega)
    have h2 := (h.1 l[l.length - 1] (List.getElem_mem _)).2
    omega
theorem pw_nodup {l : List Int} (h : l.Pairwise (· < ·)) : l.Nodup := by
  rw [List.nodup_iff_pairwise_ne]
  exact h.imp fun h => Int.ne_of_lt h
theorem Inc.dis {n : Int} {l : List Int} (h : Inc n l) : Dis n l := ⟨h.1, pw_nodup h.2⟩
theorem trackB_iff {n : Int} {l : List Int} : trackB n l = true ↔ 0 < l.length ∧ Inc n l := by simp [trackB]
theorem patB_iff {n : Int} {k : Nat} {l : List Int} : patB n k l = true ↔ l.length = k ∧ Dis n l := by simp [patB]
theorem trackB_pat {n : Int} {l : List Int} (h : trackB n l = true) : patB n l.length l = true := patB_iff.2 ⟨rfl, (trackB_iff.1 h).2.dis⟩
def wfT (t : Table) : Bool := trackB 20 t.tracked && (inR t.patterns.length 1 3000 && (decide (t.distances.length = t.patterns.length) && (t.patterns.all (patB 20 t.tracked.length) && t.distances.all (fun d => inR d 0 3000))))
theorem wfT_iff {t : Table} : wfT t = true ↔ trackB 20 t.tracked = true ∧ (1 ≤ t.patterns.length ∧ t.patterns.length ≤ 3000) ∧ t.distances.length = t.patterns.length ∧ (∀ x ∈ t.patterns, patB 20 t.tracked.length x = true) ∧ (∀ d ∈ t.distances, inR d 0 3000 = true) := by
  simp [wfT, inR]; omega
end Go.Proofs.YtndcifpbbnebmaaGreat

namespace Go.Proofs.YtndcifpbbnebmaaGreat
open Go.RowKit
set_option maxRecDepth 10000

/-- the letters of n moves, in order -/
def ltrs : Nat → List Int
  | 0 => []
  | n + 1 => ltrs n ++ [((n + 1 : Nat) : Int), -((n + 1 : Nat) : Int)]
theorem ltrs_len (n : Nat) : (ltrs n).length = 2 * n := by
  induction n with
  | zero => rfl
  | succ n ih => simp [ltrs, ih]; omega
theorem mem_ltrs {n : Nat} {x : Int} : x ∈ ltrs n ↔ x ≠ 0 ∧ -(n : Int) ≤ x ∧ x ≤ n := by
  induction n with
  | zero => simp [ltrs]; omega
  | succ n ih => simp [ltrs, ih]; omega
/-- the permutation of a letter -/
def mv (gens : List (List Int)) (l : Int) : List Int := if 0 < l then gens.getD (l - 1).toNat [] else PM.inv (gens.getD (-l - 1).toNat [])
theorem mv_pos {gens : List (List Int)} {l : Int} {k : Nat} (h : l = (k : Int) + 1) (hk : k < gens.length) : mv gens l = gens[k] := by
  unfold mv
  rw [if_pos (by omega), show (l - 1).toNat = k by omega, List.getD_eq_getElem?_getD, List.getElem?_eq_getElem hk]; rfl
theorem mv_neg {gens : List (List Int)} {l : Int} {k : Nat} (h : l = -((k : Int) + 1)) (hk : k < gens.length) : mv gens l = PM.inv gens[k] := by
  unfold mv
  rw [if_neg (by omega), show (-l - 1).toNat = k by omega, List.getD_eq_getElem?_getD, List.getElem?_eq_getElem hk]; rfl
theorem letter_cases {n : Nat} {l : Int} (h : l ∈ ltrs n) : (∃ k : Nat, k < n ∧ l = (k : Int) + 1) ∨ (∃ k : Nat, k < n ∧ l = -((k : Int) + 1)) := by
  rw [mem_ltrs] at h
  rcases Int.lt_or_gt_of_ne h.1 with h0 | h0
  · right; exact ⟨(-l - 1).toNat, by omega, by omega⟩
  · left; exact ⟨(l - 1).toNat, by omega, by omega⟩
theorem mv_pn {n : Nat} {gens : List (List Int)} (h : ∀ g ∈ gens, PM.PN n g) {l : Int} (hl : l ∈ ltrs gens.length) : PM.PN n (mv gens l) := by
  rcases letter_cases hl with ⟨k, hk, e⟩ | ⟨k, hk, e⟩
  · rw [mv_pos e hk]; exact h _ (List.getElem_mem _)
  · rw [mv_neg e hk]; exact (h _ (List.getElem_mem _)).inv

theorem lit_srcA (w : World) (cs : List Value) (e : TypeId) {g : Nat} (hg : g = w.heap.size) : ∀ ad, some (⟨g, 0, none⟩ : Addr) = some ad → ∀ j u, cs[j]? = some u → (w.alloc (.cells cs.toArray e)).cell? (ad.add j) = some u := by
  intro ad had j u hu
  injection had with had; subst had
  have hadd : (⟨g, 0, none⟩ : Addr).add j = ⟨g, j, none⟩ := by unfold Addr.add; split <;> simp_all
  rw [hadd]; exact lit_src w cs e hg j u hu
theorem wrap64_lit (n : Int) (h0 : -9223372036854775808 ≤ n) (h1 : n < 9223372036854775808) : wrap64 n = n := by unfold wrap64; omega

/-- an array of int64s that a call fills -/
def Arr (B : Nat) (e : TypeId) (w : World) (g m : Nat) (l : List Int) : Prop := w.ownsRow B e 1 (.slice (some ⟨g, 0, none⟩) m m) m (l.map (Value.int .i64))
section
variable {B : Nat} {e : TypeId} {w : World} {g m : Nat} {l : List Int}
theorem Arr.len (h : Arr B e w g m l) : l.length = m := by have := h.1; simpa using this
theorem Arr.set (h : Arr B e w g m l) (i : Nat) (x : Int) : Arr B e (w.setCell ⟨g, i, none⟩ (.int .i64 x)) g m (l.set i x) := by
  have := (World.ownsRow.stored h i (.int .i64 x)).1
  unfold Arr
  rwa [List.map_set]
theorem Arr.cell (h : Arr B e w g m l) {i : Nat} (hi : i < l.length) : w.cell? ⟨g, i, none⟩ = some (.int .i64 l[i]) := by
  rw [World.ownsRow.cellAt h i (by have := h.len; omega)]; simp [hi]
theorem Arr.frozen (h : Arr B e w g m l) (i : Nat) : w.frozen? ⟨g, i, none⟩ = false := World.ownsRow.frozenAt h i
theorem Arr.rd (h : Arr B e w g m l) (hw : ∀ x ∈ l, I64 x) : Rd w (.slice (some ⟨g, 0, none⟩) m m) l [g] ∧ Fresh B w [g] := by
  have h' : w.ownsRow B e 1 (.slice (some ⟨g, 0, none⟩) m m) m (l.map (Value.int .i64)) := h
  obtain ⟨a, cap, hv, -, hI, hF⟩ := own_ints h' hw
  have hr := hI.rd
  rw [← hv] at hr
  exact ⟨hr, hF⟩
theorem Arr.only {w' : World} {fp : List Nat} (h : Arr B e w g m l) (ho : Only fp w w') (hg : g ∉ fp) : Arr B e w' g m l := by
  refine ⟨h.1, ?_⟩
  rcases h.2 with ⟨h', _⟩ | ⟨g', cp, cur, h', hb, hgg, hrest⟩
  · simp at h'
  · have : g' = g := by simp at h'; exact h'.1.symm
    subst this
    exact .inr ⟨g', cp, cur, h', hb, by rw [ho.block g' (Array.getElem?_eq_some_iff.1 hgg).1 hg]; exact hgg, hrest⟩
end

/-- the inverse so far -/
def invUp (p : List Int) (j : Nat) : List Int := (PM.pts p.length).map fun y => if p.idxOf y < j then (p.idxOf y : Int) else 0
theorem invUp_zero (p : List Int) : invUp p 0 = List.replicate p.length 0 := by
  unfold invUp
  apply List.ext_getElem (by simp [PM.pts_len])
  intro k h1 h2; simp
theorem invUp_len (p : List Int) (j : Nat) : (invUp p j).length = p.length := by simp [invUp, PM.pts_len]
theorem invUp_all {p : List Int} (h : PM.IsP p) : invUp p p.length = PM.inv p := by
  unfold invUp PM.inv
  apply List.map_congr_left
  intro y hy
  have := h.all hy
  rw [if_pos (List.idxOf_lt_length_of_mem this)]
theorem invUp_step {p : List Int} (h : PM.IsP p) {j : Nat} (hj : j < p.length) : (invUp p j).set p[j].toNat (j : Int) = invUp p (j + 1) := by
  have hp := h.1 p[j] (List.getElem_mem hj)
  apply List.ext_getElem (by simp [invUp_len])
  intro k h1 h2
  have hk : k < p.length := by simpa [invUp_len] using h2
  have hm : ((k : Int)) ∈ p := h.all (PM.mem_pts.2 ⟨by omega, by omega⟩)
  have hi := List.idxOf_lt_length_of_mem hm
  have hgi : p[p.idxOf (k : Int)] = (k : Int) := List.getElem_idxOf hi
  rw [List.getElem_set]
  simp only [invUp, List.getElem_map, PM.pts_get]
  by_cases hjk : p[j].toNat = k
  · rw [if_pos hjk]
    have : p.idxOf (k : Int) = j := PM.nodup_inj h.2 hi hj (by rw [hgi]; omega)
    rw [this, if_pos (by omega)]
  · rw [if_neg hjk]
    have : p.idxOf (k : Int) ≠ j := by
      intro he
      apply hjk
      have : p[j] = (k : Int) := by rw [← hgi]; congr 1; exact he.symm
      omega
    by_cases hlt : p.idxOf (k : Int) < j
    · rw [if_pos hlt, if_pos (by omega)]
    · rw [if_neg hlt, if_neg (by omega)]
theorem madeArr {B : Nat} {e : TypeId} {w : World} {g m : Nat} (h : w.ownsRow B e 1 (.slice (some ⟨g, 0, none⟩) m m) m (List.replicate m (.int .i64 0))) : Arr B e w g m (List.replicate m 0) := by
  unfold Arr; rwa [List.map_replicate]
theorem inv_i64 {p : List Int} (hl : p.length ≤ 1000) : ∀ x ∈ PM.inv p, I64 x := by
  intro x hx
  unfold PM.inv at hx
  obtain ⟨y, -, rfl⟩ := List.mem_map.1 hx
  have := List.idxOf_le_length (a := y) (l := p)
  unfold I64; omega

set_option maxHeartbeats 1000000 in
theorem specInverse0_any (a : Option Addr) (cap : Nat) (p : List Int) (fp : List Nat) (w : World) (h : IntsA w a cap p fp) (hp : PM.IsP p) (hl : p.length ≤ 1000) :
    Calls Tryz.prog 77 #[.slice a p.length cap] w fun e w' => ∃ v fp', e = .returned v ∧ Rd w' v (PM.inv p) fp' ∧ Fresh w.heap.size w' fp' ∧ Only [] w w' := by
  obtain ⟨i0, hi, hz0, hz1, hz2⟩ := info_parts Tryz.info2
  go_enter Tryz.func77, Tryz.ntmps77
  go_wp2_with (at_make; refine wpList_make_full _ rfl _ _ 32 rfl w.heap.size 2 i0 _ 1 Tryz.underlying32 hi hz0 hz1 _ _ _ _ p.length rfl rfl rfl rfl (by rw [hz2]; omega) (by unfold maxLen; omega) (Nat.le_refl _) ?_; intro w1 hown hg)
  rw [madeInts, Nat.mul_one] at hown
  have hA := madeArr hown
  clear hown
  go_loopw [4] (fun i wr => ∃ j : Nat, j ≤ p.length ∧ i = .int .i64 j ∧ Arr w.heap.size 2 wr w.heap.size p.length (invUp p j) ∧ Only [] w wr)
    (fun i _ => p.length - (intOf i).toNat)
  case atStart => exact ⟨0, Nat.zero_le _, rfl, by rw [invUp_zero]; exact hA, (Only.refl _ _).grown hg (by simp)⟩
  case round =>
    obtain ⟨j, hj, rfl, hO, hK⟩ := hrel
    by_cases hlt : j < p.length
    · obtain ⟨b, off, rfl, -, hc0⟩ := h.at_ j hlt
      have hc := hK.cell (by simp) hc0
      have hr := hp.1 p[j] (List.getElem_mem _)
      have hO2 := hO.set p[j].toNat j
      rw [invUp_step hp hlt] at hO2
      have hc2 := hO.cell (i := p[j].toNat) (by rw [invUp_len]; omega)
      have hf2 := hO.frozen p[j].toNat
      have hK2 := hK.setCell (p := ⟨w.heap.size, p[j].toNat, none⟩) (by simp) (.int .i64 j)
      obtain ⟨hr0, hr1⟩ := hr
      have HO := Lib.hid hO2
      clear hO hO2 hA hc0
      go_wp2
      go_roundw
      case rel => exact ⟨j + 1, by omega, by go_num, HO.out, hK2⟩
      case measure => simp [intOf]; omega
    · have hjl : j = p.length := by omega
      rw [hjl, invUp_all hp] at hO
      have HO := Lib.hid (hO.rd (inv_i64 hl))
      clear hjl hO hA
      go_wp2
      go_ret
      exact ⟨_, _, rfl, HO.out.1, HO.out.2, hK⟩
set_option maxHeartbeats 1000000 in
theorem implInverse0_any (a : Option Addr) (cap : Nat) (p : List Int) (fp : List Nat) (w : World) (h : IntsA w a cap p fp) (hp : PM.IsP p) (hl : p.length ≤ 1000) :
    Calls Tryz.prog 71 #[.slice a p.length cap] w fun e w' => ∃ v fp', e = .returned v ∧ Rd w' v (PM.inv p) fp' ∧ Fresh w.heap.size w' fp' ∧ Only [] w w' := by
  obtain ⟨i0, hi, hz0, hz1, hz2⟩ := info_parts Tryz.info2
  go_enter Tryz.func71, Tryz.ntmps71
  go_wp2_with (at_make; refine wpList_make_full _ rfl _ _ 32 rfl w.heap.size 2 i0 _ 1 Tryz.underlying32 hi hz0 hz1 _ _ _ _ p.length rfl rfl rfl rfl (by rw [hz2]; omega) (by unfold maxLen; omega) (Nat.le_refl _) ?_; intro w1 hown hg)
  rw [madeInts, Nat.mul_one] at hown
  have hA := madeArr hown
  clear hown
  go_loopw [11] (fun i wr => ∃ j : Nat, j ≤ p.length ∧ i = .int .i64 j ∧ Arr w.heap.size 2 wr w.heap.size p.length (invUp p j) ∧ Only [] w wr)
    (fun i _ => p.length - (intOf i).toNat)
  case atStart => exact ⟨0, Nat.zero_le _, rfl, by rw [invUp_zero]; exact hA, (Only.refl _ _).grown hg (by simp)⟩
  case round =>
    obtain ⟨j, hj, rfl, hO, hK⟩ := hrel
    by_cases hlt : j < p.length
    · obtain ⟨b, off, rfl, -, hc0⟩ := h.at_ j hlt
      have hc := hK.cell (by simp) hc0
      have hr := hp.1 p[j] (List.getElem_mem _)
      have hO2 := hO.set p[j].toNat j
      rw [invUp_step hp hlt] at hO2
      have hc2 := hO.cell (i := p[j].toNat) (by rw [invUp_len]; omega)
      have hf2 := hO.frozen p[j].toNat
      have hK2 := hK.setCell (p := ⟨w.heap.size, p[j].toNat, none⟩) (by simp) (.int .i64 j)
      obtain ⟨hr0, hr1⟩ := hr
      have HO := Lib.hid hO2
      clear hO hO2 hA hc0
      go_wp2
      go_roundw
      case rel => exact ⟨j + 1, by omega, by go_num, HO.out, hK2⟩
      case measure => simp [intOf]; omega
    · have hjl : j = p.length := by omega
      rw [hjl, invUp_all hp] at hO
      have HO := Lib.hid (hO.rd (inv_i64 hl))
      clear hjl hO hA
      go_wp2
      go_ret
      exact ⟨_, _, rfl, HO.out.1, HO.out.2, hK⟩
theorem implInverse0_rd (v : Value) (p : List Int) (fp : List Nat) (w : World) (h : Rd w v p fp) (hp : PM.IsP p) (hl : p.length ≤ 1000) :
    Calls Tryz.prog 71 #[v] w fun e w' => ∃ v fp', e = .returned v ∧ Rd w' v (PM.inv p) fp' ∧ Fresh w.heap.size w' fp' ∧ Only [] w w' := by
  obtain ⟨a, cap, rfl, hI⟩ := h.ints
  exact implInverse0_any a cap p fp w hI hp hl
theorem specInverse0_rd (v : Value) (p : List Int) (fp : List Nat) (w : World) (h : Rd w v p fp) (hp : PM.IsP p) (hl : p.length ≤ 1000) :
    Calls Tryz.prog 77 #[v] w fun e w' => ∃ v fp', e = .returned v ∧ Rd w' v (PM.inv p) fp' ∧ Fresh w.heap.size w' fp' ∧ Only [] w w' := by
  obtain ⟨a, cap, rfl, hI⟩ := h.ints
  exact specInverse0_any a cap p fp w hI hp hl
theorem specInverse_rd (v : Value) (p : List Int) (fp : List Nat) (w : World) (h : Rd w v p fp) (hp : permB p = true) :
    Calls Tryz.prog 112 #[v] w fun e w' => ∃ v fp', e = .returned v ∧ Rd w' v (PM.inv p) fp' ∧ Fresh w.heap.size w' fp' ∧ Only [] w w' := by
  have hp' := permB_iff.1 hp
  go_enter Tryz.func112, Tryz.ntmps112
  go_wp2_with (first | (go_at_call 48; (with_reducible refine (specIsPerm_rd v p _ _ h).mono ?_); rintro e w1 ⟨rfl, n1, rfl⟩) | (go_at_call 77; (with_reducible refine (specInverse0_rd v p _ _ (Rp.keep h (Only.ofDrewN _ _ _)) hp'.2 (by omega)).mono ?_); rintro e w2 ⟨u, f2, rfl, r2, F2, t2⟩))
  go_ret
  exact ⟨_, _, rfl, r2, F2, (by with_reducible repeat (first | exact Only.refl _ _ | assumption | refine Only.drewN ?_ _ | refine Only.drew ?_ | refine Only.alloc ?_ _ | refine Only.setCell ?_ (by intro hh; exfalso; simp at hh; try omega) _ | refine Only.trans ?_ (by assumption)))⟩

set_option maxHeartbeats 1000000 in
/-- a move, or its inverse: old memory, or new -/
theorem letterOf_rd (v : Value) (gens : List (List Int)) (l : Int) (fp : List Nat) (w : World) (h : Rd w v gens fp) (hg : ∀ g ∈ gens, PM.IsP g ∧ g.length ≤ 1000) (hl : l ∈ ltrs gens.length) (hn : gens.length ≤ 1000) :
    Calls Tryz.prog 120 #[v, .int .i64 l] w fun e w' => ∃ v fp', e = .returned v ∧ Rd w' v (mv gens l) fp' ∧ (∀ b ∈ fp', b ∈ fp ∨ w.heap.size ≤ b) ∧ Only [] w w' := by
  obtain ⟨a, cap, ob, fps, rfl, rfl, hs⟩ := h.open_
  have hb := hs.bound
  rcases letter_cases hl with ⟨k, hk, rfl⟩ | ⟨k, hk, rfl⟩
  · have hm := mv_pos rfl hk
    have Hm := Lib.hid hm; clear hm
    obtain ⟨b, off, u, rfl, hob, hc, hu⟩ := hs.atRow k hk
    have e1 : wrap64 ((k : Int) + 1 - 1) = (k : Int) := wrap64_lit _ (by omega) (by omega) |>.trans (by omega)
    have e2 : (0 : Int) < (k : Int) + 1 := by omega
    go_enter Tryz.func120, Tryz.ntmps120
    go_wp2
    go_ret
    refine ⟨_, _, rfl, by rw [Hm.out]; exact hu, fun b' hb' => ?_, (by with_reducible repeat (first | exact Only.refl _ _ | assumption | refine Only.drewN ?_ _ | refine Only.drew ?_ | refine Only.alloc ?_ _ | refine Only.setCell ?_ (by intro hh; exfalso; simp at hh; try omega) _ | refine Only.trans ?_ (by assumption)))⟩
    left
    exact List.mem_append_right _ (List.mem_flatten.2 ⟨_, List.getElem_mem _, hb'⟩)
  · have hm := mv_neg rfl hk
    have Hm := Lib.hid hm; clear hm
    obtain ⟨b, off, u, rfl, hob, hc, hu⟩ := hs.atRow k hk
    have e1 : wrap64 (wrap64 (-(-((k : Int) + 1))) - 1) = (k : Int) := by
      rw [wrap64_lit (-(-((k : Int) + 1))) (by omega) (by omega), wrap64_lit _ (by omega) (by omega)]; omega
    have e2 : ¬ (0 : Int) < -((k : Int) + 1) := by omega
    have hg2 := hg _ (List.getElem_mem hk)
    go_enter Tryz.func120, Tryz.ntmps120
    go_wp2_with ((go_at_call 71; (with_reducible refine (implInverse0_rd u gens[k] _ _ hu hg2.1 hg2.2).mono ?_); rintro e w2 ⟨u2, f2, rfl, r2, F2, t2⟩))
    go_ret
    exact ⟨_, _, rfl, by rw [Hm.out]; exact r2, fun b' hb' => .inr (F2.ge b' hb'), (by with_reducible repeat (first | exact Only.refl _ _ | assumption | refine Only.drewN ?_ _ | refine Only.drew ?_ | refine Only.alloc ?_ _ | refine Only.setCell ?_ (by intro hh; exfalso; simp at hh; try omega) _ | refine Only.trans ?_ (by assumption)))⟩
set_option maxHeartbeats 1000000 in
theorem letters_any (m : Nat) (w : World) (hm : m ≤ 1000) :
    Calls Tryz.prog 92 #[.int .i64 m] w fun e w' => ∃ v fp', e = .returned v ∧ Rd w' v (ltrs m) fp' ∧ Fresh w.heap.size w' fp' ∧ Only [] w w' := by
  obtain ⟨i0, hi, hz0, hz1, hz2⟩ := info_parts Tryz.info2
  go_enter Tryz.func92, Tryz.ntmps92
  go_wp2
  go_loopw [3, 6] (fun o i wr => ∃ j : Nat, j ≤ m ∧ i = .int .i64 j ∧ wr.ownsRow w.heap.size 2 1 o (ltrs j).length ((ltrs j).map (Value.int .i64)) ∧ Only [] w wr)
    (fun _ i _ => m - (intOf i).toNat)
  case atStart => exact ⟨0, Nat.zero_le _, rfl, World.ownsRow_nil w _ _ _, Only.refl _ _⟩
  case round =>
    obtain ⟨j, hj, rfl, hO, hK⟩ := hrel
    by_cases hlt : j < m
    · have hsz := hK.size
      have hlj : (ltrs j).length ≤ 2000 := by rw [ltrs_len]; omega
      go_wp2_with (at_builtin; refine wpList_app _ rfl _ _ 32 rfl w.heap.size 2 i0 _ 1 8 Tryz.underlying32 hi hz0 hz1 hz2 rfl (by omega) _ (ltrs j).length _ rfl (hO.alloc _) (some ⟨wr.heap.size, 0, none⟩) 2 2 [.int .i64 ((j : Int) + 1), .int .i64 (-((j : Int) + 1))] rfl rfl (lit_srcA wr [.int .i64 ((j : Int) + 1), .int .i64 (-((j : Int) + 1))] _ rfl) (by simp) (by intro u hu; simp at hu; rcases hu with rfl | rfl <;> rfl) (by unfold maxLen; omega) (by omega) (by simp; omega) ?_; intro v1 w1 hO1 hg1 hb1)
      go_roundw
      case rel => exact ⟨j + 1, by omega, by go_num, by simpa [ltrs] using hO1, (hK.alloc _).grown hg1 (by intro k hk hk2; have := (hO.lt k hk).1; omega)⟩
      case measure => simp [intOf]; omega
    · have hjl : j = m := by omega
      rw [hjl] at hO
      have hw : ∀ x ∈ ltrs m, I64 x := fun x hx => by have := mem_ltrs.1 hx; unfold I64; omega
      obtain ⟨a', cap', hv, -, hI, hF⟩ := own_ints hO hw
      have HI := Lib.hid hI
      have Hv := Lib.hid hv
      clear hjl hO hv hI hw
      go_wp2
      go_ret
      refine ⟨_, _, rfl, ?_, hF, hK⟩
      have hr := HI.out.rd
      rw [← Hv.out] at hr; exact hr
end Go.Proofs.YtndcifpbbnebmaaGreat

namespace Go.Proofs.YtndcifpbbnebmaaGreat
open Go.RowKit
set_option maxRecDepth 10000

theorem validPz_facts {x : Puzzle} (h : validPz x = true) : 1 ≤ x.points ∧ x.points ≤ 20 ∧ x.moves.length ≤ 8 ∧ ∀ y ∈ x.moves, (y.length : Int) = x.points ∧ permB y = true := by
  unfold validPz at h
  rw [Bool.and_eq_true] at h
  have h1 := h.1
  unfold gensB at h1
  rw [Bool.and_eq_true, Bool.and_eq_true, inR_iff, decide_eq_true_iff, List.all_eq_true] at h1
  refine ⟨h1.1.1.1, h1.1.1.2, h1.1.2, fun y hy => ?_⟩
  have := h1.2 y hy
  unfold genB at this
  simpa using this
theorem validPz_pn {x : Puzzle} (h : validPz x = true) : ∀ g ∈ x.moves, PM.PN x.points.toNat g := by
  intro g hg
  obtain ⟨h1, h2, h3, h4⟩ := validPz_facts h
  obtain ⟨h5, h6⟩ := h4 g hg
  exact ⟨by omega, (permB_iff.1 h6).2⟩
/-- the tables that can be checked -/
def checkT (x : Puzzle) (t : Table) : Bool := validPz x && (wfT t && (trackB x.points t.tracked && t.patterns.all (patB x.points t.tracked.length)))
theorem checkT_iff {x : Puzzle} {t : Table} : checkT x t = true ↔ validPz x = true ∧ wfT t = true ∧ trackB x.points t.tracked = true ∧ ∀ p ∈ t.patterns, patB x.points t.tracked.length p = true := by
  simp [checkT]
/-- the index of the first pattern that is this one, -1 if there is none -/
def idxL (l : List (List Int)) (p : List Int) : Int := idxF (fun q => decide (q = p)) l
/-- the pattern behind a letter -/
def nxt (x : Puzzle) (p : List Int) (l : Int) : List Int := PM.comp p (mv x.moves l)
/-- where a letter leads -/
def nextI (x : Puzzle) (t : Table) (p : List Int) (l : Int) : Int := idxL t.patterns (nxt x p l)
/-- a letter leads to an entry of this distance -/
def leads (x : Puzzle) (t : Table) (p : List Int) (d : Int) (l : Int) : Bool := decide (0 ≤ nextI x t p l) && decide (t.distances.getD (nextI x t p l).toNat 0 = d)
/-- the first letter that leads to an entry of this distance, 0 if there is none -/
def descL (x : Puzzle) (t : Table) (p : List Int) (d : Int) : Int := ((ltrs x.moves.length).find? (leads x t p d)).getD 0
structure Fault where
  kind : Int
  entry : Int
  letter : Int
instance : Rp Fault where
  size := 3
  rep _ cs x fp := cs = [Value.int .i64 x.kind, Value.int .i64 x.entry, Value.int .i64 x.letter] ∧ (I64 x.kind ∧ I64 x.entry ∧ I64 x.letter) ∧ fp = []
  len h := by rw [h.1]; rfl
  frame h _ := h
  lt h := by rw [h.2.2]; simp
def atD (t : Table) (i : Int) : Int := t.distances.getD i.toNat 0
def atP (t : Table) (i : Nat) : List Int := t.patterns.getD i []
def one (b : Bool) (f : Fault) : List Fault := if b = true then [f] else []
/-- the fault of a letter -/
def letF (x : Puzzle) (t : Table) (i : Nat) (l : Int) : List Fault :=
  if nextI x t (atP t i) l < 0 then [⟨4, i, l⟩] else if inR (atD t (nextI x t (atP t i) l) - atD t i) (-1) 1 = true then [] else [⟨5, i, l⟩]
def entF (x : Puzzle) (t : Table) (i : Nat) : List Fault :=
  one (decide (i = 0) && (decide (atD t i ≠ 0) || decide (atP t 0 ≠ t.tracked))) ⟨1, i, 0⟩ ++
  (one (decide (idxL t.patterns (atP t i) < i)) ⟨2, i, 0⟩ ++
  (one (decide (0 < i) && decide (atD t i = 0)) ⟨3, i, 0⟩ ++
  ((ltrs x.moves.length).flatMap (letF x t i) ++
  one (decide (0 < atD t i) && decide (descL x t (atP t i) (atD t i - 1) = 0)) ⟨6, i, 0⟩)))
theorem idxF_nonneg_or {α : Type} (pr : α → Bool) (l : List α) : idxF pr l = -1 ∨ ∃ k : Nat, ∃ h : k < l.length, idxF pr l = k ∧ pr l[k] = true := by
  unfold idxF
  cases h : l.findIdx? pr with
  | none => exact .inl rfl
  | some i =>
    right
    obtain ⟨hi, hp, -⟩ := List.findIdx?_eq_some_iff_getElem.1 h
    exact ⟨i, hi, rfl, hp⟩
theorem idxL_lt {l : List (List Int)} {p : List Int} : -1 ≤ idxL l p ∧ idxL l p < l.length := by
  rcases idxF_nonneg_or (fun q => decide (q = p)) l with h | ⟨k, hk, h, -⟩
  · unfold idxL; omega
  · unfold idxL; omega
theorem nxt_pat {x : Puzzle} {k : Nat} {p : List Int} {l : Int} (hv : validPz x = true) (hp : patB x.points k p = true) (hl : l ∈ ltrs x.moves.length) : patB x.points k (nxt x p l) = true := by
  obtain ⟨h1, h2, h3, h4⟩ := validPz_facts hv
  obtain ⟨h5, h6, h7⟩ := patB_iff.1 hp
  have hm := mv_pn (validPz_pn hv) hl
  refine patB_iff.2 ⟨by unfold nxt; rw [PM.comp_len]; exact h5, fun y hy => ?_, ?_⟩
  · obtain ⟨z, hz, rfl⟩ := List.mem_map.1 hy
    have := h6 z hz
    have := hm.rng this.1 (by omega)
    omega
  · unfold nxt PM.comp
    rw [List.nodup_iff_pairwise_ne, List.pairwise_map]
    refine (List.nodup_iff_pairwise_ne.1 h7).imp_of_mem fun {a b} ha hb hab he => hab ?_
    have h8 := h6 a ha; have h9 := h6 b hb
    exact hm.inj h8.1 (by omega) h9.1 (by omega) he
end Go.Proofs.YtndcifpbbnebmaaGreat

namespace Go.Proofs.YtndcifpbbnebmaaGreat
open Go.RowKit
set_option maxRecDepth 10000

/-- one point more is laid into a permutation -/
theorem ins_isP {p : List Int} (h : PM.IsP p) {k : Nat} (_ : k ≤ p.length) : PM.IsP (p.take k ++ ((p.length : Int) :: p.drop k)) := by
  have hperm : (p.take k ++ ((p.length : Int) :: p.drop k)).Perm ((p.length : Int) :: p) := by
    have := List.perm_middle (l₁ := p.take k) (l₂ := p.drop k) (a := (p.length : Int))
    rwa [List.take_append_drop] at this
  have hl : (p.take k ++ ((p.length : Int) :: p.drop k)).length = p.length + 1 := by rw [hperm.length_eq]; rfl
  refine ⟨fun x hx => ?_, hperm.nodup_iff.2 (List.nodup_cons.2 ⟨fun hm => ?_, h.2⟩)⟩
  · rw [hl]
    rcases List.mem_cons.1 (hperm.mem_iff.1 hx) with rfl | hx
    · omega
    · have := h.1 x hx; omega
  · have := h.1 _ hm; omega
theorem IntsA.drop {w : World} {b off cap : Nat} {l : List Int} {fp : List Nat} (h : IntsA w (some ⟨b, off, none⟩) cap l fp) {k : Nat} (hk : k ≤ l.length) : IntsA w (some ⟨b, off + k, none⟩) (cap - k) (l.drop k) fp := by
  have hl := h.len
  have hc := h.cap
  refine ⟨by rw [List.length_drop]; omega, by omega, fun x hx => h.wf x (List.mem_of_mem_drop hx), fun i hi => ?_, h.lt, h.one⟩
  rw [List.length_drop] at hi
  obtain ⟨b', off', ha, hf, hcell⟩ := h.at_ (k + i) (by omega)
  injection ha with ha; injection ha with e1 e2; subst e1; subst e2
  refine ⟨b, off + k, rfl, hf, ?_⟩
  rw [Nat.add_assoc, List.getElem_drop]
  exact hcell
set_option maxHeartbeats 4000000 in
theorem w6Perm_any (g : Nat) (fc : List Nat) (l : List UInt8) (n : Nat) (w : World) (h : Dice w g fc l) (hn : n ≤ 1000) (hl : l.length ≤ 4096) :
    Calls Tryz.prog 19 #[.pointer (some ⟨g, 0, none⟩), .int .i64 n] w fun e w' => ∃ v p fp, e = .returned v ∧ Rd w' v p fp ∧ PM.PN n p ∧ Fresh w.heap.size w' fp ∧ Dice w' g fc l ∧ Only [g] w w' := by
  obtain ⟨i0, hi, hz0, hz1, hz2⟩ := info_parts Tryz.info2
  go_enter Tryz.func19, Tryz.ntmps19
  go_wp2
  go_loopw [5, 6] (fun o i wr => ∃ (j : Nat) (p : List Int) (fp : List Nat), j ≤ n ∧ i = .int .i64 j ∧ (∃ b off c, o = .slice (some ⟨b, off, none⟩) p.length c ∧ IntsA wr (some ⟨b, off, none⟩) c p fp) ∧ PM.PN j p ∧ Fresh w.heap.size wr fp ∧ Dice wr g fc l ∧ Only [g] w wr)
    (fun _ i _ => n - (intOf i).toNat)
  case atStart => exact ⟨0, [], [], Nat.zero_le _, rfl, ⟨w.heap.size, 0, 0, rfl, IntsA.nil _ _ (by simp [maxLen])⟩, ⟨rfl, by simp [PM.IsP]⟩, Fresh.nil _ _, h.keep ((Only.refl _ _).alloc _), (Only.refl _ _).alloc _⟩
  case round =>
    obtain ⟨W2, hnew⟩ : ∃ W, W = wr := ⟨_, rfl⟩
    subst hnew
    obtain ⟨j, p, fp, hj, rfl, ⟨b, off, c, rfl, I⟩, hp, hF, hD, hK⟩ := hrel
    by_cases hlt : j < n
    · have hwj : IntKind.i64.wrap ((j : Int) + 1) = (j : Int) + 1 := by rw [IntKind.wrap_i64]; omega
      go_upto_region 6 with ((go_at_call 7; (with_reducible refine (below_any g fc l ((j : Int) + 1) _ hD (by omega) (by omega) hl).mono ?_); rintro e w3 ⟨r, rfl, q1, q2, D3, K3⟩))
      obtain ⟨k, rfl⟩ := Int.eq_ofNat_of_zero_le q1
      have hpl := hp.1
      have hcap := I.len
      have hkp : k ≤ p.length := by omega
      have hkc : k ≤ c := by omega
      have hkp' : (k : Int) ≤ (p.length : Int) := by omega
      have hkc' : (k : Int) ≤ (c : Int) := by omega
      have hc0 : (p.length : Int) ≤ (c : Int) := by omega
      have Hpl := Lib.hid hpl
      have Hp := Lib.hid hp
      clear hpl hp
      have K3' : Only [g] w w3 := hK.trans K3
      have hg := h.lt
      have I3 := I.only K3 (fun b hb hm => by have := hF.ge b hb; simp at hm; omega)
      have hk0 : (0 : Int) ≤ (k : Int) := by omega
      have hlk : (p.take k).length = k := by rw [List.length_take]; omega
      have HK := Lib.hid hlk
      clear hlk
      have I3' := I3.keep ((Only.refl [] w3).alloc (.cells #[] 2))
      obtain ⟨s1, s2⟩ := ints_src (I3'.take k)
      have hsl : ((p.take k).map (Value.int .i64)).length = k * 1 := by rw [List.length_map, HK.out, Nat.mul_one]
      have hj1000 : j ≤ 1000 := by omega
      have Hsl := Lib.hid hsl
      clear hsl
      have hpl1 : p.length ≤ 1000 := by have := Hpl.out; omega
      have hend : ∀ v6 w6, w6.ownsRow w3.heap.size 2 1 v6 (k + 1 + (p.length - k)) (((p.take k).map (Value.int .i64) ++ [.int .i64 (j : Int)]) ++ (p.drop k).map (Value.int .i64)) → Only [] w3 w6 →
          ∃ (p' : List Int) (fp' : List Nat), (∃ b off c, v6 = .slice (some ⟨b, off, none⟩) p'.length c ∧ IntsA w6 (some ⟨b, off, none⟩) c p' fp') ∧ PM.PN (j + 1) p' ∧ Fresh w.heap.size w6 fp' ∧ Dice w6 g fc l ∧ Only [g] w w6 := fun v6 w6 hO ho => by
        have hcells : ((p.take k).map (Value.int .i64) ++ [Value.int .i64 (j : Int)]) ++ (p.drop k).map (Value.int .i64) = (p.take k ++ ((p.length : Int) :: p.drop k)).map (Value.int .i64) := by
          rw [Hpl.out]; simp
        rw [hcells] at hO
        have hP := ins_isP Hp.out.2 hkp
        have hlen : (p.take k ++ ((p.length : Int) :: p.drop k)).length = j + 1 := by
          rw [List.length_append, List.length_cons, HK.out, List.length_drop]; have := Hpl.out; omega
        obtain ⟨a6, c6, hv6, -, I6, F6⟩ := own_ints hO (fun x hx => by have := hP.1 x hx; rw [hlen] at this; unfold I64; omega)
        obtain ⟨b6, o6, ha6, -, -⟩ := I6.at_ 0 (by rw [hlen]; omega)
        subst ha6
        exact ⟨_, _, ⟨b6, o6, c6, hv6, I6⟩, ⟨hlen, hP⟩, F6.mono K3'.size, D3.keep ho, K3'.keepThen ho⟩
      by_cases hck : c = k
      · subst hck
        have hd0 : p.drop c = [] := List.drop_eq_nil_of_le (by omega)
        have Hd0 := Lib.hid hd0
        clear hd0
        go_wp2_with (first
          | (at_builtin; refine wpList_app _ rfl _ _ 32 rfl w3.heap.size 2 i0 _ 1 8 Tryz.underlying32 hi hz0 hz1 hz2 rfl (by omega) (.slice (some ⟨w3.heap.size, 0, none⟩) 0 0) 0 [] rfl (World.ownsRow_made w3 #[] 0 (Nat.le_refl _) (by unfold maxLen; omega) rfl) (some ⟨b, off, none⟩) c c ((p.take c).map (Value.int .i64)) rfl Hsl.out s1 (by intro hh; cases hh) (ints_one _) (by unfold maxLen; omega) (by omega) (by simp) ?_; intro v4 w4 hO4 hg4 hb4; rw [Nat.zero_add, List.nil_append] at hO4; have o4 : Only [] w3 w4 := ((Only.refl [] w3).alloc _).grown hg4 (by intro z hz hzl; simp [Value.ownBlock] at hz; omega); have m4 := lit_srcA w4 [.int .i64 (j : Int)] 2 rfl)
          | (at_builtin; refine wpList_app _ rfl _ _ 32 rfl w3.heap.size 2 i0 _ 1 8 Tryz.underlying32 hi hz0 hz1 hz2 rfl (by omega) v4 c ((p.take c).map (Value.int .i64)) rfl (hO4.alloc _) (some ⟨w4.heap.size, 0, none⟩) 1 1 [.int .i64 (j : Int)] rfl rfl m4 (by intro hh; cases hh) (by intro u hu; simp at hu; subst hu; rfl) (by unfold maxLen; omega) (by omega) (Nat.le_trans o4.size ((Only.refl [] w4).alloc _).size) ?_; intro v5 w5 hO5 hg5 hb5; have o5 : Only [] w3 w5 := (o4.alloc _).grown hg5 (by intro z hz hzl; have := (hO4.lt z hz).1; omega); )
          | (at_builtin; refine wpList_app _ rfl _ _ 32 rfl w3.heap.size 2 i0 _ 1 8 Tryz.underlying32 hi hz0 hz1 hz2 rfl (by omega) v5 (c + 1) ((p.take c).map (Value.int .i64) ++ [.int .i64 (j : Int)]) rfl hO5 (some ⟨b, off, none⟩) 0 0 [] rfl rfl (by intro ad hh j1 u hu; simp at hu) (by intro hh; cases hh) (by intro u hu; simp at hu) (by unfold maxLen; omega) (by omega) o5.size ?_; intro v6 w6 hO6 hg6 hb6)
          | fail "no arm")
        have hfin := hend v6 w6 (by have e : p.length - c = 0 := (by omega); rw [e, Hd0.out]; simpa using hO6) (o5.grown hg6 (by intro z hz hzl; have := (hO5.lt z hz).1; omega))
        go_roundw
        case rel => obtain ⟨p', fp', e1, e2, e3, e4, e5⟩ := hfin; exact ⟨j + 1, p', fp', by omega, by go_num, e1, e2, e3, e4, e5⟩
        case measure => simp [intOf]; omega
      · go_wp2_with (first
          | (at_builtin; refine wpList_app _ rfl _ _ 32 rfl w3.heap.size 2 i0 _ 1 8 Tryz.underlying32 hi hz0 hz1 hz2 rfl (by omega) (.slice (some ⟨w3.heap.size, 0, none⟩) 0 0) 0 [] rfl (World.ownsRow_made w3 #[] 0 (Nat.le_refl _) (by unfold maxLen; omega) rfl) (some ⟨b, off, none⟩) k c ((p.take k).map (Value.int .i64)) rfl Hsl.out s1 (by intro hh; cases hh) (ints_one _) (by unfold maxLen; omega) (by omega) (by simp) ?_; intro v4 w4 hO4 hg4 hb4; rw [Nat.zero_add, List.nil_append] at hO4; have o4 : Only [] w3 w4 := ((Only.refl [] w3).alloc _).grown hg4 (by intro z hz hzl; simp [Value.ownBlock] at hz; omega); have m4 := lit_srcA w4 [.int .i64 (j : Int)] 2 rfl)
          | (at_builtin; refine wpList_app _ rfl _ _ 32 rfl w3.heap.size 2 i0 _ 1 8 Tryz.underlying32 hi hz0 hz1 hz2 rfl (by omega) v4 k ((p.take k).map (Value.int .i64)) rfl (hO4.alloc _) (some ⟨w4.heap.size, 0, none⟩) 1 1 [.int .i64 (j : Int)] rfl rfl m4 (by intro hh; cases hh) (by intro u hu; simp at hu; subst hu; rfl) (by unfold maxLen; omega) (by omega) (Nat.le_trans o4.size ((Only.refl [] w4).alloc _).size) ?_; intro v5 w5 hO5 hg5 hb5; have o5 : Only [] w3 w5 := (o4.alloc _).grown hg5 (by intro z hz hzl; have := (hO4.lt z hz).1; omega); have ID := (I3.keep o5).drop hkp; have s5 := ints_src ID; have hdl : ((p.drop k).map (Value.int .i64)).length = (p.length - k) * 1 := (by simp); have Hdl := Lib.hid hdl; clear hdl)
          | (at_builtin; refine wpList_app _ rfl _ _ 32 rfl w3.heap.size 2 i0 _ 1 8 Tryz.underlying32 hi hz0 hz1 hz2 rfl (by omega) v5 (k + 1) ((p.take k).map (Value.int .i64) ++ [.int .i64 (j : Int)]) rfl hO5 (some ⟨b, off + k, none⟩) (p.length - k) (c - k) ((p.drop k).map (Value.int .i64)) rfl Hdl.out s5.1 (by intro hh; cases hh) (ints_one _) (by unfold maxLen; omega) (by omega) o5.size ?_; intro v6 w6 hO6 hg6 hb6)
          | fail "no arm")
        have hfin := hend v6 w6 hO6 (o5.grown hg6 (by intro z hz hzl; have := (hO5.lt z hz).1; omega))
        go_roundw
        case rel => obtain ⟨p', fp', e1, e2, e3, e4, e5⟩ := hfin; exact ⟨j + 1, p', fp', by omega, by go_num, e1, e2, e3, e4, e5⟩
        case measure => simp [intOf]; omega
    · obtain rfl : j = n := by omega
      go_wp2
      go_ret
      exact ⟨_, p, fp, rfl, I.rd, hp, hF, hD, hK⟩
end Go.Proofs.YtndcifpbbnebmaaGreat

namespace Go.Proofs.YtndcifpbbnebmaaGreat
open Go.RowKit
set_option maxRecDepth 10000
end Go.Proofs.YtndcifpbbnebmaaGreat

namespace Go.Proofs.YtndcifpbbnebmaaGreat
open Go.RowKit
set_option maxRecDepth 10000
open Go.Maps (Keyed)

/-- the key of a list: a byte each -/
def kB (l : List Int) : ByteArray := strOfNums (l.map fun x => x % 256)
theorem kB_size (l : List Int) : (kB l).size = l.length := by unfold kB; rw [strOfNums_size, List.length_map]
theorem kB_inj : ∀ {l l' : List Int}, (∀ x ∈ l, 0 ≤ x ∧ x < 256) → (∀ x ∈ l', 0 ≤ x ∧ x < 256) → kB l = kB l' → l = l' := by
  intro l l' h h' he
  have hd : (kB l).data.toList = (kB l').data.toList := by rw [he]
  unfold kB at hd
  rw [strOfNums_data, strOfNums_data, List.map_map, List.map_map] at hd
  clear he
  induction l generalizing l' with
  | nil => cases l' with
    | nil => rfl
    | cons y l' => simp at hd
  | cons x l ih => cases l' with
    | nil => simp at hd
    | cons y l' =>
      simp only [List.map_cons, List.cons.injEq] at hd
      have hx := h x (by simp); have hy := h' y (by simp)
      have e1 : x % 256 = x := Int.emod_eq_of_lt hx.1 hx.2
      have e2 : y % 256 = y := Int.emod_eq_of_lt hy.1 hy.2
      have h1 := hd.1
      simp only [Function.comp, e1, e2] at h1
      have h2 := congrArg UInt8.toNat h1
      rw [UInt8.toNat_ofNat', UInt8.toNat_ofNat'] at h2
      have : x = y := by omega
      subst this
      rw [ih (fun z hz => h z (by simp [hz])) (fun z hz => h' z (by simp [hz])) hd.2]
theorem kB_eq {l l' : List Int} (h : ∀ x ∈ l, 0 ≤ x ∧ x < 256) (h' : ∀ x ∈ l', 0 ≤ x ∧ x < 256) : kB l = kB l' ↔ l = l' := ⟨kB_inj h h', fun e => by rw [e]⟩

theorem Tryz.lawStr : Keyed Tryz.prog 9 := Go.Maps.string_keyed Tryz.underlying9
/-- block M is a map of at most k entries; g: what lies at a key -/
def Mp (w : World) (M k : Nat) (g : ByteArray → Option Int) : Prop :=
  ∃ D : DataW Unit, w.ownsMap Tryz.prog 9 (plainElem Tryz.prog 3) M k D ∧ ∀ s : ByteArray, s.size ≤ maxLen →
    Go.Maps.has D (.string s.data.toList) = (g s).isSome ∧ ∀ n, g s = some n → D.atKey (.string s.data.toList) (.lit (.int .i64 0)) = .lit (.int .i64 n)
theorem Mp.lt {w : World} {M k : Nat} {g : ByteArray → Option Int} (h : Mp w M k g) : M < w.heap.size := by
  obtain ⟨D, h1, -⟩ := h; exact h1.lt
theorem Mp.frame {w w' : World} {M k : Nat} {g : ByteArray → Option Int} (h : Mp w M k g) (hf : w'.heap[M]? = w.heap[M]?) : Mp w' M k g := by
  obtain ⟨D, ⟨es, c, h1, h2⟩, h3⟩ := h
  exact ⟨D, ⟨es, c, by rw [hf]; exact h1, h2⟩, h3⟩
theorem Mp.only {w w' : World} {fp : List Nat} {M k : Nat} {g : ByteArray → Option Int} (h : Mp w M k g) (ho : Only fp w w') (hn : M ∉ fp) : Mp w' M k g := h.frame (ho.block M h.lt hn)
theorem Mp.keep {w w' : World} {M k : Nat} {g : ByteArray → Option Int} (h : Mp w M k g) (ho : Only [] w w') : Mp w' M k g := h.only ho (by simp)
theorem Mp.made (w : World) {M : Nat} (hM : M = w.heap.size) : Mp (w.alloc (.map #[] 0)) M 0 (fun _ => none) := by
  subst hM
  exact ⟨.map [], World.ownsMap_made _ _ _ _, fun s _ => ⟨rfl, by simp⟩⟩
theorem Mp.congr {w : World} {M k : Nat} {g g' : ByteArray → Option Int} (h : Mp w M k g) (hg : ∀ s, g s = g' s) : Mp w M k g' := by
  have : g = g' := funext hg
  rw [← this]; exact h
section
variable {w : World} {M k : Nat} {g : ByteArray → Option Int}
end

theorem Tryz.infoByte : (Tryz.prog.info? 5).map (fun i => (i.zero, i.size, i.bytes)) = some (some (.int .u8 0), 1, 1) := by kernel_rfl
theorem madeBytes (n : Nat) : (madeCells (Value.cells (.int .u8 0)) n).toList = List.replicate n (.int .u8 0) := by
  apply List.ext_getElem (by simp [madeCells])
  intro i h1 h2
  simp [madeCells, Value.cells, Nat.mod_one]
theorem step_bytes (l : List Int) (j : Nat) (hj : j < l.length) : ((l.take j).map (fun x => Value.int .u8 (x % 256)) ++ List.replicate (l.length - j) (Value.int .u8 0)).set j (.int .u8 (l[j] % 256)) = (l.take (j + 1)).map (fun x => Value.int .u8 (x % 256)) ++ List.replicate (l.length - (j + 1)) (.int .u8 0) := by
  have hl : ((l.take j).map (fun x => Value.int .u8 (x % 256))).length = j := by rw [List.length_map, List.length_take]; omega
  rw [show l.length - j = (l.length - (j + 1)) + 1 by omega, List.replicate_succ, List.set_append_right _ _ (by omega), hl, Nat.sub_self, take_succ_get l j hj]
  simp only [List.map_append, List.map_cons, List.map_nil, List.append_assoc, List.cons_append, List.nil_append, List.set_cons_zero]
set_option maxHeartbeats 1000000 in
theorem stateKey_rd (v : Value) (l : List Int) (fp : List Nat) (w : World) (h : Rd w v l fp) (hl : l.length ≤ 1000) :
    Calls Tryz.prog 91 #[v] w fun e w' => e = .returned (.string (kB l)) ∧ Only [] w w' := by
  obtain ⟨a, cap, rfl, hI⟩ := h.ints
  obtain ⟨i0, hi, hz0, hz1, hz2⟩ := info_parts Tryz.infoByte
  go_enter Tryz.func91, Tryz.ntmps91
  go_wp2_with (at_make; refine wpList_make_full _ rfl _ _ 22 rfl w.heap.size 5 i0 _ 1 Tryz.underlying22 hi hz0 hz1 _ _ _ _ l.length rfl rfl rfl rfl (by rw [hz2]; omega) (by unfold maxLen; omega) (Nat.le_refl _) ?_; intro w1 hown hg)
  rw [madeBytes, Nat.mul_one] at hown
  go_loopw [11] (fun i wr => ∃ j : Nat, j ≤ l.length ∧ i = .int .i64 j ∧
      wr.ownsRow w.heap.size 5 1 (.slice (some ⟨w.heap.size, 0, none⟩) l.length l.length) l.length ((l.take j).map (fun x => Value.int .u8 (x % 256)) ++ List.replicate (l.length - j) (.int .u8 0)) ∧ Only [] w wr)
    (fun i _ => l.length - (intOf i).toNat)
  case atStart => exact ⟨0, Nat.zero_le _, rfl, by simpa using hown, (Only.refl _ _).grown hg (by simp)⟩
  case round =>
    obtain ⟨j, hj, rfl, hO, hK⟩ := hrel
    by_cases hlt : j < l.length
    · obtain ⟨b, off, rfl, -, hc0⟩ := hI.at_ j hlt
      have hc := hK.cell (by simp) hc0
      have hO2 := (hO.stored j (.int .u8 (l[j] % 256))).1
      rw [step_bytes l j hlt] at hO2
      obtain ⟨z2, hc2⟩ : ∃ z, wr.cell? ⟨w.heap.size, j, none⟩ = some z := by
        rw [hO.cellAt j (by omega)]
        exact ⟨_, List.getElem?_eq_getElem (by simp; omega)⟩
      have hf2 := hO.frozenAt j
      have hK2 := hK.setCell (p := ⟨w.heap.size, j, none⟩) (by simp) (.int .u8 (l[j] % 256))
      have HO := Lib.hid hO2
      clear hO hO2 hown hc0
      go_wp2
      go_roundw
      case rel => exact ⟨j + 1, by omega, by go_num, HO.out, hK2⟩
      case measure => simp [intOf]; omega
    · have hjl : j = l.length := by omega
      rw [hjl] at hO
      simp only [Nat.sub_self, List.replicate_zero, List.append_nil, List.take_length] at hO
      have hcv := run_convert_bytes_arg (P := Tryz.prog) wr 22 5 Tryz.underlying22 Tryz.underlying5 w.heap.size 0 l.length l.length (l.map fun x => x % 256) (by simp) (fun i hi => by
        rw [Nat.zero_add, hO.cellAt i (by omega)]
        simp [hi]) 9 Tryz.underlying9
      have hKB : strOfNums (l.map fun x => x % 256) = kB l := rfl
      rw [hKB] at hcv
      clear hjl hO hown hKB
      go_wp2
      go_ret
      exact ⟨rfl, hK⟩
end Go.Proofs.YtndcifpbbnebmaaGreat

namespace Go.Proofs.YtndcifpbbnebmaaGreat
open Go.RowKit
set_option maxRecDepth 10000

/-- where the first pattern with this key lies -/
def firstG (l : List (List Int)) (s : ByteArray) : Option Int := (l.findIdx? fun p => kB p = s).map fun i : Nat => (i : Int)
theorem firstG_nil (s : ByteArray) : firstG [] s = none := rfl
theorem firstG_snoc (l : List (List Int)) (p : List Int) (s : ByteArray) : firstG (l ++ [p]) s = match firstG l s with | some i => some i | none => if s = kB p then some (l.length : Int) else none := by
  unfold firstG
  rw [List.findIdx?_append]
  cases h : l.findIdx? (fun p => decide (kB p = s)) with
  | some i => simp
  | none =>
    by_cases hp : kB p = s
    · simp [hp]
    · have : ¬ s = kB p := fun e => hp e.symm
      simp [hp, this]
def Byt (l : List Int) : Prop := ∀ x ∈ l, 0 ≤ x ∧ x < 256
theorem firstG_idx {l : List (List Int)} (h : ∀ p ∈ l, Byt p) {q : List Int} (hq : Byt q) : firstG l (kB q) = if 0 ≤ idxL l q then some (idxL l q) else none := by
  have hfun : l.findIdx? (fun p => decide (kB p = kB q)) = l.findIdx? (fun p => decide (p = q)) := by
    induction l with
    | nil => rfl
    | cons p l ih =>
      rw [List.findIdx?_cons, List.findIdx?_cons, ih (fun r hr => h r (by simp [hr]))]
      have : decide (kB p = kB q) = decide (p = q) := by
        rw [decide_eq_decide]; exact kB_eq (h p (by simp)) hq
      rw [this]
  unfold firstG idxL idxF
  rw [hfun]
  cases l.findIdx? (fun p => decide (p = q)) with
  | some i => simp
  | none => simp
theorem patB_byt {n : Int} {k : Nat} {l : List Int} (h : patB n k l = true) (hn : n ≤ 256) : Byt l := fun x hx => by
  have := (patB_iff.1 h).2.1 x hx; omega
end Go.Proofs.YtndcifpbbnebmaaGreat
