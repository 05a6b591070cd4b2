/- IsValidPuzzle: the reference's and the program's. Equality of plain data: the reference's and the program's. Tracked sets, patterns and well-formed tables: the reference's and the program's. -/
import Derived.Test.YtpkplmnpepkdaaaRowVerifiedTablesG2
import Derived.StillTailTactics
namespace Go.Proofs.Ytpkplmnpepkdaaa
open Go.RowKit
set_option maxRecDepth 10000

/-- the bytes of a string, as numbers -/
def bl (s : ByteArray) : List Int := s.data.toList.map fun b => (b.toNat : Int)
theorem bl_len (s : ByteArray) : (bl s).length = s.size := by
  unfold bl; rw [List.length_map, Array.length_toList]; rfl
theorem bl_get (s : ByteArray) (i : Nat) (h : i < s.size) (h' : i < (bl s).length) : (bl s)[i] = (s[i].toNat : Int) := by
  simp [bl]; rfl
def moveNameB (L : List Int) (i : Nat) : Bool := match L[i]? with
  | some b => inR b 65 90 && decide (b ∉ L.take i)
  | none => false
theorem moveNameB_of {L : List Int} {i : Nat} (h : i < L.length) : moveNameB L i = (inR L[i] 65 90 && decide (L[i] ∉ L.take i)) := by
  simp [moveNameB, h]
def namesB (s : ByteArray) : Bool := inR s.size 1 8 && ((bl s).all (fun b => inR b 65 90) && decide (bl s).Nodup)
def validPz (p : Puzzle) : Bool := gensB p.points p.moves && (namesB p.names && decide (p.names.size = p.moves.length))
theorem names_of {L : List Int} : (L.all (fun b => inR b 65 90) && decide L.Nodup) = true ↔ (∀ x ∈ L, inR x 65 90 = true) ∧ L.Nodup := by simp

set_option maxHeartbeats 1000000 in
theorem isMoveName_any (s : ByteArray) (i : Nat) (w : World) (hs : s.size ≤ maxLen) (hi : i < s.size) :
    Calls Try.prog 66 #[.string s, .int .i64 i] w fun e w' => e = .returned (.bool (moveNameB (bl s) i)) ∧ Drew w w' := by
  unfold maxLen at hs
  have hi1 : (0 : Int) ≤ (i : Int) := by omega
  have hi2 : (i : Int) < (s.size : Int) := by omega
  have hL : i < (bl s).length := by rw [bl_len]; exact hi
  have hfin : moveNameB (bl s) i = (inR (s[i].toNat : Int) 65 90 && decide ((s[i].toNat : Int) ∉ (bl s).take i)) := by rw [moveNameB_of hL, bl_get s i hi hL]
  have Hfin := Lib.hid hfin; clear hfin
  by_cases c1 : (s[i].toNat : Int) < 65
  · go_enter Try.func66, Try.ntmps66
    go_wp2
    go_ret
    exact ⟨ret_bool (by rw [Hfin.out, show inR (s[i].toNat : Int) 65 90 = false by rw [inR_not]; omega]; rfl), ⟨0, rfl⟩⟩
  by_cases c2 : 90 < (s[i].toNat : Int)
  · go_enter Try.func66, Try.ntmps66
    go_wp2
    go_ret
    exact ⟨ret_bool (by rw [Hfin.out, show inR (s[i].toNat : Int) 65 90 = false by rw [inR_not]; omega]; rfl), ⟨0, rfl⟩⟩
  have hR : moveNameB (bl s) i = decide ((s[i].toNat : Int) ∉ (bl s).take i) := by rw [Hfin.out, show inR (s[i].toNat : Int) 65 90 = true by rw [inR_iff]; omega]; rfl
  have HR := Lib.hid hR; clear hR Hfin
  go_enter Try.func66, Try.ntmps66
  go_wp2
  go_loopw [5] (fun t wr => ∃ j : Nat, j ≤ i ∧ t = .int .i64 j ∧ (s[i].toNat : Int) ∉ (bl s).take j ∧ Drew w wr)
    (fun t _ => i - (intOf t).toNat)
  case atStart => exact ⟨0, Nat.zero_le _, rfl, by simp, Drew.refl _⟩
  case round =>
    obtain ⟨j, hj, rfl, hr, k, rfl⟩ := hrel
    have Hr := Lib.hid hr; clear hr
    by_cases hlt : j < i
    · have hjs : j < s.size := by omega
      have hj1 : (0 : Int) ≤ (j : Int) := by omega
      have hj2 : (j : Int) < (s.size : Int) := by omega
      have hbj : (bl s)[j]'(by rw [bl_len]; exact hjs) = (s[j].toNat : Int) := bl_get s j hjs _
      have Hbj := Lib.hid hbj; clear hbj
      by_cases hx : (s[j].toNat : Int) = (s[i].toNat : Int)
      · have hq : ((s[j].toNat : Int) == (s[i].toNat : Int)) = true := by simp [hx]
        have Hx := Lib.hid hx; clear hx
        go_wp2
        go_quiet (fail)
        go_wp2
        go_ret
        exact ⟨ret_bool (by rw [HR.out, eq_comm, decide_eq_false_iff_not, Classical.not_not, ← Hx.out, ← Hbj.out]; exact List.mem_take_iff_getElem.2 ⟨j, by rw [bl_len]; omega, rfl⟩), ((Drew.refl _).drewN _).drewN _⟩
      · have hq : ((s[j].toNat : Int) == (s[i].toNat : Int)) = false := by simpa using hx
        have Hx := Lib.hid hx; clear hx
        go_wp2
        go_quiet (fail)
        go_wp2
        go_roundw
        case rel => exact ⟨j + 1, by omega, by go_num, by
          rw [take_succ_get (bl s) j (by rw [bl_len]; exact hjs)]; intro hm
          rcases List.mem_append.1 hm with hm | hm
          · exact Hr.out hm
          · simp at hm; rw [Hbj.out] at hm; exact Hx.out hm.symm, ⟨_, rfl⟩⟩
        case measure => simp [intOf]; omega
    · go_wp2
      go_ret
      exact ⟨ret_bool (by rw [HR.out, eq_comm, decide_eq_true_iff]; have := Hr.out; have e : j = i := (by omega); rwa [e] at this), ⟨_, rfl⟩⟩
theorem namesB_yes {L : List Int} (h : ∀ k, k < L.length → moveNameB L k = true) : (L.all (fun b => inR b 65 90) && decide L.Nodup) = true := by
  rw [names_of]
  have hk : ∀ k (hk : k < L.length), inR L[k] 65 90 = true ∧ L[k] ∉ L.take k := by
    intro k hk
    have := h k hk
    rw [moveNameB_of hk] at this
    simpa using this
  refine ⟨fun x hx => ?_, ?_⟩
  · obtain ⟨k, hk', rfl⟩ := List.getElem_of_mem hx
    exact (hk k hk').1
  · rw [List.nodup_iff_pairwise_ne, List.pairwise_iff_getElem]
    intro i j hi hj hij he
    exact (hk j hj).2 (List.mem_take_iff_getElem.2 ⟨i, by omega, he⟩)
theorem namesB_no {L : List Int} {k : Nat} (hk : k < L.length) (h : moveNameB L k = false) : (L.all (fun b => inR b 65 90) && decide L.Nodup) = false := by
  rw [← Bool.not_eq_true, names_of]
  rintro ⟨h1, h2⟩
  rw [moveNameB_of hk, h1 _ (List.getElem_mem _)] at h
  simp at h
  exact nodup_take_not hk h h2
set_option maxHeartbeats 2000000 in
theorem specIsValidPuzzle_any (cs : List Value) (x : Puzzle) (fp : List Nat) (w : World) (h : Rp.rep w cs x fp) :
    Calls Try.prog 45 #[.agg cs.toArray] w fun e w' => e = .returned (.bool (validPz x)) ∧ Only [] w w' := by
  obtain ⟨v2, rfl, p0, p1, h2⟩ := h
  obtain ⟨A2, C2, ob, fps, rfl, -, hs⟩ := h2.open_
  have hb := hs.bound
  have hm := p1; unfold maxLen at hm
  by_cases c1 : x.moves.length = 0
  · have hf : validPz x = false := by
      unfold validPz namesB
      rw [Bool.and_eq_false_iff, Bool.and_eq_false_iff, Bool.and_eq_false_iff]
      right
      by_cases hz : x.names.size = x.moves.length
      · left; left; rw [inR_not]; omega
      · right; exact decide_eq_false hz
    have Hf := Lib.hid hf; clear hf
    have d1 : ((x.moves.length : Int) == 0) = true := by simp [c1]
    have C1 := Lib.hid c1; clear c1
    go_enter Try.func45, Try.ntmps45
    go_wp2
    go_ret
    exact ⟨ret_bool Hf.out.symm, (by with_reducible repeat (first | exact Only.refl _ _ | assumption | refine Only.drewN ?_ _ | refine Only.drew ?_ | refine Only.alloc ?_ _ | refine Only.setCell ?_ (by intro hh; exfalso; simp at hh; try omega) _ | refine Only.trans ?_ (by assumption)))⟩
  have d1 : ((x.moves.length : Int) == 0) = false := by rw [beq_eq_false_iff_ne]; omega
  by_cases c2 : x.names.size = x.moves.length
  · have d2 : ((x.names.size : Int) != (x.moves.length : Int)) = false := by simp [c2]
    rcases c3 : gensB x.points x.moves
    · have hf : validPz x = false := by unfold validPz; rw [c3]; rfl
      have Hf := Lib.hid hf; clear hf
      have C2' := Lib.hid c2; clear c2
      have C1 := Lib.hid c1; clear c1
      go_enter Try.func45, Try.ntmps45
      go_wp2_with ((go_at_call 65; (with_reducible refine (specIsGens_rd x.points _ x.moves _ _ (Rp.keep h2 (by with_reducible repeat (first | exact Only.refl _ _ | assumption | refine Only.drewN ?_ _ | refine Only.drew ?_ | refine Only.alloc ?_ _ | refine Only.setCell ?_ (by intro hh; exfalso; simp at hh; try omega) _ | refine Only.trans ?_ (by assumption))))).mono ?_); rintro e w1 ⟨rfl, n1, rfl⟩))
      go_ret
      exact ⟨ret_bool Hf.out.symm, (by with_reducible repeat (first | exact Only.refl _ _ | assumption | refine Only.drewN ?_ _ | refine Only.drew ?_ | refine Only.alloc ?_ _ | refine Only.setCell ?_ (by intro hh; exfalso; simp at hh; try omega) _ | refine Only.trans ?_ (by assumption)))⟩
    have hl8 : x.moves.length ≤ 8 := by
      unfold gensB at c3; simp only [Bool.and_eq_true, decide_eq_true_eq] at c3; exact c3.1.2
    have hf : validPz x = ((bl x.names).all (fun b => inR b 65 90) && decide (bl x.names).Nodup) := by
      unfold validPz namesB; rw [c3, decide_eq_true c2, show inR x.names.size 1 8 = true by rw [inR_iff]; omega]; simp
    have Hf := Lib.hid hf; clear hf
    have C2' := Lib.hid c2; clear c2
    have C1 := Lib.hid c1; clear c1
    go_enter Try.func45, Try.ntmps45
    go_wp2_with ((go_at_call 65; (with_reducible refine (specIsGens_rd x.points _ x.moves _ _ (Rp.keep h2 (by with_reducible repeat (first | exact Only.refl _ _ | assumption | refine Only.drewN ?_ _ | refine Only.drew ?_ | refine Only.alloc ?_ _ | refine Only.setCell ?_ (by intro hh; exfalso; simp at hh; try omega) _ | refine Only.trans ?_ (by assumption))))).mono ?_); rintro e w1 ⟨rfl, n1, rfl⟩))
    go_loopw [3] (fun i wr => ∃ j : Nat, j ≤ x.names.size ∧ i = .int .i64 j ∧ (∀ k, k < j → moveNameB (bl x.names) k = true) ∧ Drew ((w.alloc (.cells #[.int .i64 x.points, .string x.names, .slice A2 x.moves.length C2] 26))) wr)
      (fun i _ => x.names.size - (intOf i).toNat)
    case atStart => exact ⟨0, Nat.zero_le _, rfl, by simp, ⟨_, rfl⟩⟩
    case round =>
      obtain ⟨j, hj, rfl, hr, k, rfl⟩ := hrel
      have Hr := Lib.hid hr; clear hr
      by_cases hlt : j < x.names.size
      · rcases c4 : moveNameB (bl x.names) j
        all_goals go_wp2_with ((go_at_call 66; (with_reducible refine (isMoveName_any x.names j _ p1 hlt).mono ?_); rintro e w1 ⟨rfl, n1, rfl⟩))
        · go_ret
          exact ⟨ret_bool (by rw [Hf.out, namesB_no (by rw [bl_len]; exact hlt) c4]), (by with_reducible repeat (first | exact Only.refl _ _ | assumption | refine Only.drewN ?_ _ | refine Only.drew ?_ | refine Only.alloc ?_ _ | refine Only.setCell ?_ (by intro hh; exfalso; simp at hh; try omega) _ | refine Only.trans ?_ (by assumption)))⟩
        · go_roundw
          case rel => exact ⟨j + 1, by omega, by go_num, fun k hk => by
            by_cases hkj : k = j
            · subst hkj; exact c4
            · exact Hr.out k (by omega), ⟨_, rfl⟩⟩
          case measure => simp [intOf]; omega
      · go_wp2
        go_ret
        exact ⟨ret_bool (by rw [Hf.out, namesB_yes (fun k hk => Hr.out k (by rw [bl_len] at hk; omega))]), (by with_reducible repeat (first | exact Only.refl _ _ | assumption | refine Only.drewN ?_ _ | refine Only.drew ?_ | refine Only.alloc ?_ _ | refine Only.setCell ?_ (by intro hh; exfalso; simp at hh; try omega) _ | refine Only.trans ?_ (by assumption)))⟩
  · have d2 : ((x.names.size : Int) != (x.moves.length : Int)) = true := by simp only [bne_iff_ne, ne_eq]; omega
    have hf : validPz x = false := by unfold validPz; rw [decide_eq_false c2]; simp
    have Hf := Lib.hid hf; clear hf
    have C2' := Lib.hid c2; clear c2
    have C1 := Lib.hid c1; clear c1
    go_enter Try.func45, Try.ntmps45
    go_wp2
    go_ret
    exact ⟨ret_bool Hf.out.symm, (by with_reducible repeat (first | exact Only.refl _ _ | assumption | refine Only.drewN ?_ _ | refine Only.drew ?_ | refine Only.alloc ?_ _ | refine Only.setCell ?_ (by intro hh; exfalso; simp at hh; try omega) _ | refine Only.trans ?_ (by assumption)))⟩
set_option maxHeartbeats 2000000 in
theorem isNames_any (s : ByteArray) (w : World) (hs : s.size ≤ maxLen) :
    Calls Try.prog 56 #[.string s] w fun e w' => e = .returned (.bool (namesB s)) ∧ Drew w w' := by
  unfold maxLen at hs
  have hno : ∀ k, k < s.size → moveNameB (bl s) k = false → namesB s = false := by
    intro k hk h
    unfold namesB
    rw [namesB_no (by rw [bl_len]; exact hk) h]; simp
  have hyes : (∀ k, k < s.size → moveNameB (bl s) k = true) → namesB s = inR s.size 1 8 := by
    intro h
    unfold namesB
    rw [namesB_yes (fun k hk => h k (by rw [bl_len] at hk; exact hk))]; simp
  have Hno := Lib.hid hno; clear hno
  have Hyes := Lib.hid hyes; clear hyes
  go_enter Try.func56, Try.ntmps56
  go_wp2
  go_loopw [7] (fun i wr => ∃ j : Nat, j ≤ s.size ∧ i = .int .i64 j ∧ (∀ k, k < j → moveNameB (bl s) k = true) ∧ Drew w wr)
    (fun i _ => s.size - (intOf i).toNat)
  case atStart => exact ⟨0, Nat.zero_le _, rfl, by simp, Drew.refl _⟩
  case round =>
    obtain ⟨j, hj, rfl, hr, k, rfl⟩ := hrel
    have Hr := Lib.hid hr; clear hr
    by_cases hlt : j < s.size
    · have hi1 : (0 : Int) ≤ (j : Int) := by omega
      have hi2 : (j : Int) < (s.size : Int) := by omega
      have hL : j < (bl s).length := by rw [bl_len]; exact hlt
      have hbj : (bl s)[j] = (s[j].toNat : Int) := bl_get s j hlt _
      have hmn : moveNameB (bl s) j = (inR (s[j].toNat : Int) 65 90 && decide ((s[j].toNat : Int) ∉ (bl s).take j)) := by rw [moveNameB_of hL, hbj]
      have Hmn := Lib.hid hmn; clear hmn hbj hL
      have hw : wrap64 (s[j].toNat : Int) = (s[j].toNat : Int) := wrap64_small _ (by omega) (by have := UInt8.toNat_lt s[j]; omega)
      rcases c1 : inR (s[j].toNat : Int) 65 90
      · go_wp2_with ((go_at_call 57; (with_reducible refine (within_any (s[j].toNat : Int) 65 90 _).mono ?_); rintro e w1 ⟨rfl, rfl⟩))
        go_ret
        exact ⟨ret_bool (Hno.out j hlt (by rw [Hmn.out, c1]; rfl)).symm, ⟨_, rfl⟩⟩
      go_wp2_with ((go_at_call 57; (with_reducible refine (within_any (s[j].toNat : Int) 65 90 _).mono ?_); rintro e w1 ⟨rfl, rfl⟩))
      go_loopw [17] (fun i wr => ∃ q : Nat, q ≤ j ∧ i = .int .i64 q ∧ (s[j].toNat : Int) ∉ (bl s).take q ∧ Drew w wr)
        (fun i _ => j - (intOf i).toNat)
      case atStart => exact ⟨0, Nat.zero_le _, rfl, by simp, ⟨_, rfl⟩⟩
      case round =>
        obtain ⟨q, hq, rfl, hu, k2, rfl⟩ := hrel
        have Hu := Lib.hid hu; clear hu
        by_cases hlq : q < j
        · have hqs : q < s.size := by omega
          have hq1 : (0 : Int) ≤ (q : Int) := by omega
          have hq2 : (q : Int) < (s.size : Int) := by omega
          have hbq : (bl s)[q]'(by rw [bl_len]; exact hqs) = (s[q].toNat : Int) := bl_get s q hqs _
          have Hbq := Lib.hid hbq; clear hbq
          by_cases hx : (s[q].toNat : Int) = (s[j].toNat : Int)
          · have hqq : ((s[q].toNat : Int) == (s[j].toNat : Int)) = true := by simp [hx]
            have Hx := Lib.hid hx; clear hx
            go_wp2
            go_quiet (fail)
            go_wp2
            go_ret
            exact ⟨ret_bool (Hno.out j hlt (by rw [Hmn.out, c1, decide_eq_false (by rw [Classical.not_not, ← Hx.out, ← Hbq.out]; exact List.mem_take_iff_getElem.2 ⟨q, by rw [bl_len]; omega, rfl⟩)]; rfl)).symm, ((Drew.refl _).drewN _).drewN _⟩
          · have hqq : ((s[q].toNat : Int) == (s[j].toNat : Int)) = false := by simpa using hx
            have Hx := Lib.hid hx; clear hx
            go_wp2
            go_quiet (fail)
            go_wp2
            go_roundw
            case rel => exact ⟨q + 1, by omega, by go_num, by
              rw [take_succ_get (bl s) q (by rw [bl_len]; exact hqs)]; intro hm
              rcases List.mem_append.1 hm with hm | hm
              · exact Hu.out hm
              · simp at hm; rw [Hbq.out] at hm; exact Hx.out hm.symm, ⟨_, rfl⟩⟩
            case measure => simp [intOf]; omega
        · have hqj : q = j := by omega
          have Hqj := Lib.hid hqj; clear hqj
          go_wp2
          go_roundw
          case rel => exact ⟨j + 1, by omega, by go_num, fun z hz => by
            by_cases hzj : z = j
            · subst hzj; rw [Hmn.out, c1, decide_eq_true (by have := Hu.out; rwa [Hqj.out] at this)]; rfl
            · exact Hr.out z (by omega), ⟨_, rfl⟩⟩
          case measure => simp [intOf]; omega
    · rcases c5 : inR s.size 1 8
      all_goals go_wp2_with ((go_at_call 57; (with_reducible refine (within_any s.size 1 8 _).mono ?_); rintro e w1 ⟨rfl, rfl⟩))
      all_goals go_ret
      all_goals exact ⟨ret_bool (by rw [Hyes.out (fun z hz => Hr.out z (by omega)), c5]), ⟨_, rfl⟩⟩
set_option maxHeartbeats 2000000 in
theorem implIsValidPuzzle_any (cs : List Value) (x : Puzzle) (fp : List Nat) (w : World) (h : Rp.rep w cs x fp) :
    Calls Try.prog 36 #[.agg cs.toArray] w fun e w' => e = .returned (.bool (validPz x)) ∧ Only [] w w' := by
  obtain ⟨v2, rfl, p0, p1, h2⟩ := h
  obtain ⟨A2, C2, ob, fps, rfl, -, hs⟩ := h2.open_
  have hb := hs.bound
  have hm := p1; unfold maxLen at hm
  have G : ∀ w', Only [] w w' → Calls Try.prog 55 #[.int .i64 x.points, .slice A2 x.moves.length C2] w' fun e w'' => e = .returned (.bool (gensB x.points x.moves)) ∧ Only [] w' w'' :=
    fun w' hw => implIsGens_rd x.points _ x.moves _ w' (Rp.keep h2 hw)
  have HG := Lib.hid G; clear G
  rcases c3 : gensB x.points x.moves
  · have hf : validPz x = false := by unfold validPz; rw [c3]; rfl
    have Hf := Lib.hid hf; clear hf
    go_enter Try.func36, Try.ntmps36
    go_wp2_with ((go_at_call 55; (with_reducible refine (HG.out _ (by with_reducible repeat (first | exact Only.refl _ _ | assumption | refine Only.drewN ?_ _ | refine Only.drew ?_ | refine Only.alloc ?_ _ | refine Only.setCell ?_ (by intro hh; exfalso; simp at hh; try omega) _ | refine Only.trans ?_ (by assumption)))).mono ?_); rintro e w1 ⟨rfl, t1⟩; have y1 := t1.cells_eq w.heap.size (by simp) (by simp)))
    go_ret
    exact ⟨ret_bool Hf.out.symm, (by with_reducible repeat (first | exact Only.refl _ _ | assumption | refine Only.drewN ?_ _ | refine Only.drew ?_ | refine Only.alloc ?_ _ | refine Only.setCell ?_ (by intro hh; exfalso; simp at hh; try omega) _ | refine Only.trans ?_ (by assumption)))⟩
  rcases c4 : namesB x.names
  · have hf : validPz x = false := by unfold validPz; rw [c3, c4]; rfl
    have Hf := Lib.hid hf; clear hf
    go_enter Try.func36, Try.ntmps36
    go_wp2_with (first | (go_at_call 55; (with_reducible refine (HG.out _ (by with_reducible repeat (first | exact Only.refl _ _ | assumption | refine Only.drewN ?_ _ | refine Only.drew ?_ | refine Only.alloc ?_ _ | refine Only.setCell ?_ (by intro hh; exfalso; simp at hh; try omega) _ | refine Only.trans ?_ (by assumption)))).mono ?_); rintro e w1 ⟨rfl, t1⟩; have y1 := t1.cells_eq w.heap.size (by simp) (by simp)) | (go_at_call 56; (with_reducible refine (isNames_any x.names _ p1).mono ?_); rintro e w2 ⟨rfl, n2, rfl⟩))
    go_ret
    exact ⟨ret_bool Hf.out.symm, (by with_reducible repeat (first | exact Only.refl _ _ | assumption | refine Only.drewN ?_ _ | refine Only.drew ?_ | refine Only.alloc ?_ _ | refine Only.setCell ?_ (by intro hh; exfalso; simp at hh; try omega) _ | refine Only.trans ?_ (by assumption)))⟩
  have hf : validPz x = decide (x.names.size = x.moves.length) := by unfold validPz; rw [c3, c4]; rfl
  have Hf := Lib.hid hf; clear hf
  by_cases c5 : x.names.size = x.moves.length
  · have d5 : ((x.names.size : Int) == (x.moves.length : Int)) = true := by simp [c5]
    have C5 := Lib.hid c5; clear c5
    go_enter Try.func36, Try.ntmps36
    go_wp2_with (first | (go_at_call 55; (with_reducible refine (HG.out _ (by with_reducible repeat (first | exact Only.refl _ _ | assumption | refine Only.drewN ?_ _ | refine Only.drew ?_ | refine Only.alloc ?_ _ | refine Only.setCell ?_ (by intro hh; exfalso; simp at hh; try omega) _ | refine Only.trans ?_ (by assumption)))).mono ?_); rintro e w1 ⟨rfl, t1⟩; have y1 := t1.cells_eq w.heap.size (by simp) (by simp)) | (go_at_call 56; (with_reducible refine (isNames_any x.names _ p1).mono ?_); rintro e w2 ⟨rfl, n2, rfl⟩))
    go_ret
    exact ⟨ret_bool (by rw [Hf.out, decide_eq_true C5.out]), (by with_reducible repeat (first | exact Only.refl _ _ | assumption | refine Only.drewN ?_ _ | refine Only.drew ?_ | refine Only.alloc ?_ _ | refine Only.setCell ?_ (by intro hh; exfalso; simp at hh; try omega) _ | refine Only.trans ?_ (by assumption)))⟩
  · have d5 : ((x.names.size : Int) == (x.moves.length : Int)) = false := by rw [beq_eq_false_iff_ne]; omega
    have C5 := Lib.hid c5; clear c5
    go_enter Try.func36, Try.ntmps36
    go_wp2_with (first | (go_at_call 55; (with_reducible refine (HG.out _ (by with_reducible repeat (first | exact Only.refl _ _ | assumption | refine Only.drewN ?_ _ | refine Only.drew ?_ | refine Only.alloc ?_ _ | refine Only.setCell ?_ (by intro hh; exfalso; simp at hh; try omega) _ | refine Only.trans ?_ (by assumption)))).mono ?_); rintro e w1 ⟨rfl, t1⟩; have y1 := t1.cells_eq w.heap.size (by simp) (by simp)) | (go_at_call 56; (with_reducible refine (isNames_any x.names _ p1).mono ?_); rintro e w2 ⟨rfl, n2, rfl⟩))
    go_ret
    exact ⟨ret_bool (by rw [Hf.out, decide_eq_false C5.out]), (by with_reducible repeat (first | exact Only.refl _ _ | assumption | refine Only.drewN ?_ _ | refine Only.drew ?_ | refine Only.alloc ?_ _ | refine Only.setCell ?_ (by intro hh; exfalso; simp at hh; try omega) _ | refine Only.trans ?_ (by assumption)))⟩
end Go.Proofs.Ytpkplmnpepkdaaa

namespace Go.Proofs.Ytpkplmnpepkdaaa
open Go.RowKit
set_option maxRecDepth 10000

set_option maxHeartbeats 400000 in
theorem equalInts_any (a a' : Option Addr) (cap cap' : Nat) (l l' : List Int) (fp fp' : List Nat) (w : World) (h : IntsA w a cap l fp) (h' : IntsA w a' cap' l' fp') :
    Calls Try.prog 30 #[.slice a l.length cap, .slice a' l'.length cap'] w fun e w' => e = .returned (.bool (eqV l l')) ∧ Drew w w' := by
  have hb := h.bound
  have hb' := h'.bound
  by_cases hl : l.length = l'.length
  · have hne : ((l.length : Int) != (l'.length : Int)) = false := by simp [hl]
    have Hl := Lib.hid hl; clear hl
    go_enter Try.func30, Try.ntmps30
    go_wp2
    go_loopw [5] (fun i wr => ∃ j : Nat, j ≤ l.length ∧ i = .int .i64 j ∧ l.take j = l'.take j ∧ Drew w wr)
      (fun i _ => l.length - (intOf i).toNat)
    case atStart => exact ⟨0, Nat.zero_le _, rfl, rfl, Drew.refl _⟩
    case round =>
      obtain ⟨j, hj, rfl, hr, n, rfl⟩ := hrel
      have Hr := Lib.hid hr; clear hr
      by_cases hlt : j < l.length
      · have hlt' : j < l'.length := by have := Hl.out; omega
        obtain ⟨b, off, ha, -, hc⟩ := h.at_ j hlt
        obtain ⟨b', off', ha', -, hc'⟩ := h'.at_ j hlt'
        go_wp2
        go_quiet (fail)
        go_wp2
        · have hne : (l[j] != l'[j]) = true := by assumption
          go_ret
          exact ⟨ret_bool (eqInts_no hlt hlt' hne).symm, ((Drew.refl _).drewN _).drewN _⟩
        · have heq : (l[j] != l'[j]) = false := by assumption
          go_roundw
          case rel => exact ⟨j + 1, by omega, by go_num, eqInts_step hlt hlt' heq Hr.out, ⟨_, rfl⟩⟩
          case measure => simp [intOf]; omega
      · go_wp2
        go_ret
        exact ⟨ret_bool (eqL_yes Hl.out hlt Hr.out).symm, (Drew.refl _).drewN n⟩
  · have hne : ((l.length : Int) != (l'.length : Int)) = true := by simp; omega
    go_enter Try.func30, Try.ntmps30
    go_wp2
    go_ret
    exact ⟨ret_bool (eqL_len hne).symm, Drew.refl _⟩

theorem equalInts_rd (v v' : Value) (l l' : List Int) (fp fp' : List Nat) (w : World) (h : Rd w v l fp) (h' : Rd w v' l' fp') :
    Calls Try.prog 30 #[v, v'] w fun e w' => e = .returned (.bool (eqV l l')) ∧ Drew w w' := by
  obtain ⟨a, cap, rfl, hI⟩ := h.ints
  obtain ⟨a', cap', rfl, hI'⟩ := h'.ints
  exact equalInts_any a a' cap cap' l l' fp fp' w hI hI'

set_option maxHeartbeats 400000 in
theorem Equal_any (a a' : Option Addr) (cap cap' : Nat) (l l' : List Int) (fp fp' : List Nat) (w : World) (h : IntsA w a cap l fp) (h' : IntsA w a' cap' l' fp') :
    Calls Try.prog 63 #[.slice a l.length cap, .slice a' l'.length cap'] w fun e w' => e = .returned (.bool (eqV l l')) ∧ Drew w w' := by
  have hb := h.bound
  have hb' := h'.bound
  by_cases hl : l.length = l'.length
  · have hne : ((l.length : Int) != (l'.length : Int)) = false := by simp [hl]
    have Hl := Lib.hid hl; clear hl
    go_enter Try.func63, Try.ntmps63
    go_wp2
    go_loopw [5, 13] (fun _ i wr => ∃ j : Nat, j ≤ l.length ∧ i = .int .i64 j ∧ l.take j = l'.take j ∧ Drew w wr)
      (fun _ i _ => l.length - (intOf i).toNat)
    case atStart => exact ⟨0, Nat.zero_le _, rfl, rfl, Drew.refl _⟩
    case round =>
      obtain ⟨j, hj, rfl, hr, n, rfl⟩ := hrel
      have Hr := Lib.hid hr; clear hr
      by_cases hlt : j < l.length
      · have hlt' : j < l'.length := by have := Hl.out; omega
        obtain ⟨b, off, ha, -, hc⟩ := h.at_ j hlt
        obtain ⟨b', off', ha', -, hc'⟩ := h'.at_ j hlt'
        go_wp2
        go_quiet (fail)
        go_wp2
        · have hne : (l[j] != l'[j]) = true := by assumption
          go_ret
          exact ⟨ret_bool (eqInts_no hlt hlt' hne).symm, ((Drew.refl _).drewN _).drewN _⟩
        · have heq : (l[j] != l'[j]) = false := by assumption
          go_roundw
          case rel => exact ⟨j + 1, by omega, by go_num, eqInts_step hlt hlt' heq Hr.out, ⟨_, rfl⟩⟩
          case measure => simp [intOf]; omega
      · go_wp2
        go_ret
        exact ⟨ret_bool (eqL_yes Hl.out hlt Hr.out).symm, (Drew.refl _).drewN n⟩
  · have hne : ((l.length : Int) != (l'.length : Int)) = true := by simp; omega
    go_enter Try.func63, Try.ntmps63
    go_wp2
    go_ret
    exact ⟨ret_bool (eqL_len hne).symm, Drew.refl _⟩

theorem Equal_rd (v v' : Value) (l l' : List Int) (fp fp' : List Nat) (w : World) (h : Rd w v l fp) (h' : Rd w v' l' fp') :
    Calls Try.prog 63 #[v, v'] w fun e w' => e = .returned (.bool (eqV l l')) ∧ Drew w w' := by
  obtain ⟨a, cap, rfl, hI⟩ := h.ints
  obtain ⟨a', cap', rfl, hI'⟩ := h'.ints
  exact Equal_any a a' cap cap' l l' fp fp' w hI hI'


end Go.Proofs.Ytpkplmnpepkdaaa


namespace Go.Proofs.Ytpkplmnpepkdaaa
open Go.RowKit
set_option maxRecDepth 10000

/-- a strictly increasing list of points of n -/
def Inc (n : Int) (l : List Int) : Prop := (∀ x ∈ l, 0 ≤ x ∧ x < n) ∧ l.Pairwise (· < ·)
instance (n : Int) (l : List Int) : Decidable (Inc n l) := inferInstanceAs (Decidable (_ ∧ _))
/-- distinct points of n -/
def Dis (n : Int) (l : List Int) : Prop := (∀ x ∈ l, 0 ≤ x ∧ x < n) ∧ l.Nodup
instance (n : Int) (l : List Int) : Decidable (Dis n l) := inferInstanceAs (Decidable (_ ∧ _))
def trackB (n : Int) (l : List Int) : Bool := decide (0 < l.length) && decide (Inc n l)
def patB (n : Int) (k : Nat) (l : List Int) : Bool := decide (l.length = k) && decide (Dis n l)
theorem pw_take_step {l : List Int} {j : Nat} (h : j < l.length) (h1 : (l.take j).Pairwise (· < ·)) (h2 : ∀ i (hi : i + 1 = j), l[i]'(by omega) < l[j]) : (l.take (j + 1)).Pairwise (· < ·) := by
  rw [take_succ_get l j h]
  refine List.pairwise_append.2 ⟨h1, by simp, fun a ha b hb => ?_⟩
  simp at hb; subst hb
  rcases Nat.eq_zero_or_pos j with h0 | h0
  · subst h0; simp at ha
  · obtain ⟨i, rfl⟩ : ∃ i, j = i + 1 := ⟨j - 1, by omega⟩
    have hi : i < l.length := by omega
    have h3 := h2 i rfl
    obtain ⟨k, hk, rfl⟩ := List.mem_take_iff_getElem.1 ha
    rcases Nat.lt_or_ge k i with hki | hki
    · rw [take_succ_get l i hi] at h1
      have := (List.pairwise_append.1 h1).2.2 l[k] (List.mem_take_iff_getElem.2 ⟨k, by omega, rfl⟩) l[i] (by simp)
      omega
    · have : k = i := by omega
      subst this; exact h3
theorem pw_take_not {l : List Int} {i : Nat} (h : i + 1 < l.length) (h2 : ¬ l[i] < l[i + 1]) : ¬ l.Pairwise (· < ·) := by
  intro hp
  exact h2 (List.pairwise_iff_getElem.1 hp i (i + 1) (by omega) h (by omega))
theorem inc_ge {l : List Int} (h0 : ∀ x ∈ l, 0 ≤ x) (hp : l.Pairwise (· < ·)) : ∀ k (hk : k < l.length), (k : Int) ≤ l[k] := by
  intro k
  induction k with
  | zero => intro hk; have := h0 _ (List.getElem_mem hk); omega
  | succ k ih =>
    intro hk
    have h1 := ih (by omega)
    have h2 := List.pairwise_iff_getElem.1 hp k (k + 1) (by omega) hk (by omega)
    omega
theorem Inc.len {n : Int} {l : List Int} (h : Inc n l) : (l.length : Int) ≤ n ∨ l.length = 0 := by
  rcases Nat.eq_zero_or_pos l.length with h0 | h0
  · exact .inr h0
  · left
    have h1 := inc_ge (fun x hx => (h.1 x hx).1) h.2 (l.length - 1) (by omega)
    have h2 := (h.1 l[l.length - 1] (List.getElem_mem _)).2
    omega
theorem pw_nodup {l : List Int} (h : l.Pairwise (· < ·)) : l.Nodup := by
  rw [List.nodup_iff_pairwise_ne]
  exact h.imp fun h => Int.ne_of_lt h
theorem Inc.dis {n : Int} {l : List Int} (h : Inc n l) : Dis n l := ⟨h.1, pw_nodup h.2⟩
theorem trackB_iff {n : Int} {l : List Int} : trackB n l = true ↔ 0 < l.length ∧ Inc n l := by simp [trackB]
theorem patB_iff {n : Int} {k : Nat} {l : List Int} : patB n k l = true ↔ l.length = k ∧ Dis n l := by simp [patB]
theorem trackB_no {n : Int} {l : List Int} (h : ¬ Inc n l) : trackB n l = false := by simp [trackB, h]
theorem patB_no {n : Int} {k : Nat} {l : List Int} (h : ¬ Dis n l) : patB n k l = false := by simp [patB, h]
theorem trackB_pat {n : Int} {l : List Int} (h : trackB n l = true) : patB n l.length l = true := patB_iff.2 ⟨rfl, (trackB_iff.1 h).2.dis⟩
theorem wrap64_pred (i : Nat) (h : i < 9223372036854775807) : wrap64 (((i + 1 : Nat) : Int) - 1) = (i : Int) := by unfold wrap64; omega

set_option maxHeartbeats 1000000 in
theorem isPointList_any (n : Int) (a : Option Addr) (cap : Nat) (l : List Int) (fp : List Nat) (w : World) (h : IntsA w a cap l fp) (n0 : 0 ≤ n) (n1 : n ≤ 1000) :
    Calls Try.prog 17 #[.int .i64 n, .slice a l.length cap] w fun e w' => e = .returned (.bool (trackB n l)) ∧ Drew w w' := by
  have hb := h.bound
  rcases hq : inR l.length 1 n
  · go_enter Try.func17, Try.ntmps17
    go_wp2_with ((go_at_call 18; (with_reducible refine (inRange_any l.length 1 n _).mono ?_); rintro e w1 ⟨rfl, rfl⟩))
    go_ret
    exact ⟨ret_bool (by
      rw [eq_comm, ← Bool.not_eq_true, trackB_iff]; rintro ⟨h0, h1⟩
      rw [inR_not] at hq; have := h1.len; omega), Drew.refl _⟩
  obtain ⟨g1, g2⟩ := inR_iff.1 hq
  have hfin : trackB n l = decide (Inc n l) := by unfold trackB; rw [decide_eq_true (by omega)]; rfl
  have Hfin := Lib.hid hfin; clear hfin
  go_enter Try.func17, Try.ntmps17
  go_wp2_with ((go_at_call 18; (with_reducible refine (inRange_any l.length 1 n _).mono ?_); rintro e w ⟨rfl, rfl⟩))
  go_loopw [5] (fun i wr => ∃ j : Nat, j ≤ l.length ∧ i = .int .i64 j ∧ (∀ x ∈ l.take j, 0 ≤ x ∧ x < n) ∧ (l.take j).Pairwise (· < ·) ∧ Drew w wr)
    (fun i _ => l.length - (intOf i).toNat)
  case atStart => exact ⟨0, Nat.zero_le _, rfl, by simp, by simp, Drew.refl _⟩
  case round =>
    obtain ⟨j, hj, rfl, hr, hn, k, rfl⟩ := hrel
    have Hr := Lib.hid hr; clear hr
    have Hn := Lib.hid hn; clear hn
    by_cases hlt : j < l.length
    · rcases c1 : inR l[j] 0 (n - 1)
      · obtain ⟨b, off, rfl, -, hc⟩ := h.at_ j hlt
        go_wp2
        go_quiet ((go_at_call 18; exact quiet_drewN (inRange_q l[j] 0 (n - 1) _)))
        go_wp2
        go_ret
        exact ⟨ret_bool (by rw [Hfin.out, eq_comm, decide_eq_false_iff_not]; intro hp; have := hp.1 l[j] (List.getElem_mem _); rw [inR_not] at c1; omega), ((Drew.refl _).drewN _).drewN _⟩
      have hx := inR_iff.1 c1
      have Hx := Lib.hid hx; clear hx
      rcases Nat.eq_zero_or_pos j with hj0 | hj0
      · subst hj0
        obtain ⟨b, off, rfl, -, hc⟩ := h.at_ 0 hlt
        rw [Nat.add_zero] at hc
        go_wp2
        go_quiet ((go_at_call 18; exact quiet_drewN (inRange_q l[0] 0 (n - 1) _)))
        go_wp2
        go_roundw
        case rel => exact ⟨1, by omega, by go_num, mem_take_step hlt Hr.out (by have := Hx.out; omega), pw_take_step hlt Hn.out (by intro i hi; omega), ⟨_, rfl⟩⟩
        case measure => simp [intOf]; omega
      · obtain ⟨i, rfl⟩ : ∃ i, j = i + 1 := ⟨j - 1, by omega⟩
        have hi : i < l.length := by omega
        have hw := wrap64_pred i (by omega)
        have hgt : decide ((((i + 1 : Nat) : Int)) > 0) = true := decide_eq_true (by omega)
        obtain ⟨b, off, rfl, -, hc⟩ := h.at_ (i + 1) hlt
        obtain ⟨b2, off2, he, -, hc2⟩ := h.at_ i hi
        obtain ⟨rfl, rfl⟩ : b = b2 ∧ off = off2 := by simpa using he
        by_cases c2 : l[i + 1] ≤ l[i]
        · have d2 : decide (l[i + 1] ≤ l[i]) = true := decide_eq_true c2
          have C2 := Lib.hid c2; clear c2
          go_wp2
          go_quiet ((go_at_call 18; exact quiet_drewN (inRange_q l[i + 1] 0 (n - 1) _)))
          go_wp2
          go_ret
          exact ⟨ret_bool (by rw [Hfin.out, eq_comm, decide_eq_false_iff_not]; intro hp; exact pw_take_not hlt (by have := C2.out; omega) hp.2), ((Drew.refl _).drewN _).drewN _⟩
        · have d2 : decide (l[i + 1] ≤ l[i]) = false := decide_eq_false c2
          have C2 := Lib.hid c2; clear c2
          go_wp2
          go_quiet ((go_at_call 18; exact quiet_drewN (inRange_q l[i + 1] 0 (n - 1) _)))
          go_wp2
          go_roundw
          case rel => exact ⟨i + 2, by omega, by go_num, mem_take_step hlt Hr.out (by have := Hx.out; omega), pw_take_step hlt Hn.out (by
            intro q hq; have : q = i := (by omega); subst this; have := C2.out; omega), ⟨_, rfl⟩⟩
          case measure => simp [intOf]; omega
    · go_wp2
      go_ret
      exact ⟨ret_bool (by rw [Hfin.out, eq_comm, decide_eq_true_iff]; have h1 := Hr.out; have h2 := Hn.out; rw [List.take_of_length_le (by omega)] at h1 h2; exact ⟨h1, h2⟩), ⟨_, rfl⟩⟩
theorem isPointList_rd (n : Int) (v : Value) (l : List Int) (fp : List Nat) (w : World) (h : Rd w v l fp) (n0 : 0 ≤ n) (n1 : n ≤ 1000) :
    Calls Try.prog 17 #[.int .i64 n, v] w fun e w' => e = .returned (.bool (trackB n l)) ∧ Drew w w' := by
  obtain ⟨a, cap, rfl, hI⟩ := h.ints
  exact isPointList_any n a cap l fp w hI n0 n1
set_option maxHeartbeats 1000000 in
theorem isDistinctList_any (n : Int) (a : Option Addr) (cap : Nat) (l : List Int) (m : Nat) (fp : List Nat) (w : World) (h : IntsA w a cap l fp) (n0 : 0 ≤ n) (n1 : n ≤ 1000) (hm : m ≤ 9223372036854775807) :
    Calls Try.prog 19 #[.int .i64 n, .slice a l.length cap, .int .i64 m] w fun e w' => e = .returned (.bool (patB n m l)) ∧ Drew w w' := by
  have hb := h.bound
  by_cases hq : l.length = m
  · subst hq
    have hfin : patB n l.length l = decide (Dis n l) := by unfold patB; rw [decide_eq_true rfl]; rfl
    have Hfin := Lib.hid hfin; clear hfin
    go_enter Try.func19, Try.ntmps19
    go_wp2
    go_loopw [7] (fun i wr => ∃ j : Nat, j ≤ l.length ∧ i = .int .i64 j ∧ (∀ x ∈ l.take j, 0 ≤ x ∧ x < n) ∧ (l.take j).Nodup ∧ Drew w wr)
      (fun i _ => l.length - (intOf i).toNat)
    case atStart => exact ⟨0, Nat.zero_le _, rfl, by simp, by simp, Drew.refl _⟩
    case round =>
      obtain ⟨j, hj, rfl, hr, hn, k, rfl⟩ := hrel
      have Hr := Lib.hid hr; clear hr
      have Hn := Lib.hid hn; clear hn
      by_cases hlt : j < l.length
      · obtain ⟨b, off, rfl, -, hc⟩ := h.at_ j hlt
        have hcap := h.len
        have hi1 : (0 : Int) ≤ (j : Int) := by omega
        have hi2 : (j : Int) < (l.length : Int) := by omega
        rcases c1 : inR l[j] 0 (n - 1)
        · go_wp2
          go_quiet ((go_at_call 18; exact quiet_drewN (inRange_q l[j] 0 (n - 1) _)))
          go_wp2
          go_ret
          exact ⟨ret_bool (by rw [Hfin.out, eq_comm, decide_eq_false_iff_not]; intro hp; have := hp.1 l[j] (List.getElem_mem _); rw [inR_not] at c1; omega), ((Drew.refl _).drewN _).drewN _⟩
        have hx := inR_iff.1 c1
        have Hx := Lib.hid hx; clear hx
        rcases c2 : decide (l[j] ∈ l.take j)
        all_goals go_wp2
        all_goals go_quiet (first
          | (go_at_call 18; exact quiet_drewN (inRange_q l[j] 0 (n - 1) _))
          | (go_at_call 29; exact quiet_drewN (containsInt_pre (some ⟨b, off, none⟩) cap l j l[j] fp _ (h.keep (Only.ofDrewN _ _ _)) hj)))
        · have C2 := Lib.hid (of_decide_eq_false c2); clear c2
          go_wp2
          go_roundw
          case rel => exact ⟨j + 1, by omega, by go_num, mem_take_step hlt Hr.out (by have := Hx.out; omega), nodup_take_step hlt Hn.out C2.out, ⟨_, rfl⟩⟩
          case measure => simp [intOf]; omega
        · have C2 := Lib.hid (of_decide_eq_true c2); clear c2
          go_wp2
          go_ret
          exact ⟨ret_bool (by rw [Hfin.out, eq_comm, decide_eq_false_iff_not]; intro hp; exact nodup_take_not hlt C2.out hp.2), ((Drew.refl _).drewN _).drewN _⟩
      · go_wp2
        go_ret
        exact ⟨ret_bool (by rw [Hfin.out, eq_comm, decide_eq_true_iff]; have h1 := Hr.out; have h2 := Hn.out; rw [List.take_of_length_le (by omega)] at h1 h2; exact ⟨h1, h2⟩), ⟨_, rfl⟩⟩
  · have d1 : ((l.length : Int) != (m : Int)) = true := by simp only [bne_iff_ne, ne_eq]; omega
    have Hq := Lib.hid hq; clear hq
    go_enter Try.func19, Try.ntmps19
    go_wp2
    go_ret
    exact ⟨ret_bool (by unfold patB; rw [decide_eq_false Hq.out]; rfl), Drew.refl _⟩
theorem isDistinctList_rd (n : Int) (v : Value) (l : List Int) (m : Nat) (fp : List Nat) (w : World) (h : Rd w v l fp) (n0 : 0 ≤ n) (n1 : n ≤ 1000) (hm : m ≤ 9223372036854775807) :
    Calls Try.prog 19 #[.int .i64 n, v, .int .i64 m] w fun e w' => e = .returned (.bool (patB n m l)) ∧ Drew w w' := by
  obtain ⟨a, cap, rfl, hI⟩ := h.ints
  exact isDistinctList_any n a cap l m fp w hI n0 n1 hm
theorem isPoint_q (n x : Int) (w : World) (n0 : 0 ≤ n) (n1 : n ≤ 1000) :
    Calls Try.prog 59 #[.int .i64 n, .int .i64 x] w fun e w' => e = .returned (.bool (inR x 0 (n - 1))) ∧ Drew w w' := by
  go_enter Try.func59, Try.ntmps59
  go_wp2_with ((go_at_call 57; (with_reducible refine (within_any x 0 (n - 1) _).mono ?_); rintro e w1 ⟨rfl, rfl⟩))
  go_ret
  exact ⟨rfl, Drew.refl _⟩
set_option maxHeartbeats 1000000 in
theorem isTracked_any (n : Int) (a : Option Addr) (cap : Nat) (l : List Int) (fp : List Nat) (w : World) (h : IntsA w a cap l fp) (n0 : 0 ≤ n) (n1 : n ≤ 1000) :
    Calls Try.prog 38 #[.int .i64 n, .slice a l.length cap] w fun e w' => e = .returned (.bool (trackB n l)) ∧ Drew w w' := by
  have hb := h.bound
  go_enter Try.func38, Try.ntmps38
  go_wp2
  go_loopw [9] (fun i wr => ∃ j : Nat, j ≤ l.length ∧ i = .int .i64 j ∧ (∀ x ∈ l.take j, 0 ≤ x ∧ x < n) ∧ (l.take j).Pairwise (· < ·) ∧ Drew w wr)
    (fun i _ => l.length - (intOf i).toNat)
  case atStart => exact ⟨0, Nat.zero_le _, rfl, by simp, by simp, Drew.refl _⟩
  case round =>
    obtain ⟨j, hj, rfl, hr, hn, k, rfl⟩ := hrel
    have Hr := Lib.hid hr; clear hr
    have Hn := Lib.hid hn; clear hn
    by_cases hlt : j < l.length
    · rcases c1 : inR l[j] 0 (n - 1)
      · obtain ⟨b, off, rfl, -, hc⟩ := h.at_ j hlt
        go_wp2_with ((go_at_call 59; (with_reducible refine (isPoint_q n l[j] _ n0 n1).mono ?_); rintro e w1 ⟨rfl, m, rfl⟩))
        go_ret
        exact ⟨ret_bool (by rw [eq_comm]; exact trackB_no fun hp => by have := hp.1 l[j] (List.getElem_mem _); rw [inR_not] at c1; omega), ⟨_, rfl⟩⟩
      have hx := inR_iff.1 c1
      have Hx := Lib.hid hx; clear hx
      rcases Nat.eq_zero_or_pos j with hj0 | hj0
      · subst hj0
        obtain ⟨b, off, rfl, -, hc⟩ := h.at_ 0 hlt
        rw [Nat.add_zero] at hc
        go_wp2_with ((go_at_call 59; (with_reducible refine (isPoint_q n l[0] _ n0 n1).mono ?_); rintro e w1 ⟨rfl, m, rfl⟩))
        go_roundw
        case rel => exact ⟨1, by omega, by go_num, mem_take_step hlt Hr.out (by have := Hx.out; omega), pw_take_step hlt Hn.out (by intro i hi; omega), ⟨_, rfl⟩⟩
        case measure => simp [intOf]; omega
      · obtain ⟨i, rfl⟩ : ∃ i, j = i + 1 := ⟨j - 1, by omega⟩
        have hi : i < l.length := by omega
        have hw := wrap64_pred i (by omega)
        have hgt : decide ((((i + 1 : Nat) : Int)) > 0) = true := decide_eq_true (by omega)
        obtain ⟨b, off, rfl, -, hc⟩ := h.at_ (i + 1) hlt
        obtain ⟨b2, off2, he, -, hc2⟩ := h.at_ i hi
        obtain ⟨rfl, rfl⟩ : b = b2 ∧ off = off2 := by simpa using he
        by_cases c2 : l[i + 1] ≤ l[i]
        · have d2 : decide (l[i] ≥ l[i + 1]) = true := decide_eq_true c2
          have C2 := Lib.hid c2; clear c2
          go_wp2_with ((go_at_call 59; (with_reducible refine (isPoint_q n l[i + 1] _ n0 n1).mono ?_); rintro e w1 ⟨rfl, m, rfl⟩))
          go_ret
          exact ⟨ret_bool (by rw [eq_comm]; exact trackB_no fun hp => pw_take_not hlt (by have := C2.out; omega) hp.2), ⟨_, rfl⟩⟩
        · have d2 : decide (l[i] ≥ l[i + 1]) = false := decide_eq_false c2
          have C2 := Lib.hid c2; clear c2
          go_wp2_with ((go_at_call 59; (with_reducible refine (isPoint_q n l[i + 1] _ n0 n1).mono ?_); rintro e w1 ⟨rfl, m, rfl⟩))
          go_roundw
          case rel => exact ⟨i + 2, by omega, by go_num, mem_take_step hlt Hr.out (by have := Hx.out; omega), pw_take_step hlt Hn.out (by
            intro q hq; have : q = i := (by omega); subst this; have := C2.out; omega), ⟨_, rfl⟩⟩
          case measure => simp [intOf]; omega
    · go_wp2
      go_ret
      refine ⟨ret_bool ?_, ⟨_, rfl⟩⟩
      have h1 := Hr.out; have h2 := Hn.out; rw [List.take_of_length_le (by omega)] at h1 h2
      unfold trackB
      rw [decide_eq_true (show Inc n l from ⟨h1, h2⟩)]; simp
theorem isTracked_rd (n : Int) (v : Value) (l : List Int) (fp : List Nat) (w : World) (h : Rd w v l fp) (n0 : 0 ≤ n) (n1 : n ≤ 1000) :
    Calls Try.prog 38 #[.int .i64 n, v] w fun e w' => e = .returned (.bool (trackB n l)) ∧ Drew w w' := by
  obtain ⟨a, cap, rfl, hI⟩ := h.ints
  exact isTracked_any n a cap l fp w hI n0 n1
set_option maxHeartbeats 400000 in
theorem Index_ints (a : Option Addr) (cap : Nat) (l : List Int) (n : Int) (fp : List Nat) (w : World) (h : IntsA w a cap l fp) :
    Calls Try.prog 81 #[.slice a l.length cap, .int .i64 n] w fun e w' => e = .returned (.int .i64 (idxF (fun x => decide (n = x)) l)) ∧ Drew w w' := by
  have hb := h.bound
  go_enter Try.func81, Try.ntmps81
  go_wp2
  go_loopw [5, 8] (fun i t wr => ∃ j : Nat, j ≤ l.length ∧ t = .int .i64 j ∧ (∀ x ∈ l.take j, decide (n = x) = false) ∧ Drew w wr)
    (fun _ t _ => l.length - (intOf t).toNat)
  case atStart => exact ⟨0, Nat.zero_le _, rfl, by simp, Drew.refl _⟩
  case round =>
    obtain ⟨j, hj, rfl, hr, k, rfl⟩ := hrel
    have Hr := Lib.hid hr; clear hr
    by_cases hlt : j < l.length
    · obtain ⟨b, off, rfl, -, hc⟩ := h.at_ j hlt
      by_cases hx : n = l[j]
      · have hq : (n == l[j]) = true := by simp [hx]
        have Hx := Lib.hid hx; clear hx
        go_wp2
        go_ret
        exact ⟨ret_int (idxF_some hlt Hr.out (decide_eq_true Hx.out)).symm, ⟨_, rfl⟩⟩
      · have hq : (n == l[j]) = false := by simpa using hx
        have Hx := Lib.hid hx; clear hx
        go_wp2
        go_roundw
        case rel => exact ⟨j + 1, by omega, by go_num, mem_take_step hlt Hr.out (decide_eq_false Hx.out), ⟨_, rfl⟩⟩
        case measure => simp [intOf]; omega
    · go_wp2
      go_ret
      exact ⟨ret_int (idxF_none (by have := Hr.out; rwa [List.take_of_length_le (by omega)] at this)).symm, ⟨_, rfl⟩⟩
theorem any_eq_mem (l : List Int) (n : Int) : l.any (fun x => decide (n = x)) = decide (n ∈ l) := by
  rw [Bool.eq_iff_iff, List.any_eq_true, decide_eq_true_iff]
  constructor
  · rintro ⟨x, hx, he⟩; rw [of_decide_eq_true he]; exact hx
  · intro h; exact ⟨n, h, decide_eq_true rfl⟩
theorem Contains_ints (a : Option Addr) (cap : Nat) (l : List Int) (n : Int) (fp : List Nat) (w : World) (h : IntsA w a cap l fp) :
    Calls Try.prog 60 #[.slice a l.length cap, .int .i64 n] w fun e w' => e = .returned (.bool (decide (n ∈ l))) ∧ Drew w w' := by
  go_enter Try.func60, Try.ntmps60
  go_wp2_with ((go_at_call 81; (with_reducible refine (Index_ints a cap l n fp _ h).mono ?_); rintro e w1 ⟨rfl, m, rfl⟩))
  go_ret
  exact ⟨ret_bool ((idxF_ge).trans (any_eq_mem l n)), ⟨_, rfl⟩⟩
theorem Contains_pre (a : Option Addr) (cap : Nat) (l : List Int) (j : Nat) (n : Int) (fp : List Nat) (w : World) (h : IntsA w a cap l fp) (hj : j ≤ l.length) :
    Calls Try.prog 60 #[.slice a j cap, .int .i64 n] w fun e w' => e = .returned (.bool (decide (n ∈ l.take j))) ∧ Drew w w' := by
  have := Contains_ints a cap (l.take j) n fp w (h.take j)
  rwa [show (l.take j).length = j by simp; omega] at this
set_option maxHeartbeats 1000000 in
theorem isPattern_any (n : Int) (m : Nat) (a : Option Addr) (cap : Nat) (l : List Int) (fp : List Nat) (w : World) (h : IntsA w a cap l fp) (n0 : 0 ≤ n) (n1 : n ≤ 1000) (_ : m ≤ 9223372036854775807) :
    Calls Try.prog 40 #[.int .i64 n, .int .i64 m, .slice a l.length cap] w fun e w' => e = .returned (.bool (patB n m l)) ∧ Drew w w' := by
  have hb := h.bound
  go_enter Try.func40, Try.ntmps40
  go_wp2
  go_loopw [11] (fun i wr => ∃ j : Nat, j ≤ l.length ∧ i = .int .i64 j ∧ (∀ x ∈ l.take j, 0 ≤ x ∧ x < n) ∧ (l.take j).Nodup ∧ Drew w wr)
    (fun i _ => l.length - (intOf i).toNat)
  case atStart => exact ⟨0, Nat.zero_le _, rfl, by simp, by simp, Drew.refl _⟩
  case round =>
    obtain ⟨j, hj, rfl, hr, hn, k, rfl⟩ := hrel
    have Hr := Lib.hid hr; clear hr
    have Hn := Lib.hid hn; clear hn
    by_cases hlt : j < l.length
    · obtain ⟨b, off, rfl, -, hc⟩ := h.at_ j hlt
      have hcap := h.len
      have hi1 : (0 : Int) ≤ (j : Int) := by omega
      have hi2 : (j : Int) < (l.length : Int) := by omega
      rcases c1 : inR l[j] 0 (n - 1)
      · go_wp2_with ((go_at_call 59; (with_reducible refine (isPoint_q n l[j] _ n0 n1).mono ?_); rintro e w1 ⟨rfl, m, rfl⟩))
        go_ret
        exact ⟨ret_bool (by rw [eq_comm]; exact patB_no fun hp => by have := hp.1 l[j] (List.getElem_mem _); rw [inR_not] at c1; omega), ⟨_, rfl⟩⟩
      have hx := inR_iff.1 c1
      have Hx := Lib.hid hx; clear hx
      rcases c2 : decide (l[j] ∈ l.take j)
      all_goals go_wp2_with (first | (go_at_call 59; (with_reducible refine (isPoint_q n l[j] _ n0 n1).mono ?_); rintro e w1 ⟨rfl, m1, rfl⟩) | (go_at_call 60; (with_reducible refine (Contains_pre (some ⟨b, off, none⟩) cap l j l[j] fp _ (h.keep (by with_reducible repeat (first | exact Only.refl _ _ | assumption | refine Only.drewN ?_ _ | refine Only.drew ?_ | refine Only.alloc ?_ _ | refine Only.setCell ?_ (by intro hh; exfalso; simp at hh; try omega) _ | refine Only.trans ?_ (by assumption)))) hj).mono ?_); rintro e w1 ⟨rfl, m2, rfl⟩))
      · have C2 := Lib.hid (of_decide_eq_false c2); clear c2
        go_roundw
        case rel => exact ⟨j + 1, by omega, by go_num, mem_take_step hlt Hr.out (by have := Hx.out; omega), nodup_take_step hlt Hn.out C2.out, ⟨_, rfl⟩⟩
        case measure => simp [intOf]; omega
      · have C2 := Lib.hid (of_decide_eq_true c2); clear c2
        go_ret
        exact ⟨ret_bool (by rw [eq_comm]; exact patB_no fun hp => nodup_take_not hlt C2.out hp.2), ⟨_, rfl⟩⟩
    · go_wp2
      go_ret
      refine ⟨ret_bool ?_, ⟨_, rfl⟩⟩
      have h1 := Hr.out; have h2 := Hn.out; rw [List.take_of_length_le (by omega)] at h1 h2
      unfold patB
      rw [decide_eq_true (show Dis n l from ⟨h1, h2⟩)]
      by_cases he : l.length = m
      · simp [he]
      · have : ¬ ((l.length : Int) = (m : Int)) := by omega
        simp [he, this]
theorem isPattern_rd (n : Int) (m : Nat) (v : Value) (l : List Int) (fp : List Nat) (w : World) (h : Rd w v l fp) (n0 : 0 ≤ n) (n1 : n ≤ 1000) (hm : m ≤ 9223372036854775807) :
    Calls Try.prog 40 #[.int .i64 n, .int .i64 m, v] w fun e w' => e = .returned (.bool (patB n m l)) ∧ Drew w w' := by
  obtain ⟨a, cap, rfl, hI⟩ := h.ints
  exact isPattern_any n m a cap l fp w hI n0 n1 hm
def wfT (t : Table) : Bool := trackB 20 t.tracked && (inR t.patterns.length 1 3000 && (decide (t.distances.length = t.patterns.length) && (t.patterns.all (patB 20 t.tracked.length) && t.distances.all (fun d => inR d 0 3000))))
theorem wfT_iff {t : Table} : wfT t = true ↔ trackB 20 t.tracked = true ∧ (1 ≤ t.patterns.length ∧ t.patterns.length ≤ 3000) ∧ t.distances.length = t.patterns.length ∧ (∀ x ∈ t.patterns, patB 20 t.tracked.length x = true) ∧ (∀ d ∈ t.distances, inR d 0 3000 = true) := by
  simp [wfT, inR]; omega
theorem mem_take_stepR {l : List (List Int)} {j : Nat} (h : j < l.length) {P : List Int → Prop} (h1 : ∀ x ∈ l.take j, P x) (h2 : P l[j]) : ∀ x ∈ l.take (j + 1), P x := by
  rw [take_succ_get l j h]
  intro x hx
  rcases List.mem_append.1 hx with hx | hx
  · exact h1 x hx
  · simp at hx; subst hx; exact h2
set_option maxHeartbeats 2000000 in
theorem specWfTable_any (cs : List Value) (t : Table) (fp : List Nat) (w : World) (h : Rp.rep w cs t fp) :
    Calls Try.prog 8 #[.agg cs.toArray] w fun e w' => e = .returned (.bool (wfT t)) ∧ Only [] w w' := by
  obtain ⟨v0, v1, v2, f0, f1, f2, rfl, rfl, h0, h1, h2⟩ := h
  obtain ⟨A0, C0, rfl, I0⟩ := h0.ints
  obtain ⟨A1, C1, ob, fps, rfl, -, hs⟩ := h1.open_
  obtain ⟨A2, C2, rfl, I2⟩ := h2.ints
  have b0 := I0.bound
  have b1 := hs.bound
  have b2 := I2.bound
  rcases q0 : trackB 20 t.tracked
  · have hf : wfT t = false := by unfold wfT; rw [q0]; rfl
    have Hf := Lib.hid hf; clear hf
    go_enter Try.func8, Try.ntmps8
    go_wp2_with (first | (go_at_call 17; (with_reducible refine (isPointList_rd 20 _ t.tracked _ _ (Rp.keep h0 (by with_reducible repeat (first | exact Only.refl _ _ | assumption | refine Only.drewN ?_ _ | refine Only.drew ?_ | refine Only.alloc ?_ _ | refine Only.setCell ?_ (by intro hh; exfalso; simp at hh; try omega) _ | refine Only.trans ?_ (by assumption)))) (by omega) (by omega)).mono ?_); rintro e w1 ⟨rfl, m1, rfl⟩) | (go_at_call 18; (with_reducible refine (inRange_any t.patterns.length 1 3000 _).mono ?_); rintro e w1 ⟨rfl, rfl⟩))
    go_ret
    exact ⟨ret_bool Hf.out.symm, (by with_reducible repeat (first | exact Only.refl _ _ | assumption | refine Only.drewN ?_ _ | refine Only.drew ?_ | refine Only.alloc ?_ _ | refine Only.setCell ?_ (by intro hh; exfalso; simp at hh; try omega) _ | refine Only.trans ?_ (by assumption)))⟩
  rcases q1 : inR t.patterns.length 1 3000
  · have hf : wfT t = false := by unfold wfT; rw [q1]; simp
    have Hf := Lib.hid hf; clear hf
    go_enter Try.func8, Try.ntmps8
    go_wp2_with (first | (go_at_call 17; (with_reducible refine (isPointList_rd 20 _ t.tracked _ _ (Rp.keep h0 (by with_reducible repeat (first | exact Only.refl _ _ | assumption | refine Only.drewN ?_ _ | refine Only.drew ?_ | refine Only.alloc ?_ _ | refine Only.setCell ?_ (by intro hh; exfalso; simp at hh; try omega) _ | refine Only.trans ?_ (by assumption)))) (by omega) (by omega)).mono ?_); rintro e w1 ⟨rfl, m1, rfl⟩) | (go_at_call 18; (with_reducible refine (inRange_any t.patterns.length 1 3000 _).mono ?_); rintro e w1 ⟨rfl, rfl⟩))
    go_ret
    exact ⟨ret_bool Hf.out.symm, (by with_reducible repeat (first | exact Only.refl _ _ | assumption | refine Only.drewN ?_ _ | refine Only.drew ?_ | refine Only.alloc ?_ _ | refine Only.setCell ?_ (by intro hh; exfalso; simp at hh; try omega) _ | refine Only.trans ?_ (by assumption)))⟩
  by_cases q2 : t.distances.length = t.patterns.length
  · have d2 : ((t.distances.length : Int) != (t.patterns.length : Int)) = false := by simp [q2]
    have hf : wfT t = (t.patterns.all (patB 20 t.tracked.length) && t.distances.all (fun d => inR d 0 3000)) := by unfold wfT; rw [q0, q1, decide_eq_true q2]; rfl
    have Hf := Lib.hid hf; clear hf
    have Q2 := Lib.hid q2; clear q2
    go_enter Try.func8, Try.ntmps8
    go_wp2_with (first | (go_at_call 17; (with_reducible refine (isPointList_rd 20 _ t.tracked _ _ (Rp.keep h0 (by with_reducible repeat (first | exact Only.refl _ _ | assumption | refine Only.drewN ?_ _ | refine Only.drew ?_ | refine Only.alloc ?_ _ | refine Only.setCell ?_ (by intro hh; exfalso; simp at hh; try omega) _ | refine Only.trans ?_ (by assumption)))) (by omega) (by omega)).mono ?_); rintro e w1 ⟨rfl, m1, rfl⟩) | (go_at_call 18; (with_reducible refine (inRange_any t.patterns.length 1 3000 _).mono ?_); rintro e w1 ⟨rfl, rfl⟩))
    go_loopw [4] (fun i wr => ∃ j : Nat, j ≤ t.patterns.length ∧ i = .int .i64 j ∧ (∀ x ∈ t.patterns.take j, patB 20 t.tracked.length x = true) ∧ (∀ d ∈ t.distances.take j, inR d 0 3000 = true) ∧ Only [] (w.alloc (.cells #[.slice A0 t.tracked.length C0, .slice A1 t.patterns.length C1, .slice A2 t.distances.length C2] 29)) wr)
      (fun i _ => t.patterns.length - (intOf i).toNat)
    case atStart => exact ⟨0, Nat.zero_le _, rfl, by simp, by simp, (by with_reducible repeat (first | exact Only.refl _ _ | assumption | refine Only.drewN ?_ _ | refine Only.drew ?_ | refine Only.alloc ?_ _ | refine Only.setCell ?_ (by intro hh; exfalso; simp at hh; try omega) _ | refine Only.trans ?_ (by assumption)))⟩
    case round =>
      obtain ⟨j, hj, rfl, hr, hn, hK⟩ := hrel
      have hB := (Blk.new_at (w := w) (cs := [.slice A0 t.tracked.length C0, .slice A1 t.patterns.length C1, .slice A2 t.distances.length C2]) (t := 29) rfl).keep hK
      have hW := ((Only.refl [] w).alloc (.cells #[.slice A0 t.tracked.length C0, .slice A1 t.patterns.length C1, .slice A2 t.distances.length C2] 29)).trans hK
      have y0 := hB.cell 0 rfl
      have y1 := hB.cell 1 rfl
      have y2 := hB.cell 2 rfl
      clear hB
      have Hr := Lib.hid hr; clear hr
      have Hn := Lib.hid hn; clear hn
      by_cases hlt : j < t.patterns.length
      · have hlt2 : j < t.distances.length := by have := Q2.out; omega
        obtain ⟨b, off, v, rfl, -, hc, hv⟩ := hs.atRow j hlt
        obtain ⟨bd, offd, rfl, -, hcd⟩ := I2.at_ j hlt2
        replace hc := hW.cell (by simp) hc
        replace hcd := hW.cell (by simp) hcd
        replace hv := Rp.keep hv hW
        rcases c1 : patB 20 t.tracked.length t.patterns[j]
        · go_wp2
          go_quiet (first | (go_at_call 19; exact quiet_drewN0 (isDistinctList_rd 20 v t.patterns[j] t.tracked.length _ _ (Rp.keep hv (Only.ofDrewN _ _ _)) (by omega) (by omega) b0)))
          go_wp2
          go_ret
          exact ⟨ret_bool (by rw [Hf.out, eq_comm, Bool.and_eq_false_iff]; left; rw [List.all_eq_false]; exact ⟨t.patterns[j], List.getElem_mem _, by simp [c1]⟩), (by with_reducible repeat (first | exact Only.refl _ _ | assumption | refine Only.drewN ?_ _ | refine Only.drew ?_ | refine Only.alloc ?_ _ | refine Only.setCell ?_ (by intro hh; exfalso; simp at hh; try omega) _ | refine Only.trans ?_ (by assumption)))⟩
        rcases c2 : inR t.distances[j] 0 3000
        all_goals go_wp2
        all_goals go_quiet (first
          | (go_at_call 19; exact quiet_drewN0 (isDistinctList_rd 20 v t.patterns[j] t.tracked.length _ _ (Rp.keep hv (Only.ofDrewN _ _ _)) (by omega) (by omega) b0))
          | (go_at_call 18; exact quiet_drewN0 (inRange_q t.distances[j] 0 3000 _)))
        · go_wp2
          go_ret
          exact ⟨ret_bool (by rw [Hf.out, eq_comm, Bool.and_eq_false_iff]; right; rw [List.all_eq_false]; exact ⟨t.distances[j], List.getElem_mem _, by simp [c2]⟩), (by with_reducible repeat (first | exact Only.refl _ _ | assumption | refine Only.drewN ?_ _ | refine Only.drew ?_ | refine Only.alloc ?_ _ | refine Only.setCell ?_ (by intro hh; exfalso; simp at hh; try omega) _ | refine Only.trans ?_ (by assumption)))⟩
        · go_wp2
          go_roundw
          case rel => exact ⟨j + 1, by omega, by go_num, mem_take_stepR hlt Hr.out c1, mem_take_step hlt2 Hn.out c2, (by with_reducible repeat (first | exact Only.refl _ _ | assumption | refine Only.drewN ?_ _ | refine Only.drew ?_ | refine Only.alloc ?_ _ | refine Only.setCell ?_ (by intro hh; exfalso; simp at hh; try omega) _ | refine Only.trans ?_ (by assumption)))⟩
          case measure => simp [intOf]; omega
      · go_wp2
        go_ret
        refine ⟨ret_bool ?_, (by with_reducible repeat (first | exact Only.refl _ _ | assumption | refine Only.drewN ?_ _ | refine Only.drew ?_ | refine Only.alloc ?_ _ | refine Only.setCell ?_ (by intro hh; exfalso; simp at hh; try omega) _ | refine Only.trans ?_ (by assumption)))⟩
        have r1 := Hr.out; have r2 := Hn.out; rw [List.take_of_length_le (by have := Q2.out; omega)] at r1 r2
        rw [Hf.out, eq_comm, Bool.and_eq_true, List.all_eq_true, List.all_eq_true]; exact ⟨r1, r2⟩
  · have d2 : ((t.distances.length : Int) != (t.patterns.length : Int)) = true := by simp only [bne_iff_ne, ne_eq]; omega
    have hf : wfT t = false := by unfold wfT; rw [decide_eq_false q2]; simp
    have Hf := Lib.hid hf; clear hf
    have Q2 := Lib.hid q2; clear q2
    go_enter Try.func8, Try.ntmps8
    go_wp2_with (first | (go_at_call 17; (with_reducible refine (isPointList_rd 20 _ t.tracked _ _ (Rp.keep h0 (by with_reducible repeat (first | exact Only.refl _ _ | assumption | refine Only.drewN ?_ _ | refine Only.drew ?_ | refine Only.alloc ?_ _ | refine Only.setCell ?_ (by intro hh; exfalso; simp at hh; try omega) _ | refine Only.trans ?_ (by assumption)))) (by omega) (by omega)).mono ?_); rintro e w1 ⟨rfl, m1, rfl⟩) | (go_at_call 18; (with_reducible refine (inRange_any t.patterns.length 1 3000 _).mono ?_); rintro e w1 ⟨rfl, rfl⟩))
    go_ret
    exact ⟨ret_bool Hf.out.symm, (by with_reducible repeat (first | exact Only.refl _ _ | assumption | refine Only.drewN ?_ _ | refine Only.drew ?_ | refine Only.alloc ?_ _ | refine Only.setCell ?_ (by intro hh; exfalso; simp at hh; try omega) _ | refine Only.trans ?_ (by assumption)))⟩
set_option maxHeartbeats 2000000 in
theorem implWfTable_any (cs : List Value) (t : Table) (fp : List Nat) (w : World) (h : Rp.rep w cs t fp) :
    Calls Try.prog 37 #[.agg cs.toArray] w fun e w' => e = .returned (.bool (wfT t)) ∧ Only [] w w' := by
  obtain ⟨v0, v1, v2, f0, f1, f2, rfl, rfl, h0, h1, h2⟩ := h
  obtain ⟨A0, C0, rfl, I0⟩ := h0.ints
  obtain ⟨A1, C1, ob, fps, rfl, -, hs⟩ := h1.open_
  obtain ⟨A2, C2, rfl, I2⟩ := h2.ints
  have b0 := I0.bound
  have b1 := hs.bound
  have b2 := I2.bound
  rcases q0 : trackB 20 t.tracked
  · have hf : wfT t = false := by unfold wfT; rw [q0]; rfl
    have Hf := Lib.hid hf; clear hf
    go_enter Try.func37, Try.ntmps37
    go_wp2_with ((go_at_call 38; (with_reducible refine (isTracked_rd 20 _ t.tracked _ _ (Rp.keep h0 (by with_reducible repeat (first | exact Only.refl _ _ | assumption | refine Only.drewN ?_ _ | refine Only.drew ?_ | refine Only.alloc ?_ _ | refine Only.setCell ?_ (by intro hh; exfalso; simp at hh; try omega) _ | refine Only.trans ?_ (by assumption)))) (by omega) (by omega)).mono ?_); rintro e w1 ⟨rfl, m1, rfl⟩))
    go_ret
    exact ⟨ret_bool Hf.out.symm, (by with_reducible repeat (first | exact Only.refl _ _ | assumption | refine Only.drewN ?_ _ | refine Only.drew ?_ | refine Only.alloc ?_ _ | refine Only.setCell ?_ (by intro hh; exfalso; simp at hh; try omega) _ | refine Only.trans ?_ (by assumption)))⟩
  by_cases q2 : t.patterns.length = t.distances.length
  · have d2 : ((t.patterns.length : Int) != (t.distances.length : Int)) = false := by simp [q2]
    rcases q1 : inR t.patterns.length 1 3000
    · have hf : wfT t = false := by unfold wfT; rw [q1]; simp
      have Hf := Lib.hid hf; clear hf
      have Q2 := Lib.hid q2; clear q2
      go_enter Try.func37, Try.ntmps37
      go_wp2_with (first | (go_at_call 38; (with_reducible refine (isTracked_rd 20 _ t.tracked _ _ (Rp.keep h0 (by with_reducible repeat (first | exact Only.refl _ _ | assumption | refine Only.drewN ?_ _ | refine Only.drew ?_ | refine Only.alloc ?_ _ | refine Only.setCell ?_ (by intro hh; exfalso; simp at hh; try omega) _ | refine Only.trans ?_ (by assumption)))) (by omega) (by omega)).mono ?_); rintro e w1 ⟨rfl, m1, rfl⟩) | (go_at_call 58; (with_reducible refine (lengthRows_rd _ t.patterns _ _ (Rp.keep h1 (by with_reducible repeat (first | exact Only.refl _ _ | assumption | refine Only.drewN ?_ _ | refine Only.drew ?_ | refine Only.alloc ?_ _ | refine Only.setCell ?_ (by intro hh; exfalso; simp at hh; try omega) _ | refine Only.trans ?_ (by assumption))))).mono ?_); rintro e w1 ⟨rfl, rfl⟩) | (go_at_call 57; (with_reducible refine (within_any t.patterns.length 1 3000 _).mono ?_); rintro e w1 ⟨rfl, rfl⟩))
      go_ret
      exact ⟨ret_bool Hf.out.symm, (by with_reducible repeat (first | exact Only.refl _ _ | assumption | refine Only.drewN ?_ _ | refine Only.drew ?_ | refine Only.alloc ?_ _ | refine Only.setCell ?_ (by intro hh; exfalso; simp at hh; try omega) _ | refine Only.trans ?_ (by assumption)))⟩
    have hf : wfT t = (t.patterns.all (patB 20 t.tracked.length) && t.distances.all (fun d => inR d 0 3000)) := by unfold wfT; rw [q0, q1, decide_eq_true q2.symm]; rfl
    have Hf := Lib.hid hf; clear hf
    have Q2 := Lib.hid q2; clear q2
    go_enter Try.func37, Try.ntmps37
    go_wp2_with (first | (go_at_call 38; (with_reducible refine (isTracked_rd 20 _ t.tracked _ _ (Rp.keep h0 (by with_reducible repeat (first | exact Only.refl _ _ | assumption | refine Only.drewN ?_ _ | refine Only.drew ?_ | refine Only.alloc ?_ _ | refine Only.setCell ?_ (by intro hh; exfalso; simp at hh; try omega) _ | refine Only.trans ?_ (by assumption)))) (by omega) (by omega)).mono ?_); rintro e w1 ⟨rfl, m1, rfl⟩) | (go_at_call 58; (with_reducible refine (lengthRows_rd _ t.patterns _ _ (Rp.keep h1 (by with_reducible repeat (first | exact Only.refl _ _ | assumption | refine Only.drewN ?_ _ | refine Only.drew ?_ | refine Only.alloc ?_ _ | refine Only.setCell ?_ (by intro hh; exfalso; simp at hh; try omega) _ | refine Only.trans ?_ (by assumption))))).mono ?_); rintro e w1 ⟨rfl, rfl⟩) | (go_at_call 57; (with_reducible refine (within_any t.patterns.length 1 3000 _).mono ?_); rintro e w1 ⟨rfl, rfl⟩))
    go_loopw [28] (fun i wr => ∃ j : Nat, j ≤ t.patterns.length ∧ i = .int .i64 j ∧ (∀ x ∈ t.patterns.take j, patB 20 t.tracked.length x = true) ∧ (∀ d ∈ t.distances.take j, inR d 0 3000 = true) ∧ Drew (w.alloc (.cells #[.slice A0 t.tracked.length C0, .slice A1 t.patterns.length C1, .slice A2 t.distances.length C2] 29)) wr)
      (fun i _ => t.patterns.length - (intOf i).toNat)
    case atStart => exact ⟨0, Nat.zero_le _, rfl, by simp, by simp, ⟨_, rfl⟩⟩
    case round =>
      obtain ⟨j, hj, rfl, hr, hn, k, rfl⟩ := hrel
      have Hr := Lib.hid hr; clear hr
      have Hn := Lib.hid hn; clear hn
      by_cases hlt : j < t.patterns.length
      · have hlt2 : j < t.distances.length := by have := Q2.out; omega
        obtain ⟨b, off, v, rfl, -, hc, hv⟩ := hs.atRow j hlt
        obtain ⟨bd, offd, rfl, -, hcd⟩ := I2.at_ j hlt2
        have hcw := ((Only.refl [] w).alloc (.cells #[.slice A0 t.tracked.length C0, .slice (some ⟨b, off, none⟩) t.patterns.length C1, .slice (some ⟨bd, offd, none⟩) t.distances.length C2] 29)).cell (by simp) hc
        have hcdw := ((Only.refl [] w).alloc (.cells #[.slice A0 t.tracked.length C0, .slice (some ⟨b, off, none⟩) t.patterns.length C1, .slice (some ⟨bd, offd, none⟩) t.distances.length C2] 29)).cell (by simp) hcd
        rcases c1 : patB 20 t.tracked.length t.patterns[j]
        · go_wp2_with ((go_at_call 40; (with_reducible refine (isPattern_rd 20 t.tracked.length v t.patterns[j] _ _ (Rp.keep hv (by with_reducible repeat (first | exact Only.refl _ _ | assumption | refine Only.drewN ?_ _ | refine Only.drew ?_ | refine Only.alloc ?_ _ | refine Only.setCell ?_ (by intro hh; exfalso; simp at hh; try omega) _ | refine Only.trans ?_ (by assumption)))) (by omega) (by omega) b0).mono ?_); rintro e w1 ⟨rfl, m1, rfl⟩))
          go_ret
          exact ⟨ret_bool (by rw [Hf.out, eq_comm, Bool.and_eq_false_iff]; left; rw [List.all_eq_false]; exact ⟨t.patterns[j], List.getElem_mem _, by simp [c1]⟩), (by with_reducible repeat (first | exact Only.refl _ _ | assumption | refine Only.drewN ?_ _ | refine Only.drew ?_ | refine Only.alloc ?_ _ | refine Only.setCell ?_ (by intro hh; exfalso; simp at hh; try omega) _ | refine Only.trans ?_ (by assumption)))⟩
        rcases c2 : inR t.distances[j] 0 3000
        all_goals go_wp2_with (first | (go_at_call 40; (with_reducible refine (isPattern_rd 20 t.tracked.length v t.patterns[j] _ _ (Rp.keep hv (by with_reducible repeat (first | exact Only.refl _ _ | assumption | refine Only.drewN ?_ _ | refine Only.drew ?_ | refine Only.alloc ?_ _ | refine Only.setCell ?_ (by intro hh; exfalso; simp at hh; try omega) _ | refine Only.trans ?_ (by assumption)))) (by omega) (by omega) b0).mono ?_); rintro e w1 ⟨rfl, m1, rfl⟩) | (go_at_call 57; (with_reducible refine (within_any t.distances[j] 0 3000 _).mono ?_); rintro e w1 ⟨rfl, rfl⟩))
        · go_ret
          exact ⟨ret_bool (by rw [Hf.out, eq_comm, Bool.and_eq_false_iff]; right; rw [List.all_eq_false]; exact ⟨t.distances[j], List.getElem_mem _, by simp [c2]⟩), (by with_reducible repeat (first | exact Only.refl _ _ | assumption | refine Only.drewN ?_ _ | refine Only.drew ?_ | refine Only.alloc ?_ _ | refine Only.setCell ?_ (by intro hh; exfalso; simp at hh; try omega) _ | refine Only.trans ?_ (by assumption)))⟩
        · go_roundw
          case rel => exact ⟨j + 1, by omega, by go_num, mem_take_stepR hlt Hr.out c1, mem_take_step hlt2 Hn.out c2, ⟨_, rfl⟩⟩
          case measure => simp [intOf]; omega
      · go_wp2
        go_ret
        refine ⟨ret_bool ?_, (by with_reducible repeat (first | exact Only.refl _ _ | assumption | refine Only.drewN ?_ _ | refine Only.drew ?_ | refine Only.alloc ?_ _ | refine Only.setCell ?_ (by intro hh; exfalso; simp at hh; try omega) _ | refine Only.trans ?_ (by assumption)))⟩
        have r1 := Hr.out; have r2 := Hn.out; rw [List.take_of_length_le (by have := Q2.out; omega)] at r1 r2
        rw [Hf.out, eq_comm, Bool.and_eq_true, List.all_eq_true, List.all_eq_true]; exact ⟨r1, r2⟩
  · have d2 : ((t.patterns.length : Int) != (t.distances.length : Int)) = true := by simp only [bne_iff_ne, ne_eq]; omega
    have hf : wfT t = false := by unfold wfT; rw [decide_eq_false (fun e => q2 e.symm)]; simp
    have Hf := Lib.hid hf; clear hf
    have Q2 := Lib.hid q2; clear q2
    go_enter Try.func37, Try.ntmps37
    go_wp2_with ((go_at_call 38; (with_reducible refine (isTracked_rd 20 _ t.tracked _ _ (Rp.keep h0 (by with_reducible repeat (first | exact Only.refl _ _ | assumption | refine Only.drewN ?_ _ | refine Only.drew ?_ | refine Only.alloc ?_ _ | refine Only.setCell ?_ (by intro hh; exfalso; simp at hh; try omega) _ | refine Only.trans ?_ (by assumption)))) (by omega) (by omega)).mono ?_); rintro e w1 ⟨rfl, m1, rfl⟩))
    go_ret
    exact ⟨ret_bool Hf.out.symm, (by with_reducible repeat (first | exact Only.refl _ _ | assumption | refine Only.drewN ?_ _ | refine Only.drew ?_ | refine Only.alloc ?_ _ | refine Only.setCell ?_ (by intro hh; exfalso; simp at hh; try omega) _ | refine Only.trans ?_ (by assumption)))⟩
end Go.Proofs.Ytpkplmnpepkdaaa
