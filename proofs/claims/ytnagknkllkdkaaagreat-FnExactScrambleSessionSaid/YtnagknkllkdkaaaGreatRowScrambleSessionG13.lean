/- The reference's way down a chain: insertSorted, choicesAt, withEntry (laws 33, 47). The reference's choicesAt, withEntry, RandomMember (laws 33, 35, 47). ScrambleSession, of the reference and of the program (law 47). Counts of numbers in sessions. -/
import Derived.Test.YtnagknkllkdkaaaGreatRowScrambleSessionG9
import Derived.Test.YtnagknkllkdkaaaGreatRowScrambleSessionG4
import Derived.Test.YtnagknkllkdkaaaGreatRowScrambleSessionG7
import Derived.Test.YtnagknkllkdkaaaGreatRowScrambleSessionG12
import Derived.Test.YtnagknkllkdkaaaGreatRowScrambleSessionG6
import Derived.Test.YtnagknkllkdkaaaGreatRowScrambleSessionG11
import Derived.Test.YtnagknkllkdkaaaGreatRowScrambleSessionG5
namespace Go.Proofs.YtnagknkllkdkaaaGreat
open Go.RowKit
set_option maxRecDepth 10000

/-- how many are less -/
def below (v : Int) : List Int → Nat
  | [] => 0
  | x :: l => if x < v then below v l + 1 else 0
theorem below_le (v : Int) : ∀ l : List Int, below v l ≤ l.length
  | [] => Nat.le_refl _
  | x :: l => by unfold below; split; exact Nat.succ_le_succ (below_le v l); exact Nat.zero_le _
theorem below_lt (v : Int) : ∀ (l : List Int) (j : Nat) (h : j < l.length), j < below v l → l[j] < v
  | x :: l, j, h, hj => by
    unfold below at hj
    by_cases hx : x < v
    · rw [if_pos hx] at hj
      cases j with
      | zero => exact hx
      | succ j => exact below_lt v l j (by simpa using h) (by omega)
    · rw [if_neg hx] at hj; omega
theorem below_at (v : Int) : ∀ (l : List Int) (h : below v l < l.length), ¬ l[below v l] < v
  | x :: l, h => by
    by_cases hx : x < v
    · have e : below v (x :: l) = below v l + 1 := by show (if x < v then _ else _) = _; rw [if_pos hx]
      have h2 : below v l < l.length := by rw [e] at h; simpa using h
      have := below_at v l h2
      simp only [e, List.getElem_cons_succ]
      exact this
    · have e : below v (x :: l) = 0 := by show (if x < v then _ else _) = _; rw [if_neg hx]
      simp only [e, List.getElem_cons_zero]
      exact hx
theorem insU_there {v : Int} : ∀ {l : List Int} (h : below v l < l.length), l[below v l] = v → PM.insU v l = l
  | x :: l, h, he => by
    by_cases hx : x < v
    · have e : below v (x :: l) = below v l + 1 := by show (if x < v then _ else _) = _; rw [if_pos hx]
      have h2 : below v l < l.length := by rw [e] at h; simpa using h
      simp only [e, List.getElem_cons_succ] at he
      show (if x < v then x :: PM.insU v l else _) = _
      rw [if_pos hx, insU_there h2 he]
    · have e : below v (x :: l) = 0 := by show (if x < v then _ else _) = _; rw [if_neg hx]
      simp only [e, List.getElem_cons_zero] at he
      show (if x < v then _ else if x = v then x :: l else _) = _
      rw [if_neg hx, if_pos he]
theorem insU_new {v : Int} : ∀ {l : List Int}, (∀ h : below v l < l.length, l[below v l] ≠ v) → PM.insU v l = (l.take (below v l) ++ [v]) ++ l.drop (below v l)
  | [], _ => rfl
  | x :: l, hn => by
    by_cases hx : x < v
    · have e : below v (x :: l) = below v l + 1 := by show (if x < v then _ else _) = _; rw [if_pos hx]
      show (if x < v then x :: PM.insU v l else _) = _
      rw [if_pos hx, e, insU_new (l := l) (fun h => by
        have h1 := hn (by rw [e]; simpa using h)
        simp only [e, List.getElem_cons_succ] at h1
        exact h1)]
      simp
    · have e : below v (x :: l) = 0 := by show (if x < v then _ else _) = _; rw [if_neg hx]
      have h1 := hn (by rw [e]; simp)
      simp only [e, List.getElem_cons_zero] at h1
      show (if x < v then _ else if x = v then _ else v :: x :: l) = _
      rw [if_neg hx, if_neg h1, e]
      simp
theorem IntsA.drp {w : World} {b off cap : Nat} {l : List Int} {fp : List Nat} (h : IntsA w (some ⟨b, off, none⟩) cap l fp) {k : Nat} (hk : k ≤ l.length) : IntsA w (some ⟨b, off + k, none⟩) (cap - k) (l.drop k) fp := by
  have hl := h.len
  have hc := h.cap
  refine ⟨by rw [List.length_drop]; omega, by omega, fun x hx => h.wf x (List.mem_of_mem_drop hx), fun i hi => ?_, h.lt, h.one⟩
  rw [List.length_drop] at hi
  obtain ⟨b', off', ha, hf, hcell⟩ := h.at_ (k + i) (by omega)
  injection ha with ha; injection ha with e1 e2; subst e1; subst e2
  refine ⟨b, off + k, rfl, hf, ?_⟩
  rw [Nat.add_assoc, List.getElem_drop]
  exact hcell
theorem copyInts_aI (v : Value) (l : List Int) (fp : List Nat) (w : World) (h : Rd w v l fp) (hl : l.length ≤ 1073741824) :
    Calls Tryz.prog 62 #[v] w fun e w' => ∃ v, e = .returned v ∧ AccI w.heap.size 2 w' v l ∧ Only [] w w' := by
  obtain ⟨a, cap, rfl, hI⟩ := h.ints
  obtain ⟨i0, hi, hz0, hz1, hz2⟩ := info_parts Tryz.info2
  obtain ⟨q1, q2⟩ := ints_src (hI.keep ((Only.refl _ w).alloc (.cells #[] 2)))
  go_enter Tryz.func62, Tryz.ntmps62
  go_wp2_with (at_builtin; refine wpList_app _ rfl _ _ 25 rfl w.heap.size 2 i0 _ 1 8 Tryz.underlying25 hi hz0 hz1 hz2 rfl (by omega) (.slice (some ⟨w.heap.size, 0, none⟩) 0 0) 0 [] rfl (World.ownsRow_made w #[] 0 (Nat.le_refl _) (by unfold maxLen; omega) rfl) a l.length cap (l.map (Value.int .i64)) rfl (by simp) q1 q2 (ints_one l) (by unfold maxLen; omega) (by omega) (by simp) ?_; intro v1 w1 hO hg hb)
  rw [Nat.zero_add, List.nil_append] at hO
  have hK : Only [] w w1 := ((Only.refl _ _).alloc _).grown hg (by simp [Value.ownBlock])
  have hA : AccI w.heap.size 2 w1 v1 l := AccI.ofRow hO hI.wf
  have HA := Lib.hid hA
  clear hO hg hb q1 q2 hA
  go_wp2
  go_ret
  exact ⟨_, rfl, HA.out, hK⟩
set_option maxHeartbeats 4000000 in
theorem insertSorted_any (b off c : Nat) (l : List Int) (fp : List Nat) (k : Int) (w : World) (I : IntsA w (some ⟨b, off, none⟩) c l fp) (hl : l.length ≤ 1000) (hk : I64 k) :
    Calls Tryz.prog 63 #[.slice (some ⟨b, off, none⟩) l.length c, .int .i64 k] w fun e w' => ∃ b' o' c' fp', e = .returned (.slice (some ⟨b', o', none⟩) (PM.insU k l).length c') ∧ IntsA w' (some ⟨b', o', none⟩) c' (PM.insU k l) fp' ∧ (fp' = fp ∨ Fresh w.heap.size w' fp') ∧ Only [] w w' := by
  obtain ⟨i0, hi, hz0, hz1, hz2⟩ := info_parts Tryz.info2
  have hbl := below_le k l
  have hIH := Lib.hid I
  have HI := Lib.hid hk
  have hcap := I.len
  clear I hk
  obtain ⟨R, hR⟩ : ∃ R, R = PM.insU k l := ⟨_, rfl⟩
  rw [← hR]
  have HR := Lib.hid hR
  clear hR
  go_enter Tryz.func63, Tryz.ntmps63
  go_wp2
  go_loopw [5] (fun i wr => ∃ (j : Nat), j ≤ below k l ∧ i = .int .i64 j ∧ Only [] w wr)
    (fun i _ => l.length + 1 - (intOf i).toNat)
  case atStart => exact ⟨0, Nat.zero_le _, rfl, Only.refl _ _⟩
  case round =>
    obtain ⟨w3, hnew⟩ : ∃ W, W = wr := ⟨_, rfl⟩
    subst hnew
    obtain ⟨j, hj, rfl, hK⟩ := hrel
    have I3 := hIH.out.keep hK
    by_cases hlt : j < below k l
    · have hjl : j < l.length := by omega
      obtain ⟨b2, o2, e2, -, c2⟩ := I3.at_ j hjl
      injection e2 with e2; injection e2 with e3 e4; subst e3; subst e4
      have hv := below_lt k l j hjl hlt
      obtain ⟨x, hx⟩ : ∃ x, x = l[j] := ⟨_, rfl⟩
      rw [← hx] at c2 hv
      clear hx
      have hji : (j : Int) < (l.length : Int) := by omega
      go_wp2
      go_roundw
      case rel => exact ⟨j + 1, by omega, by go_num, hK⟩
      case measure => simp [intOf]; omega
    · have hje : j = below k l := by omega
      have hjl : j ≤ l.length := by omega
      have hkc : j ≤ c := by omega
      have hjl' : (j : Int) ≤ (l.length : Int) := by omega
      have hkc' : (j : Int) ≤ (c : Int) := by omega
      have hc0 : (l.length : Int) ≤ (c : Int) := by omega
      have hj0 : (0 : Int) ≤ (j : Int) := by omega
      have hsz3 := hK.size
      have hlk : (l.take j).length = j := by rw [List.length_take]; omega
      have hTk : Rd w3 (.slice (some ⟨b, off, none⟩) j c) (l.take j) fp := by
        have := (I3.take j).rd
        rwa [hlk] at this
      have hTl : (l.take j).length ≤ 1073741824 := by omega
      have HK := Lib.hid hlk
      have hnewR : (∀ h : below k l < l.length, l[below k l] ≠ k) → ∀ v6 w6, w6.ownsRow w3.heap.size 2 1 v6 (j + 1 + (l.length - j)) (((l.take j).map (Value.int .i64) ++ [.int .i64 k]) ++ (l.drop j).map (Value.int .i64)) → Only [] w3 w6 →
          ∃ b' o' c' fp', v6 = .slice (some ⟨b', o', none⟩) R.length c' ∧ IntsA w6 (some ⟨b', o', none⟩) c' R fp' ∧ Fresh w.heap.size w6 fp' ∧ Only [] w w6 := fun hn v6 w6 hO ho => by
        have hRe : R = (l.take j ++ [k]) ++ l.drop j := by rw [HR.out, insU_new hn, ← hje]
        have hcells : ((l.take j).map (Value.int .i64) ++ [Value.int .i64 k]) ++ (l.drop j).map (Value.int .i64) = R.map (Value.int .i64) := by
          rw [hRe]; simp
        have hlen : R.length = j + 1 + (l.length - j) := by rw [hRe, List.length_append, List.length_append, HK.out, List.length_drop]; rfl
        rw [hcells, ← hlen] at hO
        obtain ⟨a6, c6, hv6, -, I6, F6⟩ := own_ints hO (fun x hx => by
          rw [hRe] at hx
          rcases List.mem_append.1 hx with hx | hx
          · rcases List.mem_append.1 hx with hx | hx
            · exact hIH.out.wf x (List.mem_of_mem_take hx)
            · simp at hx; subst hx; exact HI.out
          · exact hIH.out.wf x (List.mem_of_mem_drop hx))
        obtain ⟨b6, o6, ha6, -, -⟩ := I6.at_ 0 (by rw [hlen]; omega)
        subst ha6
        exact ⟨b6, o6, c6, _, hv6, I6, F6.mono hsz3, hK.trans ho⟩
      have HN := Lib.hid hnewR
      clear hlk hnewR
      by_cases hin : j < l.length
      · obtain ⟨b2, o2, e2, -, c2⟩ := I3.at_ j hin
        injection e2 with e2; injection e2 with e3 e4; subst e3; subst e4
        have hnl : ¬ l[j] < k := by subst hje; exact below_at k l hin
        have hji : (j : Int) < (l.length : Int) := by omega
        by_cases heq : l[j] = k
        · have hRl : R = l := by rw [HR.out]; subst hje; exact insU_there hin heq
          have HRl := Lib.hid hRl
          rw [heq] at c2 hnl
          clear heq hRl hje hlt
          go_wp2
          go_ret
          rw [HRl.out]
          exact ⟨_, _, c, rfl, fp, I3, .inl rfl, hK⟩
        · have hend := HN.out (fun h => by subst hje; exact heq)
          have hcj : ¬ (c = j) := by omega
          obtain ⟨x, hx⟩ : ∃ x, x = l[j] := ⟨_, rfl⟩
          rw [← hx] at c2 hnl heq
          clear hx hje hlt
          go_wp2_with (first
            | (go_at_call 62; (with_reducible refine (copyInts_aI (.slice (some ⟨b, off, none⟩) j c) (l.take j) fp w3 hTk hTl).mono ?_); rintro en w4 ⟨v4, rfl, hA4, o4⟩; have hO4 := hA4.row.1; rw [HK.out] at hO4; obtain ⟨a4, q4, e4⟩ := hA4.form; rw [HK.out] at e4; subst e4; have m4 := lit_srcA w4 [.int .i64 k] 2 rfl)
            | (at_builtin; refine wpList_app _ rfl _ _ 25 rfl w3.heap.size 2 i0 _ 1 8 Tryz.underlying25 hi hz0 hz1 hz2 rfl (by omega) (.slice a4 j q4) j ((l.take j).map (Value.int .i64)) rfl (hO4.alloc _) (some ⟨w4.heap.size, 0, none⟩) 1 1 [.int .i64 k] rfl rfl m4 (by intro hh; cases hh) (by intro u hu; simp at hu; subst hu; rfl) (by unfold maxLen; omega) (by omega) (Nat.le_trans o4.size ((Only.refl [] w4).alloc _).size) ?_; intro v5 w5 hO5 hg5 hb5; have o5 : Only [] w3 w5 := (o4.alloc _).grown hg5 (by intro z hz hzl; have := (hO4.lt z hz).1; omega); have ID := (I3.keep o5).drp hjl; have s5 := ints_src ID; have hdl : ((l.drop j).map (Value.int .i64)).length = (l.length - j) * 1 := (by simp); have Hdl := Lib.hid hdl; clear hdl)
            | (at_builtin; refine wpList_app _ rfl _ _ 25 rfl w3.heap.size 2 i0 _ 1 8 Tryz.underlying25 hi hz0 hz1 hz2 rfl (by omega) v5 (j + 1) ((l.take j).map (Value.int .i64) ++ [.int .i64 k]) rfl hO5 (some ⟨b, off + j, none⟩) (l.length - j) (c - j) ((l.drop j).map (Value.int .i64)) rfl Hdl.out s5.1 (by intro hh; cases hh) (ints_one _) (by unfold maxLen; omega) (by omega) o5.size ?_; intro v6 w6 hO6 hg6 hb6)
            | fail "no arm")
          have hfin := hend v6 w6 hO6 (o5.grown hg6 (by intro z hz hzl; have := (hO5.lt z hz).1; omega))
          obtain ⟨b', o', c', fp', rfl, h1, h2, h3⟩ := hfin
          go_ret
          exact ⟨b', o', c', fp', rfl, h1, .inr h2, h3⟩
      · have hend := HN.out (fun h => absurd h (by omega))
        have hji : ¬ ((j : Int) < (l.length : Int)) := by omega
        by_cases hcj : c = j
        · subst hcj
          have hd0 : l.drop c = [] := List.drop_eq_nil_of_le (by omega)
          have Hd0 := Lib.hid hd0
          clear hd0 hje hlt
          go_wp2_with (first
            | (go_at_call 62; (with_reducible refine (copyInts_aI (.slice (some ⟨b, off, none⟩) c c) (l.take c) fp w3 hTk hTl).mono ?_); rintro en w4 ⟨v4, rfl, hA4, o4⟩; have hO4 := hA4.row.1; rw [HK.out] at hO4; obtain ⟨a4, q4, e4⟩ := hA4.form; rw [HK.out] at e4; subst e4; have m4 := lit_srcA w4 [.int .i64 k] 2 rfl)
            | (at_builtin; refine wpList_app _ rfl _ _ 25 rfl w3.heap.size 2 i0 _ 1 8 Tryz.underlying25 hi hz0 hz1 hz2 rfl (by omega) (.slice a4 c q4) c ((l.take c).map (Value.int .i64)) rfl (hO4.alloc _) (some ⟨w4.heap.size, 0, none⟩) 1 1 [.int .i64 k] rfl rfl m4 (by intro hh; cases hh) (by intro u hu; simp at hu; subst hu; rfl) (by unfold maxLen; omega) (by omega) (Nat.le_trans o4.size ((Only.refl [] w4).alloc _).size) ?_; intro v5 w5 hO5 hg5 hb5; have o5 : Only [] w3 w5 := (o4.alloc _).grown hg5 (by intro z hz hzl; have := (hO4.lt z hz).1; omega))
            | (at_builtin; refine wpList_app _ rfl _ _ 25 rfl w3.heap.size 2 i0 _ 1 8 Tryz.underlying25 hi hz0 hz1 hz2 rfl (by omega) v5 (c + 1) ((l.take c).map (Value.int .i64) ++ [.int .i64 k]) rfl hO5 (some ⟨b, off, none⟩) 0 0 [] rfl rfl (by intro ad hh j1 u hu; simp at hu) (by intro hh; cases hh) (by intro u hu; simp at hu) (by unfold maxLen; omega) (by omega) o5.size ?_; intro v6 w6 hO6 hg6 hb6)
            | fail "no arm")
          have hfin := hend v6 w6 (by have e : l.length - c = 0 := (by omega); rw [e, Hd0.out]; simpa using hO6) (o5.grown hg6 (by intro z hz hzl; have := (hO5.lt z hz).1; omega))
          obtain ⟨b', o', c', fp', rfl, h1, h2, h3⟩ := hfin
          go_ret
          exact ⟨b', o', c', fp', rfl, h1, .inr h2, h3⟩
        · clear hje hlt
          go_wp2_with (first
            | (go_at_call 62; (with_reducible refine (copyInts_aI (.slice (some ⟨b, off, none⟩) j c) (l.take j) fp w3 hTk hTl).mono ?_); rintro en w4 ⟨v4, rfl, hA4, o4⟩; have hO4 := hA4.row.1; rw [HK.out] at hO4; obtain ⟨a4, q4, e4⟩ := hA4.form; rw [HK.out] at e4; subst e4; have m4 := lit_srcA w4 [.int .i64 k] 2 rfl)
            | (at_builtin; refine wpList_app _ rfl _ _ 25 rfl w3.heap.size 2 i0 _ 1 8 Tryz.underlying25 hi hz0 hz1 hz2 rfl (by omega) (.slice a4 j q4) j ((l.take j).map (Value.int .i64)) rfl (hO4.alloc _) (some ⟨w4.heap.size, 0, none⟩) 1 1 [.int .i64 k] rfl rfl m4 (by intro hh; cases hh) (by intro u hu; simp at hu; subst hu; rfl) (by unfold maxLen; omega) (by omega) (Nat.le_trans o4.size ((Only.refl [] w4).alloc _).size) ?_; intro v5 w5 hO5 hg5 hb5; have o5 : Only [] w3 w5 := (o4.alloc _).grown hg5 (by intro z hz hzl; have := (hO4.lt z hz).1; omega); have ID := (I3.keep o5).drp hjl; have s5 := ints_src ID; have hdl : ((l.drop j).map (Value.int .i64)).length = (l.length - j) * 1 := (by simp); have Hdl := Lib.hid hdl; clear hdl)
            | (at_builtin; refine wpList_app _ rfl _ _ 25 rfl w3.heap.size 2 i0 _ 1 8 Tryz.underlying25 hi hz0 hz1 hz2 rfl (by omega) v5 (j + 1) ((l.take j).map (Value.int .i64) ++ [.int .i64 k]) rfl hO5 (some ⟨b, off + j, none⟩) (l.length - j) (c - j) ((l.drop j).map (Value.int .i64)) rfl Hdl.out s5.1 (by intro hh; cases hh) (ints_one _) (by unfold maxLen; omega) (by omega) o5.size ?_; intro v6 w6 hO6 hg6 hb6)
            | fail "no arm")
          have hfin := hend v6 w6 hO6 (o5.grown hg6 (by intro z hz hzl; have := (hO5.lt z hz).1; omega))
          obtain ⟨b', o', c', fp', rfl, h1, h2, h3⟩ := hfin
          go_ret
          exact ⟨b', o', c', fp', rfl, h1, .inr h2, h3⟩
end Go.Proofs.YtnagknkllkdkaaaGreat

namespace Go.Proofs.YtnagknkllkdkaaaGreat
open Go.RowKit
set_option maxRecDepth 10000

theorem choTo_succ (m : List Int) (j : Nat) (T : PM.Rows) (k : Nat) : PM.choO m (orbTo (j + 1) T k) = if PM.tr T k (j : Int) = [] then PM.choO m (orbTo j T k) else PM.insU (PM.at_ m (j : Int)) (PM.choO m (orbTo j T k)) := by
  rw [orbTo_succ]
  by_cases h : PM.tr T k (j : Int) = []
  · rw [if_pos h, if_pos h]
  · rw [if_neg h, if_neg h, PM.choO_snoc]
theorem choO_len {n : Nat} {m : List Int} (hm : PM.PN n m) {ys : List Int} (hy : ∀ y ∈ ys, 0 ≤ y ∧ y < n) : (PM.choO m ys).length ≤ n := by
  have h1 : (PM.choO m ys).length ≤ (PM.pts n).length := PM.nodup_sub_len (PM.choO_asc m ys).nodup fun v hv => by
    obtain ⟨y, hy1, rfl⟩ := PM.mem_choO.1 hv
    obtain ⟨h0, h1⟩ := hy y hy1
    exact PM.mem_pts.2 (hm.rng h0 h1)
  rwa [PM.pts_len] at h1
theorem orbTo_rng {j n : Nat} (hj : j ≤ n) {T : PM.Rows} {k : Nat} : ∀ y ∈ orbTo j T k, 0 ≤ y ∧ y < (n : Int) := fun y hy => by
  unfold orbTo at hy
  have := PM.mem_pts.1 (List.mem_filter.1 hy).1
  omega
set_option maxHeartbeats 2000000 in
theorem choicesAt_any {e : TypeId} {B : Nat} {L : Lay} {gv : Nat → Value} {n : Nat} {G : PM.Gens} {T : PM.Rows} {M F : List Nat} (w : World) (hC : Ch e B w L gv n G T M F) (hT : L.oT = 1) (i : Nat) (hi : i < n) (v : Value) (m : List Int) (fm : List Nat)
    (hv : Rd w v m fm) (hm : PM.PN n m) :
    Calls Tryz.prog 39 #[.pointer (some ⟨L.g, 0, none⟩), .int .i64 i, v] w fun e w' => ∃ b o c f, e = .returned (.slice (some ⟨b, o, none⟩) (PM.cho n T i m).length c) ∧ IntsA w' (some ⟨b, o, none⟩) c (PM.cho n T i m) f ∧ Fresh w.heap.size w' f ∧ Only [] w w' := by
  obtain ⟨A, C, rfl, IM⟩ := hv.ints
  have hn20 := hC.le
  have hml := hm.1
  have cn := hC.cn
  have ct := hC.ct
  rw [hT] at ct
  have cr := hC.row i hi
  obtain ⟨R, hR⟩ : ∃ R, R = PM.cho n T i m := ⟨_, rfl⟩
  rw [← hR]
  have HR := Lib.hid hR
  have HC := Lib.hid hC
  have Hm := Lib.hid hm
  have HIM := Lib.hid IM
  have Hml := Lib.hid hml
  clear hC hm IM hml hR
  go_enter Tryz.func39, Tryz.ntmps39
  go_wp2
  go_loopw [7, 8] (fun o y wr => ∃ (j : Nat) (l : List Int) (b o' c : Nat) (f : List Nat), j ≤ n ∧ y = .int .i64 j ∧ Hid (l = PM.choO m (orbTo j T i)) ∧ o = .slice (some ⟨b, o', none⟩) l.length c ∧ IntsA wr (some ⟨b, o', none⟩) c l f ∧ Fresh w.heap.size wr f ∧ Only [] w wr)
    (fun _ y _ => n - (intOf y).toNat)
  case atStart => exact ⟨0, [], w.heap.size, 0, 0, [], Nat.zero_le _, rfl, Lib.hid rfl, rfl, IntsA.nil _ _ (by simp [maxLen]), Fresh.nil _ _, (Only.refl _ _).alloc _⟩
  case round =>
    obtain ⟨W2, hnew⟩ : ∃ W, W = wr := ⟨_, rfl⟩
    subst hnew
    obtain ⟨j, l, b, o', c, f, hj, rfl, hl, rfl, hI, hF, hO⟩ := hrel
    have y0 := hO.cell (by simp) cn
    by_cases hlt : j < n
    · have yt := hO.cell (by simp) ct
      have yr := hO.cell (by simp) cr
      have hC2 := HC.out.keep hO
      have hsu := choTo_succ m j T i
      rw [← hl.out] at hsu
      have Hsu := Lib.hid hsu
      have hll : l.length ≤ 1000 := by
        rw [hl.out]
        have := choO_len Hm.out (orbTo_rng (j := j) (n := n) (by omega) (T := T) (k := i))
        omega
      have hltI : (j : Int) < (n : Int) := by omega
      clear hsu
      by_cases ht : PM.tr T i (j : Int) = []
      · have c4 := hC2.at_nil hi (y := (j : Int)) (by omega) (by omega) ht
        simp only [Int.toNat_natCast] at c4
        have Ht := Lib.hid ht
        clear ht hC2
        go_wp2
        go_roundw
        case rel => exact ⟨j + 1, l, b, o', c, f, by omega, by go_num, Lib.hid (by rw [Hsu.out, if_pos Ht.out]), rfl, hI, hF, hO⟩
        case measure => simp [intOf]; omega
      · obtain ⟨b4, off4, cap4, f4, c4, -, -⟩ := hC2.at_some hi (y := (j : Int)) (by omega) (by omega) ht
        simp only [Int.toNat_natCast] at c4
        obtain ⟨b3, o3, rfl, -, c3⟩ := (HIM.out.keep hO).at_pm (x := (j : Int)) (by omega) (by rw [Hml.out]; omega)
        simp only [Int.toNat_natCast] at c3
        have hpos : (0 : Int) < ((PM.tr T i (j : Int)).length : Int) := by have := List.length_pos_iff.2 ht; omega
        have hjm : (j : Int) < (m.length : Int) := by rw [Hml.out]; omega
        have hmr := Hm.out.rng (x := (j : Int)) (by omega) (by omega)
        have HmI := Lib.hid (show I64 (PM.at_ m (j : Int)) by unfold I64; omega)
        have Ht := Lib.hid ht
        have hsz := hO.size
        clear ht hC2 hmr
        go_wp2_with (first
          | (go_at_call 63; (with_reducible refine (insertSorted_any b o' c l f (PM.at_ m (j : Int)) W2 hI hll HmI.out).mono ?_); rintro en w3 ⟨b5, o5, c5, f5, rfl, hI5, hf5, t5⟩)
          | fail "no arm")
        have hF5 : Fresh w.heap.size w3 f5 := by
          rcases hf5 with h | h
          · rw [h]; exact hF.keep t5
          · exact h.mono hsz
        go_roundw
        case rel => exact ⟨j + 1, _, b5, o5, c5, f5, by omega, by go_num, Lib.hid (by rw [Hsu.out, if_neg Ht.out]), rfl, hI5, hF5, hO.trans t5⟩
        case measure => simp [intOf]; omega
    · obtain rfl : j = n := by omega
      have hRl : R = l := by rw [HR.out, hl.out]; rfl
      have HRl := Lib.hid hRl
      have hge : ¬ ((j : Int) < (j : Int)) := by omega
      clear hRl hl
      go_wp2
      go_ret
      rw [HRl.out]
      exact ⟨b, o', c, rfl, f, hI, hF, hO⟩
set_option maxHeartbeats 4000000 in
theorem withEntry_any {e : TypeId} {B : Nat} {L : Lay} {gv : Nat → Value} {n : Nat} {G : PM.Gens} {T : PM.Rows} {M F : List Nat} (w : World) (hC : Ch e B w L gv n G T M F) (hw : PM.WF n T) (hT : L.oT = 1) (i : Nat) (hi : i < n) (v : Value) (m : List Int) (fm : List Nat)
    (hv : Rd w v m fm) (hm : PM.PN n m) (vv : Int) (hvv : vv ∈ PM.cho n T i m) :
    Calls Tryz.prog 40 #[.pointer (some ⟨L.g, 0, none⟩), .int .i64 i, v, .int .i64 vv] w fun e w' => ∃ v' f', e = .returned v' ∧ Rd w' v' (PM.putV T i m vv) f' ∧ Fresh w.heap.size w' f' ∧ Only [] w w' := by
  have hn20 := hC.le
  obtain ⟨hv0, hv1, hp0, hp1, hp2, hp3⟩ := PM.cho_pre hm hvv
  obtain ⟨A, C, rfl, IM⟩ := hv.ints
  obtain ⟨y, hy⟩ : ∃ y, y = PM.at_ (PM.inv m) vv := ⟨_, rfl⟩
  rw [← hy] at hp0 hp1 hp2 hp3
  have hput : PM.putV T i m vv = PM.comp (PM.tr T i y) m := by unfold PM.putV; rw [← hy]
  have ct := hC.ct
  rw [hT] at ct
  have cr := hC.row i hi
  obtain ⟨bt, ot, capt, ft, crt, hrt, -⟩ := hC.at_some hi hp0 hp1 hp2
  have htp := hw.pn i y hi hp2
  have hil : ((PM.inv m).length : Int) = (n : Int) := by rw [hm.inv.1]
  have Hm := Lib.hid hm
  have Hp := Lib.hid hput
  have Htp := Lib.hid htp
  have Hy := Lib.hid hy
  have Hil := Lib.hid hil
  have hvl : vv < ((PM.inv m).length : Int) := by rw [hil]; exact hv1
  clear hC hm hvv hy hput hp2 hp3 htp IM hil
  go_enter Tryz.func40, Tryz.ntmps40
  go_wp2_with fail
  have kd : Only [] w w.drew := (Only.refl _ _).drew
  have dt := kd.cell (by simp) ct
  have dr := kd.cell (by simp) cr
  have dy := kd.cell (by simp) crt
  have HcI := Lib.hid (fun (W : World) (hW : Only [] w W) => specInv_rd n _ m _ W (Rp.keep hv hW) Hm.out (by omega))
  have HcC := Lib.hid (fun (W : World) (hW : Only [] w W) => specCompose_rd n _ _ (PM.tr T i y) m _ _ W (Rp.keep hrt hW) (Rp.keep hv hW) Htp.out Hm.out (by omega))
  clear kd
  go_region_law (first
    | (go_simp; go_at_call 65; (with_reducible refine (HcI.out _ (by with_reducible repeat (first | exact Only.refl _ _ | refine Only.drew ?_))).mono ?_); rintro e w3 ⟨v3, f3, rfl, r3, F3, t3⟩; have k3 : Only [] w w3 := Only.trans (by with_reducible repeat (first | exact Only.refl _ _ | refine Only.drew ?_)) t3; obtain ⟨a3, c3, rfl, I3⟩ := r3.ints; obtain ⟨b3, o3, rfl, -, x3⟩ := I3.at_pm (x := vv) hv0 hvl; rw [← Hy.out] at x3; have et := k3.cell (by simp) ct; have er := k3.cell (by simp) cr; have ey := k3.cell (by simp) crt)
    | (go_simp; go_at_call 64; (with_reducible refine (HcC.out _ (by with_reducible first | exact k3 | exact k3.drew)).mono ?_); rintro e w5 ⟨v5, f5, rfl, r5, F5, t5⟩; have k5 : Only [] w w5 := Only.trans (by with_reducible first | exact k3 | exact k3.drew) t5)
    | fail "no arm")
  all_goals have hF5 : Fresh w.heap.size w5 f5 := F5.mono (by have := k3.size; (try simp); omega)
  all_goals go_wp2
  all_goals go_ret
  all_goals exact ⟨v5, f5, rfl, by rw [Hp.out]; exact r5, hF5, k5⟩
theorem nextState_g (seed : Int) (i : Nat) (w : World) :
    Calls Tryz.prog 38 #[.int .i64 (gst seed i)] w fun e w' => e = .returned (.int .i64 (gst seed (i + 1))) ∧ w' = w :=
  nextState_any (gst seed i) (gst_rng seed i).1 (gst_rng seed i).2 w
set_option maxHeartbeats 4000000 in
theorem specRandomMember_yes (n : Nat) (vg : Value) (gens : List (List Int)) (fpg : List Nat) (seed : Int) (w : World) (hg : Rd w vg gens fpg) (hgs : gensB n gens = true) (hs : I64 seed) :
    Calls Tryz.prog 15 #[.int .i64 n, vg, .int .i64 seed] w fun e w' => ∃ v f, e = .returned (.tuple #[v, .bool true]) ∧ Rd w' v (randM n gens seed) f ∧ Fresh w.heap.size w' f ∧ Only [] w w' := by
  obtain ⟨⟨n1, n20⟩, hgl, hpn⟩ := gensB_iff.1 hgs
  have hpn' : ∀ g ∈ gens, PM.PN n g := by simpa using hpn
  have hn : 0 < n := by omega
  have hn20 : n ≤ 20 := by omega
  have Hgs := Lib.hid hgs
  have Hpn := Lib.hid hpn'
  clear hpn hpn' hgs
  obtain ⟨R, hR⟩ : ∃ R, R = randM n gens seed := ⟨_, rfl⟩
  rw [← hR]
  have HR := Lib.hid hR
  clear hR
  go_enter Tryz.func15, Tryz.ntmps15
  go_wp2_with (first
    | (go_at_call 34; (with_reducible refine (specIsGens_rd n vg gens fpg w hg).mono ?_); rintro en w1 ⟨he, t1⟩; rw [Hgs.out] at he; subst he; have t1 := t1.only [])
    | (go_at_call 35; (with_reducible refine (buildChain_any n hn hn20 vg gens fpg w1 (Rp.keep hg t1) Hpn.out (by omega)).mono ?_); rintro en w3 ⟨L, gv, G, T, M, F, rfl, hoG, hoT, hC, hCh, t3⟩)
    | (go_at_call 36; (with_reducible refine (firstState_any seed hs w3).mono ?_); rintro en w3' ⟨rfl, h3⟩; rw [h3]; clear h3)
    | (go_at_call 37; (with_reducible refine (specIdentity_any n w3 (by omega)).mono ?_); rintro en w4 ⟨v4, f4, rfl, r4, F4, t4⟩)
    | fail "no arm")
  have k4 : Only [] w w4 := (t1.trans t3).trans t4
  have hF4 : Fresh w.heap.size w4 f4 := F4.mono (by have := (t1.trans t3).size; omega)
  have hC4 := hC.keep t4
  have hR0 : R = PM.desc T n (rsel seed) (n - 0) 0 (PM.pts n) := by rw [HR.out, Nat.sub_zero]; exact (hCh.descG hn Hpn.out (rsel seed) (rsel_good hCh.inv.wf seed)).symm
  have HR0 := Lib.hid hR0
  have HCh := Lib.hid hCh
  have HoT := Lib.hid hoT
  clear hR0 hCh hoT hoG hC t1 t3 t4 F4
  go_loopw [9, 10, 11] (fun s v i wr => ∃ (j : Nat) (m : List Int) (f : List Nat), j ≤ n ∧ i = .int .i64 j ∧ s = .int .i64 (gst seed j) ∧ Rd wr v m f ∧ Fresh w.heap.size wr f ∧ Ch 25 w1.heap.size wr L gv n G T M F ∧ PM.Grp n gens m ∧ Hid (R = PM.desc T n (rsel seed) (n - j) j m) ∧ Only [] w wr)
    (fun _ _ i _ => n - (intOf i).toNat)
  case atStart => exact ⟨0, PM.pts n, f4, Nat.zero_le _, rfl, rfl, r4, hF4, hC4, .id, HR0, k4⟩
  case round =>
    obtain ⟨W2, hnew⟩ : ∃ W, W = wr := ⟨_, rfl⟩
    subst hnew
    clear r4 hF4 hC4 k4
    obtain ⟨j, m, f, hj, rfl, rfl, hr, hF, hC, hgr, hRR, hO⟩ := hrel
    by_cases hlt : j < n
    · have hpm : PM.PN n m := hgr.pn Hpn.out
      have hwf := HCh.out.inv.wf
      obtain ⟨C, hCd⟩ : ∃ C, C = PM.cho n T j m := ⟨_, rfl⟩
      have hCl : 0 < C.length := by rw [hCd, PM.cho_len hpm]; exact PM.cntR_pos hwf hlt
      have hCl2 : C.length ≤ 20 := by rw [hCd, PM.cho_len hpm]; have := PM.cntR_le n T j; omega
      obtain ⟨k, hk⟩ : ∃ k, k = rsel seed j C.length := ⟨_, rfl⟩
      have hkl : k < C.length := by rw [hk]; exact rsel_lt hCl
      have hkm : C[k] ∈ PM.cho n T j m := by rw [← hCd]; exact List.getElem_mem hkl
      have hgr2 := HCh.out.putV hn Hpn.out hlt hgr hkm
      have hRR2 : R = PM.desc T n (rsel seed) (n - (j + 1)) (j + 1) (PM.putV T j m C[k]) := by
        subst hCd
        rw [hRR.out]
        exact PM.desc_step hlt m hk hkl
      have hrem : Int.tmod (gst seed (j + 1)) (C.length : Int) = (k : Int) := by
        rw [tmod_pos (gst_rng seed (j + 1)).1, hk]
        unfold rsel
        have h2 := Int.emod_nonneg (gst seed (j + 1)) (show (C.length : Int) ≠ 0 by omega)
        omega
      have hne0 : ¬ ((C.length : Int) = 0) := by omega
      have HcS := Lib.hid (choicesAt_any W2 hC HoT.out j hlt u10 m f hr hpm)
      rw [← hCd] at HcS
      have HRR2 := Lib.hid hRR2
      have Hgr2 := Lib.hid hgr2
      have Hkm := Lib.hid hkm
      have Hpm := Lib.hid hpm
      have Hwf := Lib.hid hwf
      have HC := Lib.hid hC
      have hltI : (j : Int) < (n : Int) := by omega
      have hO2 := hO.size
      clear hCd hk hRR2 hgr2 hkm hpm hwf hC hgr hRR
      go_wp2_with (first
        | (go_at_call 38; (with_reducible refine (nextState_g seed j W2).mono ?_); rintro en w5 ⟨rfl, h5⟩; rw [h5]; clear h5)
        | (go_at_call 39; (with_reducible refine (HcS.out).mono ?_); rintro en w6 ⟨b6, o6, c6, f6, rfl, I6, F6, t6⟩; obtain ⟨b8, o8, e8, -, c8⟩ := I6.at_ k hkl; injection e8 with e8; injection e8 with e81 e82; subst e81; subst e82)
        | (go_at_call 40; (with_reducible refine (withEntry_any w6 (HC.out.keep t6) Hwf.out HoT.out j hlt u10 m f (Rp.keep hr t6) Hpm.out C[k] Hkm.out).mono ?_); rintro en w7 ⟨v7, f7, rfl, r7, F7, t7⟩)
        | fail "no arm")
      have hF7 : Fresh w.heap.size w7 f7 := F7.mono (by have := t6.size; omega)
      go_roundw
      case rel => exact ⟨j + 1, _, f7, by omega, by go_num, rfl, r7, hF7, (HC.out.keep t6).keep t7, Hgr2.out, HRR2, (hO.trans t6).trans t7⟩
      case measure => simp [intOf]; omega
    · obtain rfl : j = n := by omega
      have hfin : R = m := by rw [hRR.out]; exact PM.desc_end (Nat.le_refl _) m
      have hge : ¬ ((j : Int) < (j : Int)) := by omega
      have Hfin := Lib.hid hfin
      clear hfin hRR
      go_wp2
      exact bodyPost_ret (v := .tuple #[u10, .bool true]) (by simp [results, Tryz.results15, go_sem]) rfl ⟨u10, rfl, f, by rw [Hfin.out]; exact hr, hF, hO⟩
end Go.Proofs.YtnagknkllkdkaaaGreat

namespace Go.Proofs.YtnagknkllkdkaaaGreat
open Go.RowKit
set_option maxRecDepth 10000

/-- a session with a random member as its state -/
noncomputable def scrS (x : Session) (seed : Int) : Session × Bool := if validSe x = true then (⟨x.puzzle, randM x.puzzle.points.toNat x.puzzle.moves seed, [], []⟩, true) else (noSess, false)
theorem Fresh.comm {B : Nat} {w : World} {fp fp' : List Nat} (h : Fresh B w (fp ++ fp')) : Fresh B w (fp' ++ fp) :=
  ⟨List.perm_append_comm.nodup_iff.1 h.nd, fun b hb => h.ge b (List.perm_append_comm.mem_iff.1 hb), fun b hb => h.own b (List.perm_append_comm.mem_iff.1 hb)⟩
theorem tr_nil (k : Nat) (y : Int) : PM.tr [] k y = [] := by unfold PM.tr; split <;> simp
theorem desc_nil (n : Nat) (sel : Nat → Nat → Nat) : ∀ (k i : Nat) (m : List Int), 0 < k → (PM.desc [] n sel k i m).length = 0
  | k + 1, i, m, _ => by
    have hp : ∀ v, PM.putV [] i m v = [] := fun v => by unfold PM.putV; rw [tr_nil]; rfl
    show (PM.desc [] n sel k (i + 1) (PM.putV [] i m _)).length = 0
    rw [hp]
    cases k with
    | zero => rfl
    | succ k => exact desc_nil n sel (k + 1) (i + 1) [] (by omega)
theorem randM_len {n : Nat} {gens : List (List Int)} {seed : Int} (hn : 0 < n) (hp : ∀ g ∈ gens, PM.PN n g) : (randM n gens seed).length ≤ n := by
  by_cases hex : ∃ T, ∃ G, PM.Chain n gens G T
  · obtain ⟨T, G, h⟩ := hex
    exact Nat.le_of_eq ((h.descG_grp hn hp (rsel seed) (rsel_good h.inv.wf seed)).pn hp).1
  · unfold randM PM.descG PM.chainR
    rw [dif_neg hex, desc_nil _ _ _ _ _ hn]
    exact Nat.zero_le _
theorem validSe_gens {x : Session} (h : validSe x = true) : gensB x.puzzle.points x.puzzle.moves = true := by
  obtain ⟨h1, -⟩ := validSe_facts h
  exact validPz_gensB (stateB_valid h1)
theorem scrS_cnt (x : Session) (seed : Int) : Mk.cnt (scrS x seed).1 ≤ Mk.cnt x + 220 := by
  unfold scrS
  by_cases h : validSe x = true
  · rw [if_pos h]
    obtain ⟨⟨h1, h2⟩, h3, h4⟩ := gensB_iff.1 (validSe_gens h)
    have h5 := randM_len (seed := seed) (by omega : 0 < x.puzzle.points.toNat) h4
    have e1 := cntL_ints (randM x.puzzle.points.toNat x.puzzle.moves seed)
    simp only [Mk.cnt, cntL] at e1 ⊢
    omega
  · rw [if_neg h]; simp [noSess, Mk.cnt, cntL]
theorem specRM_i (n : Int) (vg : Value) (gens : List (List Int)) (fpg : List Nat) (seed : Int) (w : World) (hg : Rd w vg gens fpg) (hgs : gensB n gens = true) (hs : I64 seed) :
    Calls Tryz.prog 15 #[.int .i64 n, vg, .int .i64 seed] w fun e w' => ∃ v f, e = .returned (.tuple #[v, .bool true]) ∧ Rd w' v (randM n.toNat gens seed) f ∧ Fresh w.heap.size w' f ∧ Only [] w w' := by
  obtain ⟨⟨n1, n20⟩, -, -⟩ := gensB_iff.1 hgs
  obtain ⟨m, rfl⟩ := Int.eq_ofNat_of_zero_le (by omega : 0 ≤ n)
  exact specRandomMember_yes m vg gens fpg seed w hg hgs hs
theorem implRM_i (n : Int) (vg : Value) (gens : List (List Int)) (fpg : List Nat) (seed : Int) (w : World) (hg : Rd w vg gens fpg) (hgs : gensB n gens = true) (hs : I64 seed) :
    Calls Tryz.prog 21 #[.int .i64 n, vg, .int .i64 seed] w fun e w' => ∃ v f, e = .returned (.tuple #[v, .bool true]) ∧ Rd w' v (randM n.toNat gens seed) f ∧ Fresh w.heap.size w' f ∧ Only [] w w' := by
  obtain ⟨⟨n1, n20⟩, -, -⟩ := gensB_iff.1 hgs
  obtain ⟨m, rfl⟩ := Int.eq_ofNat_of_zero_le (by omega : 0 ≤ n)
  exact implRandomMember_yes m vg gens fpg seed w hg hgs hs
set_option maxHeartbeats 4000000 in
theorem specScramble_any (cs : List Value) (x : Session) (fp : List Nat) (seed : Int) (w : World) (h : Rp.rep w cs x fp) (hs : I64 seed) :
    Calls Tryz.prog 5 #[.agg cs.toArray, .int .i64 seed] w fun e w' => ∃ cs' fp', e = .returned (.tuple #[.agg (List.toArray cs'), .bool (scrS x seed).2]) ∧ Rp.rep w' cs' (scrS x seed).1 fp' ∧ Fresh w.heap.size w' fp' ∧ Only [] w w' := by
  have h0 := h
  obtain ⟨c0, v1, v2, v3, f0, f1, f2, f3, rfl, rfl, k0, k1, k2, k3⟩ := h
  have q0 := k0
  obtain ⟨u2, rfl, p0, p1, h2⟩ := q0
  obtain ⟨A2, C2, _, _, rfl, -, -⟩ := h2.open_
  obtain ⟨A3, C3, _, _, rfl, -, -⟩ := k1.open_
  obtain ⟨A4, C4, _, _, rfl, -, -⟩ := k2.open_
  obtain ⟨A5, C5, _, _, rfl, -, -⟩ := k3.open_
  rcases hq : validSe x
  · have hp : scrS x seed = (noSess, false) := by unfold scrS; rw [if_neg (by simp [hq])]
    have Hp := Lib.hid hp; clear hp
    go_enter Tryz.func5, Tryz.ntmps5
    go_wp2_with (first
      | (go_at_call 14; (with_reducible refine (specIsValidSession_any [.int .i64 x.puzzle.points, .string x.puzzle.names, .slice A2 x.puzzle.moves.length C2, .slice A3 x.state.length C3, .slice A4 x.history.length C4, .slice A5 x.future.length C5] x _ _ (Rp.keep h0 (by with_reducible repeat (first | exact Only.refl _ _ | assumption | refine Only.drewN ?_ _ | refine Only.drew ?_ | refine Only.alloc ?_ _ | refine Only.setCell ?_ (by intro hh; exfalso; simp at hh; try omega) _ | refine Only.trans ?_ (by assumption))))).mono ?_); rintro e w1 ⟨he, t1⟩; rw [hq] at he; subst he; have y1 := t1.cells_eq (w.heap.size + 1) (by simp) (by simp); have z1 := t1.frozen_eq (w.heap.size + 1) (by simp) (by simp); have s1 : w.heap.size + 1 < w1.heap.size := (by have := t1.size; simp at this; omega))
      | fail "no arm")
    refine bodyPost_ret (v := .tuple #[.agg #[.int .i64 0, .string ⟨#[]⟩, .slice none 0 0, .slice none 0 0, .slice none 0 0, .slice none 0 0], .bool false]) (by simp [results, Tryz.results5, go_sem, y1]) rfl ⟨[.int .i64 0, .string ⟨#[]⟩, .slice none 0 0, .slice none 0 0, .slice none 0 0, .slice none 0 0], [], by rw [Hp.out], by rw [Hp.out]; exact noSess_rep _, Fresh.nil _ _, (by with_reducible repeat (first | exact Only.refl _ _ | assumption | refine Only.drewN ?_ _ | refine Only.drew ?_ | refine Only.alloc ?_ _ | refine Only.setCell ?_ (by intro hh; exfalso; simp at hh; try omega) _ | refine Only.trans ?_ (by assumption)))⟩
  · obtain ⟨R, hR⟩ : ∃ R, R = randM x.puzzle.points.toNat x.puzzle.moves seed := ⟨_, rfl⟩
    have hp : scrS x seed = (⟨x.puzzle, R, [], []⟩, true) := by unfold scrS; rw [if_pos hq, hR]
    have hgs := validSe_gens hq
    obtain ⟨-, hl8, hl2, -⟩ := validSe_facts hq
    have hl : x.puzzle.moves.length ≤ 2097152 := by omega
    obtain ⟨⟨g1, g2⟩, g3, g4⟩ := gensB_iff.1 hgs
    have hRl : R.length ≤ 1000000 := by rw [hR]; have := randM_len (seed := seed) (by omega : 0 < x.puzzle.points.toNat) g4; omega
    have Hp := Lib.hid hp
    have HR := Lib.hid hR
    have Hgs := Lib.hid hgs
    clear hp hR hgs g4
    go_enter Tryz.func5, Tryz.ntmps5
    go_wp2_with (first
      | (go_at_call 14; (with_reducible refine (specIsValidSession_any [.int .i64 x.puzzle.points, .string x.puzzle.names, .slice A2 x.puzzle.moves.length C2, .slice A3 x.state.length C3, .slice A4 x.history.length C4, .slice A5 x.future.length C5] x _ _ (Rp.keep h0 (by with_reducible repeat (first | exact Only.refl _ _ | assumption | refine Only.drewN ?_ _ | refine Only.drew ?_ | refine Only.alloc ?_ _ | refine Only.setCell ?_ (by intro hh; exfalso; simp at hh; try omega) _ | refine Only.trans ?_ (by assumption))))).mono ?_); rintro e w1 ⟨he, t1⟩; rw [hq] at he; subst he; have x1 := t1.cells_eq w.heap.size (by simp; omega) (by simp); have y1 := t1.cells_eq (w.heap.size + 1) (by simp) (by simp); have z1 := t1.frozen_eq (w.heap.size + 1) (by simp) (by simp); have s1 : w.heap.size + 1 < w1.heap.size := (by have := t1.size; simp at this; omega); have K1 : Only [] w w1 := (by with_reducible repeat (first | exact Only.refl _ _ | assumption | refine Only.drewN ?_ _ | refine Only.drew ?_ | refine Only.alloc ?_ _ | refine Only.setCell ?_ (by intro hh; exfalso; simp at hh; try omega) _ | refine Only.trans ?_ (by assumption))))
      | (go_at_call 15; (with_reducible refine (specRM_i x.puzzle.points _ x.puzzle.moves _ seed w1 (Rp.keep h2 K1) Hgs.out hs).mono ?_); rintro e w2 ⟨u3, g5, rfl, r2, F2, t2⟩; rw [← HR.out] at r2; obtain ⟨A6, C6, _, _, rfl, -, -⟩ := r2.open_; have x2 := t2.cells_eq w.heap.size (by omega) (by simp); have y2 := t2.cells_eq (w.heap.size + 1) s1 (by simp); have z2 := t2.frozen_eq (w.heap.size + 1) s1 (by simp); have s2 : w.heap.size + 1 < w2.heap.size := Nat.lt_of_lt_of_le s1 t2.size; have K2 : Only [] w w2 := K1.trans t2)
      | (go_at_call 16; (with_reducible refine (copyPuzzle_any [.int .i64 x.puzzle.points, .string x.puzzle.names, .slice A2 x.puzzle.moves.length C2] x.puzzle _ w2 (Rp.keep k0 K2) hl hl2).mono ?_); rintro e w3 ⟨u4, g6, rfl, r3, F3, t3⟩; have q3 := r3; obtain ⟨u5, rfl, -, -, q4⟩ := q3; obtain ⟨A7, C7, _, _, rfl, -⟩ := q4.open_; have y3 := t3.cells_eq (w.heap.size + 1) s2 (by simp); have z3 := t3.frozen_eq (w.heap.size + 1) s2 (by simp); have s3 : w.heap.size + 1 < w3.heap.size := Nat.lt_of_lt_of_le s2 t3.size)
      | fail "no arm")
    have T3 : Only [] w w3 := K2.trans t3
    have hW : Only [w.heap.size + 1] w3 ((((((w3.setCell ⟨w.heap.size + 1, 0, none⟩ (.int .i64 x.puzzle.points)).setCell ⟨w.heap.size + 1, 1, none⟩ (.string x.puzzle.names)).setCell ⟨w.heap.size + 1, 2, none⟩ (.slice A7 x.puzzle.moves.length C7)).setCell ⟨w.heap.size + 1, 3, none⟩ (.slice A6 R.length C6)).setCell ⟨w.heap.size + 1, 4, none⟩ (.slice none 0 0)).setCell ⟨w.heap.size + 1, 5, none⟩ (.slice none 0 0)) := (by with_reducible repeat (first | exact Only.refl _ _ | assumption | refine Only.drewN ?_ _ | refine Only.drew ?_ | refine Only.alloc ?_ _ | refine Only.setCell ?_ (by intro _; simp) _ | refine Only.trans ?_ (Only.weaken (by assumption) _)))
    have G1 : ∀ b' ∈ g6, w.heap.size + 2 ≤ b' := fun b' hb => by have := F3.ge b' hb; omega
    have G2 : ∀ b' ∈ g5, w.heap.size + 2 ≤ b' := fun b' hb => by have := F2.ge b' hb; omega
    have n1 := Rp.only r3 hW (fun b' hb hm => by have := G1 b' hb; simp at hm; omega)
    have n2 := Rp.only (Rp.keep r2 t3) hW (fun b' hb hm => by have := G2 b' hb; simp at hm; omega)
    have n3 := (Fresh.append (F2.keep t3) F3 t2.size (fun b' hb => F2.lt b' hb)).only hW (fun b' hb hm => by
      simp at hm
      rcases List.mem_append.1 hb with hb | hb
      · have := G2 b' hb; omega
      · have := G1 b' hb; omega)
    have n4 : Fresh w.heap.size ((((((w3.setCell ⟨w.heap.size + 1, 0, none⟩ (.int .i64 x.puzzle.points)).setCell ⟨w.heap.size + 1, 1, none⟩ (.string x.puzzle.names)).setCell ⟨w.heap.size + 1, 2, none⟩ (.slice A7 x.puzzle.moves.length C7)).setCell ⟨w.heap.size + 1, 3, none⟩ (.slice A6 R.length C6)).setCell ⟨w.heap.size + 1, 4, none⟩ (.slice none 0 0)).setCell ⟨w.heap.size + 1, 5, none⟩ (.slice none 0 0)) (g6 ++ (g5 ++ ([] ++ []))) := by
      have n5 := n3.comm
      simpa using Fresh.mono n5 (by omega)
    refine bodyPost_ret (v := .tuple #[.agg #[.int .i64 x.puzzle.points, .string x.puzzle.names, .slice A7 x.puzzle.moves.length C7, .slice A6 R.length C6, .slice none 0 0, .slice none 0 0], .bool true]) (by simp [results, Tryz.results5, go_sem, y3, y2, y1]) rfl ⟨[.int .i64 x.puzzle.points, .string x.puzzle.names, .slice A7 x.puzzle.moves.length C7, .slice A6 R.length C6, .slice none 0 0, .slice none 0 0], g6 ++ (g5 ++ ([] ++ [])), by rw [Hp.out], by rw [Hp.out]; exact ⟨_, _, _, _, g6, g5, [], [], rfl, rfl, n1, n2, nil_rd _, nil_rd _⟩, n4, Only.own1 T3 hW (Nat.le_succ _)⟩
set_option maxHeartbeats 4000000 in
theorem implScramble_any (cs : List Value) (x : Session) (fp : List Nat) (seed : Int) (w : World) (h : Rp.rep w cs x fp) (hs : I64 seed) :
    Calls Tryz.prog 7 #[.agg cs.toArray, .int .i64 seed] w fun e w' => ∃ cs' fp', e = .returned (.tuple #[.agg (List.toArray cs'), .bool (scrS x seed).2]) ∧ Rp.rep w' cs' (scrS x seed).1 fp' ∧ Fresh w.heap.size w' fp' ∧ Only [] w w' := by
  have h0 := h
  obtain ⟨c0, v1, v2, v3, f0, f1, f2, f3, rfl, rfl, k0, k1, k2, k3⟩ := h
  have q0 := k0
  obtain ⟨u2, rfl, p0, p1, h2⟩ := q0
  obtain ⟨A2, C2, _, _, rfl, -, -⟩ := h2.open_
  obtain ⟨A3, C3, _, _, rfl, -, -⟩ := k1.open_
  obtain ⟨A4, C4, _, _, rfl, -, -⟩ := k2.open_
  obtain ⟨A5, C5, _, _, rfl, -, -⟩ := k3.open_
  rcases hq : validSe x
  · have hp : scrS x seed = (noSess, false) := by unfold scrS; rw [if_neg (by simp [hq])]
    have Hp := Lib.hid hp; clear hp
    go_enter Tryz.func7, Tryz.ntmps7
    go_wp2_with (first
      | (go_at_call 20; (with_reducible refine (implIsValidSession_any [.int .i64 x.puzzle.points, .string x.puzzle.names, .slice A2 x.puzzle.moves.length C2, .slice A3 x.state.length C3, .slice A4 x.history.length C4, .slice A5 x.future.length C5] x _ _ (Rp.keep h0 (by with_reducible repeat (first | exact Only.refl _ _ | assumption | refine Only.drewN ?_ _ | refine Only.drew ?_ | refine Only.alloc ?_ _ | refine Only.setCell ?_ (by intro hh; exfalso; simp at hh; try omega) _ | refine Only.trans ?_ (by assumption))))).mono ?_); rintro e w1 ⟨he, t1⟩; rw [hq] at he; subst he; have y1 := t1.cells_eq (w.heap.size + 1) (by simp) (by simp); have z1 := t1.frozen_eq (w.heap.size + 1) (by simp) (by simp); have s1 : w.heap.size + 1 < w1.heap.size := (by have := t1.size; simp at this; omega))
      | fail "no arm")
    refine bodyPost_ret (v := .tuple #[.agg #[.int .i64 0, .string ⟨#[]⟩, .slice none 0 0, .slice none 0 0, .slice none 0 0, .slice none 0 0], .bool false]) (by simp [results, Tryz.results7, go_sem, y1]) rfl ⟨[.int .i64 0, .string ⟨#[]⟩, .slice none 0 0, .slice none 0 0, .slice none 0 0, .slice none 0 0], [], by rw [Hp.out], by rw [Hp.out]; exact noSess_rep _, Fresh.nil _ _, (by with_reducible repeat (first | exact Only.refl _ _ | assumption | refine Only.drewN ?_ _ | refine Only.drew ?_ | refine Only.alloc ?_ _ | refine Only.setCell ?_ (by intro hh; exfalso; simp at hh; try omega) _ | refine Only.trans ?_ (by assumption)))⟩
  · obtain ⟨R, hR⟩ : ∃ R, R = randM x.puzzle.points.toNat x.puzzle.moves seed := ⟨_, rfl⟩
    have hp : scrS x seed = (⟨x.puzzle, R, [], []⟩, true) := by unfold scrS; rw [if_pos hq, hR]
    have hgs := validSe_gens hq
    obtain ⟨-, hl8, hl2, -⟩ := validSe_facts hq
    have hl : x.puzzle.moves.length ≤ 2097152 := by omega
    obtain ⟨⟨g1, g2⟩, g3, g4⟩ := gensB_iff.1 hgs
    have hRl : R.length ≤ 1000000 := by rw [hR]; have := randM_len (seed := seed) (by omega : 0 < x.puzzle.points.toNat) g4; omega
    have Hp := Lib.hid hp
    have HR := Lib.hid hR
    have Hgs := Lib.hid hgs
    clear hp hR hgs g4
    go_enter Tryz.func7, Tryz.ntmps7
    go_wp2_with (first
      | (go_at_call 20; (with_reducible refine (implIsValidSession_any [.int .i64 x.puzzle.points, .string x.puzzle.names, .slice A2 x.puzzle.moves.length C2, .slice A3 x.state.length C3, .slice A4 x.history.length C4, .slice A5 x.future.length C5] x _ _ (Rp.keep h0 (by with_reducible repeat (first | exact Only.refl _ _ | assumption | refine Only.drewN ?_ _ | refine Only.drew ?_ | refine Only.alloc ?_ _ | refine Only.setCell ?_ (by intro hh; exfalso; simp at hh; try omega) _ | refine Only.trans ?_ (by assumption))))).mono ?_); rintro e w1 ⟨he, t1⟩; rw [hq] at he; subst he; have x1 := t1.cells_eq w.heap.size (by simp; omega) (by simp); have y1 := t1.cells_eq (w.heap.size + 1) (by simp) (by simp); have z1 := t1.frozen_eq (w.heap.size + 1) (by simp) (by simp); have s1 : w.heap.size + 1 < w1.heap.size := (by have := t1.size; simp at this; omega); have K1 : Only [] w w1 := (by with_reducible repeat (first | exact Only.refl _ _ | assumption | refine Only.drewN ?_ _ | refine Only.drew ?_ | refine Only.alloc ?_ _ | refine Only.setCell ?_ (by intro hh; exfalso; simp at hh; try omega) _ | refine Only.trans ?_ (by assumption))))
      | (go_at_call 21; (with_reducible refine (implRM_i x.puzzle.points _ x.puzzle.moves _ seed w1 (Rp.keep h2 K1) Hgs.out hs).mono ?_); rintro e w2 ⟨u3, g5, rfl, r2, F2, t2⟩; rw [← HR.out] at r2; obtain ⟨A6, C6, _, _, rfl, -, -⟩ := r2.open_; have x2 := t2.cells_eq w.heap.size (by omega) (by simp); have y2 := t2.cells_eq (w.heap.size + 1) s1 (by simp); have z2 := t2.frozen_eq (w.heap.size + 1) s1 (by simp); have s2 : w.heap.size + 1 < w2.heap.size := Nat.lt_of_lt_of_le s1 t2.size; have K2 : Only [] w w2 := K1.trans t2)
      | (go_at_call 22; (with_reducible refine (newSession_any [.int .i64 x.puzzle.points, .string x.puzzle.names, .slice A2 x.puzzle.moves.length C2] x.puzzle _ (.slice A6 R.length C6) R _ w2 (Rp.keep k0 K2) r2 hl hl2 hRl).mono ?_); rintro e w3 ⟨u4, g6, rfl, r3, F3, t3⟩; have q3 := r3; obtain ⟨c0, a1, a2, a3, _, _, _, _, rfl, -, b0, b1, b2, b3⟩ := q3; obtain ⟨b4, rfl, -, -, b5⟩ := b0; obtain ⟨A7, C7, _, _, rfl, -⟩ := b5.open_; obtain ⟨A8, C8, _, _, rfl, -⟩ := b1.open_; obtain ⟨A9, C9, _, _, rfl, -⟩ := b2.open_; obtain ⟨A10, C10, _, _, rfl, -⟩ := b3.open_; have y3 := t3.cells_eq (w.heap.size + 1) s2 (by simp); have z3 := t3.frozen_eq (w.heap.size + 1) s2 (by simp); have s3 : w.heap.size + 1 < w3.heap.size := Nat.lt_of_lt_of_le s2 t3.size)
      | fail "no arm")
    have T3 : Only [] w w3 := K2.trans t3
    have hW : Only [w.heap.size + 1] w3 ((((((w3.setCell ⟨w.heap.size + 1, 0, none⟩ (.int .i64 x.puzzle.points)).setCell ⟨w.heap.size + 1, 1, none⟩ (.string x.puzzle.names)).setCell ⟨w.heap.size + 1, 2, none⟩ (.slice A7 x.puzzle.moves.length C7)).setCell ⟨w.heap.size + 1, 3, none⟩ (.slice A8 R.length C8)).setCell ⟨w.heap.size + 1, 4, none⟩ (.slice A9 ([] : List (List Int)).length C9)).setCell ⟨w.heap.size + 1, 5, none⟩ (.slice A10 ([] : List (List Int)).length C10)) := (by with_reducible repeat (first | exact Only.refl _ _ | assumption | refine Only.drewN ?_ _ | refine Only.drew ?_ | refine Only.alloc ?_ _ | refine Only.setCell ?_ (by intro _; simp) _ | refine Only.trans ?_ (Only.weaken (by assumption) _)))
    have G1 : ∀ b' ∈ g6, w.heap.size + 2 ≤ b' := fun b' hb => by have := F3.ge b' hb; omega
    have n1 := Rp.only r3 hW (fun b' hb hm => by have := G1 b' hb; simp at hm; omega)
    have n3 := F3.only hW (fun b' hb hm => by have := G1 b' hb; simp at hm; omega)
    refine bodyPost_ret (v := .tuple #[.agg #[.int .i64 x.puzzle.points, .string x.puzzle.names, .slice A7 x.puzzle.moves.length C7, .slice A8 R.length C8, .slice A9 ([] : List (List Int)).length C9, .slice A10 ([] : List (List Int)).length C10], .bool true]) (by simp [results, Tryz.results7, go_sem, y3, y2, y1]) rfl ⟨[.int .i64 x.puzzle.points, .string x.puzzle.names, .slice A7 x.puzzle.moves.length C7, .slice A8 R.length C8, .slice A9 ([] : List (List Int)).length C9, .slice A10 ([] : List (List Int)).length C10], g6, by rw [Hp.out], by rw [Hp.out]; exact n1, Fresh.mono n3 (by omega), Only.own1 T3 hW (Nat.le_succ _)⟩
end Go.Proofs.YtnagknkllkdkaaaGreat

namespace Go.Proofs.YtnagknkllkdkaaaGreat
open Go.RowKit
set_option maxRecDepth 10000
end Go.Proofs.YtnagknkllkdkaaaGreat
