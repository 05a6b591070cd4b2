/- The library's slices.Repeat of one number, slices.Grow, slices.Concat at []int64 (laws 41, 46, 51, 57, 58). The program's group order and number of states (laws 20, 38). Maps from strings to int64 that a call makes. (Printed by mkmapi.py out of XMap.) The first pattern with a key, in plain words. A family of memory parts of a call's own: all apart from each other; what a write to one of them leaves of the others. A region whose order is drawn, by an invariant: what holds whatever has come up so far. The program's search of all states (laws 20, 38). -/
import Derived.Test.YtclhblofchfglaaGreatRowTwoPhaseCertifiedG12
import Derived.Test.YtclhblofchfglaaGreatRowTwoPhaseCertifiedG5
import Derived.Test.YtclhblofchfglaaGreatRowTwoPhaseCertifiedG9
import Derived.Laws.Bits64b
import Derived.Lib.AppendZeros
import Derived.Test.YtclhblofchfglaaGreatRowTwoPhaseCertifiedG6
import Derived.Test.YtclhblofchfglaaGreatRowTwoPhaseCertifiedG8
import Derived.Test.YtclhblofchfglaaGreatRowTwoPhaseCertifiedG11
import Derived.Test.YtclhblofchfglaaGreatRowTwoPhaseCertifiedG2
import Derived.Orders
import Derived.RegionTactic
import Derived.Deep.RegionHeld
import Derived.Deep.DeepCutAuto
import Derived.Deep.RegionLaw
namespace Go.Proofs.YtclhblofchfglaaGreat
open Go.RowKit
set_option maxRecDepth 10000

theorem mask32 (a : Nat) (ha : a < 4294967296) : bits .and .u64 (a : Int) 4294967295 = a := by
  have h := bits_and_u64_nat a 4294967295 (by omega) (by omega)
  have e : a &&& 4294967295 = a % 4294967296 := Nat.and_two_pow_sub_one_eq_mod a 32
  rw [e, Nat.mod_eq_of_lt ha] at h
  exact h
set_option maxHeartbeats 1000000 in
theorem mul64_one (y : Nat) (hy : y ≤ 1000000) (w : World) :
    Calls Tryz.prog 195 #[.int .u64 1, .int .u64 y] w fun e w' => e = .returned (.tuple #[.int .u64 0, .int .u64 y]) ∧ w' = w := by
  have m1 : bits .and .u64 (1 : Int) 4294967295 = 1 := mask32 1 (by omega)
  have m0 : bits .and .u64 (0 : Int) 4294967295 = 0 := mask32 0 (by omega)
  have my : bits .and .u64 (y : Int) 4294967295 = y := mask32 y (by omega)
  have d1 : (y : Int) / 4294967296 = 0 := by omega
  have wy : IntKind.u64.wrap (y : Int) = y := by rw [IntKind.wrap_u64]; omega
  go_enter Tryz.func195, Tryz.ntmps195
  go_wp2
  go_ret2
  exact ⟨rfl, rfl⟩
set_option maxHeartbeats 1000000 in
theorem mul_one_any (y : Nat) (hy : y ≤ 1000000) (w : World) :
    Calls Tryz.prog 170 #[.int .u64 1, .int .u64 y] w fun e w' => e = .returned (.tuple #[.int .u64 0, .int .u64 y]) ∧ w' = w := by
  go_enter Tryz.func170, Tryz.ntmps170
  go_wp2_with (first
    | (go_at_call 195; (with_reducible refine (mul64_one y hy _).mono ?_); rintro e w1 ⟨rfl, rfl⟩)
    | fail "no arm")
  go_ret2
  exact ⟨rfl, rfl⟩
theorem rep_splice {α : Type} (x z : α) (m n k : Nat) : splice (List.replicate m x ++ List.replicate (n - m) z) m (List.replicate k x) = List.replicate (m + k) x ++ List.replicate (n - (m + k)) z := by
  unfold splice
  rw [List.take_left' (by simp), List.length_replicate, ← List.append_assoc, List.replicate_append_replicate, List.drop_append]
  simp
  omega
theorem row_whole {w : World} {B g n : Nat} {e : TypeId} {xs : List Value} (h : w.ownsRow B e 1 (.slice (some ⟨g, 0, none⟩) n n) n xs) : w.heap[g]? = some (.cells xs.toArray e (0, 0)) := by
  rcases h.2 with ⟨h0, -⟩ | ⟨g2, c2, cur2, hv, hb, hg2, h1, h2, h3, h4⟩
  · cases h0
  · injection hv with hv _ hc; injection hv with hv; injection hv with hv _ _
    subst hv; subst hc
    have h5 : cur2.toList = xs := by
      rw [← h4, List.take_of_length_le]
      have : cur2.size = n * 1 := h3
      simp; omega
    rw [hg2, ← h5]
theorem row_own {w : World} {B g n : Nat} {e : TypeId} {xs : List Value} (hl : xs.length = n) (hB : B ≤ g) (hn : n ≤ maxLen) (h : w.heap[g]? = some (.cells xs.toArray e (0, 0))) : w.ownsRow B e 1 (.slice (some ⟨g, 0, none⟩) n n) n xs :=
  ⟨by omega, .inr ⟨g, n, _, rfl, hB, h, Nat.le_refl _, hn, by simp [hl], by simp [← hl]⟩⟩
set_option maxHeartbeats 800000 in
theorem Repeat_one (g n : Nat) (x : Int) (w : World) (hx : I64 x) (h1 : 1 ≤ n) (hn : n ≤ 1000000) (hc : w.cell? ⟨g, 0, none⟩ = some (.int .i64 x)) :
    Calls Tryz.prog 130 #[.slice (some ⟨g, 0, none⟩) 1 1, .int .i64 n] w fun e w' => ∃ u, e = .returned u ∧ AccI w.heap.size 2 w' u (List.replicate n x) ∧ Only [] w w' := by
  obtain ⟨i0, hi, hz0, hz1, hz2⟩ := info_parts Tryz.info2
  have wn : IntKind.u64.wrap (n : Int) = n := by rw [IntKind.wrap_u64]; omega
  have w1' : IntKind.u64.wrap (1 : Int) = 1 := by rw [IntKind.wrap_u64]; omega
  have vn : IntKind.i64.wrap (n : Int) = n := by rw [IntKind.wrap_i64]; omega
  have q6 : (Tryz.prog.info? 2).map (·.size) = some 1 := by rw [hi]; simp [hz1]
  go_enter Tryz.func130, Tryz.ntmps130
  go_upto_region 7 with (first
    | (go_at_call 170; (with_reducible refine (mul_one_any n hn _).mono ?_); rintro e w ⟨rfl, rfl⟩)
    | (at_make; refine wpList_make_full _ rfl _ _ 25 rfl w.heap.size 2 i0 _ 1 Tryz.underlying25 hi hz0 hz1 _ _ _ _ n rfl rfl rfl rfl (by rw [hz2]; omega) (by unfold maxLen; omega) (Nat.le_refl _) ?_; intro w1 hown hg)
    | fail "no arm")
  rw [madeInts, Nat.mul_one] at hown
  have hh1 := row_whole hown
  have hK1 : Only [] w w1 := (Only.refl _ _).grown hg (by simp)
  have hs1 := hK1.size
  have hc1 := hK1.cell (by simp) hc
  have q1 : [Value.int .i64 x].length = Nat.min 1 n := (Nat.min_eq_left h1).symm
  have q2 : ∀ j v, [Value.int .i64 x][j]? = some v → w1.cell? ((⟨g, 0, none⟩ : Addr).add j) = some v := by
    intro j v hj
    cases j with
    | zero => simp at hj; subst hj; rw [addr_add]; exact hc1
    | succ j => simp at hj
  have q4 : 0 + [Value.int .i64 x].length ≤ (List.replicate n (Value.int .i64 0)).length := by simp; omega
  have q5 : ∀ v ∈ [Value.int .i64 x], v.oneCell' = true := by intro v hv; simp at hv; subst hv; rfl
  have hb1 : Below w.heap.size w w1 := hK1.below (Nat.le_refl _) (by simp)
  go_upto_region 8 with (with_reducible refine wpList_copy_splice rfl (.tmp 31) (.tmp 32) 25 25 rfl 2 Tryz.underlying25 q6 _ _ _ _ _ _ rfl rfl w.heap.size 0 (List.replicate n (Value.int .i64 0)) 2 hh1 [.int .i64 x] q1 (fun _ => ⟨rfl, _, rfl, q2⟩) q4 q5 w.heap.size w hb1 (Nat.le_refl _) ?_; intro w2 hh2 hb2)
  have hh2 := hh2.out
  have h02 := rep_splice (Value.int .i64 x) (Value.int .i64 0) 0 n 1
  simp only [List.replicate_zero, List.nil_append, Nat.sub_zero, Nat.zero_add] at h02
  rw [show [Value.int .i64 x] = List.replicate 1 (Value.int .i64 x) from rfl, h02] at hh2
  have hK2 : Only [] w w2 := Only.ofBelow hb2 _
  go_loopw [8] (fun k wr => ∃ m : Nat, 1 ≤ m ∧ m ≤ n ∧ k = .int .i64 m ∧ wr.heap[w.heap.size]? = some (.cells (List.replicate m (Value.int .i64 x) ++ List.replicate (n - m) (Value.int .i64 0)).toArray 2 (0, 0)) ∧ Only [] w wr)
    (fun k _ => n - (intOf k).toNat)
  case atStart => exact ⟨1, Nat.le_refl _, h1, rfl, hh2, hK2⟩
  case round =>
    obtain ⟨W3, hnew⟩ : ∃ W, W = wr := ⟨_, rfl⟩
    subst hnew
    obtain ⟨m, hm1, hmn, rfl, hh3, hK3⟩ := hrel
    by_cases hlt : m < n
    · obtain ⟨k, hk⟩ : ∃ k, k = Nat.min m (n - m) := ⟨_, rfl⟩
      have hk1 : 1 ≤ k := by rw [hk]; exact Nat.le_min.2 ⟨hm1, by omega⟩
      have hkm : k ≤ m := by rw [hk]; exact Nat.min_le_left _ _
      have hkn : m + k ≤ n := by have : k ≤ n - m := by rw [hk]; exact Nat.min_le_right _ _
                                 omega
      obtain ⟨cs, hcs⟩ : ∃ cs, cs = List.replicate k (Value.int .i64 x) := ⟨_, rfl⟩
      have hcl : cs.length = k := by rw [hcs]; simp
      have p1 : cs.length = Nat.min m (n - m) := by rw [hcl]; exact hk
      have p5 : ∀ v ∈ cs, v.oneCell' = true := by intro v hv; rw [hcs] at hv; rw [List.eq_of_mem_replicate hv]; rfl
      have hO3 := row_own (n := n) (B := w.heap.size) (by simp; omega) (Nat.le_refl _) (by unfold maxLen; omega) hh3
      have p2 : ∀ j v, cs[j]? = some v → W3.drew.cell? ((⟨w.heap.size, 0, none⟩ : Addr).add j) = some v := by
        intro j v hj
        have hjl := (List.getElem?_eq_some_iff.1 hj).1
        rw [addr_add]
        have hcell := hO3.cellAt j (by simp; omega)
        rw [List.getElem?_append_left (by simp; omega)] at hcell
        rw [Nat.zero_add]
        refine hcell.trans ?_
        rw [← hj, hcs, List.getElem?_replicate, List.getElem?_replicate, if_pos (by omega), if_pos (by omega)]
      have p4 : m + cs.length ≤ (List.replicate m (Value.int .i64 x) ++ List.replicate (n - m) (Value.int .i64 0)).length := by simp; omega
      have p3 : 0 < cs.length → (if n = m then some (⟨w.heap.size, 0, none⟩ : Addr) else some ⟨w.heap.size, m, none⟩) = some ⟨w.heap.size, m, none⟩ ∧ ∃ ad, some (⟨w.heap.size, 0, none⟩ : Addr) = some ad ∧ ∀ j v, cs[j]? = some v → W3.drew.cell? (ad.add j) = some v := fun _ => ⟨by rw [if_neg (by omega)], _, rfl, p2⟩
      have hsp := rep_splice (Value.int .i64 x) (Value.int .i64 0) m n k
      rw [← hcs] at hsp
      obtain ⟨cur3, hcur⟩ : ∃ cur3, cur3 = List.replicate m (Value.int .i64 x) ++ List.replicate (n - m) (Value.int .i64 0) := ⟨_, rfl⟩
      rw [← hcur] at hh3 p4 hsp
      have Hsp := Lib.hid hsp
      have Hwk := Lib.hid (show IntKind.i64.wrap ((m : Int) + ((Nat.min m (n - m) : Nat) : Int)) = ((m + k : Nat) : Int) by rw [← hk, IntKind.wrap_i64]; omega)
      have Hcl := Lib.hid hcl
      clear hk hcs hcl hsp hcur hO3 hh2 h02 hh1 q1 q2 q4 q5 hown
      go_wp2
      go_region_law (refine step_copy_row rfl (.tmp 41) (.tmp 44) 25 25 rfl 2 Tryz.underlying25 q6 (if n = m then some ⟨w.heap.size, 0, none⟩ else some ⟨w.heap.size, m, none⟩) (some ⟨w.heap.size, 0, none⟩) (n - m) (n - m) m n ?hd ?hs w.heap.size m cur3 2 hh3 cs p1 p3 p4 p5 ?_; (case hd => simp [go_sem]); (case hs => simp [go_sem]); intro w4 hh4 k4)
      all_goals go_wp2_with fail
      all_goals exact ⟨⟨m + k, by omega, hkn, Hwk.out, by rw [← Hsp.out] <;> exact hh4, hK3.then_ (((Only.refl [w.heap.size] W3).drew).trans k4) (by simp)⟩, by simp only [intOf, Hwk.out]; omega⟩
    · obtain rfl : m = n := by omega
      rw [Nat.sub_self, List.replicate_zero, List.append_nil] at hh3
      have hO3 := row_own (n := m) (B := w.heap.size) (by simp) (Nat.le_refl _) (by unfold maxLen; omega) hh3
      have HA := Lib.hid (AccI.ofRow (l := List.replicate m x) (by simpa using hO3) (fun y hy => by rw [List.eq_of_mem_replicate hy]; exact hx))
      clear hh3 hO3 hh2 h02 hh1 hown
      go_wp2
      go_ret
      exact ⟨_, rfl, HA.out, hK3⟩
set_option maxHeartbeats 1000000 in
theorem Grow_nil (n : Nat) (w : World) (hn : n ≤ 1000000) :
    Calls Tryz.prog 123 #[.slice none 0 0, .int .i64 n] w fun e w' => ∃ u, e = .returned u ∧ AccI w.heap.size 2 w' u [] ∧ Only [] w w' := by
  obtain ⟨i0, hi, hz0, hz1, hz2⟩ := info_parts Tryz.info2
  rcases Nat.eq_zero_or_pos n with h0 | h0
  · subst h0
    go_enter Tryz.func123, Tryz.ntmps123
    go_wp2
    go_ret
    exact ⟨_, rfl, AccI.nil _ _ _, Only.refl _ _⟩
  · have h1 : IntKind.i64.wrap (n : Int) = n := by rw [IntKind.wrap_i64]; omega
    have happ := Lib.run_append_nil_zeros (P := Tryz.prog) w 25 3 25 2 i0 (.int .i64 0) .i64 .i64 Tryz.underlying25 Tryz.underlying3 hi hz0 n h0 (by omega) (by omega) (by rw [hz2]; omega)
    have hge := grownCap_ge w n 0 2
    have hcm : grownCap w n 0 2 ≤ maxLen := grownCap_le_maxLen w n 0 2 (by unfold maxLen; omega)
    obtain ⟨G, hG⟩ : ∃ G, G = grownCap w n 0 2 := ⟨_, rfl⟩
    rw [← hG] at happ hge hcm
    have hG3 : G ≤ 9223372036854775807 := by unfold maxLen at hcm; exact hcm
    obtain ⟨cur, hcur⟩ : ∃ cur, cur = Builtin.zeroCells (Value.int .i64 0).cells n ++ Builtin.zeroCells (Value.int .i64 0).cells (G - n) := ⟨_, rfl⟩
    have hcl : cur.size = G := by
      have hzz : (Value.int .i64 0).cells.size = 1 := rfl
      rw [hcur, Array.size_append, size_zeroCells, size_zeroCells, hzz]; omega
    rw [← hcur] at happ
    have Hcl := Lib.hid hcl
    clear hG hcur hcl
    go_enter Tryz.func123, Tryz.ntmps123
    go_wp2_with (at_builtin; refine Lib.wpList_append_run _ rfl _ _ _ _ rfl _ _ rfl rfl _ _ happ ?_)
    go_ret
    refine ⟨_, rfl, AccI.ofRow (l := []) ⟨rfl, .inr ⟨w.heap.size, G, cur, rfl, Nat.le_refl _, heap_alloc_new w.drew _, Nat.zero_le _, hcm, by have := Hcl.out; omega, by simp⟩⟩ (by simp), ((Only.refl _ _).drew).alloc _⟩
theorem flat_take (L : List (List Int)) (j : Nat) (h : j < L.length) : (L.take (j + 1)).flatten = (L.take j).flatten ++ L[j] := by
  rw [take_succ_get L j h, List.flatten_append]; simp
theorem flat_take_le (L : List (List Int)) (j : Nat) : (L.take j).flatten.length ≤ L.flatten.length := by
  have : (L.take j ++ L.drop j).flatten = (L.take j).flatten ++ (L.drop j).flatten := List.flatten_append
  rw [List.take_append_drop] at this
  rw [this, List.length_append]; omega
set_option maxHeartbeats 4000000 in
theorem Concat_rows (v : Value) (L : List (List Int)) (fp : List Nat) (w : World) (h : Rd w v L fp) (hs : L.flatten.length ≤ 1000000) :
    Calls Tryz.prog 68 #[v] w fun e w' => ∃ u, e = .returned u ∧ AccI w.heap.size 2 w' u L.flatten ∧ Only [] w w' := by
  obtain ⟨i0, hi, hz0, hz1, hz2⟩ := info_parts Tryz.info2
  obtain ⟨a, cap, ob, fps, rfl, -, S⟩ := h.open_
  have hb := S.bound
  go_enter Tryz.func68, Tryz.ntmps68
  go_wp2
  go_loop [3, 11] (fun m i => ∃ j : Nat, j ≤ L.length ∧ i = .int .i64 j ∧ m = .int .i64 ((L.take j).flatten.length : Nat))
    (fun _ i => L.length - (intOf i).toNat)
  case atStart => exact ⟨0, Nat.zero_le _, rfl, by simp⟩
  case round =>
    obtain ⟨j, hj, rfl, rfl⟩ := hrel
    by_cases hlt : j < L.length
    · obtain ⟨b, off, u, rfl, -, hc, hu⟩ := S.atRow j hlt
      obtain ⟨a1, c1, rfl, I1⟩ := hu.ints
      have hb1 := I1.bound
      have e1 := flat_take L j hlt
      have e2 := flat_take_le L (j + 1)
      have e3 : (L.take (j + 1)).flatten.length = (L.take j).flatten.length + L[j].length := by rw [e1, List.length_append]
      obtain ⟨p, hp⟩ : ∃ p, p = (L.take j).flatten.length := ⟨_, rfl⟩
      obtain ⟨q, hq⟩ : ∃ q, q = L[j].length := ⟨_, rfl⟩
      rw [← hp, ← hq] at e3
      rw [← hp]
      rw [← hq] at hc hb1
      have hw : IntKind.i64.wrap ((p : Int) + (q : Int)) = (p : Int) + q := by rw [IntKind.wrap_i64]; omega
      have hn : ¬ ((p : Int) + (q : Int) < 0) := by omega
      have E3 := Lib.hid e3
      clear e1 e2 e3 hp hq
      go_wp2
      go_round
      case rel => exact ⟨j + 1, by omega, by go_num, by rw [E3.out]; go_num⟩
      case measure => simp [intOf]; omega
    · obtain rfl : j = L.length := by omega
      rw [List.take_length]
      obtain ⟨M, hM⟩ : ∃ M, M = L.flatten.length := ⟨_, rfl⟩
      rw [← hM] at hs
      rw [← hM]
      have HM := Lib.hid hM
      clear hM
      go_wp2_with ((go_at_call 123; (with_reducible refine (Grow_nil M _ hs).mono ?_); rintro e w1 ⟨u1, rfl, A1, t1⟩))
      go_loopw [6, 27] (fun o i wr => ∃ j : Nat, j ≤ L.length ∧ i = .int .i64 j ∧ AccI w.heap.size 2 wr o (L.take j).flatten ∧ Only [] w wr)
        (fun _ i _ => L.length - (intOf i).toNat)
      case atStart => exact ⟨0, Nat.zero_le _, rfl, by simpa using A1, t1⟩
      case round =>
        obtain ⟨W2, hnew⟩ : ∃ W, W = wr := ⟨_, rfl⟩
        subst hnew
        obtain ⟨j, hj, rfl, hA, hK⟩ := hrel
        by_cases hlt : j < L.length
        · obtain ⟨b, off, u, rfl, -, hc, hu⟩ := S.atRow j hlt
          have hu2 : Rd W2 u L[j] _ := Rp.keep hu hK
          obtain ⟨a1, c1, rfl, I1⟩ := hu2.ints
          have hb1 := I1.bound
          have hc2 := hK.cell (by simp) hc
          have e1 := flat_take L j hlt
          have e2 := flat_take_le L (j + 1)
          have e3 : (L.take (j + 1)).flatten.length = (L.take j).flatten.length + L[j].length := by rw [e1, List.length_append]
          have hsum : (L.take j).flatten.length + L[j].length ≤ 1000000 := by rw [← e3, ← List.length_map (f := id)]; simp only [List.length_map]; have := HM.out; omega
          obtain ⟨hO, hI⟩ := hA.row
          obtain ⟨q1, q2⟩ := ints_src I1
          have hsz := hK.size
          obtain ⟨D, hD⟩ : ∃ D, D = (L.take j).flatten := ⟨_, rfl⟩
          obtain ⟨R, hR⟩ : ∃ R, R = L[j] := ⟨_, rfl⟩
          rw [← hD] at hO hI hsum e1
          rw [← hR] at hc2 hsum q1 q2 hb1 e1
          have HO := Lib.hid hO
          have E1 := Lib.hid e1
          have hIR : ∀ y ∈ D ++ R, I64 y := fun y hy => by
            rcases List.mem_append.1 hy with hy | hy
            · exact hI y hy
            · rw [hR] at hy; exact I1.wf y hy
          have HIR := Lib.hid hIR
          clear hA hO hI e1 e2 e3 hc hu hu2 hD hR I1 hIR
          go_wp2_with (at_builtin; refine wpList_app _ rfl _ _ 25 rfl w.heap.size 2 i0 _ 1 8 Tryz.underlying25 hi hz0 hz1 hz2 rfl (by omega) u6 D.length (D.map (Value.int .i64)) rfl HO.out a1 R.length c1 (R.map (Value.int .i64)) rfl (by simp) q1 q2 (ints_one R) (by unfold maxLen; omega) (by omega) hsz ?_; intro v3 w3 hO3 hg3 hb3)
          have hK3 : Only [] w w3 := hK.grown hg3 (fun k hk hlt => by
            have h8 := AccI.ofRow (l := D) HO.out (fun y hy => HIR.out y (List.mem_append_left _ hy))
            have := (h8.ownlt k hk).1
            omega)
          rw [← List.map_append, ← List.length_append] at hO3
          have hA3 := AccI.ofRow hO3 HIR.out
          go_roundw
          case rel => exact ⟨j + 1, by omega, by go_num, by rw [E1.out]; exact hA3, hK3⟩
          case measure => simp [intOf]; omega
        · obtain rfl : j = L.length := by omega
          rw [List.take_length] at hA
          have HA := Lib.hid hA
          clear hA
          go_wp2
          go_ret
          exact ⟨_, rfl, HA.out, hK⟩
end Go.Proofs.YtclhblofchfglaaGreat

namespace Go.Proofs.YtclhblofchfglaaGreat
open Go.RowKit
set_option maxRecDepth 10000

theorem ord_step {T : PM.Rows} {n i : Nat} (hi : i < n) : PM.ordM T n (n - i) = PM.cntR n T i * PM.ordM T n (n - (i + 1)) := by
  have h1 : n - i = (n - (i + 1)) + 1 := by omega
  have h2 : n - (n - (i + 1) + 1) = i := by omega
  rw [h1]; simp only [PM.ordM, h2]
theorem ord_end {T : PM.Rows} {n i : Nat} (hi : n ≤ i) : PM.ordM T n (n - i) = 1 := by
  rw [show n - i = 0 by omega]; rfl
theorem orb_cnt (n : Nat) (T : PM.Rows) (k : Nat) : (orb n T k).length = PM.cntR n T k := rfl
set_option maxHeartbeats 2000000 in
theorem implOrder_any {e : TypeId} {B : Nat} {L : Lay} {gv : Nat → Value} {n : Nat} {G : PM.Gens} {T : PM.Rows} {M F : List Nat} (w : World) (hC : Ch e B w L gv n G T M F) (hw : PM.WF n T) (hT : L.oT = 2) (k : Nat) (hk : k ≤ n) :
    Calls Tryz.prog 189 #[.pointer (some ⟨L.g, 0, none⟩), .int .i64 k] w fun e w' => e = .returned (.int .i64 (PM.ordM T n (n - k) : Nat)) ∧ Only [] w w' := by
  have hn20 := hC.le
  have hct := hC.ct
  rw [hT] at hct
  have hcn := hC.cn
  have HC := Lib.hid hC
  have Hw := Lib.hid hw
  clear hC hw
  go_enter Tryz.func189, Tryz.ntmps189
  go_wp2
  go_loopw [5, 6] (fun o i wr => ∃ (j m : Nat), k ≤ j ∧ j ≤ n ∧ i = .int .i64 j ∧ o = .int .i64 (m : Nat) ∧ 1 ≤ m ∧ m * PM.ordM T n (n - j) = PM.ordM T n (n - k) ∧ Only [] w wr)
    (fun _ i _ => n - (intOf i).toNat)
  case atStart => exact ⟨k, 1, Nat.le_refl _, hk, rfl, rfl, Nat.le_refl _, Nat.one_mul _, Only.refl _ _⟩
  case round =>
    obtain ⟨W2, hnew⟩ : ∃ W, W = wr := ⟨_, rfl⟩
    subst hnew
    obtain ⟨j, m, hkj, hj, rfl, rfl, hm1, hm, hK⟩ := hrel
    have Hm := Lib.hid hm
    clear hm
    have y0 := hK.cell (by simp) hcn
    have y1 := hK.cell (by simp) hct
    by_cases hlt : j < n
    · have hC2 := HC.out.keep hK
      have y2 := hC2.row j hlt
      have hstep := ord_step (T := T) hlt
      have hoc := orb_cnt n T j
      have hcp := PM.cntR_pos Hw.out hlt
      have hor := PM.ordM_rng Hw.out (n - (j + 1)) (by omega)
      have hmul : (m * PM.cntR n T j) * PM.ordM T n (n - (j + 1)) = PM.ordM T n (n - k) := by rw [Nat.mul_assoc, ← hstep]; exact Hm.out
      have hle : m * PM.cntR n T j ≤ 2432902008176640000 := by
        have h1 := PM.ordM_le Hw.out hn20 (m := n - k) (by omega)
        have h2 : m * PM.cntR n T j ≤ (m * PM.cntR n T j) * PM.ordM T n (n - (j + 1)) := Nat.le_mul_of_pos_right _ hor.1
        omega
      have hpos : 1 ≤ m * PM.cntR n T j := Nat.mul_le_mul hm1 hcp
      obtain ⟨cn, hcnn⟩ : ∃ cn, cn = PM.cntR n T j := ⟨_, rfl⟩
      rw [← hcnn] at hmul hle hoc hpos
      have Hmul := Lib.hid hmul
      have Hoc := Lib.hid hoc
      have hwr : IntKind.i64.wrap ((m : Int) * (cn : Int)) = ((m * cn : Nat) : Int) := by rw [IntKind.wrap_i64]; push_cast; omega
      clear hstep hor hmul hoc hcnn hcp
      go_wp2_with (first
        | (go_at_call 206; (with_reducible refine (orbitOf_any _ (hC2.keep (by with_reducible repeat (first | exact Only.refl _ _ | assumption | refine Only.drewN ?_ _ | refine Only.drew ?_ | refine Only.alloc ?_ _ | refine Only.setCell ?_ (by intro hh; exfalso; simp at hh; try omega) _ | refine Only.trans ?_ (by assumption)))) j hlt).mono ?_); rintro e w3 ⟨v3, f3, rfl, A3, F3, t3⟩; have r3 := A3.rd (by decide))
        | (go_at_call 47; (with_reducible refine (lengthInt_rd v3 (orb n T j) _ _ (Rp.keep r3 (by with_reducible repeat (first | exact Only.refl _ _ | assumption | refine Only.drewN ?_ _ | refine Only.drew ?_ | refine Only.alloc ?_ _ | refine Only.setCell ?_ (by intro hh; exfalso; simp at hh; try omega) _ | refine Only.trans ?_ (by assumption))))).mono ?_); rintro e w4 ⟨he, rfl⟩; rw [Hoc.out] at he; subst he)
        | fail "no arm")
      go_roundw
      case rel => exact ⟨j + 1, m * cn, by omega, by omega, by go_num, rfl, hpos, Hmul.out, (by with_reducible repeat (first | exact Only.refl _ _ | assumption | refine Only.drewN ?_ _ | refine Only.drew ?_ | refine Only.alloc ?_ _ | refine Only.setCell ?_ (by intro hh; exfalso; simp at hh; try omega) _ | refine Only.trans ?_ (by assumption)))⟩
      case measure => simp [intOf]; omega
    · have he : j = n := by omega
      have hend := ord_end (T := T) (n := n) (i := j) (by omega)
      have hfin : m = PM.ordM T n (n - k) := by have := Hm.out; rw [hend, Nat.mul_one] at this; exact this
      have Hfin := Lib.hid hfin
      clear he hend hfin
      go_wp2
      go_ret
      exact ⟨ret_int (by rw [Hfin.out]), hK⟩
theorem implOrder0 {e : TypeId} {B : Nat} {L : Lay} {gv : Nat → Value} {n : Nat} {G : PM.Gens} {T : PM.Rows} {M F : List Nat} {w : World} (hC : Ch e B w L gv n G T M F) (hw : PM.WF n T) (hT : L.oT = 2) :
    Calls Tryz.prog 189 #[.pointer (some ⟨L.g, 0, none⟩), .int .i64 0] w fun e w' => e = .returned (.int .i64 (PM.ordM T n n : Nat)) ∧ Only [] w w' :=
  implOrder_any w hC hw hT 0 (Nat.zero_le _)
set_option maxHeartbeats 1000000 in
theorem implStateCount_any (cs : List Value) (x : Puzzle) (fp : List Nat) (w : World) (h : Rp.rep w cs x fp) :
    Calls Tryz.prog 158 #[.agg cs.toArray] w fun e w' => e = .returned (.int .i64 (if validPz x = true then (cardG x : Int) else 0)) ∧ Only [] w w' := by
  have h0 := h
  obtain ⟨v2, rfl, p0, p1, h2⟩ := h
  obtain ⟨A2, C2, ob, fps, rfl, -, -⟩ := h2.open_
  rcases hq : validPz x
  · go_enter Tryz.func158, Tryz.ntmps158
    go_wp2_with (first
      | (go_at_call 85; (with_reducible refine (implIsValidPuzzle_any [.int .i64 x.points, .string x.names, .slice A2 x.moves.length C2] x _ _ (Rp.keep h0 (by with_reducible repeat (first | exact Only.refl _ _ | assumption | refine Only.drewN ?_ _ | refine Only.drew ?_ | refine Only.alloc ?_ _ | refine Only.setCell ?_ (by intro hh; exfalso; simp at hh; try omega) _ | refine Only.trans ?_ (by assumption))))).mono ?_); rintro e w1 ⟨he, t1⟩; rw [hq] at he; subst he) | fail "no arm")
    go_ret
    exact ⟨rfl, (by with_reducible repeat (first | exact Only.refl _ _ | assumption | refine Only.drewN ?_ _ | refine Only.drew ?_ | refine Only.alloc ?_ _ | refine Only.setCell ?_ (by intro hh; exfalso; simp at hh; try omega) _ | refine Only.trans ?_ (by assumption)))⟩
  · obtain ⟨n1, n20, hml, -⟩ := validPz_facts hq
    have hmp := validPz_pn hq
    have Hmp := Lib.hid hmp
    clear hmp
    have X0 := Blk.new w [.int .i64 x.points, .string x.names, .slice A2 x.moves.length C2] 33
    simp only [List.toArray] at X0
    go_enter Tryz.func158, Tryz.ntmps158
    go_wp2_with (first
      | (go_at_call 85; (with_reducible refine (implIsValidPuzzle_any [.int .i64 x.points, .string x.names, .slice A2 x.moves.length C2] x _ _ (Rp.keep h0 (by with_reducible repeat (first | exact Only.refl _ _ | assumption | refine Only.drewN ?_ _ | refine Only.drew ?_ | refine Only.alloc ?_ _ | refine Only.setCell ?_ (by intro hh; exfalso; simp at hh; try omega) _ | refine Only.trans ?_ (by assumption))))).mono ?_); rintro e w1 ⟨he, t1⟩; rw [hq] at he; subst he; have X1 := X0.keep t1; have y0 := X1.cell 0 rfl; have y1 := X1.cell 1 rfl; have y2 := X1.cell 2 rfl)
      | (go_at_call 180; (with_reducible refine (implNewChain_i x.points n1 n20 _ x.moves _ _ (Rp.keep h2 (by with_reducible repeat (first | exact Only.refl _ _ | assumption | refine Only.drewN ?_ _ | refine Only.drew ?_ | refine Only.alloc ?_ _ | refine Only.setCell ?_ (by intro hh; exfalso; simp at hh; try omega) _ | refine Only.trans ?_ (by assumption)))) Hmp.out (by omega)).mono ?_); rintro en w3 ⟨L, gv, G, T, M, F, rfl, hoG, hoT, hC, hCh, t3⟩; have HC := Lib.hid hC; have HCh := Lib.hid hCh; have HoT := Lib.hid hoT; clear hC hCh hoT hoG)
      | (go_at_call 189; (with_reducible refine (implOrder0 HC.out HCh.out.inv.wf HoT.out).mono ?_); rintro en w4 ⟨he, t4⟩; rw [chain_card HCh.out (by omega) Hmp.out] at he; subst he) | fail "no arm")
    go_ret
    exact ⟨rfl, (by with_reducible repeat (first | exact Only.refl _ _ | assumption | refine Only.drewN ?_ _ | refine Only.drew ?_ | refine Only.alloc ?_ _ | refine Only.setCell ?_ (by intro hh; exfalso; simp at hh; try omega) _ | refine Only.trans ?_ (by assumption)))⟩
end Go.Proofs.YtclhblofchfglaaGreat

namespace Go.Proofs.YtclhblofchfglaaGreat
open Go.RowKit
set_option maxRecDepth 10000
open Go.Maps (Keyed)

theorem Tryz.zeroInt64 (w : World) : (zeroValue 2).run Tryz.prog w = .ok (.int .i64 0) w := by kernel_rfl
/-- block M is a map of at most k entries; g: what lies at a key -/
def Mq (w : World) (M k : Nat) (g : ByteArray → Option Int) : Prop :=
  ∃ D : DataW Unit, w.ownsMap Tryz.prog 9 (plainElem Tryz.prog 2) M k D ∧ ∀ s : ByteArray, s.size ≤ maxLen →
    Go.Maps.has D (.string s.data.toList) = (g s).isSome ∧ ∀ n, g s = some n → D.atKey (.string s.data.toList) (.lit (.int .i64 0)) = .lit (.int .i64 n)
theorem Mq.lt {w : World} {M k : Nat} {g : ByteArray → Option Int} (h : Mq w M k g) : M < w.heap.size := by
  obtain ⟨D, h1, -⟩ := h; exact h1.lt
theorem Mq.frame {w w' : World} {M k : Nat} {g : ByteArray → Option Int} (h : Mq w M k g) (hf : w'.heap[M]? = w.heap[M]?) : Mq w' M k g := by
  obtain ⟨D, ⟨es, c, h1, h2⟩, h3⟩ := h
  exact ⟨D, ⟨es, c, by rw [hf]; exact h1, h2⟩, h3⟩
theorem Mq.only {w w' : World} {fp : List Nat} {M k : Nat} {g : ByteArray → Option Int} (h : Mq w M k g) (ho : Only fp w w') (hn : M ∉ fp) : Mq w' M k g := h.frame (ho.block M h.lt hn)
theorem Mq.keep {w w' : World} {M k : Nat} {g : ByteArray → Option Int} (h : Mq w M k g) (ho : Only [] w w') : Mq w' M k g := h.only ho (by simp)
theorem Mq.made (w : World) {M : Nat} (hM : M = w.heap.size) : Mq (w.alloc (.map #[] 0)) M 0 (fun _ => none) := by
  subst hM
  exact ⟨.map [], World.ownsMap_made _ _ _ _, fun s _ => ⟨rfl, by simp⟩⟩
theorem Mq.congr {w : World} {M k : Nat} {g g' : ByteArray → Option Int} (h : Mq w M k g) (hg : ∀ s, g s = g' s) : Mq w M k g' := by
  have : g = g' := funext hg
  rw [← this]; exact h
section
variable {w : World} {M k : Nat} {g : ByteArray → Option Int}
/-- v, ok := m[k], as an equation -/
theorem Mq.run_ok (h : Mq w M k g) {s : ByteArray} (hs : s.size ≤ maxLen) : (Instr.lookup 138 (.map (some M)) (.string s) true).run Tryz.prog w = .ok (.tuple #[.int .i64 ((g s).getD 0), .bool (g s).isSome]) w := by
  obtain ⟨D, hown, hg⟩ := h
  obtain ⟨h1, h2⟩ := hg s hs
  obtain ⟨v, ps, hrun, hv⟩ := hown.look_ok Tryz.lawStr Tryz.underlying138 (Tryz.zeroInt64 w) (plainElem_int Tryz.underlying2 (by decide)) (Go.WideMaps.keyOf_string_mk Tryz.underlying9 hs)
  obtain ⟨c, rfl, hc, -⟩ := plainElem_int_inv Tryz.underlying2 hv
  have hc1 : D.atKey (.string s.data.toList) (.lit (.int .i64 0)) = .lit (.int .i64 c) := congrArg Prod.fst hc
  have hcv : c = (g s).getD 0 := by
    cases hgs : g s with
    | none =>
      rw [hgs] at h1
      rw [Go.Maps.atKey_of_not_has h1] at hc1
      injection hc1 with hc1; injection hc1 with _ hc1; simp [hc1]
    | some n =>
      rw [h2 n hgs] at hc1
      injection hc1 with hc1; injection hc1 with _ hc1; simp [hc1]
  rw [hrun, hcv, h1]
theorem Mq.run_no (h : Mq w M k g) {s : ByteArray} (hs : s.size ≤ maxLen) (hg : g s = none) : (Instr.lookup 138 (.map (some M)) (.string s) true).run Tryz.prog w = .ok (.tuple #[.int .i64 0, .bool false]) w := by
  rw [h.run_ok hs, hg]; rfl
theorem Mq.run_yes (h : Mq w M k g) {s : ByteArray} (hs : s.size ≤ maxLen) {n : Int} (hg : g s = some n) : (Instr.lookup 138 (.map (some M)) (.string s) true).run Tryz.prog w = .ok (.tuple #[.int .i64 n, .bool true]) w := by
  rw [h.run_ok hs, hg]; rfl
/-- m[k] = v -/
theorem Mq.run_put (h : Mq w M k g) {s : ByteArray} (hs : s.size ≤ maxLen) {n : Int} (hn : I64 n) (hk : k < maxLen) :
    ∃ w', (Instr.mapUpdate 138 (.map (some M)) (.string s) (.int .i64 n)).run Tryz.prog w = .ok () w' ∧ Mq w' M (k + 1) (fun s' => if s' = s then some n else g s') ∧ Only [M] w w' := by
  obtain ⟨D, hown, hg⟩ := h
  have hwf : (Lit.int .i64 n).wf = true := WalkArith.wf_i64 hn
  obtain ⟨w', hrun, r1, r2⟩ := hown.store Tryz.lawStr Tryz.underlying138 hk (Go.WideMaps.keyOf_string_mk Tryz.underlying9 hs) (plainElem_int Tryz.underlying2 hwf)
  have hmap := hown.isMap
  refine ⟨w', hrun, ⟨_, r1, fun s' hs' => ?_⟩, ?_⟩
  · by_cases he : s' = s
    · subst he
      have hkl : WideAt.IsKeyLit (Lit.string s'.data.toList) := trivial
      exact ⟨by rw [Go.Maps.has_put_same hmap hkl]; simp, fun m' hm' => by
        rw [Go.Maps.atKey_put_same hmap hkl]; simp at hm'; rw [hm']⟩
    · have hne : (Lit.string s'.data.toList) ≠ .string s.data.toList := by
        intro e; injection e with e
        apply he
        have : s'.data = s.data := Array.toList_inj.1 e
        cases s'; cases s; simp at this; rw [this]
      obtain ⟨h1, h2⟩ := hg s' hs'
      exact ⟨by rw [Go.Maps.has_put_other hne, h1]; simp [he], fun m' hm' => by
        rw [Go.Maps.atKey_put_other hne]; simp [he] at hm'; exact h2 m' hm'⟩
  · exact (Only.refl _ _).grown r2.grown (by intro j hj _; injection hj with hj; subst hj; simp)
end
theorem Mq.mono {w : World} {M k k' : Nat} {g : ByteArray → Option Int} (h : Mq w M k g) (hk : k ≤ k') : Mq w M k' g := by
  obtain ⟨D, h1, h2⟩ := h
  exact ⟨D, h1.mono hk, h2⟩
/-- a map as a value in memory: its entries -/
structure KM where
  g : ByteArray → Option Int
instance : Rp KM where
  size := 1
  rep w cs x fp := ∃ M k, cs = [.map (some M)] ∧ fp = [M] ∧ Mq w M k x.g
  len h := by obtain ⟨_, _, rfl, _⟩ := h; rfl
  frame h hf := by
    obtain ⟨M, k, h1, h2, h3⟩ := h
    subst h2
    exact ⟨M, k, h1, rfl, h3.frame (hf M (by simp))⟩
  lt h := by
    obtain ⟨M, k, h1, h2, h3⟩ := h
    subst h2
    intro b hb
    simp at hb; subst hb; exact h3.lt
end Go.Proofs.YtclhblofchfglaaGreat

namespace Go.Proofs.YtclhblofchfglaaGreat
open Go.RowKit
set_option maxRecDepth 10000

/-- where the first pattern with this key lies -/
def firstG (l : List (List Int)) (s : ByteArray) : Option Int := (l.findIdx? fun p => kB p = s).map fun i : Nat => (i : Int)
theorem firstG_nil (s : ByteArray) : firstG [] s = none := rfl
theorem firstG_snoc (l : List (List Int)) (p : List Int) (s : ByteArray) : firstG (l ++ [p]) s = match firstG l s with | some i => some i | none => if s = kB p then some (l.length : Int) else none := by
  unfold firstG
  rw [List.findIdx?_append]
  cases h : l.findIdx? (fun p => decide (kB p = s)) with
  | some i => simp
  | none =>
    by_cases hp : kB p = s
    · simp [hp]
    · have : ¬ s = kB p := fun e => hp e.symm
      simp [hp, this]
def Byt (l : List Int) : Prop := ∀ x ∈ l, 0 ≤ x ∧ x < 256
theorem firstG_idx {l : List (List Int)} (h : ∀ p ∈ l, Byt p) {q : List Int} (hq : Byt q) : firstG l (kB q) = if 0 ≤ idxL l q then some (idxL l q) else none := by
  have hfun : l.findIdx? (fun p => decide (kB p = kB q)) = l.findIdx? (fun p => decide (p = q)) := by
    induction l with
    | nil => rfl
    | cons p l ih =>
      rw [List.findIdx?_cons, List.findIdx?_cons, ih (fun r hr => h r (by simp [hr]))]
      have : decide (kB p = kB q) = decide (p = q) := by
        rw [decide_eq_decide]; exact kB_eq (h p (by simp)) hq
      rw [this]
  unfold firstG idxL idxF
  rw [hfun]
  cases l.findIdx? (fun p => decide (p = q)) with
  | some i => simp
  | none => simp
theorem patB_byt {n : Int} {k : Nat} {l : List Int} (h : patB n k l = true) (hn : n ≤ 256) : Byt l := fun x hx => by
  have := (patB_iff.1 h).2.1 x hx; omega
end Go.Proofs.YtclhblofchfglaaGreat

namespace Go.Proofs.YtclhblofchfglaaGreat
open Go.RowKit
set_option maxRecDepth 10000

/-- parts of memory, all from B on, all apart -/
structure Fam (B : Nat) (w : World) (cs : List (List Nat)) : Prop where
  nd : cs.flatten.Nodup
  rng : ∀ c ∈ cs, ∀ b ∈ c, B ≤ b ∧ b < w.heap.size
theorem Fam.keep {B : Nat} {w w' : World} {cs : List (List Nat)} (h : Fam B w cs) (hs : w.heap.size ≤ w'.heap.size) : Fam B w' cs := ⟨h.nd, fun c hc b hb => by have := h.rng c hc b hb; omega⟩
theorem Fam.ge {B : Nat} {w : World} {cs : List (List Nat)} (h : Fam B w cs) (i : Nat) {c : List Nat} (hi : cs[i]? = some c) {b : Nat} (hb : b ∈ c) : B ≤ b := (h.rng c (List.mem_of_getElem? hi) b hb).1
theorem Fam.lt {B : Nat} {w : World} {cs : List (List Nat)} (h : Fam B w cs) (i : Nat) {c : List Nat} (hi : cs[i]? = some c) {b : Nat} (hb : b ∈ c) : b < w.heap.size := (h.rng c (List.mem_of_getElem? hi) b hb).2
theorem flat_disj : ∀ {cs : List (List Nat)}, cs.flatten.Nodup → ∀ {i j : Nat} {c d : List Nat}, i < j → cs[i]? = some c → cs[j]? = some d → ∀ b ∈ c, b ∉ d
  | [], _, i, j, c, d, _, hi, _ => by simp at hi
  | a :: cs, hn, 0, j, c, d, hij, hi, hj => by
    rw [List.flatten_cons, List.nodup_append] at hn
    simp at hi; subst hi
    intro b hb hm
    obtain ⟨k, rfl⟩ : ∃ k, j = k + 1 := ⟨j - 1, by omega⟩
    rw [List.getElem?_cons_succ] at hj
    exact hn.2.2 b hb b (List.mem_flatten.2 ⟨d, List.mem_of_getElem? hj, hm⟩) rfl
  | a :: cs, hn, i + 1, j, c, d, hij, hi, hj => by
    rw [List.flatten_cons, List.nodup_append] at hn
    obtain ⟨k, rfl⟩ : ∃ k, j = k + 1 := ⟨j - 1, by omega⟩
    rw [List.getElem?_cons_succ] at hi hj
    exact flat_disj hn.2.1 (by omega) hi hj
theorem Fam.disj {B : Nat} {w : World} {cs : List (List Nat)} (h : Fam B w cs) (i j : Nat) (hij : i ≠ j) {c d : List Nat} (hi : cs[i]? = some c) (hj : cs[j]? = some d) : ∀ b ∈ c, b ∉ d := by
  intro b hb hm
  rcases Nat.lt_or_gt_of_ne hij with h1 | h1
  · exact flat_disj h.nd h1 hi hj b hb hm
  · exact flat_disj h.nd h1 hj hi b hm hb
theorem flat_set : ∀ {cs : List (List Nat)} {i : Nat} {c : List Nat}, cs.flatten.Nodup → c.Nodup → (∀ b ∈ c, b ∉ (cs.set i []).flatten) → i < cs.length → (cs.set i c).flatten.Nodup
  | [], i, c, _, _, _, hi => by simp at hi
  | a :: cs, 0, c, hn, hc, hd, _ => by
    rw [List.flatten_cons, List.nodup_append] at hn
    rw [List.set_cons_zero, List.flatten_cons, List.nodup_append]
    refine ⟨hc, hn.2.1, fun x hx y hy e => ?_⟩
    subst e
    exact hd x hx (by rw [List.set_cons_zero, List.flatten_cons]; exact List.mem_append_right _ hy)
  | a :: cs, i + 1, c, hn, hc, hd, hi => by
    rw [List.flatten_cons, List.nodup_append] at hn
    rw [List.set_cons_succ, List.flatten_cons, List.nodup_append]
    have hd' : ∀ b ∈ c, b ∉ (cs.set i []).flatten := fun b hb hm => hd b hb (by rw [List.set_cons_succ, List.flatten_cons]; exact List.mem_append_right _ hm)
    refine ⟨hn.1, flat_set hn.2.1 hc hd' (by simpa using hi), fun x hx y hy e => ?_⟩
    subst e
    obtain ⟨d, hdm, hxd⟩ := List.mem_flatten.1 hy
    rcases List.mem_or_eq_of_mem_set hdm with h1 | rfl
    · exact hn.2.2 x hx x (List.mem_flatten.2 ⟨d, h1, hxd⟩) rfl
    · exact hd x hxd (by rw [List.set_cons_succ, List.flatten_cons]; exact List.mem_append_left _ hx)
/-- one part anew: what it was, or new memory -/
theorem Fam.set {B : Nat} {w w' : World} {cs : List (List Nat)} (h : Fam B w cs) (hs : w.heap.size ≤ w'.heap.size) (hB : B ≤ w.heap.size) (i : Nat) {c : List Nat} (hi : cs[i]? = some c) {c' : List Nat} (hn : c'.Nodup) (hc : ∀ b ∈ c', b ∈ c ∨ (w.heap.size ≤ b ∧ b < w'.heap.size)) : Fam B w' (cs.set i c') := by
  have hil : i < cs.length := (List.getElem?_eq_some_iff.1 hi).1
  refine ⟨flat_set h.nd hn (fun b hb hm => ?_) hil, fun d hd b hb => ?_⟩
  · obtain ⟨d, hdm, hbd⟩ := List.mem_flatten.1 hm
    obtain ⟨j, hj⟩ := List.getElem?_of_mem hdm
    have hjl : j < cs.length := by have := (List.getElem?_eq_some_iff.1 hj).1; simpa using this
    by_cases hij : i = j
    · subst hij
      rw [List.getElem?_set_self hil] at hj
      injection hj with hj; subst hj; cases hbd
    · rw [List.getElem?_set_ne hij] at hj
      rcases hc b hb with h1 | h1
      · exact h.disj i j hij hi hj b h1 hbd
      · have := h.lt j hj hbd; omega
  · rcases List.mem_or_eq_of_mem_set hd with h1 | rfl
    · have := h.rng d h1 b hb; omega
    · rcases hc b hb with h1 | h1
      · have := h.rng c (List.mem_of_getElem? hi) b h1; omega
      · omega
theorem Fam.cons {B : Nat} {w w' : World} {cs : List (List Nat)} (h : Fam B w cs) (hs : w.heap.size ≤ w'.heap.size) (hB : B ≤ w.heap.size) {c : List Nat} (hn : c.Nodup) (hc : ∀ b ∈ c, w.heap.size ≤ b ∧ b < w'.heap.size) : Fam B w' (c :: cs) := by
  refine ⟨?_, fun d hd b hb => ?_⟩
  · rw [List.flatten_cons, List.nodup_append]
    refine ⟨hn, h.nd, fun x hx y hy e => ?_⟩
    subst e
    obtain ⟨d, hd, hxd⟩ := List.mem_flatten.1 hy
    have := hc x hx
    have := h.rng d hd x hxd
    omega
  · rcases List.mem_cons.1 hd with rfl | hd
    · have := hc b hb; omega
    · have := h.rng d hd b hb; omega
theorem Fam.nil (B : Nat) (w : World) : Fam B w [] := ⟨by simp, by simp⟩
end Go.Proofs.YtclhblofchfglaaGreat

namespace Go.Proofs.YtclhblofchfglaaGreat
open Go.RowKit
set_option maxRecDepth 10000

section
variable {P : Program} {ops : Array Oper} {Q : Exit → Act → World → Prop} {md : Region.Mode} {I : Array Bool → Act → World → Prop}
theorem ready_un {listed : Array Bool} {i : Nat} (h : i ∈ Region.ready md ops listed) : i < ops.size ∧ listed.getD i true = false := by
  unfold Region.ready at h
  rw [List.mem_filter] at h
  obtain ⟨h1, h2⟩ := h
  rw [Bool.and_eq_true] at h2
  exact ⟨by simpa using h1, by simpa using h2.1⟩
theorem countP_set {l : List Bool} {i : Nat} (hi : i < l.length) (h : l[i] = false) : (l.set i true).countP (· == false) + 1 = l.countP (· == false) := by
  induction l generalizing i with
  | nil => simp at hi
  | cons b l ih =>
    cases i with
    | zero => simp at h; subst h; simp
    | succ i =>
      simp at h hi
      rw [List.set_cons_succ, List.countP_cons, List.countP_cons, ← ih hi h]
      omega
theorem wpAny_inv (hstep : ∀ listed a w i, listed.size = ops.size → I listed a w → i ∈ Region.ready md ops listed → wpOp P ops Q i (fun a' w' => I (listed.setIfInBounds i true) a' w') a w)
    (hend : ∀ listed a w, listed.size = ops.size → I listed a w → Region.ready md ops listed = [] → Q .normal a w) :
    ∀ (fuel : Nat) (listed : Array Bool) (a : Act) (w : World), listed.size = ops.size → listed.toList.countP (· == false) ≤ fuel → I listed a w → wpAny P md ops Q fuel listed a w
  | 0, listed, a, w, hs, hc, h => by
    have hr : Region.ready md ops listed = [] := by
      rw [List.eq_nil_iff_forall_not_mem]
      intro i hi
      obtain ⟨h1, h2⟩ := ready_un hi
      have h3 : listed.toList.countP (· == false) = 0 := by omega
      rw [List.countP_eq_zero] at h3
      have hil : i < listed.size := by omega
      have h4 : listed[i] = false := by simpa [Array.getD, hil] using h2
      have := h3 listed[i] (by simp)
      simp [h4] at this
    exact ⟨hr, hend _ _ _ hs h hr⟩
  | fuel + 1, listed, a, w, hs, hc, h => by
    refine ⟨fun hr => hend _ _ _ hs h hr, fun i hi => ?_⟩
    refine wpOp_mono (fun a' w' h' => ?_) (hstep listed a w i hs h hi)
    obtain ⟨h1, h2⟩ := ready_un hi
    have hil : i < listed.size := by omega
    have h4 : listed[i] = false := by simpa [Array.getD, hil] using h2
    refine wpAny_inv hstep hend fuel _ a' w' (by simpa using hs) ?_ h'
    have h5 := countP_set (l := listed.toList) (i := i) (by simpa using hil) (by simpa using h4)
    have h6 : (listed.setIfInBounds i true).toList = listed.toList.set i true := by simp
    rw [h6]; omega
theorem wp_region_inv {id : Nat} {a : Act} {w : World} (hm : P.follows .mixedOrders = true)
    (h0 : I (Array.replicate ops.size false) a { w with drawn := w.drawn + 1 })
    (hstep : ∀ listed a w i, listed.size = ops.size → I listed a w → i ∈ Region.ready .any ops listed → wpOp P ops Q i (fun a' w' => I (listed.setIfInBounds i true) a' w') a w)
    (hend : ∀ listed a w, listed.size = ops.size → I listed a w → Region.ready .any ops listed = [] → Q .normal a w) : (Code.region id ops true).wp P Q a w := by
  refine wp_region_any hm (wpAny_inv hstep hend ops.size _ a _ (by simp) ?_ h0)
  have := List.countP_le_length (p := (· == false)) (l := (Array.replicate ops.size false).toList)
  simpa using this
theorem wp_region_invA {J : Act → Array Bool → Act → World → Prop} {id : Nat} {a : Act} {w : World} (hm : P.follows .mixedOrders = true)
    (h0 : J a (Array.replicate ops.size false) a w.drew)
    (hstep : ∀ listed a' w' i, listed.size = ops.size → J a listed a' w' → i ∈ Region.ready .any ops listed → wpOp P ops Q i (fun a'' w'' => J a (listed.setIfInBounds i true) a'' w'') a' w')
    (hend : ∀ listed a' w', listed.size = ops.size → J a listed a' w' → Region.ready .any ops listed = [] → Q .normal a' w') : (Code.region id ops true).wp P Q a w := wp_region_inv (I := J a) hm h0 hstep hend
theorem wpOp_plain {i : Nat} {o : Oper} {K : Act → World → Prop} {a : Act} {w : World} (ho : ops[i]? = some o) (hg : o.guard = none) (h : ∀ K' : Act → World → Prop, (∀ a w, K a w → K' a w) → Oper.wp P o a w K' Q) : wpOp P ops Q i K a w :=
  wpOp_step ho (fun K' hK => by rw [if_pos (by simp [Region.wanted, hg])]; exact h K' hK)
theorem ready_dep {i k : Nat} {o : Oper} {listed : Array Bool} (h : i ∈ Region.ready md ops listed) (ho : ops[i]? = some o) (hk : o.after.toList.any (fun e => (e.on == k) && Region.binds md e) = true) : listed.getD k false = true := by
  unfold Region.ready at h
  rw [List.mem_filter, Bool.and_eq_true] at h
  have h2 := h.2.2
  rw [ho] at h2
  simp only [Option.map_some, Option.getD_some] at h2
  rw [List.any_eq_true] at hk
  obtain ⟨e, he, h3⟩ := hk
  obtain ⟨j, hj, rfl⟩ := List.getElem_of_mem he
  rw [Array.all_eq_true] at h2
  have h4 := h2 j (by simpa using hj)
  simp only [Array.getElem_toList] at h3
  rw [Bool.and_eq_true] at h3
  rw [h3.2] at h4
  have h5 : (o.after[j]'(by simpa using hj)).on = k := by simpa using h3.1
  rw [← h5]
  simpa using h4
theorem un_getD {listed : Array Bool} {i : Nat} (h : listed.getD i true = false) : listed.getD i false = false := by
  rw [Array.getD_eq_getD_getElem?] at h ⊢
  cases hq : listed[i]? with
  | none => rfl
  | some b => rw [hq] at h; exact h
/-- whether a set of operations that come up no more is whole: each waits only for others of the region -/
theorem all_listed {listed : Array Bool} (h : Region.ready md ops listed = []) (hs : listed.size = ops.size) (hd : ((List.range ops.size).all fun i => ((ops.toList[i]?).map fun o => o.after.toList.all fun e => decide (e.on < i)).getD true) = true) : ∀ i, i < ops.size → listed.getD i false = true := by
  intro i
  induction i using Nat.strongRecOn with
  | ind i ih =>
    intro hi
    rcases hq : listed.getD i false
    · exfalso
      have hm : i ∈ Region.ready md ops listed := by
        unfold Region.ready
        rw [List.mem_filter, Bool.and_eq_true]
        refine ⟨by simpa using hi, ?_, ?_⟩
        · rw [Array.getD_eq_getD_getElem?] at hq ⊢
          rw [Array.getElem?_eq_getElem (by omega)] at hq ⊢
          simpa using hq
        · rw [Array.getElem?_eq_getElem hi]
          simp only [Option.map_some, Option.getD_some]
          rw [Array.all_eq_true]
          intro j hj
          rcases hb : Region.binds md ((ops[i]).after[j])
          · rfl
          · have hlt : ((ops[i]).after[j]).on < i := by
              rw [List.all_eq_true] at hd
              have h1 := hd i (by simpa using hi)
              rw [Array.getElem?_toList, Array.getElem?_eq_getElem hi] at h1
              simp only [Option.map_some, Option.getD_some, List.all_eq_true] at h1
              exact of_decide_eq_true (h1 _ (by simp))
            simpa using ih _ hlt (by omega)
      rw [h] at hm; cases hm
    · rfl
theorem rep_getD (n i : Nat) : (Array.replicate n false).getD i false = false := by
  rw [Array.getD_eq_getD_getElem?]
  by_cases h : i < n
  · rw [Array.getElem?_eq_getElem (by simpa using h)]; simp
  · rw [Array.getElem?_eq_none (by simpa using h)]; rfl
theorem set_getD {listed : Array Bool} {i k : Nat} (hk : k < listed.size) : (listed.setIfInBounds k true).getD i false = true ↔ i = k ∨ listed.getD i false = true := by
  simp only [Array.getD_eq_getD_getElem?]
  by_cases h : i = k
  · subst h; simp [hk]
  · have : ¬ k = i := fun e => h e.symm
    simp [h, this]
end
/-- what lies in a slot -/
def At (a : Act) (t : Nat) (v : Value) : Prop := a.tmps[t]? = some v
theorem At.eval {a : Act} {t : Nat} {v : Value} (h : At a t v) : a.eval (.tmp t) = v := by
  unfold At at h
  show a.tmps.getD t undef = v
  rw [Array.getD_eq_getD_getElem?, h]; rfl
theorem At.getD {a : Act} {t : Nat} {v : Value} (h : At a t v) : a.tmps.getD t undef = v := h.eval
theorem At.same {a : Act} {t : Nat} {v : Value} (h : t < a.tmps.size) : At (a.put (some t) v) t v := by
  unfold At Act.put; simp [h]
theorem At.ne {a : Act} {t t' : Nat} {v u : Value} (h : At a t v) (hn : t' ≠ t) : At (a.put (some t') u) t v := by
  unfold At Act.put at *; simp [hn, h]
/-- a is a0 but for some slots -/
structure RI (a0 : Act) (S : List Nat) (a : Act) : Prop where
  sz : a.tmps.size = a0.tmps.size
  df : a.defers = a0.defers
  sm : ∀ t, t ∉ S → a.tmps[t]? = a0.tmps[t]?
theorem RI.refl (a0 : Act) (S : List Nat) : RI a0 S a0 := ⟨rfl, rfl, fun _ _ => rfl⟩
theorem RI.put {a0 a : Act} {S : List Nat} {t : Nat} {v : Value} (h : RI a0 S a) (ht : t ∈ S) : RI a0 S (a.put (some t) v) := by
  refine ⟨by unfold Act.put; simp [h.sz], by unfold Act.put; exact h.df, fun t' ht' => ?_⟩
  have hne : ¬ t = t' := fun e => ht' (by rw [← e]; exact ht)
  rw [← h.sm t' ht']
  unfold Act.put; simp [hne]
theorem RI.at {a0 a : Act} {S : List Nat} {t : Nat} {v : Value} (h : RI a0 S a) (ht : t ∉ S) (h0 : At a0 t v) : At a t v := (h.sm t ht).trans h0
def putL (a : Act) (L : List (Nat × Value)) : Act := L.foldl (fun a p => a.put (some p.1) p.2) a
theorem putL_sz : ∀ (L : List (Nat × Value)) (a : Act), (putL a L).tmps.size = a.tmps.size ∧ (putL a L).defers = a.defers
  | [], _ => ⟨rfl, rfl⟩
  | p :: L, a => by
    have := putL_sz L (a.put (some p.1) p.2)
    unfold putL at *
    rw [List.foldl_cons]
    refine ⟨this.1.trans ?_, this.2.trans ?_⟩
    · unfold Act.put; simp
    · unfold Act.put; rfl
theorem putL_no : ∀ (L : List (Nat × Value)) (a : Act) (t : Nat), t ∉ L.map (·.1) → (putL a L).tmps[t]? = a.tmps[t]?
  | [], _, _, _ => rfl
  | p :: L, a, t, h => by
    simp only [List.map_cons, List.mem_cons, not_or] at h
    have := putL_no L (a.put (some p.1) p.2) t h.2
    unfold putL at *
    rw [List.foldl_cons, this]
    have hne : ¬ p.1 = t := fun e => h.1 e.symm
    unfold Act.put; simp [hne]
theorem putL_yes : ∀ (L : List (Nat × Value)) (a : Act) (p : Nat × Value), p ∈ L → (L.map (·.1)).Nodup → p.1 < a.tmps.size → (putL a L).tmps[p.1]? = some p.2
  | q :: L, a, p, h, hn, hs => by
    simp only [List.map_cons, List.nodup_cons] at hn
    rcases List.mem_cons.1 h with rfl | h
    · have := putL_no L (a.put (some p.1) p.2) p.1 hn.1
      unfold putL at *
      rw [List.foldl_cons, this]
      unfold Act.put; simp [hs]
    · have := putL_yes L (a.put (some q.1) q.2) p h hn.2 (by unfold Act.put; simpa using hs)
      unfold putL at *
      rw [List.foldl_cons]; exact this
theorem RI.eq {a0 a : Act} (L : List (Nat × Value)) (h : RI a0 (L.map (·.1)) a) (hn : (L.map (·.1)).Nodup) (hs : ∀ p ∈ L, p.1 < a0.tmps.size) (hv : ∀ p ∈ L, At a p.1 p.2) : a = putL a0 L := by
  have h1 : a.tmps = (putL a0 L).tmps := by
    apply Array.ext (by rw [(putL_sz L a0).1, h.sz])
    intro t h1 h2
    have : a.tmps[t]? = (putL a0 L).tmps[t]? := by
      by_cases ht : t ∈ L.map (·.1)
      · obtain ⟨p, hp, rfl⟩ := List.mem_map.1 ht
        rw [putL_yes L a0 p hp hn (hs p hp)]
        exact hv p hp
      · rw [putL_no L a0 t ht]; exact h.sm t ht
    rw [Array.getElem?_eq_getElem h1, Array.getElem?_eq_getElem h2] at this
    injection this
  have h2 : a.defers = (putL a0 L).defers := by rw [(putL_sz L a0).2, h.df]
  cases a
  cases hq : putL a0 L
  rw [hq] at h1 h2
  simp only at h1 h2
  rw [h1, h2]
end Go.Proofs.YtclhblofchfglaaGreat

namespace Go.Proofs.YtclhblofchfglaaGreat
open Go.RowKit
set_option maxRecDepth 10000

theorem expl_inR (x : Puzzle) : inR (if validPz x = true then (cardG x : Int) else 0) 1 3000 = (expl x).isSome := by
  rcases hv : validPz x
  · rw [expl_none hv]; rfl
  · have h1 := cardG_pos hv
    have h2 := expl_iff hv
    rw [if_pos rfl]
    rcases he : expl x with _ | t
    · have : ¬ cardG x ≤ 3000 := fun hc => by obtain ⟨t, ht⟩ := h2.2 hc; rw [he] at ht; cases ht
      have h3 : ¬ (inR (cardG x : Int) 1 3000 = true) := fun h => by have := inR_iff.1 h; omega
      simpa using h3
    · have hc := h2.1 ⟨t, he⟩
      exact inR_iff.2 ⟨by omega, by omega⟩
/-- a block of cells of a type -/
def BlkT (w : World) (g : Nat) (cs : List Value) (t : TypeId) : Prop := w.heap[g]? = some (.cells cs.toArray t (0, 0))
theorem BlkT.only {w w' : World} {g : Nat} {cs : List Value} {t : TypeId} {fp : List Nat} (h : BlkT w g cs t) (ho : Only fp w w') (hg : g ∉ fp) : BlkT w' g cs t :=
  (ho.block g (Array.getElem?_eq_some_iff.1 h).1 hg).trans h
theorem BlkT.new (w : World) (cs : List Value) (t : TypeId) : BlkT (w.alloc (.cells cs.toArray t)) w.heap.size cs t := heap_alloc_new w _
theorem Acc.ofT {α : Type} [Rp α] {w : World} {B : Nat} {e : TypeId} {cs : List Value} {x : α} {fp : List Nat} {g : Nat} (hb : BlkT w g cs e) (h : Rp.rep w cs x fp) (hB : B ≤ g) (hn : g ∉ fp) : Acc B e w (.slice (some ⟨g, 0, none⟩) 1 1) [x] [fp] := by
  refine ⟨⟨[cs], ⟨by simp [Rp.len h], .inr ⟨g, 1, cs.toArray, rfl, hB, hb, Nat.le_refl _, by unfold maxLen; omega, by simp [Rp.len h], by simpa using List.take_of_length_le (Nat.le_of_eq (Rp.len h))⟩⟩, rfl, fun k h1 h2 h3 => ?_⟩, rfl, ?_⟩
  · have : k = 0 := by simpa using h1
    subst this
    exact h
  · intro g' hg hm
    simp only [Value.ownBlock, Option.some.injEq] at hg
    subst hg
    exact hn (by simpa using hm)
/-- the exploration as it is begun -/
def EX0 (x : Puzzle) (v2 vst : Value) (W wx : World) (s5 : Value) : Prop :=
  ∃ g M gs gd gp gy, s5 = .pointer (some ⟨g, 0, none⟩) ∧ Blk wx g [.int .i64 x.points, .string x.names, v2, .slice (some ⟨gs, 0, none⟩) 1 1, .slice (some ⟨gd, 0, none⟩) 1 1, .map (some M), .slice (some ⟨gp, 0, none⟩) 1 1, .slice (some ⟨gy, 0, none⟩) 1 1, .slice none 0 0] ∧
    BlkT wx gs [vst] 25 ∧ BlkT wx gd [.int .i64 0] 2 ∧ BlkT wx gp [.int .i64 0] 2 ∧ BlkT wx gy [.int .i64 0] 2 ∧ Mq wx M 1 (firstG [PM.pts x.points.toNat]) ∧ [g, M, gs, gd, gp, gy].Nodup ∧ (∀ b ∈ [g, M, gs, gd, gp, gy], W.heap.size ≤ b) ∧ Only [] W wx
def eAl : List Nat := [2, 3, 4, 9, 10, 12]
def eSl : Nat → Option Nat
  | 0 => some 21 | 1 => some 22 | 2 => some 23 | 3 => some 24 | 4 => some 25 | 5 => some 26 | 6 => some 27 | 7 => none | 8 => some 28 | 9 => some 29 | 10 => some 30 | 11 => some 31 | 12 => some 32 | 13 => some 5 | _ => none
def eJs : Nat → List Nat
  | 2 => [2] | 3 => [3] | 4 => [4] | 7 => [4] | 8 => [4] | 9 => [9] | 10 => [10] | 11 => [2, 3, 4, 9, 10] | 12 => [2, 3, 4, 9, 10, 12] | 13 => [12] | _ => []
def eCells (x : Puzzle) (v2 : Value) (f : Nat → Nat) : List Value := [.int .i64 x.points, .string x.names, v2, .slice (some ⟨f 2, 0, none⟩) 1 1, .slice (some ⟨f 3, 0, none⟩) 1 1, .map (some (f 4)), .slice (some ⟨f 9, 0, none⟩) 1 1, .slice (some ⟨f 10, 0, none⟩) 1 1, .slice none 0 0]
def eAgg (x : Puzzle) (v2 : Value) (f : Nat → Nat) : Value := .agg (eCells x v2 f).toArray
/-- what an operation has left -/
def eF (x : Puzzle) (v2 vst : Value) (f : Nat → Nat) (a : Act) (w : World) : Nat → Prop
  | 0 => At a 21 (.agg #[.int .i64 x.points, .string x.names, v2])
  | 1 => At a 22 vst
  | 2 => At a 23 (.slice (some ⟨f 2, 0, none⟩) 1 1) ∧ BlkT w (f 2) [vst] 25
  | 3 => At a 24 (.slice (some ⟨f 3, 0, none⟩) 1 1) ∧ BlkT w (f 3) [.int .i64 0] 2
  | 4 => At a 25 (.map (some (f 4)))
  | 5 => At a 26 vst
  | 6 => At a 27 (.string (kB (PM.pts x.points.toNat)))
  | 7 => Mq w (f 4) 1 (firstG [PM.pts x.points.toNat])
  | 8 => At a 28 (.map (some (f 4)))
  | 9 => At a 29 (.slice (some ⟨f 9, 0, none⟩) 1 1) ∧ BlkT w (f 9) [.int .i64 0] 2
  | 10 => At a 30 (.slice (some ⟨f 10, 0, none⟩) 1 1) ∧ BlkT w (f 10) [.int .i64 0] 2
  | 11 => At a 31 (eAgg x v2 f)
  | 12 => At a 32 (.pointer (some ⟨f 12, 0, none⟩)) ∧ Blk w (f 12) (eCells x v2 f)
  | 13 => At a 5 (.pointer (some ⟨f 12, 0, none⟩))
  | _ => True
structure EI (x : Puzzle) (v2 vst : Value) (W : World) (a0 : Act) (ls : Array Bool) (a : Act) (w : World) (f : Nat → Nat) : Prop where
  on : Only [] W w
  fr : RI a0 [5, 21, 22, 23, 24, 25, 26, 27, 28, 29, 30, 31, 32] a
  rng : ∀ i ∈ eAl, ls.getD i false = true → W.heap.size ≤ f i ∧ f i < w.heap.size
  inj : ∀ i ∈ eAl, ∀ j ∈ eAl, i ≠ j → ls.getD i false = true → ls.getD j false = true → f i ≠ f j
  ft : ∀ i, ls.getD i false = true → eF x v2 vst f a w i
  m0 : ls.getD 4 false = true → ls.getD 7 false = false → Mq w (f 4) 0 (fun _ => none)
  clo : ∀ i, ls.getD i false = true → ∀ j ∈ eJs i, ls.getD j false = true
theorem eF_move {x : Puzzle} {v2 vst : Value} {f f' : Nat → Nat} {a : Act} {w w' : World} {i : Nat} {t : Option Nat} {v : Value} {fp : List Nat} (h : eF x v2 vst f a w i) (hf : ∀ j ∈ eJs i, f' j = f j) (ht : ∀ u, t = some u → eSl i ≠ some u) (ho : Only fp w w') (hd : ∀ j ∈ eJs i, j ∈ eAl → f j ∉ fp ∨ (i ≠ 7 ∧ j = 4)) : eF x v2 vst f' (a.put t v) w' i := by
  have hA : ∀ u z, At a u z → eSl i = some u → At (a.put t v) u z := fun u z h1 h2 => by
    cases t with
    | none => exact h1
    | some t => exact h1.ne (fun e => ht t rfl (by rw [e]; exact h2))
  match i, h, hf, hd, hA with
  | 0, h, _, _, hA => exact hA _ _ h rfl
  | 1, h, _, _, hA => exact hA _ _ h rfl
  | 2, h, hf, hd, hA => exact ⟨by rw [hf 2 (by decide)]; exact hA _ _ h.1 rfl, by rw [hf 2 (by decide)]; exact h.2.only ho ((hd 2 (by decide) (by decide)).resolve_right (by simp))⟩
  | 3, h, hf, hd, hA => exact ⟨by rw [hf 3 (by decide)]; exact hA _ _ h.1 rfl, by rw [hf 3 (by decide)]; exact h.2.only ho ((hd 3 (by decide) (by decide)).resolve_right (by simp))⟩
  | 4, h, hf, _, hA => show At _ _ _; rw [hf 4 (by decide)]; exact hA _ _ h rfl
  | 5, h, _, _, hA => exact hA _ _ h rfl
  | 6, h, _, _, hA => exact hA _ _ h rfl
  | 7, h, hf, hd, hA => show Mq _ _ _ _; rw [hf 4 (by decide)]; exact h.only ho ((hd 4 (by decide) (by decide)).resolve_right (by simp))
  | 8, h, hf, _, hA => show At _ _ _; rw [hf 4 (by decide)]; exact hA _ _ h rfl
  | 9, h, hf, hd, hA => exact ⟨by rw [hf 9 (by decide)]; exact hA _ _ h.1 rfl, by rw [hf 9 (by decide)]; exact h.2.only ho ((hd 9 (by decide) (by decide)).resolve_right (by simp))⟩
  | 10, h, hf, hd, hA => exact ⟨by rw [hf 10 (by decide)]; exact hA _ _ h.1 rfl, by rw [hf 10 (by decide)]; exact h.2.only ho ((hd 10 (by decide) (by decide)).resolve_right (by simp))⟩
  | 11, h, hf, _, hA => show At _ _ _; unfold eAgg eCells; rw [hf 2 (by decide), hf 3 (by decide), hf 4 (by decide), hf 9 (by decide), hf 10 (by decide)]; exact hA _ _ h rfl
  | 12, h, hf, hd, hA => exact ⟨by rw [hf 12 (by decide)]; exact hA _ _ h.1 rfl, by unfold eCells; rw [hf 2 (by decide), hf 3 (by decide), hf 4 (by decide), hf 9 (by decide), hf 10 (by decide), hf 12 (by decide)]; exact h.2.only ho ((hd 12 (by decide) (by decide)).resolve_right (by simp))⟩
  | 13, h, hf, _, hA => show At _ _ _; rw [hf 12 (by decide)]; exact hA _ _ h rfl
  | _ + 14, _, _, _, _ => trivial
theorem EI.upd {x : Puzzle} {v2 vst : Value} {W : World} {a0 : Act} {ls : Array Bool} {a : Act} {w w' : World} {f f' : Nat → Nat} {k : Nat} {t : Option Nat} {v : Value} {fp : List Nat} (h : EI x v2 vst W a0 ls a w f) (hk : k < 14) (hs : ls.size = 14) (hu : ls.getD k false = false) (ht : t = eSl k)
    (ho : Only fp w w') (hfp : fp = [] ∨ (k = 7 ∧ fp = [f 4] ∧ ls.getD 4 false = true)) (hf : ∀ i, i ≠ k → f' i = f i) (hal : k ∈ eAl → f' k = w.heap.size ∧ w.heap.size < w'.heap.size)
    (hdep : ∀ j ∈ eJs k, j ≠ k → ls.getD j false = true) (hnew : eF x v2 vst f' (a.put t v) w' k) (hm : k = 4 → Mq w' (f' 4) 0 (fun _ => none)) : EI x v2 vst W a0 (ls.setIfInBounds k true) (a.put t v) w' f' := by
  have hg : ∀ i, (ls.setIfInBounds k true).getD i false = true ↔ i = k ∨ ls.getD i false = true := fun i => set_getD (by omega)
  have hne : ∀ j, ls.getD j false = true → j ≠ k := fun j hj e => by rw [e, hu] at hj; cases hj
  have hsz := ho.size
  have hno : ∀ j ∈ eAl, ls.getD j false = true → j ≠ 4 → f j ∉ fp := fun j hj hl h4 hm => by
    rcases hfp with e | ⟨-, e, e4⟩
    · rw [e] at hm; cases hm
    · rw [e] at hm; exact h.inj j hj 4 (by decide) h4 hl e4 (by simpa using hm)
  refine ⟨?_, ?_, fun i hi hl => ?_, fun i hi j hj hij hl hl' => ?_, fun i hl => ?_, fun h4 h7 => ?_, fun i hl j hj => ?_⟩
  · refine h.on.then_ ho (fun b hb hlt => ?_)
    rcases hfp with e | ⟨-, e, e4⟩
    · rw [e] at hb; cases hb
    · rw [e] at hb
      have := (h.rng 4 (by decide) e4).1
      simp at hb; omega
  · cases t with
    | none => exact h.fr
    | some t =>
      refine h.fr.put ?_
      match k, hk, ht with
      | 0, _, e | 1, _, e | 2, _, e | 3, _, e | 4, _, e | 5, _, e | 6, _, e | 8, _, e | 9, _, e | 10, _, e | 11, _, e | 12, _, e | 13, _, e => injection e with e; subst e; decide
      | 7, _, e => cases e
  · rcases (hg i).1 hl with rfl | hl
    · have := hal hi; have := h.on.size; omega
    · rw [hf i (hne i hl)]
      have := h.rng i hi hl; omega
  · rcases (hg i).1 hl with e | q
    · rcases (hg j).1 hl' with e' | q'
      · exact absurd (e.trans e'.symm) hij
      · have r := h.rng j hj q'
        rw [e, (hal (by rw [← e]; exact hi)).1, hf j (hne j q')]; omega
    · rcases (hg j).1 hl' with e' | q'
      · have r := h.rng i hi q
        rw [e', (hal (by rw [← e']; exact hj)).1, hf i (hne i q)]; omega
      · rw [hf i (hne i q), hf j (hne j q')]; exact h.inj i hi j hj hij q q'
  · rcases (hg i).1 hl with rfl | hl
    · exact hnew
    · have hik := hne i hl
      refine eF_move (h.ft i hl) (fun j hj => hf j (hne j (h.clo i hl j hj))) (fun u hu' e => ?_) ho (fun j hj hja => ?_)
      · rw [ht] at hu'
        have e2 : eSl i = eSl k := e.trans hu'.symm
        have hi14 : i < 14 := by
          rcases Nat.lt_or_ge i 14 with h1 | h1
          · exact h1
          · rw [Array.getD_eq_getD_getElem?, Array.getElem?_eq_none (by omega)] at hl; cases hl
        have : ∀ i, i < 14 → ∀ k, k < 14 → eSl k = eSl i → eSl k ≠ none → i = k := by decide
        exact hik (this i hi14 k hk e2.symm (by rw [hu']; simp))
      · by_cases h4 : j = 4
        · subst h4
          rcases hfp with e | ⟨e7, -, -⟩
          · left; rw [e]; simp
          · right; exact ⟨by omega, rfl⟩
        · exact .inl (hno j hja (h.clo i hl j hj) h4)
  · have h7n : k ≠ 7 := fun e => by
      have := (hg 7).2 (.inl e.symm)
      rw [h7] at this; cases this
    have hfe : fp = [] := by
      rcases hfp with e | ⟨e, -⟩
      · exact e
      · exact absurd e h7n
    rcases (hg 4).1 h4 with e | h4
    · exact hm e.symm
    · rw [hf 4 (hne 4 h4)]
      have h7' : ls.getD 7 false = false := by
        rcases hq : ls.getD 7 false
        · rfl
        · have := (hg 7).2 (.inr hq); rw [h7] at this; cases this
      exact (h.m0 h4 h7').only ho (by rw [hfe]; simp)
  · rcases (hg i).1 hl with rfl | hl
    · by_cases hji : j = i
      · exact (hg j).2 (.inl hji)
      · exact (hg j).2 (.inr (hdep j hj hji))
    · exact (hg j).2 (.inr (h.clo i hl j hj))
set_option maxHeartbeats 4000000 in
theorem explore_none (cs : List Value) (x : Puzzle) (fp : List Nat) (w : World) (h : Rp.rep w cs x fp) (he : expl x = none) :
    Calls Tryz.prog 112 #[.agg cs.toArray] w fun e w' => e = .returned (.tuple #[.pointer none, .bool false]) ∧ Only [] w w' := by
  have h0 := h
  obtain ⟨v2, rfl, p0, p1, h2⟩ := h
  clear p0 p1 h2
  have hin := expl_inR x
  rw [he] at hin
  have Hin := Lib.hid hin
  clear he hin
  obtain ⟨c, hc⟩ : ∃ c, c = (if validPz x = true then (cardG x : Int) else 0) := ⟨_, rfl⟩
  rw [← hc] at Hin
  have Hc := Lib.hid hc
  clear hc
  go_enter Tryz.func112, Tryz.ntmps112
  go_wp2_with (first
    | (go_at_call 158; (with_reducible refine (implStateCount_any [.int .i64 x.points, .string x.names, v2] x _ _ (Rp.keep h0 (by with_reducible repeat (first | exact Only.refl _ _ | assumption | refine Only.drewN ?_ _ | refine Only.drew ?_ | refine Only.alloc ?_ _ | refine Only.setCell ?_ (by intro hh; exfalso; simp at hh; try omega) _ | refine Only.trans ?_ (by assumption))))).mono ?_); rintro e w1 ⟨he, t1⟩; rw [← Hc.out] at he; subst he)
    | (go_at_call 96; (with_reducible refine (within_any c 1 3000 _).mono ?_); rintro e w1 ⟨he, rfl⟩; rw [Hin.out] at he; subst he)
    | fail "no arm")
  exact bodyPost_ret (v := .tuple #[.pointer none, .bool false]) (by simp [results, Tryz.results112, go_sem]) rfl ⟨rfl, (by with_reducible repeat (first | exact Only.refl _ _ | assumption | refine Only.drewN ?_ _ | refine Only.drew ?_ | refine Only.alloc ?_ _ | refine Only.setCell ?_ (by intro hh; exfalso; simp at hh; try omega) _ | refine Only.trans ?_ (by assumption)))⟩
end Go.Proofs.YtclhblofchfglaaGreat
