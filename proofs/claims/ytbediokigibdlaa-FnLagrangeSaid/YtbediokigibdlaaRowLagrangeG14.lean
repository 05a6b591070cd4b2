/- The library's slices.SortFunc at [][]int64 with slices.Compare: the rows of the call's own, in order (laws 39, 48). (The laying printed by mklay.py.) The program's CosetRepresentatives ahead of its sort (laws 39, 48). The laws' drawn tracked sets (laws 10, 11). The laws' drawn puzzles (laws 10, 11). The laws' own comparison of numbers: likeInts (laws 10, 11). The program's SameCoset, CosetMinimum; laws.likeLists (law 48). The law on the cosets of a subgroup (law 48): its walk. -/
import Derived.Test.YtbediokigibdlaaRowLagrangeG13
import Derived.Shelf.SlSortCmp.NoneTotal
import Derived.Test.YtbediokigibdlaaRowLagrangeG8
import Derived.Test.YtbediokigibdlaaRowLagrangeG10
import Derived.Deep.RegionHeld3
import Derived.Test.YtbediokigibdlaaRowLagrangeG11
namespace Go.Proofs.Ytbediokigibdlaa
open Go.RowKit Go.Shelf Go.Sort Go.Proofs
set_option maxRecDepth 10000

def Try.sortF_ren : Go.Shelf.Ren := ⟨fun | 6 => 66 | 15 => 99 | 14 => 98 | 28 => 119 | 29 => 120 | 20 => 111 | 21 => 112 | 22 => 113 | 23 => 114 | 24 => 115 | 25 => 116 | 26 => 117 | 27 => 118 | 46 => 124 | 47 => 125 | 48 => 126 | 49 => 127 | 50 => 128 | 57 => 130 | n => n, fun | 22 => 24 | 24 => 36 | 25 => 68 | 3 => 3 | 39 => 103 | 0 => 0 | 53 => 122 | 55 => 124 | 4 => 4 | 46 => 115 | 45 => 114 | 50 => 119 | 5 => 5 | 9 => 9 | 66 => 125 | 70 => 129 | 76 => 132 | 77 => 133 | n => n, fun | n => n⟩
theorem Try.sortF : SlLaysF.n6 Try.prog Try.sortF_ren where
  mixed := by kernel_rfl
  f6 := ⟨ "slices.SortFunc[[][]int64,[]int64]", by decide, Try.func66.trans (congrArg some (by kernel_rfl))⟩
  f14 := ⟨ "slices.pdqsortCmpFunc[[]int64]", by decide, Try.func98.trans (congrArg some (by kernel_rfl))⟩
  f15 := Try.func99.trans (congrArg some (by kernel_rfl))
  f20 := ⟨ "slices.insertionSortCmpFunc[[]int64]", by decide, Try.func111.trans (congrArg some (by kernel_rfl))⟩
  f21 := ⟨ "slices.heapSortCmpFunc[[]int64]", by decide, Try.func112.trans (congrArg some (by kernel_rfl))⟩
  f22 := ⟨ "slices.breakPatternsCmpFunc[[]int64]", by decide, Try.func113.trans (congrArg some (by kernel_rfl))⟩
  f23 := ⟨ "slices.choosePivotCmpFunc[[]int64]", by decide, Try.func114.trans (congrArg some (by kernel_rfl))⟩
  f24 := ⟨ "slices.reverseRangeCmpFunc[[]int64]", by decide, Try.func115.trans (congrArg some (by kernel_rfl))⟩
  f25 := ⟨ "slices.partialInsertionSortCmpFunc[[]int64]", by decide, Try.func116.trans (congrArg some (by kernel_rfl))⟩
  f26 := ⟨ "slices.partitionEqualCmpFunc[[]int64]", by decide, Try.func117.trans (congrArg some (by kernel_rfl))⟩
  f27 := ⟨ "slices.partitionCmpFunc[[]int64]", by decide, Try.func118.trans (congrArg some (by kernel_rfl))⟩
  f28 := Try.func119.trans (congrArg some (by kernel_rfl))
  f29 := Try.func120.trans (congrArg some (by kernel_rfl))
  f46 := ⟨ "slices.siftDownCmpFunc[[]int64]", by decide, Try.func124.trans (congrArg some (by kernel_rfl))⟩
  f47 := Try.func125.trans (congrArg some (by kernel_rfl))
  f48 := Try.func126.trans (congrArg some (by kernel_rfl))
  f49 := ⟨ "slices.medianAdjacentCmpFunc[[]int64]", by decide, Try.func127.trans (congrArg some (by kernel_rfl))⟩
  f50 := ⟨ "slices.medianCmpFunc[[]int64]", by decide, Try.func128.trans (congrArg some (by kernel_rfl))⟩
  f57 := ⟨ "slices.order2CmpFunc[[]int64]", by decide, Try.func130.trans (congrArg some (by kernel_rfl))⟩
  t0 := Try.underlying0
  a0 := Try.isAgg0
  z0 := Try.sizeOf0
  v0 := Try.zeroValue0
  t3 := Try.underlying3
  a3 := Try.isAgg3
  z3 := Try.sizeOf3
  v3 := Try.zeroValue3
  t4 := Try.underlying4
  a4 := Try.isAgg4
  z4 := Try.sizeOf4
  v4 := Try.zeroValue4
  t5 := Try.underlying5
  a5 := Try.isAgg5
  z5 := Try.sizeOf5
  v5 := Try.zeroValue5
  t9 := Try.underlying9
  a9 := Try.isAgg9
  z9 := Try.sizeOf9
  v9 := Try.zeroValue9
  t22 := Try.underlying24
  a22 := Try.isAgg24
  z22 := Try.sizeOf24
  v22 := Try.zeroValue24
  a24 := Try.isAgg36
  z24 := Try.sizeOf36
  t25 := Try.underlying68
  a25 := Try.isAgg68
  z25 := Try.sizeOf68
  v25 := Try.zeroValue68
  t39 := Try.underlying103
  a39 := Try.isAgg103
  z39 := Try.sizeOf103
  v39 := Try.zeroValue103
  t45 := Try.underlying114
  a45 := Try.isAgg114
  z45 := Try.sizeOf114
  v45 := Try.zeroValue114
  t46 := Try.underlying115
  a46 := Try.isAgg115
  z46 := Try.sizeOf115
  v46 := Try.zeroValue115
  t50 := Try.underlying119
  a50 := Try.isAgg119
  z50 := Try.sizeOf119
  v50 := Try.zeroValue119
  t53 := Try.underlying122
  a53 := Try.isAgg122
  z53 := Try.sizeOf122
  v53 := Try.zeroValue122
  t55 := Try.underlying124
  a55 := Try.isAgg124
  z55 := Try.sizeOf124
  v55 := Try.zeroValue124
  t66 := Try.underlying125
  a66 := Try.isAgg125
  z66 := Try.sizeOf125
  v66 := Try.zeroValue125
  t70 := Try.underlying129
  a70 := Try.isAgg129
  z70 := Try.sizeOf129
  v70 := Try.zeroValue129
  t76 := Try.underlying132
  a76 := Try.isAgg132
  z76 := Try.sizeOf132
  v76 := Try.zeroValue132
  t77 := Try.underlying133
  a77 := Try.isAgg133
  z77 := Try.sizeOf133
  v77 := Try.zeroValue133
theorem Acc.rows {B : Nat} {e : TypeId} {w : World} {v : Value} {L : List (List Int)} {fs : List (List Nat)} (h : Acc B e w v L fs) :
    ∃ vals : List Value, vals.length = L.length ∧ w.ownsRow B e 1 v L.length vals ∧ fs.length = L.length ∧ ∀ k (h1 : k < vals.length) (h2 : k < L.length) (h3 : k < fs.length), Rd w vals[k] L[k] fs[k] := by
  obtain ⟨css, ho, hcl, hr⟩ := h.own
  have hfl := h.fl
  have h1 : ∀ c ∈ css, c = [c.headD undef] := fun c hc => by
    obtain ⟨k, hk, rfl⟩ := List.getElem_of_mem hc
    have := Rp.len (hr k hk (by omega) (by omega))
    match css[k], this with
    | [u], _ => rfl
  have h2 : (css.map fun c => c.headD undef).map (fun v => [v]) = css := by
    rw [List.map_map]
    conv => rhs; rw [← List.map_id css]
    exact List.map_congr_left fun c hc => (h1 c hc).symm
  have h3 : css.flatten = css.map fun c => c.headD undef := by
    conv => lhs; rw [← h2]
    exact singles_flatten _
  rw [h3] at ho
  refine ⟨css.map fun c => c.headD undef, by simpa using hcl, ho, hfl, fun k a b c => ?_⟩
  have h4 := hr k (by simpa using a) b c
  rw [h1 css[k] (List.getElem_mem _)] at h4
  rw [List.getElem_map]
  exact h4
theorem Acc.ofRows {B : Nat} {e : TypeId} {w : World} {v : Value} {L : List (List Int)} {fs : List (List Nat)} {vals : List Value} (hvl : vals.length = L.length) (ho : w.ownsRow B e 1 v L.length vals) (hfl : fs.length = L.length)
    (hr : ∀ k (h1 : k < vals.length) (h2 : k < L.length) (h3 : k < fs.length), Rd w vals[k] L[k] fs[k]) (ha : ∀ g, v.ownBlock = some g → g ∉ fs.flatten) : Acc B e w v L fs := by
  refine ⟨⟨vals.map fun v => [v], ?_, by simpa using hvl, fun k a b c => ?_⟩, hfl, ha⟩
  · rw [singles_flatten]; exact ho
  · rw [List.getElem_map]; exact hr k (by simpa using a) b c
/-- how slices.Compare compares two lists of one length -/
def cmpL (a b : List Int) : Int := if prec a b = true then -1 else if prec b a = true then 1 else 0
theorem cmpL_lt {a b : List Int} : decide (cmpL a b < 0) = prec a b := by
  unfold cmpL
  rcases h : prec a b
  · rw [if_neg (by simp)]
    by_cases h2 : prec b a = true
    · rw [if_pos h2]; rfl
    · rw [if_neg h2]; rfl
  · rw [if_pos rfl]; rfl
set_option maxHeartbeats 1000000 in
theorem isNaN_any (x : Int) (w : World) : Calls Try.prog 121 #[.int .i64 x] w fun e w' => e = .returned (.bool false) ∧ w' = w := by
  go_enter Try.func121, Try.ntmps121
  go_wp2
  go_ret
  exact ⟨by simp, rfl⟩
set_option maxHeartbeats 1000000 in
theorem cmpCompare_any (x y : Int) (w : World) : Calls Try.prog 100 #[.int .i64 x, .int .i64 y] w fun e w' => e = .returned (.int .i64 (if x < y then -1 else if y < x then 1 else 0)) ∧ w' = w := by
  by_cases h1 : x < y
  · have HR := Lib.hid (show (if x < y then (-1 : Int) else if y < x then 1 else 0) = -1 from if_pos h1)
    rw [HR.out]
    go_enter Try.func100, Try.ntmps100
    go_wp2_with (first
      | (go_at_call 121; (with_reducible refine (isNaN_any _ w).mono ?_); rintro e w1 ⟨rfl, h⟩; rw [h]; clear h)
      | fail "no arm")
    go_ret
    exact ⟨rfl, rfl⟩
  · by_cases h2 : y < x
    · have HR := Lib.hid (show (if x < y then (-1 : Int) else if y < x then 1 else 0) = 1 by rw [if_neg h1, if_pos h2])
      rw [HR.out]
      go_enter Try.func100, Try.ntmps100
      go_wp2_with (first
        | (go_at_call 121; (with_reducible refine (isNaN_any _ w).mono ?_); rintro e w1 ⟨rfl, h⟩; rw [h]; clear h)
        | fail "no arm")
      go_ret
      exact ⟨rfl, rfl⟩
    · have HR := Lib.hid (show (if x < y then (-1 : Int) else if y < x then 1 else 0) = 0 by rw [if_neg h1, if_neg h2])
      rw [HR.out]
      go_enter Try.func100, Try.ntmps100
      go_wp2_with (first
        | (go_at_call 121; (with_reducible refine (isNaN_any _ w).mono ?_); rintro e w1 ⟨rfl, h⟩; rw [h]; clear h)
        | fail "no arm")
      go_ret
      exact ⟨rfl, rfl⟩
set_option maxHeartbeats 2000000 in
theorem slCompare_rd (v u : Value) (l p : List Int) (f g : List Nat) (w : World) (h : Rd w v l f) (h' : Rd w u p g) (hl : l.length = p.length) :
    Calls Try.prog 67 #[v, u] w fun e w' => e = .returned (.int .i64 (cmpL l p)) ∧ Drew w w' := by
  obtain ⟨a, cap, rfl, IL⟩ := h.ints
  obtain ⟨a', cap', rfl, IP⟩ := h'.ints
  have hb := IL.bound
  have hb' := IP.bound
  have Hl := Lib.hid hl
  obtain ⟨R, hR⟩ : ∃ R, R = cmpL l p := ⟨_, rfl⟩
  rw [← hR]
  have HR := Lib.hid hR
  clear hl hR
  go_enter Try.func67, Try.ntmps67
  go_wp2
  go_loopw [11] (fun i wr => ∃ j : Nat, j ≤ l.length ∧ i = .int .i64 j ∧ Hid (∀ i, i < j → l[i]? = p[i]?) ∧ Drew w wr)
    (fun i _ => l.length - (intOf i).toNat)
  case atStart => exact ⟨0, Nat.zero_le _, rfl, Lib.hid (by simp), Drew.refl _⟩
  case round =>
    obtain ⟨j, hj, rfl, Hr, n, rfl⟩ := hrel
    by_cases hlt : j < l.length
    · have hlt' : j < p.length := by have := Hl.out; omega
      have hltI : (j : Int) < (l.length : Int) := by omega
      have hltI' : (j : Int) < (p.length : Int) := by omega
      have hj0 : (0 : Int) ≤ (j : Int) := by omega
      obtain ⟨b, off, rfl, -, hc⟩ := IL.at_ j hlt
      obtain ⟨b', off', rfl, -, hc'⟩ := IP.at_ j hlt'
      obtain ⟨x, hx⟩ : ∃ x, x = l[j] := ⟨_, rfl⟩
      obtain ⟨y, hy⟩ : ∃ y, y = p[j] := ⟨_, rfl⟩
      rw [← hx] at hc
      rw [← hy] at hc'
      by_cases hxy : x = y
      · have hz : (if x < y then (-1 : Int) else if y < x then 1 else 0) = 0 := by rw [if_neg (by omega), if_neg (by omega)]
        have Hz := Lib.hid hz
        have Hst : Hid (∀ i, i < j + 1 → l[i]? = p[i]?) := Lib.hid (fun i hi => by
          rcases Nat.lt_or_eq_of_le (Nat.lt_succ_iff.1 hi) with h1 | rfl
          · exact Hr.out i h1
          · rw [List.getElem?_eq_getElem hlt, List.getElem?_eq_getElem hlt', ← hx, ← hy, hxy])
        clear hz hxy hx hy
        go_wp2_with (first
          | (go_at_call 100; (with_reducible refine (cmpCompare_any x y _).mono ?_); rintro e w3 ⟨he, h3⟩; rw [Hz.out] at he; subst he; rw [h3]; clear h3)
          | fail "no arm")
        go_roundw
        case rel => exact ⟨j + 1, by omega, by go_num, Hst, ⟨_, rfl⟩⟩
        case measure => simp [intOf]; omega
      · have hne : l[j] ≠ p[j] := by rw [← hx, ← hy]; exact hxy
        have hz : (if x < y then (-1 : Int) else if y < x then 1 else 0) = R := by
          rw [HR.out]
          unfold cmpL
          rw [prec_at Hr.out hlt hlt' hne, prec_at (fun i hi => (Hr.out i hi).symm) hlt' hlt (Ne.symm hne), ← hx, ← hy]
          by_cases h1 : x < y
          · rw [if_pos h1, if_pos (decide_eq_true h1)]
          · have h2 : y < x := by omega
            rw [if_neg h1, if_pos h2, if_neg (show ¬ decide (x < y) = true by simpa using h1), if_pos (show decide (y < x) = true from decide_eq_true h2)]
        have hR0 : ¬ (R = 0) := by
          rw [← hz]
          by_cases h1 : x < y
          · rw [if_pos h1]; omega
          · rw [if_neg h1, if_pos (by omega)]; omega
        have Hz := Lib.hid hz
        clear hz hxy hne hx hy HR
        go_wp2_with (first
          | (go_at_call 100; (with_reducible refine (cmpCompare_any x y _).mono ?_); rintro e w3 ⟨he, h3⟩; rw [Hz.out] at he; subst he; rw [h3]; clear h3)
          | fail "no arm")
        go_ret
        exact ⟨rfl, ⟨_, rfl⟩⟩
    · obtain rfl : j = l.length := by omega
      have hge : ¬ ((l.length : Int) < (p.length : Int)) := by have := Hl.out; omega
      have hR0 : R = 0 := by
        rw [HR.out]
        unfold cmpL
        rw [prec_all Hr.out Hl.out, prec_all (fun i hi => (Hr.out i (by have := Hl.out; omega)).symm) Hl.out.symm]
        rfl
      have HR0 := Lib.hid hR0
      clear hR0 HR
      go_wp2
      go_ret
      exact ⟨ret_int HR0.out.symm, ⟨_, rfl⟩⟩
theorem heap_sortedG {α : Type} [Inhabited α] {enc : α → Value} {w : World} {g n : Nat} {os : Array Obj} {cur : Array Value} {e : TypeId} {fr : Nat × Nat} (d : Array α) (hb : w.heap[g]? = some (.cells cur e fr)) :
    (sortWorld enc w g 0 n d os).heap[g]? = some (.cells (Sort.putCells enc 0 d cur) e fr) := by
  have hg : g < w.heap.size := (Array.getElem?_eq_some_iff.1 hb).1
  unfold sortWorld
  rw [heap_grow_old _ _ (by simpa using hg)]
  simp [Sort.putRow, Sort.mapBlock, Sort.ahead, Array.getElem?_modify, hb, Sort.onCells]
theorem heap_sortedO {α : Type} [Inhabited α] {enc : α → Value} {w : World} {g n : Nat} {os : Array Obj} (d : Array α) {k : Nat} (hk : k < w.heap.size) (hne : k ≠ g) :
    (sortWorld enc w g 0 n d os).heap[k]? = w.heap[k]? := by
  unfold sortWorld
  rw [heap_grow_old _ _ (by simpa using hk)]
  simp [Sort.putRow, Sort.mapBlock, Sort.ahead, Array.getElem?_modify, Ne.symm hne]
theorem only_sortedG {α : Type} [Inhabited α] {enc : α → Value} {w : World} {g n : Nat} {os : Array Obj} (d : Array α) : Only [g] w (sortWorld enc w g 0 n d os) :=
  ⟨rfl, rfl, rfl, by simp [sortWorld, Sort.grow, Sort.putRow, Sort.mapBlock, Sort.ahead], fun k hk hn => heap_sortedO d hk (by simpa using hn)⟩
theorem take_putCellsG {α : Type} [Inhabited α] {enc : α → Value} (cur : Array Value) (ts : List α) (h : ts.length ≤ cur.size) : (Sort.putCells enc 0 ts.toArray cur).toList.take ts.length = ts.map enc := by
  apply List.ext_getElem?
  intro j
  by_cases hj : j < ts.length
  · rw [List.getElem?_take_of_lt hj, Array.getElem?_toList]
    simp [Sort.putCells, hj, show j < cur.size by omega]
  · rw [List.getElem?_take_eq_none (by omega), List.getElem?_eq_none (by simp; omega)]
theorem map_finRange {β : Type} {N : Nat} (l : List β) (dflt : β) (h : l.length = N) : (List.finRange N).map (fun k => l.getD k.val dflt) = l := by
  subst h
  apply List.ext_getElem (by simp)
  intro i h1 h2
  simp
set_option maxHeartbeats 4000000 in
theorem sortRows_any {B : Nat} (m : Nat) (w : World) (v : Value) (L : List (List Int)) (fs : List (List Nat)) (h : Acc B 36 w v L fs) (hne : L ≠ []) (hl : L.length ≤ 1000) (hp : ∀ x ∈ L, PM.PN m x) (hd : L.Nodup) :
    Calls Try.prog 66 #[v, .func (.func 67) #[] #[]] w fun e w' => e = .returned (.tuple #[]) ∧ ∃ fs', Acc B 36 w' v (srtP L) fs' ∧ fs'.Perm fs ∧ Only v.ownBlock.toList w w' := by
  obtain ⟨vals, hvl, hown, hfl, hrd⟩ := h.rows
  have hap := h.apart
  rcases hown.2 with ⟨-, h0⟩ | ⟨g, cap, cur, rfl, hbg, hg, h1, h2, h3, h4⟩
  · exact absurd (List.length_eq_zero_iff.1 h0) hne
  · rw [Nat.mul_one] at h4
    obtain ⟨N, hN⟩ : ∃ N, N = L.length := ⟨_, rfl⟩
    have hpos : 0 < N := by rw [hN]; exact List.length_pos_iff.2 hne
    haveI : Inhabited (Fin N) := ⟨⟨0, hpos⟩⟩
    obtain ⟨enc, henc⟩ : ∃ enc : Fin N → Value, enc = fun k => vals.getD k.val undef := ⟨_, rfl⟩
    obtain ⟨cf, hcf⟩ : ∃ cf : Fin N → Fin N → Int, cf = fun i j => cmpL (L.getD i.val []) (L.getD j.val []) := ⟨_, rfl⟩
    have hval : ∀ k : Fin N, Rd w (enc k) (L.getD k.val []) (fs.getD k.val []) := fun k => by
      have hk : k.val < L.length := by have := k.isLt; omega
      have := hrd k.val (by omega) hk (by omega)
      rw [henc]
      simp only [List.getD_eq_getElem?_getD]
      rw [List.getElem?_eq_getElem (by omega), List.getElem?_eq_getElem hk, List.getElem?_eq_getElem (show k.val < fs.length by omega)]
      exact this
    have hPN : ∀ k : Fin N, PM.PN m (L.getD k.val []) := fun k => by
      have hk : k.val < L.length := by have := k.isLt; omega
      rw [List.getD_eq_getElem?_getD, List.getElem?_eq_getElem hk]
      exact hp _ (List.getElem_mem hk)
    have hne' : ∀ i j : Fin N, L.getD i.val [] = L.getD j.val [] → i = j := fun i j e => by
      have hi : i.val < L.length := by have := i.isLt; omega
      have hj : j.val < L.length := by have := j.isLt; omega
      rw [List.getD_eq_getElem?_getD, List.getD_eq_getElem?_getD, List.getElem?_eq_getElem hi, List.getElem?_eq_getElem hj] at e
      have e2 : L[i.val] = L[j.val] := e
      apply Fin.ext
      apply Classical.byContradiction
      intro hij
      rcases Nat.lt_or_gt_of_ne hij with hlt | hlt
      · exact List.pairwise_iff_getElem.1 hd i.val j.val hi hj hlt e2
      · exact List.pairwise_iff_getElem.1 hd j.val i.val hj hi hlt e2.symm
    have hlt : ∀ i j, ltOf cf i j = prec (L.getD i.val []) (L.getD j.val []) := fun i j => by
      unfold ltOf
      rw [hcf]
      exact cmpL_lt
    have hlen : ∀ i j : Fin N, (L.getD i.val []).length = (L.getD j.val []).length := fun i j => by rw [(hPN i).1, (hPN j).1]
    have hO : Sort.SWO (ltOf cf) := {
      irrefl := fun x => by rw [hlt]; exact prec_irr _
      trans := fun x y z a b => by rw [hlt] at a b ⊢; exact prec_trans (hlen _ _) (hlen _ _) a b
      ntrans := fun x y z a b => by
        rw [hlt] at a b ⊢
        rw [Bool.eq_false_iff] at a b ⊢
        intro c
        have c' := (prec_lex (hPN x) (hPN z)).1 c
        rcases PM.Lex.total (hPN x) (hPN y) with e | e | e
        · rw [e] at c'; exact b ((prec_lex (hPN y) (hPN z)).2 c')
        · exact a ((prec_lex (hPN x) (hPN y)).2 e)
        · exact b ((prec_lex (hPN y) (hPN z)).2 (e.trans c')) }
    have hT : ∀ x y, ltOf cf x y = false → ltOf cf y x = false → x = y := fun x y a b => by
      rw [hlt] at a b
      rcases PM.Lex.total (hPN x) (hPN y) with e | e | e
      · exact hne' x y e
      · rw [(prec_lex (hPN x) (hPN y)).2 e] at a; cases a
      · rw [(prec_lex (hPN y) (hPN x)).2 e] at b; cases b
    have h1c : OneCell enc := fun k => by obtain ⟨a, c, e, -⟩ := (hval k).ints; rw [e]; rfl
    have hgl : g < w.heap.size := (Array.getElem?_eq_some_iff.1 hg).1
    have hgf : ∀ k : Fin N, ∀ b ∈ fs.getD k.val [], b < w.heap.size ∧ b ≠ g := fun k b hb => by
      have hk : k.val < fs.length := by have := k.isLt; omega
      refine ⟨Rp.lt (hval k) b hb, fun e => ?_⟩
      subst e
      rw [List.getD_eq_getElem?_getD, List.getElem?_eq_getElem hk] at hb
      exact hap b rfl (List.mem_flatten.2 ⟨_, List.getElem_mem hk, hb⟩)
    have hds : (List.finRange N).toArray.size = N := by simp
    have hH : Sort.Holds enc w g 0 (List.finRange N).toArray := by
      intro j hj
      rw [hds] at hj
      refine ⟨?_, by simp [World.frozen?, hg]⟩
      have hjl : j < L.length := by omega
      have hjv : j < vals.length := by omega
      have hjj : (List.finRange N).toArray[j]! = ⟨j, hj⟩ := by simp [hj]
      rw [hjj, henc, Nat.zero_add]
      have h5 : (cur.toList.take L.length)[j]? = vals[j]? := by rw [h4]
      rw [List.getElem?_take_of_lt hjl] at h5
      simp only [World.cell?, hg]
      simp only [Option.isSome_none, Bool.false_eq_true, if_false]
      rw [← Array.getElem?_toList, h5, List.getElem?_eq_getElem hjv]
      simp [hjv]
    have hcmp : CmpReads Try.prog 67 #[] enc cf g 0 (List.finRange N).toArray.size w := by
      intro mm os dk _ x y
      have hx := Rp.frame (hval x) (fun b hb => heap_sortedO (enc := enc) (n := mm) (os := os) dk (hgf x b hb).1 (hgf x b hb).2)
      have hy := Rp.frame (hval y) (fun b hb => heap_sortedO (enc := enc) (n := mm) (os := os) dk (hgf y b hb).1 (hgf y b hb).2)
      have hc := slCompare_rd (enc x) (enc y) (L.getD x.val []) (L.getD y.val []) _ _ _ hx hy (hlen x y)
      rw [hcf]
      exact hc
    have hcall := Any.slices_SortFunc_total Try.sortF enc h1c cf hO 67 #[] g 0 cap (List.finRange N).toArray w Try.call67 hcmp.lays hH hgl (by rw [hds]; omega) hT
    have eV : Value.slice (some ⟨g, 0, none⟩) N cap = Value.slice (some ⟨g, 0, none⟩) L.length cap := by rw [hN]
    rw [hds, eV] at hcall
    refine hcall.mono ?_
    rintro e w' ⟨he, n, os, rfl⟩
    obtain ⟨S, hS⟩ : ∃ S : List (Fin N), S = (List.finRange N).toArray.toList.mergeSort fun x y => !(ltOf cf) y x := ⟨_, rfl⟩
    rw [← hS]
    have hSp : S.Perm (List.finRange N) := by rw [hS]; exact List.mergeSort_perm _ _
    have hSl : S.length = N := by rw [hSp.length_eq]; simp
    have hSa : S.Pairwise fun x y => (!(ltOf cf) y x) = true := by
      rw [hS]
      refine List.pairwise_mergeSort (fun a b c h1 h2 => ?_) (fun a b => ?_) _
      · simp only [Bool.not_eq_true'] at h1 h2 ⊢
        exact hO.ntrans _ _ _ h2 h1
      · rcases hq : ltOf cf b a
        · rfl
        · rcases hq2 : ltOf cf a b
          · simp
          · have := hO.trans _ _ _ hq hq2
            rw [hO.irrefl] at this; cases this
    have hSn : S.Nodup := hSp.nodup_iff.2 (List.nodup_finRange N)
    have hLL : (List.finRange N).map (fun k => L.getD k.val []) = L := map_finRange L [] hN.symm
    have hfs : (List.finRange N).map (fun k => fs.getD k.val []) = fs := map_finRange fs [] (by omega)
    have hL' : S.map (fun k => L.getD k.val []) = srtP L := by
      refine srtP_unique (n := m) hp hd ((hSp.map _).trans (List.Perm.of_eq hLL)) ?_
      rw [List.pairwise_map]
      refine List.Pairwise.imp_of_mem (fun {a b} _ _ hab => ?_) (List.Pairwise.and hSa hSn)
      obtain ⟨q1, q2⟩ := hab
      simp only [Bool.not_eq_true'] at q1
      rw [hlt] at q1
      rcases PM.Lex.total (hPN a) (hPN b) with e | e | e
      · exact absurd (hne' a b e) q2
      · exact e
      · rw [(prec_lex (hPN b) (hPN a)).2 e] at q1; cases q1
    have hsl : (srtP L).length = L.length := (srtP_perm L).length_eq
    have hon : Only [g] w (sortWorld enc w g 0 n S.toArray os) := only_sortedG _
    have hpf : (S.map (fun k => fs.getD k.val [])).Perm fs := (hSp.map _).trans (List.Perm.of_eq hfs)
    refine ⟨he, S.map (fun k => fs.getD k.val []), ?_, hpf, by simpa [Value.ownBlock] using hon⟩
    have hrow : (sortWorld enc w g 0 n S.toArray os).ownsRow B 36 1 (.slice (some ⟨g, 0, none⟩) L.length cap) (srtP L).length (S.map enc) := by
      rw [hsl]
      refine ⟨by simp [hSl, hN], .inr ⟨g, cap, _, rfl, hbg, heap_sortedG _ hg, h1, h2, by simp [Sort.putCells, h3], ?_⟩⟩
      have ht := take_putCellsG (enc := enc) cur S (by omega)
      have hSL : S.length = L.length := by omega
      rw [Nat.mul_one, ← hSL]
      exact ht
    refine Acc.ofRows (vals := S.map enc) (by rw [List.length_map, hSl, hsl, hN]) hrow (by rw [List.length_map, hSl, hsl, hN]) (fun k a b c => ?_) (fun g' hg' hm => ?_)
    · have hk : k < S.length := by simpa using a
      have e1 : (srtP L)[k] = L.getD (S[k]).val [] := by simp only [← hL', List.getElem_map]
      rw [e1, List.getElem_map, List.getElem_map]
      exact Rp.only (hval S[k]) hon fun z hz hmz => by
        have := (hgf S[k] z hz).2
        exact this (by simpa using hmz)
    · obtain ⟨f1, hf1, hm1⟩ := List.mem_flatten.1 hm
      have := hpf.mem_iff.1 hf1
      exact hap g' hg' (List.mem_flatten.2 ⟨f1, this, hm1⟩)
end Go.Proofs.Ytbediokigibdlaa

namespace Go.Proofs.Ytbediokigibdlaa
open Go.RowKit
set_option maxRecDepth 10000

set_option maxHeartbeats 1000000 in
theorem cosClosure (u : Value) (x q : List Int) (f fq : List Nat) (g : Nat) (vq : Value) (W : World) (hu : Rd W u x f) (hc : W.cell? ⟨g, 0, none⟩ = some vq) (hq : Rd W vq q fq) :
    Calls Try.prog 64 #[u, .pointer (some ⟨g, 0, none⟩)] W fun e w' => e = .returned (.bool (eqV x q)) ∧ Only [] W w' := by
  go_enter Try.func64, Try.ntmps64
  go_wp2_with (first
    | (go_at_call 65; (with_reducible refine (Equal_rd u vq x q f fq W hu hq).mono ?_); rintro e w1 ⟨he, t1⟩; subst he; have t1 := t1.only [])
    | fail "no arm")
  go_ret
  exact ⟨rfl, t1⟩
theorem accDown {α : Type} [Rp α] {B B' : Nat} {e : TypeId} {w : World} {v : Value} {l : List α} {fs : List (List Nat)} (h : Acc B e w v l fs) (hB : B' ≤ B) : Acc B' e w v l fs := by
  obtain ⟨css, ho, hr⟩ := h.own
  refine ⟨⟨css, ⟨ho.1, ?_⟩, hr⟩, h.fl, h.apart⟩
  rcases ho.2 with h1 | ⟨g, cp, cur, h1, h2, h3⟩
  · exact .inl h1
  · exact .inr ⟨g, cp, cur, h1, Nat.le_trans hB h2, h3⟩
theorem any_eqV {L : List (List Int)} {q : List Int} : (L.any fun p => eqV p q) = decide (q ∈ L) := by
  rw [Bool.eq_iff_iff, List.any_eq_true, decide_eq_true_iff]
  constructor
  · rintro ⟨p, hp, he⟩; rw [← eqV_iff.1 he]; exact hp
  · intro h; exact ⟨q, h, eqV_yes rfl⟩
set_option maxHeartbeats 8000000 in
theorem implCosR_yes (n : Int) (va vb : Value) (a b : List (List Int)) (fa fb : List Nat) (w : World) (ha : Rd w va a fa) (hb : Rd w vb b fb) (hs : subB n a b = true) (h1 : 1 ≤ idxS n a b) (h200 : idxS n a b ≤ 200) :
    Calls Try.prog 19 #[.int .i64 n, va, vb] w fun e w' => ∃ v f, e = .returned v ∧ Rd w' v (cosR n a b) f ∧ Fresh w.heap.size w' f ∧ Only [] w w' := by
  obtain ⟨m, hnm, S⟩ := SubF.of ha hb hs
  have HcI := Lib.hid (implIdx_any n va vb a b fa fb w ha hb)
  have hle := fun {L : List (List Int)} (i : PM.InC m a b L) => S.le_idx hnm hs i
  have hcR : cosR n a b = srtP (repC m a b) := by unfold cosR; rw [if_pos ⟨h1, h200⟩, hnm]; rfl
  subst hnm
  obtain ⟨ix, hix⟩ : ∃ ix, ix = idxS (m : Int) a b := ⟨_, rfl⟩
  rw [← hix] at HcI hle h1 h200
  obtain ⟨R, hR⟩ : ∃ R, R = repC m a b := ⟨_, rfl⟩
  rw [← hR] at hcR
  rw [hcR]
  obtain ⟨N, hN⟩ : ∃ N, N = ordC m b m := ⟨_, rfl⟩
  have hR0 : R = PM.bC m a b (N + 1 - 0) 0 [PM.pts m] := by rw [hR, hN]; rfl
  have hlN : ∀ {L : List (List Int)}, PM.InC m a b L → L.length ≤ N := fun i => by rw [hN]; exact (S.len i).2.2
  have hm0 := S.pos
  have hm20 := S.le
  have hla := S.la
  have hlb := S.lb
  have hpid : PM.cosM m a (PM.pts m) = PM.pts m := by obtain ⟨G, T, ca⟩ := S.ca; exact PM.cosM_id ca S.pos S.pa
  have Hpid := Lib.hid hpid
  have Hne := Lib.hid (show R ≠ [] from fun e => by
    obtain ⟨-, h2⟩ := S.reps
    obtain ⟨G', T', cb⟩ := S.cb
    have h3 := ordC_pos cb S.pos S.pb (Nat.le_refl _)
    rw [← hR, e] at h2
    simp at h2
    omega)
  have HR0 := Lib.hid hR0
  have HS := Lib.hid S
  have Hle := Lib.hid (fun (L : List (List Int)) (i : PM.InC m a b L) => hle i)
  have HlN := Lib.hid (fun (L : List (List Int)) (i : PM.InC m a b L) => hlN i)
  obtain ⟨i0, hi, hz0, hz1, hz2⟩ := info_parts Try.info22
  obtain ⟨A2, C2, ob2, fps2, rfl, -, hS2⟩ := id hb.open_
  have hbb := hS2.bound
  have HRng := Lib.hid (show inR (ix : Int) 1 200 = true from inR_iff.2 (by omega))
  clear hle hlN hR0 hR hN hcR S hs hix hpid
  go_enter Try.func19, Try.ntmps19
  go_wp2_with (first
    | (go_at_call 24; (with_reducible refine (HcI.out).mono ?_); rintro en w1 ⟨rfl, t1⟩)
    | (go_at_call 60; (with_reducible refine (within_any (ix : Int) 1 200 _).mono ?_); rintro e w1' ⟨he, h1⟩; rw [HRng.out] at he; subst he; rw [h1]; clear h1)
    | (go_at_call 34; (with_reducible refine (implNewChain_any m hm0 hm20 va a fa w1 (Rp.keep ha t1) HS.out.pa (by omega)).mono ?_); rintro en w3 ⟨L, gv, G, T, M, F, rfl, -, hoT, hC, hCh, t3⟩; have HC := Lib.hid hC; have HCh := Lib.hid hCh; have HoT := Lib.hid hoT; have HlM := Lib.hid hC.lM; have HlF := Lib.hid hC.lF; clear hC hCh hoT)
    | (go_at_call 62; (with_reducible refine (implIdentity_any m w3 (by omega)).mono ?_); rintro en w4 ⟨v4, f4, rfl, r4, F4, t4⟩)
    | (go_at_call 61; (with_reducible refine (from_any L.g v4 (PM.pts m) f4 w4 r4).mono ?_); rintro en w5 ⟨rfl, hB5, t5, hs5⟩; have hbM : w4.heap.size ∉ M := (fun hm => by have := HlM.out _ hm; have := t4.size; omega); have hbF : w4.heap.size ∉ F := (fun hm => by have := HlF.out _ hm; have := t4.size; omega); have hbf : w4.heap.size ∉ f4 := (fun hm => by have := F4.lt _ hm; omega))
    | (go_at_call 63; (with_reducible refine (finish_any w5 (HC.out.keep (t4.trans t5)) HCh.out.inv.wf HoT.out w4.heap.size v4 (PM.pts m) f4 hB5 (Rp.keep r4 t5) (PM.PN.id m) hbM hbF hbf).mono ?_); rintro en w6 ⟨v6, f6, rfl, r6, F6, O6⟩; rw [HCh.out.cosM_eq hm0 HS.out.pa (PM.PN.id m), Hpid.out] at r6; obtain ⟨a6, c6, rfl, -⟩ := id r6.ints)
    | fail "no arm")
  have k3 : Only [] w w3 := t1.trans t3
  have k36 : Only [] w3 w6 := (t4.trans t5).then_ O6 (fun z hz hl => by simp at hz; have := t4.size; omega)
  have hz6 := k36.size
  have hz3 := k3.size
  have A6 := Acc.one (cs := [.slice a6 (PM.pts m).length c6]) w3.heap.size 36 r6 rfl hz6
  have F6' : Fresh w3.heap.size (w6.alloc (.cells #[.slice a6 (PM.pts m).length c6] 36)) [f6].flatten := by
    simp only [List.flatten_cons, List.flatten_nil, List.append_nil]
    exact (F6.mono (t4.trans t5).size).keep ((Only.refl _ _).alloc _)
  clear F4 F6 t1 t3 t4 t5 r4 r6 O6 hB5 hs5 hbM hbF hbf
  go_loopw [8, 9] (fun o y wr => ∃ (i : Nat) (L : List (List Int)) (fs : List (List Nat)), i ≤ L.length ∧ y = .int .i64 i ∧ Acc w3.heap.size 36 wr o L fs ∧ Fresh w3.heap.size wr fs.flatten ∧ Hid (PM.InC m a b L) ∧ Hid (R = PM.bC m a b (N + 1 - i) i L) ∧ Only [] w3 wr)
    (fun _ y _ => 201 - (intOf y).toNat)
  case atStart => exact ⟨0, [PM.pts m], [f6], Nat.zero_le _, rfl, A6, F6', Lib.hid HS.out.start, HR0, k36.alloc _⟩
  case round =>
    obtain ⟨W2, hnew⟩ : ∃ W, W = wr := ⟨_, rfl⟩
    subst hnew
    clear A6 F6'
    obtain ⟨i, LL, fs, hil, rfl, hA, hF, hIn, hRR, hO⟩ := hrel
    have hll := Hle.out LL hIn.out
    have hlN := HlN.out LL hIn.out
    obtain ⟨Ao, Co, hfo⟩ := hA.form
    subst hfo
    by_cases hlt : i < LL.length
    · have hltI : (i : Int) < (LL.length : Int) := by omega
      obtain ⟨x, hx⟩ : ∃ x, x = LL[i] := ⟨_, rfl⟩
      have hxm : x ∈ LL := by rw [hx]; exact List.getElem_mem hlt
      have hR2 : R = PM.bC m a b (N - i) (i + 1) (PM.stepC m a x (b.drop 0) LL) := by
        rw [List.drop_zero, hx, ← bC_go hlt, hRR.out, show N + 1 - i = N - i + 1 by omega]
      have HR2 := Lib.hid hR2
      have Hxm := Lib.hid hxm
      have Hx := Lib.hid hx
      have Hpx := Lib.hid (HS.out.pn hIn.out hxm)
      clear hR2 hx hxm hRR
      go_wp2
      go_loopw [8, 36] (fun o y wr => ∃ (k : Nat) (L' : List (List Int)) (fs : List (List Nat)), k ≤ b.length ∧ y = .int .i64 k ∧ Acc w3.heap.size 36 wr o L' fs ∧ Fresh w3.heap.size wr fs.flatten ∧ Hid (PM.InC m a b L') ∧ Hid (∃ l, L' = LL ++ l) ∧ Hid (R = PM.bC m a b (N - i) (i + 1) (PM.stepC m a x (b.drop k) L')) ∧ Only [] w3 wr)
        (fun _ y _ => b.length - (intOf y).toNat)
      case atStart => exact ⟨0, LL, fs, Nat.zero_le _, rfl, hA, hF, hIn, Lib.hid ⟨[], by simp⟩, HR2, hO⟩
      case round =>
        obtain ⟨W4, hnew⟩ : ∃ W, W = wr := ⟨_, rfl⟩
        subst hnew
        clear hA hF hIn HR2 hO
        obtain ⟨k, L', fs, hk, rfl, hA, hF, hIn, hpre, hRR, hO⟩ := hrel
        have hll' := Hle.out L' hIn.out
        by_cases hlk : k < b.length
        · have hlkI : (k : Int) < (b.length : Int) := by omega
          obtain ⟨l, hl⟩ := hpre.out
          have hil' : i < L'.length := by rw [hl, List.length_append]; omega
          have hilI : (i : Int) < (L'.length : Int) := by omega
          have hx' : L'[i] = x := by rw [Hx.out]; simp only [hl]; rw [List.getElem_append_left hlt]
          obtain ⟨A9, C9, ob9, fps9, rfl, -, S9⟩ := (hA.rd (by decide)).open_
          obtain ⟨b9, o9, u9', rfl, -, c9, hu9⟩ := S9.atRow i hil'
          rw [hx'] at hu9
          have kW : Only [] w W4 := k3.trans hO
          obtain ⟨bb, ob, ub, rfl, -, cb0, hub⟩ := hS2.atRow k hlk
          have cb := kW.cell (by simp) cb0
          have hgm : b[k] ∈ b := List.getElem_mem hlk
          have hpg := HS.out.pb b[k] hgm
          have hst := stepC_drop (m := m) (a := a) (L := L') (x := x) hlk
          have hxm' : x ∈ L' := by rw [hl]; exact List.mem_append_left _ Hxm.out
          have hIn2 := HS.out.step hIn.out hxm' hgm
          obtain ⟨g, hg⟩ : ∃ g, g = b[k] := ⟨_, rfl⟩
          rw [← hg] at hub hpg hst hIn2
          obtain ⟨q, hq⟩ : ∃ q, q = PM.cosM m a (PM.comp x g) := ⟨_, rfl⟩
          have hcm : PM.desc T m (fun _ _ => 0) m 0 (PM.comp x g) = q := by rw [hq]; exact HCh.out.cosM_eq hm0 HS.out.pa (Hpx.out.comp hpg)
          rw [← hq] at hst hIn2
          rw [hst] at hRR
          have Hcm := Lib.hid hcm
          have Hpxg := Lib.hid (Hpx.out.comp hpg)
          have HC4 := Lib.hid (fun (W : World) (hW : Only [] W4 W) => (HC.out.keep hO).keep hW)
          have HcK := Lib.hid (implCompose_rd m u9' ub x g _ _ W4 hu9 (Rp.keep hub kW) Hpx.out hpg (by omega))
          have hAr := hA.rd (by decide)
          have HAr := Lib.hid (fun (W : World) (hW : Only [] W4 W) => Rp.keep hAr hW)
          have HA := Lib.hid hA
          have hi0 : (0 : Int) ≤ (i : Int) := by omega
          have hk0 : (0 : Int) ≤ (k : Int) := by omega
          have hz4 := hO.size
          have hlen : L'.length + 1 ≤ 1073741824 := by omega
          have Hpre := Lib.hid (show ∃ l, PM.addC q L' = LL ++ l by
            obtain ⟨l2, h2⟩ := PM.addC_pre q L'
            exact ⟨l ++ l2, by rw [h2, hl, List.append_assoc]⟩)
          have HIn2 := Lib.hid hIn2
          have hz34 := hO.size
          clear hl hx' hu9 hub cb0 hgm hpg hst hxm' hg hq hcm hA hAr hpre hIn hIn2
          go_upto_region 12 with (first
            | (go_at_call 50; (with_reducible refine (HcK.out).mono ?_); rintro x1 w6 ⟨v6, f6, rfl, r6, F6, y6⟩)
            | (go_at_call 61; (with_reducible refine (from_any L.g v6 (PM.comp x g) f6 w6 r6).mono ?_); rintro en w7 ⟨rfl, hB7, y7, hs7⟩; have hbM : w6.heap.size ∉ M := (fun hm => by have := HlM.out _ hm; have := y6.size; omega); have hbF : w6.heap.size ∉ F := (fun hm => by have := HlF.out _ hm; have := y6.size; omega); have hbf : w6.heap.size ∉ f6 := (fun hm => by have := F6.lt _ hm; omega))
            | (go_at_call 63; (with_reducible refine (finish_any w7 (HC4.out w7 (y6.trans y7)) HCh.out.inv.wf HoT.out w6.heap.size v6 (PM.comp x g) f6 hB7 (Rp.keep r6 y7) Hpxg.out hbM hbF hbf).mono ?_); rintro en w8 ⟨v8, f8, rfl, r8, F8, O8⟩; rw [Hcm.out] at r8; obtain ⟨a8, c8, rfl, -⟩ := id r8.ints)
            | fail "no arm")
          have k8 : Only [] W4 w8 := (y6.trans y7).then_ O8 (fun z hz hl => by simp at hz; have := y6.size; omega)
          have F8' : Fresh W4.heap.size w8 f8 := F8.mono (y6.trans y7).size
          have cbox := lit1 w8 (.slice a8 q.length c8) 36 rfl
          obtain ⟨W9, hW9⟩ : ∃ W9, W9 = w8.alloc (.cells #[.slice a8 q.length c8] 36) := ⟨_, rfl⟩
          have k89 : Only [] w8 W9 := by rw [hW9]; exact (Only.refl _ _).alloc _
          rw [← hW9] at cbox ⊢
          have k9 := k8.trans k89
          have r9 := Rp.keep r8 k89
          have F9 := F8'.keep k89
          have Hcf := Lib.hid (ContainsFunc_rows 64 #[.pointer (some ⟨w8.heap.size, 0, none⟩)] (fun p => eqV p q) Try.call64 (.slice (some ⟨b9, o9, none⟩) L'.length C9) L' _ W9 (HAr.out W9 k9)
            (fun x' _ u f' w' hw hu => cosClosure u x' q f' f8 w8.heap.size (.slice a8 q.length c8) w' hu (hw.cell (by simp) cbox) (Rp.keep r9 hw)))
          rw [any_eqV] at Hcf
          clear hW9 k8 F8 F8' r8 O8 k89 y6 y7 F6 hB7 hs7 hbM hbF hbf r6
          by_cases hmem : q ∈ L'
          · have hadd : PM.addC q L' = L' := by unfold PM.addC; rw [if_pos hmem]
            rw [decide_eq_true hmem] at Hcf
            rw [hadd] at hRR HIn2 Hpre
            clear hadd hmem
            go_wp2_with (first
              | (go_at_call 45; (with_reducible refine (Hcf.out).mono ?_); rintro e wA ⟨rfl, tA⟩)
              | fail "no arm")
            go_roundw
            case rel => exact ⟨k + 1, L', fs, by omega, by go_num, HA.out.keep (k9.trans tA), hF.keep (k9.trans tA), HIn2, Hpre, hRR, (hO.trans k9).trans tA⟩
            case measure => simp [intOf]; omega
          · have hadd : PM.addC q L' = L' ++ [q] := by unfold PM.addC; rw [if_neg hmem]
            rw [decide_eq_false hmem] at Hcf
            rw [hadd] at hRR HIn2 Hpre
            clear hadd hmem
            go_wp2_with (first
              | (go_at_call 45; (with_reducible refine (Hcf.out).mono ?_); rintro e wA ⟨rfl, tA⟩; have kA := k9.trans tA; have cA := tA.cell (by simp) cbox)
              | (at_builtin; refine wpList_pushF rfl _ _ 24 rfl w3.heap.size 36 i0 _ 24 Try.underlying24 hi hz0 hz1 hz2 rfl (by decide) (by decide) W4 (.slice (some ⟨b9, o9, none⟩) L'.length C9) L' fs rfl HA.out hF (kA.alloc _) hz4 wA.heap.size 1 [.slice a8 q.length c8] q f8 rfl (lit_src wA [_] _ rfl) (by intro u hu; simp at hu; subst hu; rfl) (Rp.keep r9 (tA.alloc _)) (F9.keep (tA.alloc _)) hlen w3 ((hO.trans kA).alloc _) (Nat.le_refl _) ?_; intro vB wB hAB hFB hKB hWB)
              | fail "no arm")
            go_roundw
            case rel => exact ⟨k + 1, _, _, by omega, by go_num, hAB, hFB, HIn2, Hpre, hRR, hKB⟩
            case measure => simp [intOf]; omega
        · obtain rfl : k = b.length := by omega
          have hge : ¬ ((b.length : Int) < (b.length : Int)) := by omega
          have hR3 : R = PM.bC m a b (N + 1 - (i + 1)) (i + 1) L' := by
            have := hRR.out
            rw [List.drop_length] at this
            rw [show N + 1 - (i + 1) = N - i by omega]
            exact this
          have hl' : i + 1 ≤ L'.length := by
            obtain ⟨l, hl⟩ := hpre.out
            rw [hl, List.length_append]; omega
          have HR3 := Lib.hid hR3
          have HA := Lib.hid hA
          clear hR3 hRR hA
          go_wp2
          go_roundw
          case rel => exact ⟨i + 1, L', fs, hl', by go_num, HA.out, hF, hIn, HR3, hO⟩
          case measure => simp [intOf]; omega
    · obtain rfl : i = LL.length := by omega
      have hge : ¬ ((LL.length : Int) < (LL.length : Int)) := by omega
      have hRL : R = LL := by rw [hRR.out]; exact bC_end (Nat.le_refl _)
      have HRL := Lib.hid hRL
      have Hpn := Lib.hid (fun x (hx : x ∈ LL) => HS.out.pn hIn.out hx)
      have Hnd := Lib.hid hIn.out.nd
      have HA := Lib.hid hA
      have hF' := hF.mono hz3
      have kW : Only [] w W2 := k3.trans hO
      have Hne2 := Lib.hid (show LL ≠ [] by rw [← hRL]; exact Hne.out)
      have hown := hA.ownlt
      have hap := hA.apart
      clear hRL hRR hA hF
      go_wp2_with (first
        | (go_at_call 66; (with_reducible refine (sortRows_any m W2 _ LL fs HA.out Hne2.out (by omega) Hpn.out Hnd.out).mono ?_); rintro e w6 ⟨rfl, fs6, A6, p6, O6⟩)
        | fail "no arm")
      go_ret
      have k6 : Only [] w w6 := kW.then_ O6 (fun z hz hl => by have := (hown z (by simpa using hz)).1; omega)
      have hF6 := hF'.only O6 (fun z hz hm => hap z (by simpa using hm) hz)
      have hp := p6.flatten
      have F6 : Fresh w.heap.size w6 fs6.flatten := ⟨hp.nodup_iff.2 hF6.nd, fun z hz => hF6.ge z (hp.mem_iff.1 hz), fun z hz => hF6.own z (hp.mem_iff.1 hz)⟩
      exact ⟨_, _, rfl, by rw [HRL.out]; exact A6.rd (by decide), (accDown A6 hz3).fresh F6, k6⟩
set_option maxHeartbeats 2000000 in
theorem implCosR_no (n : Int) (va vb : Value) (a b : List (List Int)) (fa fb : List Nat) (w : World) (ha : Rd w va a fa) (hb : Rd w vb b fb) (h : ¬ (1 ≤ idxS n a b ∧ idxS n a b ≤ 200)) :
    Calls Try.prog 19 #[.int .i64 n, va, vb] w fun e w' => ∃ v f, e = .returned v ∧ Rd w' v (cosR n a b) f ∧ Fresh w.heap.size w' f ∧ Only [] w w' := by
  have HcI := Lib.hid (implIdx_any n va vb a b fa fb w ha hb)
  have hcR : cosR n a b = [] := by unfold cosR; rw [if_neg h]
  rw [hcR]
  obtain ⟨ix, hix⟩ : ∃ ix, ix = idxS n a b := ⟨_, rfl⟩
  rw [← hix] at HcI h
  have HRng : Hid (inR (ix : Int) 1 200 = false) := Lib.hid (by
    rw [Bool.eq_false_iff]
    intro hh
    have := inR_iff.1 hh
    omega)
  clear hcR hix
  go_enter Try.func19, Try.ntmps19
  go_wp2_with (first
    | (go_at_call 24; (with_reducible refine (HcI.out).mono ?_); rintro en w1 ⟨rfl, t1⟩)
    | (go_at_call 60; (with_reducible refine (within_any (ix : Int) 1 200 _).mono ?_); rintro e w1' ⟨he, h1⟩; rw [HRng.out] at he; subst he; rw [h1]; clear h1)
    | fail "no arm")
  go_ret
  exact ⟨_, [], rfl, nil_rows _ _ _ (by simp [maxLen]), Fresh.nil _ _, t1⟩
theorem implCosR_any (n : Int) (va vb : Value) (a b : List (List Int)) (fa fb : List Nat) (w : World) (ha : Rd w va a fa) (hb : Rd w vb b fb) :
    Calls Try.prog 19 #[.int .i64 n, va, vb] w fun e w' => ∃ v f, e = .returned v ∧ Rd w' v (cosR n a b) f ∧ Fresh w.heap.size w' f ∧ Only [] w w' := by
  by_cases h : 1 ≤ idxS n a b ∧ idxS n a b ≤ 200
  · exact implCosR_yes n va vb a b fa fb w ha hb (idx_sub h.1) h.1 h.2
  · exact implCosR_no n va vb a b fa fb w ha hb h
end Go.Proofs.Ytbediokigibdlaa

namespace Go.Proofs.Ytbediokigibdlaa
open Go.RowKit
set_option maxRecDepth 10000
end Go.Proofs.Ytbediokigibdlaa

namespace Go.Proofs.Ytbediokigibdlaa
open Go.RowKit
set_option maxRecDepth 10000
end Go.Proofs.Ytbediokigibdlaa

namespace Go.Proofs.Ytbediokigibdlaa
open Go.RowKit
set_option maxRecDepth 10000

set_option maxHeartbeats 400000 in
theorem likeInts_any (a a' : Option Addr) (cap cap' : Nat) (l l' : List Int) (fp fp' : List Nat) (w : World) (h : IntsA w a cap l fp) (h' : IntsA w a' cap' l' fp') :
    Calls Try.prog 30 #[.slice a l.length cap, .slice a' l'.length cap'] w fun e w' => e = .returned (.bool (eqV l l')) ∧ Drew w w' := by
  have hb := h.bound
  have hb' := h'.bound
  by_cases hl : l.length = l'.length
  · have hne : ((l.length : Int) != (l'.length : Int)) = false := by simp [hl]
    have Hl := Lib.hid hl; clear hl
    go_enter Try.func30, Try.ntmps30
    go_wp2
    go_loopw [5] (fun i wr => ∃ j : Nat, j ≤ l.length ∧ i = .int .i64 j ∧ l.take j = l'.take j ∧ Drew w wr)
      (fun i _ => l.length - (intOf i).toNat)
    case atStart => exact ⟨0, Nat.zero_le _, rfl, rfl, Drew.refl _⟩
    case round =>
      obtain ⟨j, hj, rfl, hr, n, rfl⟩ := hrel
      have Hr := Lib.hid hr; clear hr
      by_cases hlt : j < l.length
      · have hlt' : j < l'.length := by have := Hl.out; omega
        obtain ⟨b, off, ha, -, hc⟩ := h.at_ j hlt
        obtain ⟨b', off', ha', -, hc'⟩ := h'.at_ j hlt'
        go_wp2
        go_quiet (fail)
        go_wp2
        · have hne : (l[j] != l'[j]) = true := by assumption
          go_ret
          exact ⟨ret_bool (eqInts_no hlt hlt' hne).symm, ((Drew.refl _).drewN _).drewN _⟩
        · have heq : (l[j] != l'[j]) = false := by assumption
          go_roundw
          case rel => exact ⟨j + 1, by omega, by go_num, eqInts_step hlt hlt' heq Hr.out, ⟨_, rfl⟩⟩
          case measure => simp [intOf]; omega
      · go_wp2
        go_ret
        exact ⟨ret_bool (eqL_yes Hl.out hlt Hr.out).symm, (Drew.refl _).drewN n⟩
  · have hne : ((l.length : Int) != (l'.length : Int)) = true := by simp; omega
    go_enter Try.func30, Try.ntmps30
    go_wp2
    go_ret
    exact ⟨ret_bool (eqL_len hne).symm, Drew.refl _⟩

end Go.Proofs.Ytbediokigibdlaa

namespace Go.Proofs.Ytbediokigibdlaa
open Go.RowKit
set_option maxRecDepth 10000

set_option maxHeartbeats 2000000 in
theorem areP_yes (n : Nat) (vp vq : Value) (p q : List Int) (fp fq : List Nat) (w : World) (hp : Rd w vp p fp) (hq : Rd w vq q fq) (pp : PM.PN n p) (pq : PM.PN n q) (hn : 1 ≤ n ∧ n ≤ 20) :
    Calls Try.prog 75 #[vp, vq] w fun e w' => e = .returned (.bool true) ∧ Only [] w w' := by
  obtain ⟨A1, C1, rfl, I1⟩ := hp.ints
  obtain ⟨A2, C2, rfl, I2⟩ := hq.ints
  have Hp := Lib.hid (permB_iff.2 ⟨by rw [pp.1]; exact hn, pp.2⟩)
  have Hq := Lib.hid (permB_iff.2 ⟨by rw [pq.1]; exact hn, pq.2⟩)
  have hcmp : ((p.length : Int) == (q.length : Int)) = true := by rw [pp.1, pq.1]; simp
  clear pp pq
  go_enter Try.func75, Try.ntmps75
  go_wp2_with (first
    | (go_at_call 76; (with_reducible refine (implIsPerm_rd _ p _ _ hp).mono ?_); rintro e w1 ⟨he, n1, rfl⟩; rw [Hp.out] at he; subst he)
    | (go_at_call 76; (with_reducible refine (implIsPerm_rd _ q _ _ (Rp.keep hq (Only.ofDrewN _ _ _))).mono ?_); rintro e w2 ⟨he, n2, rfl⟩; rw [Hq.out] at he; subst he)
    | fail "no arm")
  go_ret
  exact ⟨rfl, (by with_reducible repeat (first | exact Only.refl _ _ | assumption | refine Only.drewN ?_ _ | refine Only.drew ?_ | refine Only.alloc ?_ _ | refine Only.setCell ?_ (by intro hh; exfalso; simp at hh; try omega) _ | refine Only.trans ?_ (by assumption)))⟩
set_option maxHeartbeats 4000000 in
theorem implSame_yes (m : Nat) (vg vp vq : Value) (gens : List (List Int)) (p q : List Int) (fpg fp fq : List Nat) (w : World) (hg : Rd w vg gens fpg) (hp : Rd w vp p fp) (hq : Rd w vq q fq) (hgs : gensB m gens = true) (pp : PM.PN m p) (pq : PM.PN m q) :
    Calls Try.prog 29 #[.int .i64 m, vg, vp, vq] w fun e w' => e = .returned (.bool (memB m gens (PM.comp q (PM.inv p)))) ∧ Only [] w w' := by
  obtain ⟨⟨n1, n20⟩, hgl, hpn⟩ := gensB_iff.1 hgs
  have hpn' : ∀ g ∈ gens, PM.PN m g := by simpa using hpn
  have hm0 : 0 < m := by omega
  have hm20 : m ≤ 20 := by omega
  obtain ⟨A2, C2, rfl, I2⟩ := hp.ints
  have hlp : p.length = m := pp.1
  have HcG := Lib.hid (implIsGens_rd (m : Int) vg gens fpg w hg)
  rw [hgs] at HcG
  have Hpn := Lib.hid hpn'
  have Hpp := Lib.hid pp
  have Hpq := Lib.hid pq
  have hcmp : ((p.length : Int) == (m : Int)) = true := by rw [hlp]; simp
  have Hpc := Lib.hid (pq.comp pp.inv)
  clear hgs hpn hpn' pp pq hlp
  go_enter Try.func29, Try.ntmps29
  go_wp2_with (first
    | (go_at_call 43; (with_reducible refine (HcG.out).mono ?_); rintro en w1 ⟨he, t1⟩; subst he)
    | (go_at_call 74; (with_reducible refine (lengthInt_rd _ p fp _ (Rp.keep hp t1)).mono ?_); rintro e wl ⟨rfl, hwl⟩; rw [hwl]; clear hwl)
    | (go_at_call 75; (with_reducible refine (areP_yes m _ vq p q fp fq w1 (Rp.keep hp t1) (Rp.keep hq t1) Hpp.out Hpq.out ⟨by omega, by omega⟩).mono ?_); rintro e w2 ⟨rfl, t2⟩; have k2 := t1.trans t2)
    | (go_at_call 34; (with_reducible refine (implNewChain_any m hm0 hm20 vg gens fpg w2 (Rp.keep hg k2) Hpn.out (by omega)).mono ?_); rintro en w3 ⟨L, gv, G, T, M, F, rfl, -, hoT, hC, hCh, t3⟩; have k3 := k2.trans t3; have HC := Lib.hid hC; have HCh := Lib.hid hCh; have HoT := Lib.hid hoT; clear hC hCh hoT)
    | (go_at_call 51; (with_reducible refine (implInv_rd m _ p fp w3 (Rp.keep hp k3) Hpp.out (by omega)).mono ?_); rintro e w4 ⟨v4, f4, rfl, r4, F4, t4⟩; have k4 := k3.trans t4)
    | (go_at_call 50; (with_reducible refine (implCompose_rd m vq v4 q (PM.inv p) fq f4 w4 (Rp.keep hq k4) r4 Hpq.out Hpp.out.inv (by omega)).mono ?_); rintro e w5 ⟨v5, f5, rfl, r5, F5, t5⟩; have k5 := k4.trans t5)
    | (go_at_call 35; (with_reducible refine (implHas0 (HC.out.keep (t4.trans t5)) HCh.out.inv.wf HoT.out r5 Hpc.out).mono ?_); rintro en w6 ⟨he, t6⟩; rw [memB_has HCh.out hm0 Hpn.out Hpc.out] at he; subst he; have k6 := k5.trans t6)
    | fail "no arm")
  go_ret
  exact ⟨rfl, k6⟩
set_option maxHeartbeats 4000000 in
theorem implCosMin_yes (m : Nat) (vg vp : Value) (gens : List (List Int)) (p : List Int) (fpg fp : List Nat) (w : World) (hg : Rd w vg gens fpg) (hp : Rd w vp p fp) (hgs : gensB m gens = true) (pp : PM.PN m p) :
    Calls Try.prog 31 #[.int .i64 m, vg, vp] w fun e w' => ∃ v f, e = .returned v ∧ Rd w' v (PM.cosM m gens p) f ∧ Fresh w.heap.size w' f ∧ Only [] w w' := by
  obtain ⟨⟨n1, n20⟩, hgl, hpn⟩ := gensB_iff.1 hgs
  have hpn' : ∀ g ∈ gens, PM.PN m g := by simpa using hpn
  have hm0 : 0 < m := by omega
  have hm20 : m ≤ 20 := by omega
  have hfpl : ∀ b ∈ fp, b < w.heap.size := fun b hb => Rp.lt hp b hb
  obtain ⟨A2, C2, rfl, I2⟩ := hp.ints
  have hlp : p.length = m := pp.1
  have HcG := Lib.hid (implIsGens_rd (m : Int) vg gens fpg w hg)
  rw [hgs] at HcG
  have HP := Lib.hid (permB_iff.2 ⟨by rw [pp.1]; omega, pp.2⟩)
  have Hpn := Lib.hid hpn'
  have Hpp := Lib.hid pp
  have hcmp : ((p.length : Int) != (m : Int)) = false := by rw [hlp]; simp
  have HlC : Hid (∀ (L : List Int), L = PM.cosM m gens p → L.length ≤ 1073741824) := Lib.hid (by
    intro L hL
    obtain ⟨G, T, hCh⟩ := rank_chain m _ gens fpg w hg hgs
    rw [hL, (hCh.cosM_pn hm0 hpn' pp).1]
    omega)
  clear hgs hpn hpn' pp hlp
  go_enter Try.func31, Try.ntmps31
  go_wp2_with (first
    | (go_at_call 43; (with_reducible refine (HcG.out).mono ?_); rintro en w1 ⟨he, t1⟩; subst he)
    | (go_at_call 74; (with_reducible refine (lengthInt_rd _ p fp _ (Rp.keep hp t1)).mono ?_); rintro e wl ⟨rfl, hwl⟩; rw [hwl]; clear hwl)
    | (go_at_call 76; (with_reducible refine (implIsPerm_rd _ p _ w1 (Rp.keep hp t1)).mono ?_); rintro e w2 ⟨he, n2, rfl⟩; rw [HP.out] at he; subst he; have k2 : Only [] w (w1.drewN n2) := t1.trans (Only.ofDrewN _ _ _))
    | (go_at_call 34; (with_reducible refine (implNewChain_any m hm0 hm20 vg gens fpg _ (Rp.keep hg k2) Hpn.out (by omega)).mono ?_); rintro en w3 ⟨L, gv, G, T, M, F, rfl, -, hoT, hC, hCh, t3⟩; have k3 := k2.trans t3; have HC := Lib.hid hC; have HCh := Lib.hid hCh; have HoT := Lib.hid hoT; have HlM := Lib.hid hC.lM; have HlF := Lib.hid hC.lF; clear hC hCh hoT)
    | (go_at_call 61; (with_reducible refine (from_any L.g _ p fp w3 (Rp.keep hp k3)).mono ?_); rintro en w5 ⟨rfl, hB5, t5, hs5⟩; have hbM : w3.heap.size ∉ M := (fun hm => by have := HlM.out _ hm; omega); have hbF : w3.heap.size ∉ F := (fun hm => by have := HlF.out _ hm; omega); have hbf : w3.heap.size ∉ fp := (fun hm => by have := hfpl _ hm; have := k3.size; omega))
    | (go_at_call 63; (with_reducible refine (finish_any w5 (HC.out.keep t5) HCh.out.inv.wf HoT.out w3.heap.size _ p fp hB5 (Rp.keep hp (k3.trans t5)) Hpp.out hbM hbF hbf).mono ?_); rintro en w6 ⟨v6, f6, rfl, r6, F6, O6⟩; rw [HCh.out.cosM_eq hm0 Hpn.out Hpp.out] at r6; have k6 : Only [] w w6 := (k3.trans t5).then_ O6 (fun z hz hl => by simp at hz; have := k3.size; omega))
    | (go_at_call 77; (with_reducible refine (Clone_rd v6 _ f6 w6 r6 (HlC.out _ rfl)).mono ?_); rintro e w7 ⟨v7, f7, rfl, r7, F7, t7⟩)
    | fail "no arm")
  go_ret
  exact ⟨_, f7, rfl, r7, F7.mono k6.size, k6.trans t7⟩
set_option maxHeartbeats 4000000 in
theorem likeLists_same (va vb : Value) (L : List (List Int)) (fa fb : List Nat) (w : World) (ha : Rd w va L fa) (hb : Rd w vb L fb) :
    Calls Try.prog 27 #[va, vb] w fun e w' => e = .returned (.bool true) ∧ Only [] w w' := by
  obtain ⟨A1, C1, o1, f1, rfl, -, S1⟩ := ha.open_
  obtain ⟨A2, C2, o2, f2, rfl, -, S2⟩ := hb.open_
  have hbd := S1.bound
  go_enter Try.func27, Try.ntmps27
  go_wp2
  go_loopw [5] (fun y wr => ∃ i : Nat, i ≤ L.length ∧ y = .int .i64 i ∧ Only [] w wr)
    (fun y _ => L.length - (intOf y).toNat)
  case atStart => exact ⟨0, Nat.zero_le _, rfl, Only.refl _ _⟩
  case round =>
    obtain ⟨W2, hnew⟩ : ∃ W, W = wr := ⟨_, rfl⟩
    subst hnew
    obtain ⟨i, hi, rfl, hO⟩ := hrel
    by_cases hlt : i < L.length
    · have hltI : (i : Int) < (L.length : Int) := by omega
      have hi0 : (0 : Int) ≤ (i : Int) := by omega
      obtain ⟨b, off, u, rfl, -, hc0, hu0⟩ := S1.atRow i hlt
      obtain ⟨b', off', u', rfl, -, hc1, hu1⟩ := S2.atRow i hlt
      have c0 := hO.cell (by simp) hc0
      have c1 := hO.cell (by simp) hc1
      obtain ⟨x, hx⟩ : ∃ x, x = L[i] := ⟨_, rfl⟩
      rw [← hx] at hu0 hu1
      obtain ⟨a4, c4, rfl, -⟩ := id hu0.ints
      obtain ⟨a5, c5, rfl, -⟩ := id hu1.ints
      have Hlk : Hid (∀ W : World, Only [] w W → Calls Try.prog 30 #[.slice a4 x.length c4, .slice a5 x.length c5] W fun e w' => e = .returned (.bool (eqV x x)) ∧ Drew W w') := Lib.hid (by
        intro W hW
        obtain ⟨a', c', e', I4⟩ := Rd.ints (Rp.keep hu0 hW)
        obtain ⟨a'', c'', e'', I5⟩ := Rd.ints (Rp.keep hu1 hW)
        injection e' with e1 _ e2
        injection e'' with e3 _ e4
        subst e1 e2 e3 e4
        exact likeInts_any _ _ _ _ x x _ _ W I4 I5)
      have HeV := Lib.hid (show eqV x x = true from by unfold eqV; simp)
      clear hx hc0 hc1 hu0 hu1
      go_upto_region 6 with fail
      go_region_held3 (fun w' => Only [] W2 w' ∧ w'.cell? ⟨b, off + i, none⟩ = some (.slice a4 x.length c4) ∧ w'.cell? ⟨b', off' + i, none⟩ = some (.slice a5 x.length c5)) ((refine and_of ?_ (fun h__ => ⟨h__.cell (by simp) c0, h__.cell (by simp) c1⟩); first | with_reducible exact (Only.refl _ _).drew | with_reducible exact Only.trans (And.left (by assumption)) (by assumption) | assumption)) (first
        | (go_at_call 30; (with_reducible refine (Hlk.out _ (hO.trans (And.left (by assumption)))).mono ?_); rintro e w9 ⟨he, hd9⟩; have t9 := hd9.only []; clear hd9; rw [HeV.out] at he; subst he)
        | fail "no arm")
      go_wp2
      go_roundw
      case rel => exact ⟨i + 1, by omega, by go_num, hO.trans (Only.trans ((Only.refl _ _).drew) t9)⟩
      case measure => simp [intOf]; omega
    · have hge : ¬ ((i : Int) < (L.length : Int)) := by omega
      go_wp2
      go_ret
      exact ⟨rfl, hO⟩
end Go.Proofs.Ytbediokigibdlaa

namespace Go.Proofs.Ytbediokigibdlaa
open Go.RowKit
set_option maxRecDepth 10000

theorem cosR_mem {m : Nat} {a b : List (List Int)} (S : SubF m a b) : ∀ x ∈ cosR m a b, PM.PN m x ∧ PM.cosM m a x = x := by
  intro x hx
  unfold cosR at hx
  by_cases h : 1 ≤ idxS m a b ∧ idxS m a b ≤ 200
  · rw [if_pos h] at hx
    have hx2 := (srtP_perm _).mem_iff.1 hx
    obtain ⟨i, -⟩ := S.reps
    exact ⟨S.pn i hx2, i.min x hx2⟩
  · rw [if_neg h] at hx; cases hx
theorem cosR_nd {m : Nat} {a b : List (List Int)} (S : SubF m a b) : (cosR m a b).Nodup := by
  unfold cosR
  by_cases h : 1 ≤ idxS m a b ∧ idxS m a b ≤ 200
  · rw [if_pos h]
    obtain ⟨i, -⟩ := S.reps
    exact (srtP_perm _).nodup_iff.2 i.nd
  · rw [if_neg h]; exact List.nodup_nil
theorem cosR_apart {m : Nat} {a b : List (List Int)} (S : SubF m a b) (i : Nat) (hi : i + 1 < (cosR m a b).length) : memB m a (PM.comp (cosR m a b)[i + 1] (PM.inv ((cosR m a b)[i]'(Nat.lt_of_succ_lt hi)))) = false := by
  have h0 := cosR_mem S (cosR m a b)[i + 1] (List.getElem_mem _)
  have h1 := cosR_mem S ((cosR m a b)[i]'(Nat.lt_of_succ_lt hi)) (List.getElem_mem _)
  obtain ⟨G, T, c⟩ := S.ca
  unfold memB
  refine @decide_eq_false _ (Classical.propDecidable _) fun hg => ?_
  have h2 := (c.cosM_iff S.pos S.pa h1.1 h0.1).2 ⟨h0.1, hg⟩
  rw [h0.2, h1.2] at h2
  exact List.pairwise_iff_getElem.1 (cosR_nd S) i (i + 1) (Nat.lt_of_succ_lt hi) hi (by omega) h2
theorem cosR_lenS {m : Nat} {a b : List (List Int)} (S : SubF m a b) (hs : subB m a b = true) (h : idxS m a b ≤ 200) : (cosR m a b).length = idxS m a b := by
  unfold cosR
  have hl := S.idx_len rfl hs
  by_cases h1 : 1 ≤ idxS m a b
  · rw [if_pos ⟨h1, h⟩, (srtP_perm _).length_eq, hl]; rfl
  · rw [if_neg (fun hh => h1 hh.1)]; simp; omega
theorem cosR_none {n : Int} {a b : List (List Int)} (h : idxS n a b = 0) : cosR n a b = [] := by unfold cosR; rw [if_neg (by omega)]
theorem idx_mul {m : Nat} {a b : List (List Int)} (S : SubF m a b) (hs : subB m a b = true) : idxS m a b * ordG m a = ordG m b := by
  have hl := S.idx_len rfl hs
  obtain ⟨h1, h2, -⟩ := subB_iff.1 hs
  obtain ⟨-, e⟩ := S.reps
  have e1 : ordG (m : Int) a = ordC m a m := by unfold ordG; rw [if_pos h1]; rfl
  have e2 : ordG (m : Int) b = ordC m b m := by unfold ordG; rw [if_pos h2]; rfl
  rw [hl, e1, e2]
  exact e
theorem cosR_le {n : Int} {a b : List (List Int)} {va vb : Value} {fa fb : List Nat} {w : World} (ha : Rd w va a fa) (hb : Rd w vb b fb) : (cosR n a b).length ≤ 200 := by
  by_cases h : 1 ≤ idxS n a b ∧ idxS n a b ≤ 200
  · have hs := idx_sub h.1
    obtain ⟨m, hnm, S⟩ := SubF.of ha hb hs
    subst hnm
    rw [cosR_lenS S hs h.2]
    exact h.2
  · unfold cosR; rw [if_neg h]; simp
set_option maxHeartbeats 8000000 in
theorem FnLagrange_any (w : World) (v : Value) (l : List UInt8) (fc : List Nat) (h : Rd w v l fc) :
    Calls Try.prog 5 #[v] w fun e w' => e = .returned (.bool true) ∧ Only [] w w' := by
  by_cases hb : 4096 < l.length
  · have hd : decide (4096 < l.length) = true := by simp [hb]
    go_enter Try.func5, Try.ntmps5
    go_wp2_with ((go_at_call 6; (with_reducible refine (big_any v l fc _ h).mono ?_); rintro e w1 ⟨he, t1⟩; rw [hd] at he; subst he))
    go_ret
    exact ⟨rfl, (by with_reducible repeat (first | exact Only.refl _ _ | assumption | refine Only.drewN ?_ _ | refine Only.drew ?_ | refine Only.alloc ?_ _ | refine Only.setCell ?_ (by intro hh; exfalso; simp at hh; try omega) _ | refine Only.trans ?_ (by assumption)))⟩
  have hd : decide (4096 < l.length) = false := by simp [hb]
  have hl : l.length ≤ 4096 := by omega
  go_enter Try.func5, Try.ntmps5
  go_upto_region 4 with (first
    | (go_at_call 6; (with_reducible refine (big_any v l fc _ h).mono ?_); rintro e w1 ⟨he, t1⟩; rw [hd] at he; subst he; have k1 : Only [] w w1 := (by with_reducible repeat (first | exact Only.refl _ _ | assumption | refine Only.drewN ?_ _ | refine Only.drew ?_ | refine Only.alloc ?_ _ | refine Only.setCell ?_ (by intro hh; exfalso; simp at hh; try omega) _ | refine Only.trans ?_ (by assumption))))
    | (go_at_call 23; (with_reducible refine (drawCosetReps_any v l fc w1 (Rp.keep h k1) hl).mono ?_); rintro e w2 ⟨s2, s3, s4, rfl, n, a, b, fa, fb, rfl, hn, ra, rb, la, lb, t2⟩; obtain ⟨aa, ca, _, _, rfl, -, -⟩ := id ra.open_; obtain ⟨ab, cb, _, _, rfl, -, -⟩ := id rb.open_)
    | fail "no arm")
  have kW : Only [] w w2 := k1.trans t2
  clear k1 t1 t2 hb hd
  have HcI := Lib.hid (fun (W : World) (hW : Only [] w2 W) => implIdx_any n _ _ a b fa fb W (Rp.keep ra hW) (Rp.keep rb hW))
  have HcS := Lib.hid (fun (W : World) (hW : Only [] w2 W) => specIdx_any n _ _ a b fa fb W (Rp.keep ra hW) (Rp.keep rb hW))
  have HcR := Lib.hid (fun (W : World) (hW : Only [] w2 W) => implCosR_any n _ _ a b fa fb W (Rp.keep ra hW) (Rp.keep rb hW))
  have HcT := Lib.hid (fun (W : World) (hW : Only [] w2 W) => specCosR_any n _ _ a b fa fb W (Rp.keep ra hW) (Rp.keep rb hW))
  have HcA := Lib.hid (fun (W : World) (hW : Only [] w2 W) => implIsSub_any n _ _ a b fa fb W (Rp.keep ra hW) (Rp.keep rb hW))
  have HcB := Lib.hid (fun (W : World) (hW : Only [] w2 W) => specIsSub_any n _ _ a b fa fb W (Rp.keep ra hW) (Rp.keep rb hW))
  have HoA := Lib.hid (fun (W : World) (hW : Only [] w2 W) => implGroupOrder_any n _ a fa W (Rp.keep ra hW))
  have HoB := Lib.hid (fun (W : World) (hW : Only [] w2 W) => implGroupOrder_any n _ b fb W (Rp.keep rb hW))
  have hRle : (cosR n a b).length ≤ 200 := cosR_le ra rb
  have HR0 : Hid (idxS n a b = 0 → (cosR n a b).length = 0) := Lib.hid fun e => by rw [cosR_none e]; rfl
  have HF : Hid (idxS n a b ≠ 0 → ∃ m : Nat, n = (m : Int) ∧ SubF m a b ∧ subB m a b = true ∧ gensB m a = true ∧ ordG m b ≤ 2432902008176640000) := Lib.hid fun hne => by
    have hs := idx_sub (n := n) (a := a) (b := b) (by omega)
    obtain ⟨m, hnm, S⟩ := SubF.of ra rb hs
    subst hnm
    exact ⟨m, rfl, S, hs, (subB_iff.1 hs).1, (ordG_rng rb (subB_iff.1 hs).2.1).2⟩
  obtain ⟨ix, hix⟩ : ∃ ix, ix = idxS n a b := ⟨_, rfl⟩
  obtain ⟨R, hR⟩ : ∃ R, R = cosR n a b := ⟨_, rfl⟩
  obtain ⟨sB, hsB⟩ : ∃ sB, sB = subB n a b := ⟨_, rfl⟩
  rw [← hix] at HcI HcS
  rw [← hR] at HcR HcT hRle
  rw [← hsB] at HcA HcB
  have Hix := Lib.hid hix
  have HRe := Lib.hid hR
  have hx1 : (sB != sB) = false := by simp
  have hx2 : ((ix : Int) != (ix : Int)) = false := by simp
  clear hix hR hsB
  by_cases h0 : ix = 0
  · have hR0 : R.length = 0 := by rw [HRe.out]; exact HR0.out (by rw [← Hix.out]; exact h0)
    subst h0
    have hR1 : ((R.length : Int) == 0) = true := by rw [hR0]; rfl
    clear hR0
    go_wp2_with (first
      | (go_at_call 24; (with_reducible refine (HcI.out w2 (Only.refl _ _)).mono ?_); rintro e w3 ⟨rfl, t3⟩)
      | (go_at_call 19; (with_reducible refine (HcR.out w3 t3).mono ?_); rintro e w4 ⟨v4, f4, rfl, r4, F4, t4⟩; have k4 := t3.trans t4; obtain ⟨a4, c4, _, _, rfl, -, -⟩ := id r4.open_)
      | (go_at_call 15; (with_reducible refine (HcS.out w4 k4).mono ?_); rintro e w5 ⟨rfl, t5⟩; have k5 := k4.trans t5)
      | (go_at_call 25; (with_reducible refine (HcA.out w5 k5).mono ?_); rintro e w6 ⟨rfl, t6⟩; have k6 := k5.trans t6)
      | (go_at_call 26; (with_reducible refine (HcB.out w6 k6).mono ?_); rintro e w7 ⟨rfl, t7⟩; have k7 := k6.trans t7)
      | (go_at_call 17; (with_reducible refine (HcT.out w7 k7).mono ?_); rintro e w8 ⟨v8, f8, rfl, r8, -, t8⟩; have k8 := k7.trans t8)
      | (go_at_call 27; (with_reducible refine (likeLists_same _ v8 R f4 f8 w8 (Rp.keep r4 (((t5.trans t6).trans t7).trans t8)) r8).mono ?_); rintro e w9 ⟨rfl, t9⟩; have k9 := k8.trans t9)
      | fail "no arm")
    go_ret
    exact ⟨rfl, kW.trans k9⟩
  · obtain ⟨m, rfl, S, hs, hga, hob⟩ := HF.out (by rw [← Hix.out]; exact h0)
    have hmul := idx_mul S hs
    have hrl := cosR_lenS S hs
    rw [← Hix.out, ← HRe.out] at hrl
    rw [← Hix.out] at hmul
    have HRm : Hid (∀ x ∈ R, PM.PN m x ∧ PM.cosM m a x = x) := Lib.hid (by rw [HRe.out]; exact cosR_mem S)
    have HRa : Hid (∀ i (hi : i + 1 < R.length), memB m a (PM.comp R[i + 1] (PM.inv (R[i]'(Nat.lt_of_succ_lt hi)))) = false) := Lib.hid (by
      have := HRe.out
      subst this
      exact cosR_apart S)
    obtain ⟨oa, hoa⟩ : ∃ oa, oa = ordG m a := ⟨_, rfl⟩
    obtain ⟨ob, hob2⟩ : ∃ ob, ob = ordG m b := ⟨_, rfl⟩
    rw [← hoa] at hmul HoA
    rw [← hob2] at hmul HoB hob
    have hix0 : ((ix : Int) == 0) = false := by
      have : (ix : Int) ≠ 0 := by omega
      simpa using this
    have hwm : IntKind.i64.wrap ((ix : Int) * (oa : Int)) = (ob : Int) := by
      rw [IntKind.wrap_i64]
      have : ((ix : Int) * (oa : Int)) = (ob : Int) := by exact_mod_cast hmul
      rw [this]; omega
    have hwm2 : wrap64 ((ix : Int) * (oa : Int)) = (ob : Int) := by
      have : ((ix : Int) * (oa : Int)) = (ob : Int) := by exact_mod_cast hmul
      rw [this]; unfold wrap64; omega
    have hx3 : ((ob : Int) != (ob : Int)) = false := by simp
    have Hrl := Lib.hid hrl
    have Hga := Lib.hid hga
    have hm0 := S.pos
    have hm20 := S.le
    clear hoa hob2 hmul hs hga S HF HR0 hrl
    by_cases h2 : ix ≤ 200
    all_goals
      first
      | (have h2I : (ix : Int) ≤ 200 := by omega
         have hRl : ((R.length : Int) != (ix : Int)) = false := by rw [Hrl.out h2]; simp)
      | have h2I : ¬ (ix : Int) ≤ 200 := by omega
      go_wp2_with (first
        | (go_at_call 24; (with_reducible refine (HcI.out w2 (Only.refl _ _)).mono ?_); rintro e w3 ⟨rfl, t3⟩)
        | (go_at_call 19; (with_reducible refine (HcR.out w3 t3).mono ?_); rintro e w4 ⟨v4, f4, rfl, r4, F4, t4⟩; have k4 := t3.trans t4; obtain ⟨a4, c4, o4, fs4, rfl, -, S4⟩ := id r4.open_)
        | (go_at_call 15; (with_reducible refine (HcS.out w4 k4).mono ?_); rintro e w5 ⟨rfl, t5⟩; have k5 := k4.trans t5)
        | (go_at_call 25; (with_reducible refine (HcA.out w5 k5).mono ?_); rintro e w6 ⟨rfl, t6⟩; have k6 := k5.trans t6)
        | (go_at_call 26; (with_reducible refine (HcB.out w6 k6).mono ?_); rintro e w7 ⟨rfl, t7⟩; have k7 := k6.trans t7)
        | (go_at_call 17; (with_reducible refine (HcT.out w7 k7).mono ?_); rintro e w8 ⟨v8, f8, rfl, r8, -, t8⟩; have k8 := k7.trans t8; have k48 := ((t5.trans t6).trans t7).trans t8)
        | (go_at_call 27; (with_reducible refine (likeLists_same _ v8 R f4 f8 w8 (Rp.keep r4 k48) r8).mono ?_); rintro e w9 ⟨rfl, t9⟩; have k9 := k8.trans t9; have k49 := k48.trans t9)
        | (go_at_call 28; (with_reducible refine (HoA.out w9 k9).mono ?_); rintro e wA ⟨rfl, tA⟩; have kA := k9.trans tA; have k4A := k49.trans tA)
        | (go_at_call 28; (with_reducible refine (HoB.out wA kA).mono ?_); rintro e wB ⟨rfl, tB⟩; have kB := kA.trans tB; have k4B := k4A.trans tB)
        | fail "no arm")
      have S6 := S4.frame (fun b hb => k4B.block b (S4.lt_all b hb) (by simp))
      have hbS := S6.bound
      clear S4 k4 k5 k6 k7 k8 k9 k48 k49 t3 t4 t5 t6 t7 t8 t9 tA tB kA k4A r4 r8 F4
      go_loopw [8] (fun y wr => ∃ i : Nat, (i = 0 ∨ i < R.length) ∧ y = .int .i64 i ∧ Only [] wB wr)
        (fun y _ => R.length - (intOf y).toNat)
      case atStart => exact ⟨0, Or.inl rfl, rfl, Only.refl _ _⟩
      case round =>
        obtain ⟨W2, hnew⟩ : ∃ W, W = wr := ⟨_, rfl⟩
        subst hnew
        obtain ⟨i, hi, rfl, hO⟩ := hrel
        have hi3 : i ≤ 3000 := by omega
        have hw1 : IntKind.i64.wrap ((i : Int) + 1) = (i : Int) + 1 := by rw [IntKind.wrap_i64]; omega
        by_cases hlt : i + 1 < R.length
        · have hltI : (i : Int) + 1 < (R.length : Int) := by omega
          have hlt0 : (i : Int) < (R.length : Int) := by omega
          have hi0 : (0 : Int) ≤ (i : Int) := by omega
          have hi1 : (0 : Int) ≤ (i : Int) + 1 := by omega
          obtain ⟨b, off, u, rfl, -, hc0, hu0⟩ := S6.atRow i (by omega)
          obtain ⟨b', off', u', e2, -, hc1, hu1⟩ := S6.atRow (i + 1) hlt
          injection e2 with e2; injection e2 with e21 e22; subst e21; subst e22
          have c0 := hO.cell (by simp) hc0
          have c1 := hO.cell (by simp) hc1
          have hnat : ((i : Int) + 1).toNat = i + 1 := by omega
          have hp0 := HRm.out R[i] (List.getElem_mem _)
          have hp1 := HRm.out R[i + 1] (List.getElem_mem _)
          have hap := HRa.out i hlt
          obtain ⟨x0, hx0⟩ : ∃ x0, x0 = R[i] := ⟨_, rfl⟩
          obtain ⟨x1, hx1'⟩ : ∃ x1, x1 = R[i + 1] := ⟨_, rfl⟩
          rw [← hx0] at hu0 hp0 hap
          rw [← hx1'] at hu1 hp1 hap
          obtain ⟨a0, c0', rfl, -⟩ := id hu0.ints
          have Hsm : Hid (∀ W : World, Only [] wB W → Calls Try.prog 29 #[.int .i64 m, .slice aa a.length ca, .slice a0 x0.length c0', u'] W fun e w' => e = .returned (.bool false) ∧ Only [] W w') := Lib.hid fun W hW => by
            have := implSame_yes m _ _ u' a x0 x1 _ _ _ W (Rp.keep ra (kB.trans hW)) (Rp.keep hu0 hW) (Rp.keep hu1 hW) Hga.out hp0.1 hp1.1
            rwa [hap] at this
          have Hmn : Hid (∀ W : World, Only [] wB W → Calls Try.prog 31 #[.int .i64 m, .slice aa a.length ca, .slice a0 x0.length c0'] W fun e w' => ∃ v f, e = .returned v ∧ Rd w' v x0 f ∧ Fresh W.heap.size w' f ∧ Only [] W w') := Lib.hid fun W hW => by
            have := implCosMin_yes m _ _ a x0 _ _ W (Rp.keep ra (kB.trans hW)) (Rp.keep hu0 hW) Hga.out hp0.1
            rwa [hp0.2] at this
          have Hlk : Hid (∀ (v : Value) (f : List Nat) (W : World), Rd W v x0 f → Only [] wB W → Calls Try.prog 30 #[v, .slice a0 x0.length c0'] W fun e w' => e = .returned (.bool true) ∧ Only [] W w') := Lib.hid (by
            intro v f W hv hW
            obtain ⟨a', c', rfl, I4⟩ := Rd.ints hv
            obtain ⟨a'', c'', e'', I5⟩ := Rd.ints (Rp.keep hu0 hW)
            injection e'' with e3 _ e4
            subst e3 e4
            refine (likeInts_any _ _ _ _ x0 x0 _ _ W I4 I5).mono ?_
            rintro e w' ⟨he, hd⟩
            exact ⟨by rw [he]; unfold eqV; simp, hd.only []⟩)
          clear hx0 hx1' hu0 hu1 hp0 hp1 hap hc0 hc1
          go_upto_region 15 with fail
          go_region_held3 (fun w' => Only [] W2 w' ∧ w'.cell? ⟨b, off + i, none⟩ = some (.slice a0 x0.length c0') ∧ w'.cell? ⟨b, off + (i + 1), none⟩ = some u') ((refine and_of ?_ (fun h__ => ⟨h__.cell (by simp) c0, h__.cell (by simp) c1⟩); first | with_reducible exact (Only.refl _ _).drew | with_reducible exact Only.trans (And.left (by assumption)) (by assumption) | assumption)) (first
            | (go_at_call 29; (with_reducible refine (Hsm.out _ (hO.trans (And.left (by assumption)))).mono ?_); rintro e wC ⟨rfl, tC⟩)
            | (go_at_call 31; (with_reducible refine (Hmn.out _ (hO.trans (And.left (by assumption)))).mono ?_); rintro e wD ⟨vD, fD, rfl, rD, FD, tD⟩)
            | (go_at_call 30; (with_reducible refine (Hlk.out vD fD _ (Rp.keep rD (by first | exact Only.refl _ _ | assumption)) (hO.trans (And.left (by assumption)))).mono ?_); rintro e wE ⟨rfl, tE⟩)
            | fail "no arm")
          go_wp2
          go_roundw
          case rel => exact ⟨i + 1, Or.inr hlt, by go_num, hO.trans ((Only.trans ((Only.refl _ _).drew) tC).trans (tD.trans tE))⟩
          case measure => simp [intOf]; omega
        · have hge : ¬ ((i : Int) + 1 < (R.length : Int)) := by omega
          go_wp2
          go_ret
          exact ⟨rfl, (kW.trans kB).trans hO⟩
end Go.Proofs.Ytbediokigibdlaa
