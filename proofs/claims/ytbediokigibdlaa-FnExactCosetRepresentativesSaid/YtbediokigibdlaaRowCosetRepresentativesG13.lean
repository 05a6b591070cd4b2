/- The library's slices.SortFunc at [][]int64 with slices.Compare: the rows of the call's own, in order (laws 39, 48). (The laying printed by mklay.py.) The program's CosetRepresentatives ahead of its sort (laws 39, 48). The law on CosetRepresentatives: its walk. (Printed by gen_exact.py.) -/
import Derived.Test.YtbediokigibdlaaRowCosetRepresentativesG12
import Derived.Shelf.SlSortCmp.NoneTotal
import Derived.Test.YtbediokigibdlaaRowCosetRepresentativesG1
import Derived.Test.YtbediokigibdlaaRowCosetRepresentativesG4
import Derived.Deep.RegionHeld3
import Derived.Deep.DeepCutAuto
namespace Go.Proofs.Ytbediokigibdlaa
open Go.RowKit Go.Shelf Go.Sort Go.Proofs
set_option maxRecDepth 10000

def Try.sortF_ren : Go.Shelf.Ren := ⟨fun | 6 => 66 | 15 => 99 | 14 => 98 | 28 => 119 | 29 => 120 | 20 => 111 | 21 => 112 | 22 => 113 | 23 => 114 | 24 => 115 | 25 => 116 | 26 => 117 | 27 => 118 | 46 => 124 | 47 => 125 | 48 => 126 | 49 => 127 | 50 => 128 | 57 => 130 | n => n, fun | 22 => 24 | 24 => 36 | 25 => 68 | 3 => 3 | 39 => 103 | 0 => 0 | 53 => 122 | 55 => 124 | 4 => 4 | 46 => 115 | 45 => 114 | 50 => 119 | 5 => 5 | 9 => 9 | 66 => 125 | 70 => 129 | 76 => 132 | 77 => 133 | n => n, fun | n => n⟩
theorem Try.sortF : SlLaysF.n6 Try.prog Try.sortF_ren where
  mixed := by kernel_rfl
  f6 := ⟨ "slices.SortFunc[[][]int64,[]int64]", by decide, Try.func66.trans (congrArg some (by kernel_rfl))⟩
  f14 := ⟨ "slices.pdqsortCmpFunc[[]int64]", by decide, Try.func98.trans (congrArg some (by kernel_rfl))⟩
  f15 := Try.func99.trans (congrArg some (by kernel_rfl))
  f20 := ⟨ "slices.insertionSortCmpFunc[[]int64]", by decide, Try.func111.trans (congrArg some (by kernel_rfl))⟩
  f21 := ⟨ "slices.heapSortCmpFunc[[]int64]", by decide, Try.func112.trans (congrArg some (by kernel_rfl))⟩
  f22 := ⟨ "slices.breakPatternsCmpFunc[[]int64]", by decide, Try.func113.trans (congrArg some (by kernel_rfl))⟩
  f23 := ⟨ "slices.choosePivotCmpFunc[[]int64]", by decide, Try.func114.trans (congrArg some (by kernel_rfl))⟩
  f24 := ⟨ "slices.reverseRangeCmpFunc[[]int64]", by decide, Try.func115.trans (congrArg some (by kernel_rfl))⟩
  f25 := ⟨ "slices.partialInsertionSortCmpFunc[[]int64]", by decide, Try.func116.trans (congrArg some (by kernel_rfl))⟩
  f26 := ⟨ "slices.partitionEqualCmpFunc[[]int64]", by decide, Try.func117.trans (congrArg some (by kernel_rfl))⟩
  f27 := ⟨ "slices.partitionCmpFunc[[]int64]", by decide, Try.func118.trans (congrArg some (by kernel_rfl))⟩
  f28 := Try.func119.trans (congrArg some (by kernel_rfl))
  f29 := Try.func120.trans (congrArg some (by kernel_rfl))
  f46 := ⟨ "slices.siftDownCmpFunc[[]int64]", by decide, Try.func124.trans (congrArg some (by kernel_rfl))⟩
  f47 := Try.func125.trans (congrArg some (by kernel_rfl))
  f48 := Try.func126.trans (congrArg some (by kernel_rfl))
  f49 := ⟨ "slices.medianAdjacentCmpFunc[[]int64]", by decide, Try.func127.trans (congrArg some (by kernel_rfl))⟩
  f50 := ⟨ "slices.medianCmpFunc[[]int64]", by decide, Try.func128.trans (congrArg some (by kernel_rfl))⟩
  f57 := ⟨ "slices.order2CmpFunc[[]int64]", by decide, Try.func130.trans (congrArg some (by kernel_rfl))⟩
  t0 := Try.underlying0
  a0 := Try.isAgg0
  z0 := Try.sizeOf0
  v0 := Try.zeroValue0
  t3 := Try.underlying3
  a3 := Try.isAgg3
  z3 := Try.sizeOf3
  v3 := Try.zeroValue3
  t4 := Try.underlying4
  a4 := Try.isAgg4
  z4 := Try.sizeOf4
  v4 := Try.zeroValue4
  t5 := Try.underlying5
  a5 := Try.isAgg5
  z5 := Try.sizeOf5
  v5 := Try.zeroValue5
  t9 := Try.underlying9
  a9 := Try.isAgg9
  z9 := Try.sizeOf9
  v9 := Try.zeroValue9
  t22 := Try.underlying24
  a22 := Try.isAgg24
  z22 := Try.sizeOf24
  v22 := Try.zeroValue24
  a24 := Try.isAgg36
  z24 := Try.sizeOf36
  t25 := Try.underlying68
  a25 := Try.isAgg68
  z25 := Try.sizeOf68
  v25 := Try.zeroValue68
  t39 := Try.underlying103
  a39 := Try.isAgg103
  z39 := Try.sizeOf103
  v39 := Try.zeroValue103
  t45 := Try.underlying114
  a45 := Try.isAgg114
  z45 := Try.sizeOf114
  v45 := Try.zeroValue114
  t46 := Try.underlying115
  a46 := Try.isAgg115
  z46 := Try.sizeOf115
  v46 := Try.zeroValue115
  t50 := Try.underlying119
  a50 := Try.isAgg119
  z50 := Try.sizeOf119
  v50 := Try.zeroValue119
  t53 := Try.underlying122
  a53 := Try.isAgg122
  z53 := Try.sizeOf122
  v53 := Try.zeroValue122
  t55 := Try.underlying124
  a55 := Try.isAgg124
  z55 := Try.sizeOf124
  v55 := Try.zeroValue124
  t66 := Try.underlying125
  a66 := Try.isAgg125
  z66 := Try.sizeOf125
  v66 := Try.zeroValue125
  t70 := Try.underlying129
  a70 := Try.isAgg129
  z70 := Try.sizeOf129
  v70 := Try.zeroValue129
  t76 := Try.underlying132
  a76 := Try.isAgg132
  z76 := Try.sizeOf132
  v76 := Try.zeroValue132
  t77 := Try.underlying133
  a77 := Try.isAgg133
  z77 := Try.sizeOf133
  v77 := Try.zeroValue133
theorem Acc.rows {B : Nat} {e : TypeId} {w : World} {v : Value} {L : List (List Int)} {fs : List (List Nat)} (h : Acc B e w v L fs) :
    ∃ vals : List Value, vals.length = L.length ∧ w.ownsRow B e 1 v L.length vals ∧ fs.length = L.length ∧ ∀ k (h1 : k < vals.length) (h2 : k < L.length) (h3 : k < fs.length), Rd w vals[k] L[k] fs[k] := by
  obtain ⟨css, ho, hcl, hr⟩ := h.own
  have hfl := h.fl
  have h1 : ∀ c ∈ css, c = [c.headD undef] := fun c hc => by
    obtain ⟨k, hk, rfl⟩ := List.getElem_of_mem hc
    have := Rp.len (hr k hk (by omega) (by omega))
    match css[k], this with
    | [u], _ => rfl
  have h2 : (css.map fun c => c.headD undef).map (fun v => [v]) = css := by
    rw [List.map_map]
    conv => rhs; rw [← List.map_id css]
    exact List.map_congr_left fun c hc => (h1 c hc).symm
  have h3 : css.flatten = css.map fun c => c.headD undef := by
    conv => lhs; rw [← h2]
    exact singles_flatten _
  rw [h3] at ho
  refine ⟨css.map fun c => c.headD undef, by simpa using hcl, ho, hfl, fun k a b c => ?_⟩
  have h4 := hr k (by simpa using a) b c
  rw [h1 css[k] (List.getElem_mem _)] at h4
  rw [List.getElem_map]
  exact h4
theorem Acc.ofRows {B : Nat} {e : TypeId} {w : World} {v : Value} {L : List (List Int)} {fs : List (List Nat)} {vals : List Value} (hvl : vals.length = L.length) (ho : w.ownsRow B e 1 v L.length vals) (hfl : fs.length = L.length)
    (hr : ∀ k (h1 : k < vals.length) (h2 : k < L.length) (h3 : k < fs.length), Rd w vals[k] L[k] fs[k]) (ha : ∀ g, v.ownBlock = some g → g ∉ fs.flatten) : Acc B e w v L fs := by
  refine ⟨⟨vals.map fun v => [v], ?_, by simpa using hvl, fun k a b c => ?_⟩, hfl, ha⟩
  · rw [singles_flatten]; exact ho
  · rw [List.getElem_map]; exact hr k (by simpa using a) b c
/-- how slices.Compare compares two lists of one length -/
def cmpL (a b : List Int) : Int := if prec a b = true then -1 else if prec b a = true then 1 else 0
theorem cmpL_lt {a b : List Int} : decide (cmpL a b < 0) = prec a b := by
  unfold cmpL
  rcases h : prec a b
  · rw [if_neg (by simp)]
    by_cases h2 : prec b a = true
    · rw [if_pos h2]; rfl
    · rw [if_neg h2]; rfl
  · rw [if_pos rfl]; rfl
set_option maxHeartbeats 1000000 in
theorem isNaN_any (x : Int) (w : World) : Calls Try.prog 121 #[.int .i64 x] w fun e w' => e = .returned (.bool false) ∧ w' = w := by
  go_enter Try.func121, Try.ntmps121
  go_wp2
  go_ret
  exact ⟨by simp, rfl⟩
set_option maxHeartbeats 1000000 in
theorem cmpCompare_any (x y : Int) (w : World) : Calls Try.prog 100 #[.int .i64 x, .int .i64 y] w fun e w' => e = .returned (.int .i64 (if x < y then -1 else if y < x then 1 else 0)) ∧ w' = w := by
  by_cases h1 : x < y
  · have HR := Lib.hid (show (if x < y then (-1 : Int) else if y < x then 1 else 0) = -1 from if_pos h1)
    rw [HR.out]
    go_enter Try.func100, Try.ntmps100
    go_wp2_with (first
      | (go_at_call 121; (with_reducible refine (isNaN_any _ w).mono ?_); rintro e w1 ⟨rfl, h⟩; rw [h]; clear h)
      | fail "no arm")
    go_ret
    exact ⟨rfl, rfl⟩
  · by_cases h2 : y < x
    · have HR := Lib.hid (show (if x < y then (-1 : Int) else if y < x then 1 else 0) = 1 by rw [if_neg h1, if_pos h2])
      rw [HR.out]
      go_enter Try.func100, Try.ntmps100
      go_wp2_with (first
        | (go_at_call 121; (with_reducible refine (isNaN_any _ w).mono ?_); rintro e w1 ⟨rfl, h⟩; rw [h]; clear h)
        | fail "no arm")
      go_ret
      exact ⟨rfl, rfl⟩
    · have HR := Lib.hid (show (if x < y then (-1 : Int) else if y < x then 1 else 0) = 0 by rw [if_neg h1, if_neg h2])
      rw [HR.out]
      go_enter Try.func100, Try.ntmps100
      go_wp2_with (first
        | (go_at_call 121; (with_reducible refine (isNaN_any _ w).mono ?_); rintro e w1 ⟨rfl, h⟩; rw [h]; clear h)
        | fail "no arm")
      go_ret
      exact ⟨rfl, rfl⟩
set_option maxHeartbeats 2000000 in
theorem slCompare_rd (v u : Value) (l p : List Int) (f g : List Nat) (w : World) (h : Rd w v l f) (h' : Rd w u p g) (hl : l.length = p.length) :
    Calls Try.prog 67 #[v, u] w fun e w' => e = .returned (.int .i64 (cmpL l p)) ∧ Drew w w' := by
  obtain ⟨a, cap, rfl, IL⟩ := h.ints
  obtain ⟨a', cap', rfl, IP⟩ := h'.ints
  have hb := IL.bound
  have hb' := IP.bound
  have Hl := Lib.hid hl
  obtain ⟨R, hR⟩ : ∃ R, R = cmpL l p := ⟨_, rfl⟩
  rw [← hR]
  have HR := Lib.hid hR
  clear hl hR
  go_enter Try.func67, Try.ntmps67
  go_wp2
  go_loopw [11] (fun i wr => ∃ j : Nat, j ≤ l.length ∧ i = .int .i64 j ∧ Hid (∀ i, i < j → l[i]? = p[i]?) ∧ Drew w wr)
    (fun i _ => l.length - (intOf i).toNat)
  case atStart => exact ⟨0, Nat.zero_le _, rfl, Lib.hid (by simp), Drew.refl _⟩
  case round =>
    obtain ⟨j, hj, rfl, Hr, n, rfl⟩ := hrel
    by_cases hlt : j < l.length
    · have hlt' : j < p.length := by have := Hl.out; omega
      have hltI : (j : Int) < (l.length : Int) := by omega
      have hltI' : (j : Int) < (p.length : Int) := by omega
      have hj0 : (0 : Int) ≤ (j : Int) := by omega
      obtain ⟨b, off, rfl, -, hc⟩ := IL.at_ j hlt
      obtain ⟨b', off', rfl, -, hc'⟩ := IP.at_ j hlt'
      obtain ⟨x, hx⟩ : ∃ x, x = l[j] := ⟨_, rfl⟩
      obtain ⟨y, hy⟩ : ∃ y, y = p[j] := ⟨_, rfl⟩
      rw [← hx] at hc
      rw [← hy] at hc'
      by_cases hxy : x = y
      · have hz : (if x < y then (-1 : Int) else if y < x then 1 else 0) = 0 := by rw [if_neg (by omega), if_neg (by omega)]
        have Hz := Lib.hid hz
        have Hst : Hid (∀ i, i < j + 1 → l[i]? = p[i]?) := Lib.hid (fun i hi => by
          rcases Nat.lt_or_eq_of_le (Nat.lt_succ_iff.1 hi) with h1 | rfl
          · exact Hr.out i h1
          · rw [List.getElem?_eq_getElem hlt, List.getElem?_eq_getElem hlt', ← hx, ← hy, hxy])
        clear hz hxy hx hy
        go_wp2_with (first
          | (go_at_call 100; (with_reducible refine (cmpCompare_any x y _).mono ?_); rintro e w3 ⟨he, h3⟩; rw [Hz.out] at he; subst he; rw [h3]; clear h3)
          | fail "no arm")
        go_roundw
        case rel => exact ⟨j + 1, by omega, by go_num, Hst, ⟨_, rfl⟩⟩
        case measure => simp [intOf]; omega
      · have hne : l[j] ≠ p[j] := by rw [← hx, ← hy]; exact hxy
        have hz : (if x < y then (-1 : Int) else if y < x then 1 else 0) = R := by
          rw [HR.out]
          unfold cmpL
          rw [prec_at Hr.out hlt hlt' hne, prec_at (fun i hi => (Hr.out i hi).symm) hlt' hlt (Ne.symm hne), ← hx, ← hy]
          by_cases h1 : x < y
          · rw [if_pos h1, if_pos (decide_eq_true h1)]
          · have h2 : y < x := by omega
            rw [if_neg h1, if_pos h2, if_neg (show ¬ decide (x < y) = true by simpa using h1), if_pos (show decide (y < x) = true from decide_eq_true h2)]
        have hR0 : ¬ (R = 0) := by
          rw [← hz]
          by_cases h1 : x < y
          · rw [if_pos h1]; omega
          · rw [if_neg h1, if_pos (by omega)]; omega
        have Hz := Lib.hid hz
        clear hz hxy hne hx hy HR
        go_wp2_with (first
          | (go_at_call 100; (with_reducible refine (cmpCompare_any x y _).mono ?_); rintro e w3 ⟨he, h3⟩; rw [Hz.out] at he; subst he; rw [h3]; clear h3)
          | fail "no arm")
        go_ret
        exact ⟨rfl, ⟨_, rfl⟩⟩
    · obtain rfl : j = l.length := by omega
      have hge : ¬ ((l.length : Int) < (p.length : Int)) := by have := Hl.out; omega
      have hR0 : R = 0 := by
        rw [HR.out]
        unfold cmpL
        rw [prec_all Hr.out Hl.out, prec_all (fun i hi => (Hr.out i (by have := Hl.out; omega)).symm) Hl.out.symm]
        rfl
      have HR0 := Lib.hid hR0
      clear hR0 HR
      go_wp2
      go_ret
      exact ⟨ret_int HR0.out.symm, ⟨_, rfl⟩⟩
theorem heap_sortedG {α : Type} [Inhabited α] {enc : α → Value} {w : World} {g n : Nat} {os : Array Obj} {cur : Array Value} {e : TypeId} {fr : Nat × Nat} (d : Array α) (hb : w.heap[g]? = some (.cells cur e fr)) :
    (sortWorld enc w g 0 n d os).heap[g]? = some (.cells (Sort.putCells enc 0 d cur) e fr) := by
  have hg : g < w.heap.size := (Array.getElem?_eq_some_iff.1 hb).1
  unfold sortWorld
  rw [heap_grow_old _ _ (by simpa using hg)]
  simp [Sort.putRow, Sort.mapBlock, Sort.ahead, Array.getElem?_modify, hb, Sort.onCells]
theorem heap_sortedO {α : Type} [Inhabited α] {enc : α → Value} {w : World} {g n : Nat} {os : Array Obj} (d : Array α) {k : Nat} (hk : k < w.heap.size) (hne : k ≠ g) :
    (sortWorld enc w g 0 n d os).heap[k]? = w.heap[k]? := by
  unfold sortWorld
  rw [heap_grow_old _ _ (by simpa using hk)]
  simp [Sort.putRow, Sort.mapBlock, Sort.ahead, Array.getElem?_modify, Ne.symm hne]
theorem only_sortedG {α : Type} [Inhabited α] {enc : α → Value} {w : World} {g n : Nat} {os : Array Obj} (d : Array α) : Only [g] w (sortWorld enc w g 0 n d os) :=
  ⟨rfl, rfl, rfl, by simp [sortWorld, Sort.grow, Sort.putRow, Sort.mapBlock, Sort.ahead], fun k hk hn => heap_sortedO d hk (by simpa using hn)⟩
theorem take_putCellsG {α : Type} [Inhabited α] {enc : α → Value} (cur : Array Value) (ts : List α) (h : ts.length ≤ cur.size) : (Sort.putCells enc 0 ts.toArray cur).toList.take ts.length = ts.map enc := by
  apply List.ext_getElem?
  intro j
  by_cases hj : j < ts.length
  · rw [List.getElem?_take_of_lt hj, Array.getElem?_toList]
    simp [Sort.putCells, hj, show j < cur.size by omega]
  · rw [List.getElem?_take_eq_none (by omega), List.getElem?_eq_none (by simp; omega)]
theorem map_finRange {β : Type} {N : Nat} (l : List β) (dflt : β) (h : l.length = N) : (List.finRange N).map (fun k => l.getD k.val dflt) = l := by
  subst h
  apply List.ext_getElem (by simp)
  intro i h1 h2
  simp
set_option maxHeartbeats 4000000 in
theorem sortRows_any {B : Nat} (m : Nat) (w : World) (v : Value) (L : List (List Int)) (fs : List (List Nat)) (h : Acc B 36 w v L fs) (hne : L ≠ []) (hl : L.length ≤ 1000) (hp : ∀ x ∈ L, PM.PN m x) (hd : L.Nodup) :
    Calls Try.prog 66 #[v, .func (.func 67) #[] #[]] w fun e w' => e = .returned (.tuple #[]) ∧ ∃ fs', Acc B 36 w' v (srtP L) fs' ∧ fs'.Perm fs ∧ Only v.ownBlock.toList w w' := by
  obtain ⟨vals, hvl, hown, hfl, hrd⟩ := h.rows
  have hap := h.apart
  rcases hown.2 with ⟨-, h0⟩ | ⟨g, cap, cur, rfl, hbg, hg, h1, h2, h3, h4⟩
  · exact absurd (List.length_eq_zero_iff.1 h0) hne
  · rw [Nat.mul_one] at h4
    obtain ⟨N, hN⟩ : ∃ N, N = L.length := ⟨_, rfl⟩
    have hpos : 0 < N := by rw [hN]; exact List.length_pos_iff.2 hne
    haveI : Inhabited (Fin N) := ⟨⟨0, hpos⟩⟩
    obtain ⟨enc, henc⟩ : ∃ enc : Fin N → Value, enc = fun k => vals.getD k.val undef := ⟨_, rfl⟩
    obtain ⟨cf, hcf⟩ : ∃ cf : Fin N → Fin N → Int, cf = fun i j => cmpL (L.getD i.val []) (L.getD j.val []) := ⟨_, rfl⟩
    have hval : ∀ k : Fin N, Rd w (enc k) (L.getD k.val []) (fs.getD k.val []) := fun k => by
      have hk : k.val < L.length := by have := k.isLt; omega
      have := hrd k.val (by omega) hk (by omega)
      rw [henc]
      simp only [List.getD_eq_getElem?_getD]
      rw [List.getElem?_eq_getElem (by omega), List.getElem?_eq_getElem hk, List.getElem?_eq_getElem (show k.val < fs.length by omega)]
      exact this
    have hPN : ∀ k : Fin N, PM.PN m (L.getD k.val []) := fun k => by
      have hk : k.val < L.length := by have := k.isLt; omega
      rw [List.getD_eq_getElem?_getD, List.getElem?_eq_getElem hk]
      exact hp _ (List.getElem_mem hk)
    have hne' : ∀ i j : Fin N, L.getD i.val [] = L.getD j.val [] → i = j := fun i j e => by
      have hi : i.val < L.length := by have := i.isLt; omega
      have hj : j.val < L.length := by have := j.isLt; omega
      rw [List.getD_eq_getElem?_getD, List.getD_eq_getElem?_getD, List.getElem?_eq_getElem hi, List.getElem?_eq_getElem hj] at e
      have e2 : L[i.val] = L[j.val] := e
      apply Fin.ext
      apply Classical.byContradiction
      intro hij
      rcases Nat.lt_or_gt_of_ne hij with hlt | hlt
      · exact List.pairwise_iff_getElem.1 hd i.val j.val hi hj hlt e2
      · exact List.pairwise_iff_getElem.1 hd j.val i.val hj hi hlt e2.symm
    have hlt : ∀ i j, ltOf cf i j = prec (L.getD i.val []) (L.getD j.val []) := fun i j => by
      unfold ltOf
      rw [hcf]
      exact cmpL_lt
    have hlen : ∀ i j : Fin N, (L.getD i.val []).length = (L.getD j.val []).length := fun i j => by rw [(hPN i).1, (hPN j).1]
    have hO : Sort.SWO (ltOf cf) := {
      irrefl := fun x => by rw [hlt]; exact prec_irr _
      trans := fun x y z a b => by rw [hlt] at a b ⊢; exact prec_trans (hlen _ _) (hlen _ _) a b
      ntrans := fun x y z a b => by
        rw [hlt] at a b ⊢
        rw [Bool.eq_false_iff] at a b ⊢
        intro c
        have c' := (prec_lex (hPN x) (hPN z)).1 c
        rcases PM.Lex.total (hPN x) (hPN y) with e | e | e
        · rw [e] at c'; exact b ((prec_lex (hPN y) (hPN z)).2 c')
        · exact a ((prec_lex (hPN x) (hPN y)).2 e)
        · exact b ((prec_lex (hPN y) (hPN z)).2 (e.trans c')) }
    have hT : ∀ x y, ltOf cf x y = false → ltOf cf y x = false → x = y := fun x y a b => by
      rw [hlt] at a b
      rcases PM.Lex.total (hPN x) (hPN y) with e | e | e
      · exact hne' x y e
      · rw [(prec_lex (hPN x) (hPN y)).2 e] at a; cases a
      · rw [(prec_lex (hPN y) (hPN x)).2 e] at b; cases b
    have h1c : OneCell enc := fun k => by obtain ⟨a, c, e, -⟩ := (hval k).ints; rw [e]; rfl
    have hgl : g < w.heap.size := (Array.getElem?_eq_some_iff.1 hg).1
    have hgf : ∀ k : Fin N, ∀ b ∈ fs.getD k.val [], b < w.heap.size ∧ b ≠ g := fun k b hb => by
      have hk : k.val < fs.length := by have := k.isLt; omega
      refine ⟨Rp.lt (hval k) b hb, fun e => ?_⟩
      subst e
      rw [List.getD_eq_getElem?_getD, List.getElem?_eq_getElem hk] at hb
      exact hap b rfl (List.mem_flatten.2 ⟨_, List.getElem_mem hk, hb⟩)
    have hds : (List.finRange N).toArray.size = N := by simp
    have hH : Sort.Holds enc w g 0 (List.finRange N).toArray := by
      intro j hj
      rw [hds] at hj
      refine ⟨?_, by simp [World.frozen?, hg]⟩
      have hjl : j < L.length := by omega
      have hjv : j < vals.length := by omega
      have hjj : (List.finRange N).toArray[j]! = ⟨j, hj⟩ := by simp [hj]
      rw [hjj, henc, Nat.zero_add]
      have h5 : (cur.toList.take L.length)[j]? = vals[j]? := by rw [h4]
      rw [List.getElem?_take_of_lt hjl] at h5
      simp only [World.cell?, hg]
      simp only [Option.isSome_none, Bool.false_eq_true, if_false]
      rw [← Array.getElem?_toList, h5, List.getElem?_eq_getElem hjv]
      simp [hjv]
    have hcmp : CmpReads Try.prog 67 #[] enc cf g 0 (List.finRange N).toArray.size w := by
      intro mm os dk _ x y
      have hx := Rp.frame (hval x) (fun b hb => heap_sortedO (enc := enc) (n := mm) (os := os) dk (hgf x b hb).1 (hgf x b hb).2)
      have hy := Rp.frame (hval y) (fun b hb => heap_sortedO (enc := enc) (n := mm) (os := os) dk (hgf y b hb).1 (hgf y b hb).2)
      have hc := slCompare_rd (enc x) (enc y) (L.getD x.val []) (L.getD y.val []) _ _ _ hx hy (hlen x y)
      rw [hcf]
      exact hc
    have hcall := Any.slices_SortFunc_total Try.sortF enc h1c cf hO 67 #[] g 0 cap (List.finRange N).toArray w Try.call67 hcmp.lays hH hgl (by rw [hds]; omega) hT
    have eV : Value.slice (some ⟨g, 0, none⟩) N cap = Value.slice (some ⟨g, 0, none⟩) L.length cap := by rw [hN]
    rw [hds, eV] at hcall
    refine hcall.mono ?_
    rintro e w' ⟨he, n, os, rfl⟩
    obtain ⟨S, hS⟩ : ∃ S : List (Fin N), S = (List.finRange N).toArray.toList.mergeSort fun x y => !(ltOf cf) y x := ⟨_, rfl⟩
    rw [← hS]
    have hSp : S.Perm (List.finRange N) := by rw [hS]; exact List.mergeSort_perm _ _
    have hSl : S.length = N := by rw [hSp.length_eq]; simp
    have hSa : S.Pairwise fun x y => (!(ltOf cf) y x) = true := by
      rw [hS]
      refine List.pairwise_mergeSort (fun a b c h1 h2 => ?_) (fun a b => ?_) _
      · simp only [Bool.not_eq_true'] at h1 h2 ⊢
        exact hO.ntrans _ _ _ h2 h1
      · rcases hq : ltOf cf b a
        · rfl
        · rcases hq2 : ltOf cf a b
          · simp
          · have := hO.trans _ _ _ hq hq2
            rw [hO.irrefl] at this; cases this
    have hSn : S.Nodup := hSp.nodup_iff.2 (List.nodup_finRange N)
    have hLL : (List.finRange N).map (fun k => L.getD k.val []) = L := map_finRange L [] hN.symm
    have hfs : (List.finRange N).map (fun k => fs.getD k.val []) = fs := map_finRange fs [] (by omega)
    have hL' : S.map (fun k => L.getD k.val []) = srtP L := by
      refine srtP_unique (n := m) hp hd ((hSp.map _).trans (List.Perm.of_eq hLL)) ?_
      rw [List.pairwise_map]
      refine List.Pairwise.imp_of_mem (fun {a b} _ _ hab => ?_) (List.Pairwise.and hSa hSn)
      obtain ⟨q1, q2⟩ := hab
      simp only [Bool.not_eq_true'] at q1
      rw [hlt] at q1
      rcases PM.Lex.total (hPN a) (hPN b) with e | e | e
      · exact absurd (hne' a b e) q2
      · exact e
      · rw [(prec_lex (hPN b) (hPN a)).2 e] at q1; cases q1
    have hsl : (srtP L).length = L.length := (srtP_perm L).length_eq
    have hon : Only [g] w (sortWorld enc w g 0 n S.toArray os) := only_sortedG _
    have hpf : (S.map (fun k => fs.getD k.val [])).Perm fs := (hSp.map _).trans (List.Perm.of_eq hfs)
    refine ⟨he, S.map (fun k => fs.getD k.val []), ?_, hpf, by simpa [Value.ownBlock] using hon⟩
    have hrow : (sortWorld enc w g 0 n S.toArray os).ownsRow B 36 1 (.slice (some ⟨g, 0, none⟩) L.length cap) (srtP L).length (S.map enc) := by
      rw [hsl]
      refine ⟨by simp [hSl, hN], .inr ⟨g, cap, _, rfl, hbg, heap_sortedG _ hg, h1, h2, by simp [Sort.putCells, h3], ?_⟩⟩
      have ht := take_putCellsG (enc := enc) cur S (by omega)
      have hSL : S.length = L.length := by omega
      rw [Nat.mul_one, ← hSL]
      exact ht
    refine Acc.ofRows (vals := S.map enc) (by rw [List.length_map, hSl, hsl, hN]) hrow (by rw [List.length_map, hSl, hsl, hN]) (fun k a b c => ?_) (fun g' hg' hm => ?_)
    · have hk : k < S.length := by simpa using a
      have e1 : (srtP L)[k] = L.getD (S[k]).val [] := by simp only [← hL', List.getElem_map]
      rw [e1, List.getElem_map, List.getElem_map]
      exact Rp.only (hval S[k]) hon fun z hz hmz => by
        have := (hgf S[k] z hz).2
        exact this (by simpa using hmz)
    · obtain ⟨f1, hf1, hm1⟩ := List.mem_flatten.1 hm
      have := hpf.mem_iff.1 hf1
      exact hap g' hg' (List.mem_flatten.2 ⟨f1, this, hm1⟩)
end Go.Proofs.Ytbediokigibdlaa

namespace Go.Proofs.Ytbediokigibdlaa
open Go.RowKit
set_option maxRecDepth 10000

set_option maxHeartbeats 1000000 in
theorem cosClosure (u : Value) (x q : List Int) (f fq : List Nat) (g : Nat) (vq : Value) (W : World) (hu : Rd W u x f) (hc : W.cell? ⟨g, 0, none⟩ = some vq) (hq : Rd W vq q fq) :
    Calls Try.prog 64 #[u, .pointer (some ⟨g, 0, none⟩)] W fun e w' => e = .returned (.bool (eqV x q)) ∧ Only [] W w' := by
  go_enter Try.func64, Try.ntmps64
  go_wp2_with (first
    | (go_at_call 65; (with_reducible refine (Equal_rd u vq x q f fq W hu hq).mono ?_); rintro e w1 ⟨he, t1⟩; subst he; have t1 := t1.only [])
    | fail "no arm")
  go_ret
  exact ⟨rfl, t1⟩
theorem accDown {α : Type} [Rp α] {B B' : Nat} {e : TypeId} {w : World} {v : Value} {l : List α} {fs : List (List Nat)} (h : Acc B e w v l fs) (hB : B' ≤ B) : Acc B' e w v l fs := by
  obtain ⟨css, ho, hr⟩ := h.own
  refine ⟨⟨css, ⟨ho.1, ?_⟩, hr⟩, h.fl, h.apart⟩
  rcases ho.2 with h1 | ⟨g, cp, cur, h1, h2, h3⟩
  · exact .inl h1
  · exact .inr ⟨g, cp, cur, h1, Nat.le_trans hB h2, h3⟩
theorem any_eqV {L : List (List Int)} {q : List Int} : (L.any fun p => eqV p q) = decide (q ∈ L) := by
  rw [Bool.eq_iff_iff, List.any_eq_true, decide_eq_true_iff]
  constructor
  · rintro ⟨p, hp, he⟩; rw [← eqV_iff.1 he]; exact hp
  · intro h; exact ⟨q, h, eqV_yes rfl⟩
set_option maxHeartbeats 8000000 in
theorem implCosR_yes (n : Int) (va vb : Value) (a b : List (List Int)) (fa fb : List Nat) (w : World) (ha : Rd w va a fa) (hb : Rd w vb b fb) (hs : subB n a b = true) (h1 : 1 ≤ idxS n a b) (h200 : idxS n a b ≤ 200) :
    Calls Try.prog 19 #[.int .i64 n, va, vb] w fun e w' => ∃ v f, e = .returned v ∧ Rd w' v (cosR n a b) f ∧ Fresh w.heap.size w' f ∧ Only [] w w' := by
  obtain ⟨m, hnm, S⟩ := SubF.of ha hb hs
  have HcI := Lib.hid (implIdx_any n va vb a b fa fb w ha hb)
  have hle := fun {L : List (List Int)} (i : PM.InC m a b L) => S.le_idx hnm hs i
  have hcR : cosR n a b = srtP (repC m a b) := by unfold cosR; rw [if_pos ⟨h1, h200⟩, hnm]; rfl
  subst hnm
  obtain ⟨ix, hix⟩ : ∃ ix, ix = idxS (m : Int) a b := ⟨_, rfl⟩
  rw [← hix] at HcI hle h1 h200
  obtain ⟨R, hR⟩ : ∃ R, R = repC m a b := ⟨_, rfl⟩
  rw [← hR] at hcR
  rw [hcR]
  obtain ⟨N, hN⟩ : ∃ N, N = ordC m b m := ⟨_, rfl⟩
  have hR0 : R = PM.bC m a b (N + 1 - 0) 0 [PM.pts m] := by rw [hR, hN]; rfl
  have hlN : ∀ {L : List (List Int)}, PM.InC m a b L → L.length ≤ N := fun i => by rw [hN]; exact (S.len i).2.2
  have hm0 := S.pos
  have hm20 := S.le
  have hla := S.la
  have hlb := S.lb
  have hpid : PM.cosM m a (PM.pts m) = PM.pts m := by obtain ⟨G, T, ca⟩ := S.ca; exact PM.cosM_id ca S.pos S.pa
  have Hpid := Lib.hid hpid
  have Hne := Lib.hid (show R ≠ [] from fun e => by
    obtain ⟨-, h2⟩ := S.reps
    obtain ⟨G', T', cb⟩ := S.cb
    have h3 := ordC_pos cb S.pos S.pb (Nat.le_refl _)
    rw [← hR, e] at h2
    simp at h2
    omega)
  have HR0 := Lib.hid hR0
  have HS := Lib.hid S
  have Hle := Lib.hid (fun (L : List (List Int)) (i : PM.InC m a b L) => hle i)
  have HlN := Lib.hid (fun (L : List (List Int)) (i : PM.InC m a b L) => hlN i)
  obtain ⟨i0, hi, hz0, hz1, hz2⟩ := info_parts Try.info22
  obtain ⟨A2, C2, ob2, fps2, rfl, -, hS2⟩ := id hb.open_
  have hbb := hS2.bound
  have HRng := Lib.hid (show inR (ix : Int) 1 200 = true from inR_iff.2 (by omega))
  clear hle hlN hR0 hR hN hcR S hs hix hpid
  go_enter Try.func19, Try.ntmps19
  go_wp2_with (first
    | (go_at_call 24; (with_reducible refine (HcI.out).mono ?_); rintro en w1 ⟨rfl, t1⟩)
    | (go_at_call 60; (with_reducible refine (within_any (ix : Int) 1 200 _).mono ?_); rintro e w1' ⟨he, h1⟩; rw [HRng.out] at he; subst he; rw [h1]; clear h1)
    | (go_at_call 34; (with_reducible refine (implNewChain_any m hm0 hm20 va a fa w1 (Rp.keep ha t1) HS.out.pa (by omega)).mono ?_); rintro en w3 ⟨L, gv, G, T, M, F, rfl, -, hoT, hC, hCh, t3⟩; have HC := Lib.hid hC; have HCh := Lib.hid hCh; have HoT := Lib.hid hoT; have HlM := Lib.hid hC.lM; have HlF := Lib.hid hC.lF; clear hC hCh hoT)
    | (go_at_call 62; (with_reducible refine (implIdentity_any m w3 (by omega)).mono ?_); rintro en w4 ⟨v4, f4, rfl, r4, F4, t4⟩)
    | (go_at_call 61; (with_reducible refine (from_any L.g v4 (PM.pts m) f4 w4 r4).mono ?_); rintro en w5 ⟨rfl, hB5, t5, hs5⟩; have hbM : w4.heap.size ∉ M := (fun hm => by have := HlM.out _ hm; have := t4.size; omega); have hbF : w4.heap.size ∉ F := (fun hm => by have := HlF.out _ hm; have := t4.size; omega); have hbf : w4.heap.size ∉ f4 := (fun hm => by have := F4.lt _ hm; omega))
    | (go_at_call 63; (with_reducible refine (finish_any w5 (HC.out.keep (t4.trans t5)) HCh.out.inv.wf HoT.out w4.heap.size v4 (PM.pts m) f4 hB5 (Rp.keep r4 t5) (PM.PN.id m) hbM hbF hbf).mono ?_); rintro en w6 ⟨v6, f6, rfl, r6, F6, O6⟩; rw [HCh.out.cosM_eq hm0 HS.out.pa (PM.PN.id m), Hpid.out] at r6; obtain ⟨a6, c6, rfl, -⟩ := id r6.ints)
    | fail "no arm")
  have k3 : Only [] w w3 := t1.trans t3
  have k36 : Only [] w3 w6 := (t4.trans t5).then_ O6 (fun z hz hl => by simp at hz; have := t4.size; omega)
  have hz6 := k36.size
  have hz3 := k3.size
  have A6 := Acc.one (cs := [.slice a6 (PM.pts m).length c6]) w3.heap.size 36 r6 rfl hz6
  have F6' : Fresh w3.heap.size (w6.alloc (.cells #[.slice a6 (PM.pts m).length c6] 36)) [f6].flatten := by
    simp only [List.flatten_cons, List.flatten_nil, List.append_nil]
    exact (F6.mono (t4.trans t5).size).keep ((Only.refl _ _).alloc _)
  clear F4 F6 t1 t3 t4 t5 r4 r6 O6 hB5 hs5 hbM hbF hbf
  go_loopw [8, 9] (fun o y wr => ∃ (i : Nat) (L : List (List Int)) (fs : List (List Nat)), i ≤ L.length ∧ y = .int .i64 i ∧ Acc w3.heap.size 36 wr o L fs ∧ Fresh w3.heap.size wr fs.flatten ∧ Hid (PM.InC m a b L) ∧ Hid (R = PM.bC m a b (N + 1 - i) i L) ∧ Only [] w3 wr)
    (fun _ y _ => 201 - (intOf y).toNat)
  case atStart => exact ⟨0, [PM.pts m], [f6], Nat.zero_le _, rfl, A6, F6', Lib.hid HS.out.start, HR0, k36.alloc _⟩
  case round =>
    obtain ⟨W2, hnew⟩ : ∃ W, W = wr := ⟨_, rfl⟩
    subst hnew
    clear A6 F6'
    obtain ⟨i, LL, fs, hil, rfl, hA, hF, hIn, hRR, hO⟩ := hrel
    have hll := Hle.out LL hIn.out
    have hlN := HlN.out LL hIn.out
    obtain ⟨Ao, Co, hfo⟩ := hA.form
    subst hfo
    by_cases hlt : i < LL.length
    · have hltI : (i : Int) < (LL.length : Int) := by omega
      obtain ⟨x, hx⟩ : ∃ x, x = LL[i] := ⟨_, rfl⟩
      have hxm : x ∈ LL := by rw [hx]; exact List.getElem_mem hlt
      have hR2 : R = PM.bC m a b (N - i) (i + 1) (PM.stepC m a x (b.drop 0) LL) := by
        rw [List.drop_zero, hx, ← bC_go hlt, hRR.out, show N + 1 - i = N - i + 1 by omega]
      have HR2 := Lib.hid hR2
      have Hxm := Lib.hid hxm
      have Hx := Lib.hid hx
      have Hpx := Lib.hid (HS.out.pn hIn.out hxm)
      clear hR2 hx hxm hRR
      go_wp2
      go_loopw [8, 36] (fun o y wr => ∃ (k : Nat) (L' : List (List Int)) (fs : List (List Nat)), k ≤ b.length ∧ y = .int .i64 k ∧ Acc w3.heap.size 36 wr o L' fs ∧ Fresh w3.heap.size wr fs.flatten ∧ Hid (PM.InC m a b L') ∧ Hid (∃ l, L' = LL ++ l) ∧ Hid (R = PM.bC m a b (N - i) (i + 1) (PM.stepC m a x (b.drop k) L')) ∧ Only [] w3 wr)
        (fun _ y _ => b.length - (intOf y).toNat)
      case atStart => exact ⟨0, LL, fs, Nat.zero_le _, rfl, hA, hF, hIn, Lib.hid ⟨[], by simp⟩, HR2, hO⟩
      case round =>
        obtain ⟨W4, hnew⟩ : ∃ W, W = wr := ⟨_, rfl⟩
        subst hnew
        clear hA hF hIn HR2 hO
        obtain ⟨k, L', fs, hk, rfl, hA, hF, hIn, hpre, hRR, hO⟩ := hrel
        have hll' := Hle.out L' hIn.out
        by_cases hlk : k < b.length
        · have hlkI : (k : Int) < (b.length : Int) := by omega
          obtain ⟨l, hl⟩ := hpre.out
          have hil' : i < L'.length := by rw [hl, List.length_append]; omega
          have hilI : (i : Int) < (L'.length : Int) := by omega
          have hx' : L'[i] = x := by rw [Hx.out]; simp only [hl]; rw [List.getElem_append_left hlt]
          obtain ⟨A9, C9, ob9, fps9, rfl, -, S9⟩ := (hA.rd (by decide)).open_
          obtain ⟨b9, o9, u9', rfl, -, c9, hu9⟩ := S9.atRow i hil'
          rw [hx'] at hu9
          have kW : Only [] w W4 := k3.trans hO
          obtain ⟨bb, ob, ub, rfl, -, cb0, hub⟩ := hS2.atRow k hlk
          have cb := kW.cell (by simp) cb0
          have hgm : b[k] ∈ b := List.getElem_mem hlk
          have hpg := HS.out.pb b[k] hgm
          have hst := stepC_drop (m := m) (a := a) (L := L') (x := x) hlk
          have hxm' : x ∈ L' := by rw [hl]; exact List.mem_append_left _ Hxm.out
          have hIn2 := HS.out.step hIn.out hxm' hgm
          obtain ⟨g, hg⟩ : ∃ g, g = b[k] := ⟨_, rfl⟩
          rw [← hg] at hub hpg hst hIn2
          obtain ⟨q, hq⟩ : ∃ q, q = PM.cosM m a (PM.comp x g) := ⟨_, rfl⟩
          have hcm : PM.desc T m (fun _ _ => 0) m 0 (PM.comp x g) = q := by rw [hq]; exact HCh.out.cosM_eq hm0 HS.out.pa (Hpx.out.comp hpg)
          rw [← hq] at hst hIn2
          rw [hst] at hRR
          have Hcm := Lib.hid hcm
          have Hpxg := Lib.hid (Hpx.out.comp hpg)
          have HC4 := Lib.hid (fun (W : World) (hW : Only [] W4 W) => (HC.out.keep hO).keep hW)
          have HcK := Lib.hid (implCompose_rd m u9' ub x g _ _ W4 hu9 (Rp.keep hub kW) Hpx.out hpg (by omega))
          have hAr := hA.rd (by decide)
          have HAr := Lib.hid (fun (W : World) (hW : Only [] W4 W) => Rp.keep hAr hW)
          have HA := Lib.hid hA
          have hi0 : (0 : Int) ≤ (i : Int) := by omega
          have hk0 : (0 : Int) ≤ (k : Int) := by omega
          have hz4 := hO.size
          have hlen : L'.length + 1 ≤ 1073741824 := by omega
          have Hpre := Lib.hid (show ∃ l, PM.addC q L' = LL ++ l by
            obtain ⟨l2, h2⟩ := PM.addC_pre q L'
            exact ⟨l ++ l2, by rw [h2, hl, List.append_assoc]⟩)
          have HIn2 := Lib.hid hIn2
          have hz34 := hO.size
          clear hl hx' hu9 hub cb0 hgm hpg hst hxm' hg hq hcm hA hAr hpre hIn hIn2
          go_upto_region 12 with (first
            | (go_at_call 50; (with_reducible refine (HcK.out).mono ?_); rintro x1 w6 ⟨v6, f6, rfl, r6, F6, y6⟩)
            | (go_at_call 61; (with_reducible refine (from_any L.g v6 (PM.comp x g) f6 w6 r6).mono ?_); rintro en w7 ⟨rfl, hB7, y7, hs7⟩; have hbM : w6.heap.size ∉ M := (fun hm => by have := HlM.out _ hm; have := y6.size; omega); have hbF : w6.heap.size ∉ F := (fun hm => by have := HlF.out _ hm; have := y6.size; omega); have hbf : w6.heap.size ∉ f6 := (fun hm => by have := F6.lt _ hm; omega))
            | (go_at_call 63; (with_reducible refine (finish_any w7 (HC4.out w7 (y6.trans y7)) HCh.out.inv.wf HoT.out w6.heap.size v6 (PM.comp x g) f6 hB7 (Rp.keep r6 y7) Hpxg.out hbM hbF hbf).mono ?_); rintro en w8 ⟨v8, f8, rfl, r8, F8, O8⟩; rw [Hcm.out] at r8; obtain ⟨a8, c8, rfl, -⟩ := id r8.ints)
            | fail "no arm")
          have k8 : Only [] W4 w8 := (y6.trans y7).then_ O8 (fun z hz hl => by simp at hz; have := y6.size; omega)
          have F8' : Fresh W4.heap.size w8 f8 := F8.mono (y6.trans y7).size
          have cbox := lit1 w8 (.slice a8 q.length c8) 36 rfl
          obtain ⟨W9, hW9⟩ : ∃ W9, W9 = w8.alloc (.cells #[.slice a8 q.length c8] 36) := ⟨_, rfl⟩
          have k89 : Only [] w8 W9 := by rw [hW9]; exact (Only.refl _ _).alloc _
          rw [← hW9] at cbox ⊢
          have k9 := k8.trans k89
          have r9 := Rp.keep r8 k89
          have F9 := F8'.keep k89
          have Hcf := Lib.hid (ContainsFunc_rows 64 #[.pointer (some ⟨w8.heap.size, 0, none⟩)] (fun p => eqV p q) Try.call64 (.slice (some ⟨b9, o9, none⟩) L'.length C9) L' _ W9 (HAr.out W9 k9)
            (fun x' _ u f' w' hw hu => cosClosure u x' q f' f8 w8.heap.size (.slice a8 q.length c8) w' hu (hw.cell (by simp) cbox) (Rp.keep r9 hw)))
          rw [any_eqV] at Hcf
          clear hW9 k8 F8 F8' r8 O8 k89 y6 y7 F6 hB7 hs7 hbM hbF hbf r6
          by_cases hmem : q ∈ L'
          · have hadd : PM.addC q L' = L' := by unfold PM.addC; rw [if_pos hmem]
            rw [decide_eq_true hmem] at Hcf
            rw [hadd] at hRR HIn2 Hpre
            clear hadd hmem
            go_wp2_with (first
              | (go_at_call 45; (with_reducible refine (Hcf.out).mono ?_); rintro e wA ⟨rfl, tA⟩)
              | fail "no arm")
            go_roundw
            case rel => exact ⟨k + 1, L', fs, by omega, by go_num, HA.out.keep (k9.trans tA), hF.keep (k9.trans tA), HIn2, Hpre, hRR, (hO.trans k9).trans tA⟩
            case measure => simp [intOf]; omega
          · have hadd : PM.addC q L' = L' ++ [q] := by unfold PM.addC; rw [if_neg hmem]
            rw [decide_eq_false hmem] at Hcf
            rw [hadd] at hRR HIn2 Hpre
            clear hadd hmem
            go_wp2_with (first
              | (go_at_call 45; (with_reducible refine (Hcf.out).mono ?_); rintro e wA ⟨rfl, tA⟩; have kA := k9.trans tA; have cA := tA.cell (by simp) cbox)
              | (at_builtin; refine wpList_pushF rfl _ _ 24 rfl w3.heap.size 36 i0 _ 24 Try.underlying24 hi hz0 hz1 hz2 rfl (by decide) (by decide) W4 (.slice (some ⟨b9, o9, none⟩) L'.length C9) L' fs rfl HA.out hF (kA.alloc _) hz4 wA.heap.size 1 [.slice a8 q.length c8] q f8 rfl (lit_src wA [_] _ rfl) (by intro u hu; simp at hu; subst hu; rfl) (Rp.keep r9 (tA.alloc _)) (F9.keep (tA.alloc _)) hlen w3 ((hO.trans kA).alloc _) (Nat.le_refl _) ?_; intro vB wB hAB hFB hKB hWB)
              | fail "no arm")
            go_roundw
            case rel => exact ⟨k + 1, _, _, by omega, by go_num, hAB, hFB, HIn2, Hpre, hRR, hKB⟩
            case measure => simp [intOf]; omega
        · obtain rfl : k = b.length := by omega
          have hge : ¬ ((b.length : Int) < (b.length : Int)) := by omega
          have hR3 : R = PM.bC m a b (N + 1 - (i + 1)) (i + 1) L' := by
            have := hRR.out
            rw [List.drop_length] at this
            rw [show N + 1 - (i + 1) = N - i by omega]
            exact this
          have hl' : i + 1 ≤ L'.length := by
            obtain ⟨l, hl⟩ := hpre.out
            rw [hl, List.length_append]; omega
          have HR3 := Lib.hid hR3
          have HA := Lib.hid hA
          clear hR3 hRR hA
          go_wp2
          go_roundw
          case rel => exact ⟨i + 1, L', fs, hl', by go_num, HA.out, hF, hIn, HR3, hO⟩
          case measure => simp [intOf]; omega
    · obtain rfl : i = LL.length := by omega
      have hge : ¬ ((LL.length : Int) < (LL.length : Int)) := by omega
      have hRL : R = LL := by rw [hRR.out]; exact bC_end (Nat.le_refl _)
      have HRL := Lib.hid hRL
      have Hpn := Lib.hid (fun x (hx : x ∈ LL) => HS.out.pn hIn.out hx)
      have Hnd := Lib.hid hIn.out.nd
      have HA := Lib.hid hA
      have hF' := hF.mono hz3
      have kW : Only [] w W2 := k3.trans hO
      have Hne2 := Lib.hid (show LL ≠ [] by rw [← hRL]; exact Hne.out)
      have hown := hA.ownlt
      have hap := hA.apart
      clear hRL hRR hA hF
      go_wp2_with (first
        | (go_at_call 66; (with_reducible refine (sortRows_any m W2 _ LL fs HA.out Hne2.out (by omega) Hpn.out Hnd.out).mono ?_); rintro e w6 ⟨rfl, fs6, A6, p6, O6⟩)
        | fail "no arm")
      go_ret
      have k6 : Only [] w w6 := kW.then_ O6 (fun z hz hl => by have := (hown z (by simpa using hz)).1; omega)
      have hF6 := hF'.only O6 (fun z hz hm => hap z (by simpa using hm) hz)
      have hp := p6.flatten
      have F6 : Fresh w.heap.size w6 fs6.flatten := ⟨hp.nodup_iff.2 hF6.nd, fun z hz => hF6.ge z (hp.mem_iff.1 hz), fun z hz => hF6.own z (hp.mem_iff.1 hz)⟩
      exact ⟨_, _, rfl, by rw [HRL.out]; exact A6.rd (by decide), (accDown A6 hz3).fresh F6, k6⟩
set_option maxHeartbeats 2000000 in
theorem implCosR_no (n : Int) (va vb : Value) (a b : List (List Int)) (fa fb : List Nat) (w : World) (ha : Rd w va a fa) (hb : Rd w vb b fb) (h : ¬ (1 ≤ idxS n a b ∧ idxS n a b ≤ 200)) :
    Calls Try.prog 19 #[.int .i64 n, va, vb] w fun e w' => ∃ v f, e = .returned v ∧ Rd w' v (cosR n a b) f ∧ Fresh w.heap.size w' f ∧ Only [] w w' := by
  have HcI := Lib.hid (implIdx_any n va vb a b fa fb w ha hb)
  have hcR : cosR n a b = [] := by unfold cosR; rw [if_neg h]
  rw [hcR]
  obtain ⟨ix, hix⟩ : ∃ ix, ix = idxS n a b := ⟨_, rfl⟩
  rw [← hix] at HcI h
  have HRng : Hid (inR (ix : Int) 1 200 = false) := Lib.hid (by
    rw [Bool.eq_false_iff]
    intro hh
    have := inR_iff.1 hh
    omega)
  clear hcR hix
  go_enter Try.func19, Try.ntmps19
  go_wp2_with (first
    | (go_at_call 24; (with_reducible refine (HcI.out).mono ?_); rintro en w1 ⟨rfl, t1⟩)
    | (go_at_call 60; (with_reducible refine (within_any (ix : Int) 1 200 _).mono ?_); rintro e w1' ⟨he, h1⟩; rw [HRng.out] at he; subst he; rw [h1]; clear h1)
    | fail "no arm")
  go_ret
  exact ⟨_, [], rfl, nil_rows _ _ _ (by simp [maxLen]), Fresh.nil _ _, t1⟩
theorem implCosR_any (n : Int) (va vb : Value) (a b : List (List Int)) (fa fb : List Nat) (w : World) (ha : Rd w va a fa) (hb : Rd w vb b fb) :
    Calls Try.prog 19 #[.int .i64 n, va, vb] w fun e w' => ∃ v f, e = .returned v ∧ Rd w' v (cosR n a b) f ∧ Fresh w.heap.size w' f ∧ Only [] w w' := by
  by_cases h : 1 ≤ idxS n a b ∧ idxS n a b ≤ 200
  · exact implCosR_yes n va vb a b fa fb w ha hb (idx_sub h.1) h.1 h.2
  · exact implCosR_no n va vb a b fa fb w ha hb h
/-- what there is to mark in the representatives -/
theorem cosR_cnt {n : Int} {a b : List (List Int)} {va vb : Value} {fa fb : List Nat} {w : World} (ha : Rd w va a fa) (hb : Rd w vb b fb) : Mk.cnt (cosR n a b) ≤ 4000 := by
  show cntL (cosR n a b) ≤ 4000
  have key : ∀ (L : List (List Int)) (k : Nat), (∀ x ∈ L, x.length ≤ k) → cntL L ≤ L.length * k := by
    intro L k
    induction L with
    | nil => intro _; simp [cntL]
    | cons x L ih =>
      intro hx
      have h1 := ih fun y hy => hx y (List.mem_cons_of_mem _ hy)
      have h2 := hx x (by simp)
      have h3 : Mk.cnt x = x.length := cntL_ints x
      show Mk.cnt x + cntL L ≤ _
      rw [h3, List.length_cons, Nat.succ_mul]
      omega
  by_cases h : 1 ≤ idxS n a b ∧ idxS n a b ≤ 200
  · have hs := idx_sub h.1
    obtain ⟨m, hnm, S⟩ := SubF.of ha hb hs
    have hcR : cosR n a b = srtP (repC m a b) := by unfold cosR; rw [if_pos h, hnm]; rfl
    rw [hcR]
    obtain ⟨i, -⟩ := S.reps
    have hl : (srtP (repC m a b)).length ≤ 200 := by rw [(srtP_perm _).length_eq, ← S.idx_len hnm hs]; exact h.2
    have h2 := key (srtP (repC m a b)) 20 (fun x hx => by
      have := S.pn i ((srtP_perm _).mem_iff.1 hx)
      rw [this.1]; exact S.le)
    have := Nat.mul_le_mul_right 20 hl
    omega
  · have hcR : cosR n a b = [] := by unfold cosR; rw [if_neg h]
    rw [hcR]
    simp [cntL]
end Go.Proofs.Ytbediokigibdlaa

namespace Go.Proofs.Ytbediokigibdlaa
open Go.RowKit
set_option maxRecDepth 10000

set_option maxHeartbeats 4000000 in
theorem FnExactCosetRepresentatives_any (w : World) (aN : Int) (iaN : I64 aN) (vaA : Value) (aA : List (List Int)) (faA : List Nat) (raA : Rd w vaA aA faA) (vaB : Value) (aB : List (List Int)) (faB : List Nat) (raB : Rd w vaB aB faB) :
    Calls Try.prog 4 #[.int .i64 aN, vaA, vaB] w fun e w' => e = .returned (.bool true) ∧ Only [] w w' := by
  have ibaN := iaN; unfold I64 at ibaN; obtain ⟨ilaN, ihaN⟩ := ibaN
  obtain ⟨AaA, CaA, _, _, rfl, -⟩ := raA.open_
  have LaA := Rp.lt raA
  have hbaA : aA.length ≤ 9223372036854775807 := by obtain ⟨_, _, _, _, hq, -, hs⟩ := raA.open_; have := hs.bound; exact this
  obtain ⟨AaB, CaB, _, _, rfl, -⟩ := raB.open_
  have LaB := Rp.lt raB
  have hbaB : aB.length ≤ 9223372036854775807 := by obtain ⟨_, _, _, _, hq, -, hs⟩ := raB.open_; have := hs.bound; exact this
  rcases szV_cases (1048576) aA with ⟨esaA, msaA⟩ | ⟨esaA, psaA, msaA⟩
  · go_enter Try.func4, Try.ntmps4
    go_wp2_with (with_reducible refine (szInt64SS_rd (.slice AaA aA.length CaA) aA _ (1048576) _ raA (by omega) (by omega)).mono ?_; rintro e w1 ⟨rfl, d0⟩)
    go_ret
    have t0 := d0.only []
    exact ⟨rfl, (by with_reducible repeat (first | exact Only.refl _ _ | assumption | refine Only.drewN ?_ _ | refine Only.drew ?_ | refine Only.alloc ?_ _ | refine Only.setCell ?_ (by intro hh; exfalso; simp at hh; try omega) _ | refine Only.trans ?_ (by assumption)))⟩
  have smaA : Sm.sm aA := SzSm.of_ _ (by omega)
  have csaA : Mk.cnt aA ≤ 1048576 := Nat.le_trans (CntSz.le aA) (by omega)
  rcases szV_cases (1048576 - (Sz.sz aA : Nat)) aB with ⟨esaB, msaB⟩ | ⟨esaB, psaB, msaB⟩
  · go_enter Try.func4, Try.ntmps4
    go_wp2_with fail
    with_reducible refine (szInt64SS_rd (.slice AaA aA.length CaA) aA _ (1048576) _ raA (by omega) (by omega)).mono ?_
    rintro e w1 ⟨rfl, d0⟩
    have t0 := d0.only []
    rw [esaA]
    have T0 : Only [] w w1 := t0
    have S0 : w.heap.size + 0 ≤ w1.heap.size := by have := T0.size; omega
    go_wp2_with (with_reducible refine (szInt64SS_rd (.slice AaB aB.length CaB) aB _ (1048576 - (Sz.sz aA : Nat)) _ (Rp.keep raB T0) (by omega) (by omega)).mono ?_; rintro e w2 ⟨rfl, d1⟩)
    go_ret
    have t1 := d1.only []
    exact ⟨rfl, (by with_reducible repeat (first | exact Only.refl _ _ | assumption | refine Only.drewN ?_ _ | refine Only.drew ?_ | refine Only.alloc ?_ _ | refine Only.setCell ?_ (by intro hh; exfalso; simp at hh; try omega) _ | refine Only.trans ?_ (by assumption)))⟩
  have smaB : Sm.sm aB := SzSm.of_ _ (by omega)
  have csaB : Mk.cnt aB ≤ 1048576 := Nat.le_trans (CntSz.le aB) (by omega)
  have hcnt := cosR_cnt (n := aN) raA raB
  go_enter Try.func4, Try.ntmps4
  go_wp2_with fail
  with_reducible refine (szInt64SS_rd (.slice AaA aA.length CaA) aA _ (1048576) _ raA (by omega) (by omega)).mono ?_
  rintro e w1 ⟨rfl, d0⟩
  have t0 := d0.only []
  rw [esaA]
  have T0 : Only [] w w1 := t0
  have S0 : w.heap.size + 0 ≤ w1.heap.size := by have := T0.size; omega
  go_wp2_with fail
  with_reducible refine (szInt64SS_rd (.slice AaB aB.length CaB) aB _ (1048576 - (Sz.sz aA : Nat)) _ (Rp.keep raB T0) (by omega) (by omega)).mono ?_
  rintro e w2 ⟨rfl, d1⟩
  have t1 := d1.only []
  rw [esaB]
  have T1 : Only [] w1 w2 := t1
  have S1 : w1.heap.size + 0 ≤ w2.heap.size := by have := T1.size; omega
  go_wp2_with fail
  with_reducible refine (toInt64SS_sm (.slice AaA aA.length CaA) aA _ _ (Rp.keep (Rp.keep raA T0) T1) smaA).mono ?_
  rintro e w3 ⟨v1, f1, rfl, r1, F1, t2⟩
  have T2 : Only [] w2 w3 := t2
  have S2 : w2.heap.size + 0 ≤ w3.heap.size := by have := T2.size; omega
  have L1 := Rp.lt r1
  have G1 : ∀ b ∈ f1, w2.heap.size ≤ b := fun b hb => by have := F1.ge b hb; omega
  go_wp2_with fail
  with_reducible refine (toInt64SS_sm (.slice AaB aB.length CaB) aB _ _ (Rp.keep (Rp.keep (Rp.keep raB T0) T1) T2) smaB).mono ?_
  rintro e w4 ⟨v2, f2, rfl, r2, F2, t3⟩
  have T3 : Only [] w3 w4 := t3
  have S3 : w3.heap.size + 0 ≤ w4.heap.size := by have := T3.size; omega
  have L2 := Rp.lt r2
  have G2 : ∀ b ∈ f2, w3.heap.size ≤ b := fun b hb => by have := F2.ge b hb; omega
  go_wp2_with fail
  with_reducible refine (specCosR_any aN v1 v2 aA aB _ _ _ (Rp.keep r1 T3) r2).mono ?_
  rintro e w5 ⟨v3, f3, rfl, r3, F3, t4⟩
  have T4 : Only [] w4 w5 := t4
  have S4 : w4.heap.size + 0 ≤ w5.heap.size := by have := T4.size; omega
  have L3 := Rp.lt r3
  have G3 : ∀ b ∈ f3, w4.heap.size ≤ b := fun b hb => by have := F3.ge b hb; omega
  go_wp2_with fail
  with_reducible refine (toInt64SS_sm (.slice AaA aA.length CaA) aA _ _ (Rp.keep (Rp.keep (Rp.keep (Rp.keep (Rp.keep raA T0) T1) T2) T3) T4) smaA).mono ?_
  rintro e w6 ⟨v4, f4, rfl, r4, F4, t5⟩
  have T5 : Only [] w5 w6 := t5
  have S5 : w5.heap.size + 0 ≤ w6.heap.size := by have := T5.size; omega
  have L4 := Rp.lt r4
  have G4 : ∀ b ∈ f4, w5.heap.size ≤ b := fun b hb => by have := F4.ge b hb; omega
  go_wp2_with fail
  with_reducible refine (toInt64SS_sm (.slice AaB aB.length CaB) aB _ _ (Rp.keep (Rp.keep (Rp.keep (Rp.keep (Rp.keep (Rp.keep raB T0) T1) T2) T3) T4) T5) smaB).mono ?_
  rintro e w7 ⟨v5, f5, rfl, r5, F5, t6⟩
  have T6 : Only [] w6 w7 := t6
  have S6 : w6.heap.size + 0 ≤ w7.heap.size := by have := T6.size; omega
  have L5 := Rp.lt r5
  have G5 : ∀ b ∈ f5, w6.heap.size ≤ b := fun b hb => by have := F5.ge b hb; omega
  go_wp2_with fail
  with_reducible refine (implCosR_any aN v4 v5 aA aB _ _ _ (Rp.keep r4 T6) r5).mono ?_
  rintro e w8 ⟨v6, f6, rfl, r6, F6, t7⟩
  have T7 : Only [] w7 w8 := t7
  have S7 : w7.heap.size + 0 ≤ w8.heap.size := by have := T7.size; omega
  have L6 := Rp.lt r6
  have G6 : ∀ b ∈ f6, w7.heap.size ≤ b := fun b hb => by have := F6.ge b hb; omega
  have e8 : eqV (cosR aN aA aB) (cosR aN aA aB) = true := eqV_yes rfl
  go_wp2_with fail
  with_reducible refine (eqInt64SS_rd v6 v3 (cosR aN aA aB) (cosR aN aA aB) _ _ _ r6 (Rp.keep (Rp.keep (Rp.keep r3 T5) T6) T7)).mono ?_
  rintro e w9 ⟨rfl, d8⟩
  have t8 := d8.only []
  have T8 : Only [] w8 w9 := t8
  have S8 : w8.heap.size + 0 ≤ w9.heap.size := by have := T8.size; omega
  go_wp2_with fail
  with_reducible refine (toInt64SS_sm (.slice AaA aA.length CaA) aA _ _ (Rp.keep (Rp.keep (Rp.keep (Rp.keep (Rp.keep (Rp.keep (Rp.keep (Rp.keep (Rp.keep raA T0) T1) T2) T3) T4) T5) T6) T7) T8) smaA).mono ?_
  rintro e w10 ⟨v7, f7, rfl, r7, F7, t9⟩
  have T9 : Only [] w9 w10 := t9
  have S9 : w9.heap.size + 0 ≤ w10.heap.size := by have := T9.size; omega
  have L7 := Rp.lt r7
  have G7 : ∀ b ∈ f7, w9.heap.size ≤ b := fun b hb => by have := F7.ge b hb; omega
  have e10 : eqV aA aA = true := eqV_yes rfl
  go_wp2_with fail
  with_reducible refine (eqInt64SS_rd v4 v7 aA aA _ _ _ (Rp.keep (Rp.keep (Rp.keep (Rp.keep r4 T6) T7) T8) T9) r7).mono ?_
  rintro e w11 ⟨rfl, d10⟩
  have t10 := d10.only []
  have T10 : Only [] w10 w11 := t10
  have S10 : w10.heap.size + 0 ≤ w11.heap.size := by have := T10.size; omega
  go_wp2_with fail
  with_reducible refine (toInt64SS_sm (.slice AaB aB.length CaB) aB _ _ (Rp.keep (Rp.keep (Rp.keep (Rp.keep (Rp.keep (Rp.keep (Rp.keep (Rp.keep (Rp.keep (Rp.keep (Rp.keep raB T0) T1) T2) T3) T4) T5) T6) T7) T8) T9) T10) smaB).mono ?_
  rintro e w12 ⟨v8, f8, rfl, r8, F8, t11⟩
  have T11 : Only [] w11 w12 := t11
  have S11 : w11.heap.size + 0 ≤ w12.heap.size := by have := T11.size; omega
  have L8 := Rp.lt r8
  have G8 : ∀ b ∈ f8, w11.heap.size ≤ b := fun b hb => by have := F8.ge b hb; omega
  have e12 : eqV aB aB = true := eqV_yes rfl
  go_wp2_with fail
  with_reducible refine (eqInt64SS_rd v5 v8 aB aB _ _ _ (Rp.keep (Rp.keep (Rp.keep (Rp.keep (Rp.keep r5 T7) T8) T9) T10) T11) r8).mono ?_
  rintro e w13 ⟨rfl, d12⟩
  have t12 := d12.only []
  have T12 : Only [] w12 w13 := t12
  have S12 : w12.heap.size + 0 ≤ w13.heap.size := by have := T12.size; omega
  have m13 : (1 : Int) + (Mk.cnt aA : Nat) ≤ 4611686018427387904 := by omega
  go_wp2_with fail
  with_reducible refine (markInt64SS_rd v4 aA f4 (1) _ (Rp.keep (Rp.keep (Rp.keep (Rp.keep (Rp.keep (Rp.keep (Rp.keep r4 T6) T7) T8) T9) T10) T11) T12) F4.nd (Own.keep (Own.keep (Own.keep (Own.keep (Own.keep (Own.keep (Own.keep F4.own T6) T7) T8) T9) T10) T11) T12) (by omega) m13).mono ?_
  rintro e w14 ⟨rfl, rr13, oo13, t13⟩
  have T13 : Only f4 w13 w14 := t13
  have S13 : w13.heap.size + 0 ≤ w14.heap.size := by have := T13.size; omega
  clear r4
  have r4 := rr13
  have O4 := oo13
  have m14 : (1 + (Mk.cnt aA : Nat) : Int) + (Mk.cnt aB : Nat) ≤ 4611686018427387904 := by omega
  go_wp2_with fail
  with_reducible refine (markInt64SS_rd v5 aB f5 (1 + (Mk.cnt aA : Nat)) _ (Rp.only (Rp.keep (Rp.keep (Rp.keep (Rp.keep (Rp.keep (Rp.keep r5 T7) T8) T9) T10) T11) T12) T13 (fun b hb hm => by have := G5 b hb; have := L4 b hm; omega)) F5.nd (Own.only (Own.keep (Own.keep (Own.keep (Own.keep (Own.keep (Own.keep F5.own T7) T8) T9) T10) T11) T12) T13 (fun b hb hm => by have := G5 b hb; have := L4 b hm; omega)) (by omega) m14).mono ?_
  rintro e w15 ⟨rfl, rr14, oo14, t14⟩
  have T14 : Only f5 w14 w15 := t14
  have S14 : w14.heap.size + 0 ≤ w15.heap.size := by have := T14.size; omega
  clear r5
  have r5 := rr14
  have O5 := oo14
  have e15 : eqV (cosR aN aA aB) (cosR aN aA aB) = true := eqV_yes rfl
  go_wp2_with fail
  with_reducible refine (eqInt64SS_rd v6 v3 (cosR aN aA aB) (cosR aN aA aB) _ _ _ (Rp.only (Rp.only (Rp.keep (Rp.keep (Rp.keep (Rp.keep (Rp.keep r6 T8) T9) T10) T11) T12) T13 (fun b hb hm => by have := G6 b hb; have := L4 b hm; omega)) T14 (fun b hb hm => by have := G6 b hb; have := L5 b hm; omega)) (Rp.only (Rp.only (Rp.keep (Rp.keep (Rp.keep (Rp.keep (Rp.keep (Rp.keep (Rp.keep (Rp.keep r3 T5) T6) T7) T8) T9) T10) T11) T12) T13 (fun b hb hm => by have := L3 b hb; have := G4 b hm; omega)) T14 (fun b hb hm => by have := L3 b hb; have := G5 b hm; omega))).mono ?_
  rintro e w16 ⟨rfl, d15⟩
  have t15 := d15.only []
  have T15 : Only [] w15 w16 := t15
  have S15 : w15.heap.size + 0 ≤ w16.heap.size := by have := T15.size; omega
  have m16 : (1 : Int) + (Mk.cnt (cosR aN aA aB) : Nat) ≤ 4611686018427387904 := by omega
  go_wp2_with fail
  with_reducible refine (markInt64SS_rd v6 (cosR aN aA aB) f6 (1) _ (Rp.keep (Rp.only (Rp.only (Rp.keep (Rp.keep (Rp.keep (Rp.keep (Rp.keep r6 T8) T9) T10) T11) T12) T13 (fun b hb hm => by have := G6 b hb; have := L4 b hm; omega)) T14 (fun b hb hm => by have := G6 b hb; have := L5 b hm; omega)) T15) F6.nd (Own.keep (Own.only (Own.only (Own.keep (Own.keep (Own.keep (Own.keep (Own.keep F6.own T8) T9) T10) T11) T12) T13 (fun b hb hm => by have := G6 b hb; have := L4 b hm; omega)) T14 (fun b hb hm => by have := G6 b hb; have := L5 b hm; omega)) T15) (by omega) m16).mono ?_
  rintro e w17 ⟨rfl, rr16, oo16, t16⟩
  have T16 : Only f6 w16 w17 := t16
  have S16 : w16.heap.size + 0 ≤ w17.heap.size := by have := T16.size; omega
  clear r6
  have r6 := rr16
  have O6 := oo16
  have h17 : heldV (1) (Mk.mark (1) (cosR aN aA aB)) = 1 + (Mk.cnt (cosR aN aA aB) : Nat) := heldV_mark (1) (cosR aN aA aB)
  have m17 : (1 : Int) + (Mk.cnt (Mk.mark (1) (cosR aN aA aB)) : Nat) ≤ 4611686018427387904 := by rw [MkL.cnt]; omega
  go_wp2_with fail
  with_reducible refine (heldInt64SS_rd v6 (Mk.mark (1) (cosR aN aA aB)) _ (1) _ r6 (by omega) m17).mono ?_
  rintro e w18 ⟨rfl, d17⟩
  have t17 := d17.only []
  have T17 : Only [] w17 w18 := t17
  have S17 : w17.heap.size + 0 ≤ w18.heap.size := by have := T17.size; omega
  go_wp2_with fail
  with_reducible refine (toInt64SS_sm (.slice AaA aA.length CaA) aA _ _ (Rp.keep (Rp.only (Rp.keep (Rp.only (Rp.only (Rp.keep (Rp.keep (Rp.keep (Rp.keep (Rp.keep (Rp.keep (Rp.keep (Rp.keep (Rp.keep (Rp.keep (Rp.keep (Rp.keep (Rp.keep raA T0) T1) T2) T3) T4) T5) T6) T7) T8) T9) T10) T11) T12) T13 (fun b hb hm => by have := LaA b hb; have := G4 b hm; omega)) T14 (fun b hb hm => by have := LaA b hb; have := G5 b hm; omega)) T15) T16 (fun b hb hm => by have := LaA b hb; have := G6 b hm; omega)) T17) smaA).mono ?_
  rintro e w19 ⟨v9, f9, rfl, r9, F9, t18⟩
  have T18 : Only [] w18 w19 := t18
  have S18 : w18.heap.size + 0 ≤ w19.heap.size := by have := T18.size; omega
  have L9 := Rp.lt r9
  have G9 : ∀ b ∈ f9, w18.heap.size ≤ b := fun b hb => by have := F9.ge b hb; omega
  go_wp2_with fail
  with_reducible refine (toInt64SS_sm (.slice AaB aB.length CaB) aB _ _ (Rp.keep (Rp.keep (Rp.only (Rp.keep (Rp.only (Rp.only (Rp.keep (Rp.keep (Rp.keep (Rp.keep (Rp.keep (Rp.keep (Rp.keep (Rp.keep (Rp.keep (Rp.keep (Rp.keep (Rp.keep (Rp.keep raB T0) T1) T2) T3) T4) T5) T6) T7) T8) T9) T10) T11) T12) T13 (fun b hb hm => by have := LaB b hb; have := G4 b hm; omega)) T14 (fun b hb hm => by have := LaB b hb; have := G5 b hm; omega)) T15) T16 (fun b hb hm => by have := LaB b hb; have := G6 b hm; omega)) T17) T18) smaB).mono ?_
  rintro e w20 ⟨v10, f10, rfl, r10, F10, t19⟩
  have T19 : Only [] w19 w20 := t19
  have S19 : w19.heap.size + 0 ≤ w20.heap.size := by have := T19.size; omega
  have L10 := Rp.lt r10
  have G10 : ∀ b ∈ f10, w19.heap.size ≤ b := fun b hb => by have := F10.ge b hb; omega
  go_wp2_with fail
  with_reducible refine (implCosR_any aN v9 v10 aA aB _ _ _ (Rp.keep r9 T19) r10).mono ?_
  rintro e w21 ⟨v11, f11, rfl, r11, F11, t20⟩
  have T20 : Only [] w20 w21 := t20
  have S20 : w20.heap.size + 0 ≤ w21.heap.size := by have := T20.size; omega
  have L11 := Rp.lt r11
  have G11 : ∀ b ∈ f11, w20.heap.size ≤ b := fun b hb => by have := F11.ge b hb; omega
  have e21 : eqV (cosR aN aA aB) (cosR aN aA aB) = true := eqV_yes rfl
  go_wp2_with fail
  with_reducible refine (eqInt64SS_rd v11 v3 (cosR aN aA aB) (cosR aN aA aB) _ _ _ r11 (Rp.keep (Rp.keep (Rp.keep (Rp.keep (Rp.only (Rp.keep (Rp.only (Rp.only (Rp.keep (Rp.keep (Rp.keep (Rp.keep (Rp.keep (Rp.keep (Rp.keep (Rp.keep r3 T5) T6) T7) T8) T9) T10) T11) T12) T13 (fun b hb hm => by have := L3 b hb; have := G4 b hm; omega)) T14 (fun b hb hm => by have := L3 b hb; have := G5 b hm; omega)) T15) T16 (fun b hb hm => by have := L3 b hb; have := G6 b hm; omega)) T17) T18) T19) T20)).mono ?_
  rintro e w22 ⟨rfl, d21⟩
  have t21 := d21.only []
  have T21 : Only [] w21 w22 := t21
  have S21 : w21.heap.size + 0 ≤ w22.heap.size := by have := T21.size; omega
  have h22 : heldV (1) (Mk.mark (1) (cosR aN aA aB)) = 1 + (Mk.cnt (cosR aN aA aB) : Nat) := heldV_mark (1) (cosR aN aA aB)
  have m22 : (1 : Int) + (Mk.cnt (Mk.mark (1) (cosR aN aA aB)) : Nat) ≤ 4611686018427387904 := by rw [MkL.cnt]; omega
  go_wp2_with fail
  with_reducible refine (heldInt64SS_rd v6 (Mk.mark (1) (cosR aN aA aB)) _ (1) _ (Rp.keep (Rp.keep (Rp.keep (Rp.keep (Rp.keep r6 T17) T18) T19) T20) T21) (by omega) m22).mono ?_
  rintro e w23 ⟨rfl, d22⟩
  have t22 := d22.only []
  have T22 : Only [] w22 w23 := t22
  have S22 : w22.heap.size + 0 ≤ w23.heap.size := by have := T22.size; omega
  go_wp2
  go_ret
  refine ⟨rfl, ?_⟩
  exact (Only.keepThen (Only.keepThen (Only.keepThen (Only.keepThen (Only.keepThen (Only.keepThen (Only.then_ (Only.keepThen (Only.then_ (Only.then_ (Only.keepThen (Only.keepThen (Only.keepThen (Only.keepThen (Only.keepThen (Only.keepThen (Only.keepThen (Only.keepThen (Only.keepThen (Only.keepThen (Only.keepThen (Only.keepThen T0 T1) T2) T3) T4) T5) T6) T7) T8) T9) T10) T11) T12) T13 (fun b hb hl => by have := G4 b hb; omega)) T14 (fun b hb hl => by have := G5 b hb; omega)) T15) T16 (fun b hb hl => by have := G6 b hb; omega)) T17) T18) T19) T20) T21) T22)
end Go.Proofs.Ytbediokigibdlaa
