/- Inverses, letters, positions after a letter: the reference's and the program's. Maps from strings to numbers that a call makes; the key of a list of small numbers. The checksum of a string: both builds. A number as some bytes: the program's number, the reference's l29Uint32. Equality of plain data: the reference's and the program's. -/
import Derived.Test.YtkhdmiemfpelcaaGreatRowCrashFillG4
import Derived.Maps.OwnSet
import Derived.StringKeys
import Derived.Laws.BytesArg
import Derived.Test.YtkhdmiemfpelcaaGreatRowCrashFillG2
import Derived.Test.YtkhdmiemfpelcaaGreatRowCrashFillG3
namespace Go.Proofs.YtkhdmiemfpelcaaGreat
open Go.RowKit
set_option maxRecDepth 10000

/-- the letters of n moves, in order -/
def ltrs : Nat → List Int
  | 0 => []
  | n + 1 => ltrs n ++ [((n + 1 : Nat) : Int), -((n + 1 : Nat) : Int)]
theorem ltrs_len (n : Nat) : (ltrs n).length = 2 * n := by
  induction n with
  | zero => rfl
  | succ n ih => simp [ltrs, ih]; omega
theorem mem_ltrs {n : Nat} {x : Int} : x ∈ ltrs n ↔ x ≠ 0 ∧ -(n : Int) ≤ x ∧ x ≤ n := by
  induction n with
  | zero => simp [ltrs]; omega
  | succ n ih => simp [ltrs, ih]; omega
/-- the permutation of a letter -/
def mv (gens : List (List Int)) (l : Int) : List Int := if 0 < l then gens.getD (l - 1).toNat [] else PM.inv (gens.getD (-l - 1).toNat [])
theorem mv_pos {gens : List (List Int)} {l : Int} {k : Nat} (h : l = (k : Int) + 1) (hk : k < gens.length) : mv gens l = gens[k] := by
  unfold mv
  rw [if_pos (by omega), show (l - 1).toNat = k by omega, List.getD_eq_getElem?_getD, List.getElem?_eq_getElem hk]; rfl
theorem mv_neg {gens : List (List Int)} {l : Int} {k : Nat} (h : l = -((k : Int) + 1)) (hk : k < gens.length) : mv gens l = PM.inv gens[k] := by
  unfold mv
  rw [if_neg (by omega), show (-l - 1).toNat = k by omega, List.getD_eq_getElem?_getD, List.getElem?_eq_getElem hk]; rfl
theorem letter_cases {n : Nat} {l : Int} (h : l ∈ ltrs n) : (∃ k : Nat, k < n ∧ l = (k : Int) + 1) ∨ (∃ k : Nat, k < n ∧ l = -((k : Int) + 1)) := by
  rw [mem_ltrs] at h
  rcases Int.lt_or_gt_of_ne h.1 with h0 | h0
  · right; exact ⟨(-l - 1).toNat, by omega, by omega⟩
  · left; exact ⟨(l - 1).toNat, by omega, by omega⟩
theorem mv_pn {n : Nat} {gens : List (List Int)} (h : ∀ g ∈ gens, PM.PN n g) {l : Int} (hl : l ∈ ltrs gens.length) : PM.PN n (mv gens l) := by
  rcases letter_cases hl with ⟨k, hk, e⟩ | ⟨k, hk, e⟩
  · rw [mv_pos e hk]; exact h _ (List.getElem_mem _)
  · rw [mv_neg e hk]; exact (h _ (List.getElem_mem _)).inv

theorem lit_srcA (w : World) (cs : List Value) (e : TypeId) {g : Nat} (hg : g = w.heap.size) : ∀ ad, some (⟨g, 0, none⟩ : Addr) = some ad → ∀ j u, cs[j]? = some u → (w.alloc (.cells cs.toArray e)).cell? (ad.add j) = some u := by
  intro ad had j u hu
  injection had with had; subst had
  have hadd : (⟨g, 0, none⟩ : Addr).add j = ⟨g, j, none⟩ := by unfold Addr.add; split <;> simp_all
  rw [hadd]; exact lit_src w cs e hg j u hu
theorem wrap64_lit (n : Int) (h0 : -9223372036854775808 ≤ n) (h1 : n < 9223372036854775808) : wrap64 n = n := by unfold wrap64; omega

/-- an array of int64s that a call fills -/
def Arr (B : Nat) (e : TypeId) (w : World) (g m : Nat) (l : List Int) : Prop := w.ownsRow B e 1 (.slice (some ⟨g, 0, none⟩) m m) m (l.map (Value.int .i64))
section
variable {B : Nat} {e : TypeId} {w : World} {g m : Nat} {l : List Int}
theorem Arr.len (h : Arr B e w g m l) : l.length = m := by have := h.1; simpa using this
theorem Arr.set (h : Arr B e w g m l) (i : Nat) (x : Int) : Arr B e (w.setCell ⟨g, i, none⟩ (.int .i64 x)) g m (l.set i x) := by
  have := (World.ownsRow.stored h i (.int .i64 x)).1
  unfold Arr
  rwa [List.map_set]
theorem Arr.cell (h : Arr B e w g m l) {i : Nat} (hi : i < l.length) : w.cell? ⟨g, i, none⟩ = some (.int .i64 l[i]) := by
  rw [World.ownsRow.cellAt h i (by have := h.len; omega)]; simp [hi]
theorem Arr.frozen (h : Arr B e w g m l) (i : Nat) : w.frozen? ⟨g, i, none⟩ = false := World.ownsRow.frozenAt h i
theorem Arr.rd (h : Arr B e w g m l) (hw : ∀ x ∈ l, I64 x) : Rd w (.slice (some ⟨g, 0, none⟩) m m) l [g] ∧ Fresh B w [g] := by
  have h' : w.ownsRow B e 1 (.slice (some ⟨g, 0, none⟩) m m) m (l.map (Value.int .i64)) := h
  obtain ⟨a, cap, hv, -, hI, hF⟩ := own_ints h' hw
  have hr := hI.rd
  rw [← hv] at hr
  exact ⟨hr, hF⟩
theorem Arr.only {w' : World} {fp : List Nat} (h : Arr B e w g m l) (ho : Only fp w w') (hg : g ∉ fp) : Arr B e w' g m l := by
  refine ⟨h.1, ?_⟩
  rcases h.2 with ⟨h', _⟩ | ⟨g', cp, cur, h', hb, hgg, hrest⟩
  · simp at h'
  · have : g' = g := by simp at h'; exact h'.1.symm
    subst this
    exact .inr ⟨g', cp, cur, h', hb, by rw [ho.block g' (Array.getElem?_eq_some_iff.1 hgg).1 hg]; exact hgg, hrest⟩
end

/-- the inverse so far -/
def invUp (p : List Int) (j : Nat) : List Int := (PM.pts p.length).map fun y => if p.idxOf y < j then (p.idxOf y : Int) else 0
theorem invUp_zero (p : List Int) : invUp p 0 = List.replicate p.length 0 := by
  unfold invUp
  apply List.ext_getElem (by simp [PM.pts_len])
  intro k h1 h2; simp
theorem invUp_len (p : List Int) (j : Nat) : (invUp p j).length = p.length := by simp [invUp, PM.pts_len]
theorem invUp_all {p : List Int} (h : PM.IsP p) : invUp p p.length = PM.inv p := by
  unfold invUp PM.inv
  apply List.map_congr_left
  intro y hy
  have := h.all hy
  rw [if_pos (List.idxOf_lt_length_of_mem this)]
theorem invUp_step {p : List Int} (h : PM.IsP p) {j : Nat} (hj : j < p.length) : (invUp p j).set p[j].toNat (j : Int) = invUp p (j + 1) := by
  have hp := h.1 p[j] (List.getElem_mem hj)
  apply List.ext_getElem (by simp [invUp_len])
  intro k h1 h2
  have hk : k < p.length := by simpa [invUp_len] using h2
  have hm : ((k : Int)) ∈ p := h.all (PM.mem_pts.2 ⟨by omega, by omega⟩)
  have hi := List.idxOf_lt_length_of_mem hm
  have hgi : p[p.idxOf (k : Int)] = (k : Int) := List.getElem_idxOf hi
  rw [List.getElem_set]
  simp only [invUp, List.getElem_map, PM.pts_get]
  by_cases hjk : p[j].toNat = k
  · rw [if_pos hjk]
    have : p.idxOf (k : Int) = j := PM.nodup_inj h.2 hi hj (by rw [hgi]; omega)
    rw [this, if_pos (by omega)]
  · rw [if_neg hjk]
    have : p.idxOf (k : Int) ≠ j := by
      intro he
      apply hjk
      have : p[j] = (k : Int) := by rw [← hgi]; congr 1; exact he.symm
      omega
    by_cases hlt : p.idxOf (k : Int) < j
    · rw [if_pos hlt, if_pos (by omega)]
    · rw [if_neg hlt, if_neg (by omega)]
theorem madeArr {B : Nat} {e : TypeId} {w : World} {g m : Nat} (h : w.ownsRow B e 1 (.slice (some ⟨g, 0, none⟩) m m) m (List.replicate m (.int .i64 0))) : Arr B e w g m (List.replicate m 0) := by
  unfold Arr; rwa [List.map_replicate]
theorem inv_i64 {p : List Int} (hl : p.length ≤ 1000) : ∀ x ∈ PM.inv p, I64 x := by
  intro x hx
  unfold PM.inv at hx
  obtain ⟨y, -, rfl⟩ := List.mem_map.1 hx
  have := List.idxOf_le_length (a := y) (l := p)
  unfold I64; omega

set_option maxHeartbeats 1000000 in
theorem specInverse0_any (a : Option Addr) (cap : Nat) (p : List Int) (fp : List Nat) (w : World) (h : IntsA w a cap p fp) (hp : PM.IsP p) (hl : p.length ≤ 1000) :
    Calls Tryz.prog 104 #[.slice a p.length cap] w fun e w' => ∃ v fp', e = .returned v ∧ Rd w' v (PM.inv p) fp' ∧ Fresh w.heap.size w' fp' ∧ Only [] w w' := by
  obtain ⟨i0, hi, hz0, hz1, hz2⟩ := info_parts Tryz.info2
  go_enter Tryz.func104, Tryz.ntmps104
  go_wp2_with (at_make; refine wpList_make_full _ rfl _ _ 25 rfl w.heap.size 2 i0 _ 1 Tryz.underlying25 hi hz0 hz1 _ _ _ _ p.length rfl rfl rfl rfl (by rw [hz2]; omega) (by unfold maxLen; omega) (Nat.le_refl _) ?_; intro w1 hown hg)
  rw [madeInts, Nat.mul_one] at hown
  have hA := madeArr hown
  clear hown
  go_loopw [4] (fun i wr => ∃ j : Nat, j ≤ p.length ∧ i = .int .i64 j ∧ Arr w.heap.size 2 wr w.heap.size p.length (invUp p j) ∧ Only [] w wr)
    (fun i _ => p.length - (intOf i).toNat)
  case atStart => exact ⟨0, Nat.zero_le _, rfl, by rw [invUp_zero]; exact hA, (Only.refl _ _).grown hg (by simp)⟩
  case round =>
    obtain ⟨j, hj, rfl, hO, hK⟩ := hrel
    by_cases hlt : j < p.length
    · obtain ⟨b, off, rfl, -, hc0⟩ := h.at_ j hlt
      have hc := hK.cell (by simp) hc0
      have hr := hp.1 p[j] (List.getElem_mem _)
      have hO2 := hO.set p[j].toNat j
      rw [invUp_step hp hlt] at hO2
      have hc2 := hO.cell (i := p[j].toNat) (by rw [invUp_len]; omega)
      have hf2 := hO.frozen p[j].toNat
      have hK2 := hK.setCell (p := ⟨w.heap.size, p[j].toNat, none⟩) (by simp) (.int .i64 j)
      obtain ⟨hr0, hr1⟩ := hr
      have HO := Lib.hid hO2
      clear hO hO2 hA hc0
      go_wp2
      go_roundw
      case rel => exact ⟨j + 1, by omega, by go_num, HO.out, hK2⟩
      case measure => simp [intOf]; omega
    · have hjl : j = p.length := by omega
      rw [hjl, invUp_all hp] at hO
      have HO := Lib.hid (hO.rd (inv_i64 hl))
      clear hjl hO hA
      go_wp2
      go_ret
      exact ⟨_, _, rfl, HO.out.1, HO.out.2, hK⟩
set_option maxHeartbeats 1000000 in
theorem implInverse0_any (a : Option Addr) (cap : Nat) (p : List Int) (fp : List Nat) (w : World) (h : IntsA w a cap p fp) (hp : PM.IsP p) (hl : p.length ≤ 1000) :
    Calls Tryz.prog 94 #[.slice a p.length cap] w fun e w' => ∃ v fp', e = .returned v ∧ Rd w' v (PM.inv p) fp' ∧ Fresh w.heap.size w' fp' ∧ Only [] w w' := by
  obtain ⟨i0, hi, hz0, hz1, hz2⟩ := info_parts Tryz.info2
  go_enter Tryz.func94, Tryz.ntmps94
  go_wp2_with (at_make; refine wpList_make_full _ rfl _ _ 25 rfl w.heap.size 2 i0 _ 1 Tryz.underlying25 hi hz0 hz1 _ _ _ _ p.length rfl rfl rfl rfl (by rw [hz2]; omega) (by unfold maxLen; omega) (Nat.le_refl _) ?_; intro w1 hown hg)
  rw [madeInts, Nat.mul_one] at hown
  have hA := madeArr hown
  clear hown
  go_loopw [11] (fun i wr => ∃ j : Nat, j ≤ p.length ∧ i = .int .i64 j ∧ Arr w.heap.size 2 wr w.heap.size p.length (invUp p j) ∧ Only [] w wr)
    (fun i _ => p.length - (intOf i).toNat)
  case atStart => exact ⟨0, Nat.zero_le _, rfl, by rw [invUp_zero]; exact hA, (Only.refl _ _).grown hg (by simp)⟩
  case round =>
    obtain ⟨j, hj, rfl, hO, hK⟩ := hrel
    by_cases hlt : j < p.length
    · obtain ⟨b, off, rfl, -, hc0⟩ := h.at_ j hlt
      have hc := hK.cell (by simp) hc0
      have hr := hp.1 p[j] (List.getElem_mem _)
      have hO2 := hO.set p[j].toNat j
      rw [invUp_step hp hlt] at hO2
      have hc2 := hO.cell (i := p[j].toNat) (by rw [invUp_len]; omega)
      have hf2 := hO.frozen p[j].toNat
      have hK2 := hK.setCell (p := ⟨w.heap.size, p[j].toNat, none⟩) (by simp) (.int .i64 j)
      obtain ⟨hr0, hr1⟩ := hr
      have HO := Lib.hid hO2
      clear hO hO2 hA hc0
      go_wp2
      go_roundw
      case rel => exact ⟨j + 1, by omega, by go_num, HO.out, hK2⟩
      case measure => simp [intOf]; omega
    · have hjl : j = p.length := by omega
      rw [hjl, invUp_all hp] at hO
      have HO := Lib.hid (hO.rd (inv_i64 hl))
      clear hjl hO hA
      go_wp2
      go_ret
      exact ⟨_, _, rfl, HO.out.1, HO.out.2, hK⟩
theorem implInverse0_rd (v : Value) (p : List Int) (fp : List Nat) (w : World) (h : Rd w v p fp) (hp : PM.IsP p) (hl : p.length ≤ 1000) :
    Calls Tryz.prog 94 #[v] w fun e w' => ∃ v fp', e = .returned v ∧ Rd w' v (PM.inv p) fp' ∧ Fresh w.heap.size w' fp' ∧ Only [] w w' := by
  obtain ⟨a, cap, rfl, hI⟩ := h.ints
  exact implInverse0_any a cap p fp w hI hp hl
theorem specInverse0_rd (v : Value) (p : List Int) (fp : List Nat) (w : World) (h : Rd w v p fp) (hp : PM.IsP p) (hl : p.length ≤ 1000) :
    Calls Tryz.prog 104 #[v] w fun e w' => ∃ v fp', e = .returned v ∧ Rd w' v (PM.inv p) fp' ∧ Fresh w.heap.size w' fp' ∧ Only [] w w' := by
  obtain ⟨a, cap, rfl, hI⟩ := h.ints
  exact specInverse0_any a cap p fp w hI hp hl
theorem specInverse_rd (v : Value) (p : List Int) (fp : List Nat) (w : World) (h : Rd w v p fp) (hp : permB p = true) :
    Calls Tryz.prog 100 #[v] w fun e w' => ∃ v fp', e = .returned v ∧ Rd w' v (PM.inv p) fp' ∧ Fresh w.heap.size w' fp' ∧ Only [] w w' := by
  have hp' := permB_iff.1 hp
  go_enter Tryz.func100, Tryz.ntmps100
  go_wp2_with (first | (go_at_call 98; (with_reducible refine (specIsPerm_rd v p _ _ h).mono ?_); rintro e w1 ⟨rfl, n1, rfl⟩) | (go_at_call 104; (with_reducible refine (specInverse0_rd v p _ _ (Rp.keep h (Only.ofDrewN _ _ _)) hp'.2 (by omega)).mono ?_); rintro e w2 ⟨u, f2, rfl, r2, F2, t2⟩))
  go_ret
  exact ⟨_, _, rfl, r2, F2, (by with_reducible repeat (first | exact Only.refl _ _ | assumption | refine Only.drewN ?_ _ | refine Only.drew ?_ | refine Only.alloc ?_ _ | refine Only.setCell ?_ (by intro hh; exfalso; simp at hh; try omega) _ | refine Only.trans ?_ (by assumption)))⟩
set_option maxHeartbeats 1000000 in
theorem picked_rd (v u : Value) (l ix : List Int) (f1 f2 : List Nat) (w : World) (h : Rd w v l f1) (h' : Rd w u ix f2) (hx : ∀ x ∈ ix, 0 ≤ x ∧ x < l.length) (hl : ix.length ≤ 1000) :
    Calls Tryz.prog 61 #[v, u] w fun e w' => ∃ v fp', e = .returned v ∧ Rd w' v (PM.comp ix l) fp' ∧ Fresh w.heap.size w' fp' ∧ Only [] w w' := by
  obtain ⟨a, cap, rfl, hI⟩ := h.ints
  obtain ⟨a', cap', rfl, hI'⟩ := h'.ints
  have hb := hI.bound
  obtain ⟨i0, hi, hz0, hz1, hz2⟩ := info_parts Tryz.info2
  go_enter Tryz.func61, Tryz.ntmps61
  go_wp2_with (at_make; refine wpList_make_full _ rfl _ _ 25 rfl w.heap.size 2 i0 _ 1 Tryz.underlying25 hi hz0 hz1 _ _ _ _ ix.length rfl rfl rfl rfl (by rw [hz2]; omega) (by unfold maxLen; omega) (Nat.le_refl _) ?_; intro w1 hown hg)
  rw [madeInts, Nat.mul_one] at hown
  have hA := madeArr hown
  clear hown
  go_loopw [13] (fun i wr => ∃ j : Nat, j ≤ ix.length ∧ i = .int .i64 j ∧ Arr w.heap.size 2 wr w.heap.size ix.length ((PM.comp (ix.take j) l) ++ List.replicate (ix.length - j) 0) ∧ Only [] w wr)
    (fun i _ => ix.length - (intOf i).toNat)
  case atStart => exact ⟨0, Nat.zero_le _, rfl, by simpa [PM.comp] using hA, (Only.refl _ _).grown hg (by simp)⟩
  case round =>
    obtain ⟨j, hj, rfl, hO, hK⟩ := hrel
    have hcl : (PM.comp (ix.take j) l).length = j := by rw [PM.comp_len, List.length_take]; omega
    by_cases hlt : j < ix.length
    · obtain ⟨b, off, rfl, -, hc0⟩ := hI'.at_ j hlt
      obtain ⟨hr0, hr1⟩ := hx ix[j] (List.getElem_mem _)
      have hxl : ix[j].toNat < l.length := by omega
      obtain ⟨b2, off2, rfl, -, hd0⟩ := hI.at_ ix[j].toNat hxl
      have hc := hK.cell (by simp) hc0
      have hd := hK.cell (by simp) hd0
      have hstep : (PM.comp (ix.take j) l ++ List.replicate (ix.length - j) 0).set j l[ix[j].toNat] = PM.comp (ix.take (j + 1)) l ++ List.replicate (ix.length - (j + 1)) 0 := by
        have e1 : PM.at_ l ix[j] = l[ix[j].toNat] := by
          have := PM.at_nat l ix[j].toNat hxl
          rwa [show ((ix[j].toNat : Nat) : Int) = ix[j] by omega] at this
        rw [show ix.length - j = (ix.length - (j + 1)) + 1 by omega, List.replicate_succ, List.set_append_right _ _ (by omega), hcl, Nat.sub_self, take_succ_get ix j hlt]
        simp only [PM.comp, List.map_append, List.map_cons, List.map_nil, List.append_assoc, List.cons_append, List.nil_append, List.set_cons_zero, e1]
      have hO2 := hO.set j l[ix[j].toNat]
      rw [hstep] at hO2
      obtain ⟨z2, hc2⟩ : ∃ z, wr.cell? ⟨w.heap.size, j, none⟩ = some z := ⟨_, hO.cell (i := j) (by simp [hcl]; omega)⟩
      have hf2 := hO.frozen j
      have hK2 := hK.setCell (p := ⟨w.heap.size, j, none⟩) (by simp) (.int .i64 l[ix[j].toNat])
      have HO := Lib.hid hO2
      clear hO hO2 hA hc0 hd0 hstep hcl
      go_wp2
      go_roundw
      case rel => exact ⟨j + 1, by omega, by go_num, HO.out, hK2⟩
      case measure => simp [intOf]; omega
    · have hjl : j = ix.length := by omega
      rw [hjl] at hO
      simp only [Nat.sub_self, List.replicate_zero, List.append_nil, List.take_length] at hO
      have hw : ∀ x ∈ PM.comp ix l, I64 x := by
        intro x hxm
        obtain ⟨y, hy, rfl⟩ := List.mem_map.1 hxm
        have := hx y hy
        exact hI.wf _ (PM.at_mem this.1 this.2)
      have HO := Lib.hid (hO.rd hw)
      clear hjl hO hA hcl hw
      go_wp2
      go_ret
      exact ⟨_, _, rfl, HO.out.1, HO.out.2, hK⟩
set_option maxHeartbeats 1000000 in
/-- a move, or its inverse: old memory, or new -/
theorem letterOf_rd (v : Value) (gens : List (List Int)) (l : Int) (fp : List Nat) (w : World) (h : Rd w v gens fp) (hg : ∀ g ∈ gens, PM.IsP g ∧ g.length ≤ 1000) (hl : l ∈ ltrs gens.length) (hn : gens.length ≤ 1000) :
    Calls Tryz.prog 80 #[v, .int .i64 l] w fun e w' => ∃ v fp', e = .returned v ∧ Rd w' v (mv gens l) fp' ∧ (∀ b ∈ fp', b ∈ fp ∨ w.heap.size ≤ b) ∧ Only [] w w' := by
  obtain ⟨a, cap, ob, fps, rfl, rfl, hs⟩ := h.open_
  have hb := hs.bound
  rcases letter_cases hl with ⟨k, hk, rfl⟩ | ⟨k, hk, rfl⟩
  · have hm := mv_pos rfl hk
    have Hm := Lib.hid hm; clear hm
    obtain ⟨b, off, u, rfl, hob, hc, hu⟩ := hs.atRow k hk
    have e1 : wrap64 ((k : Int) + 1 - 1) = (k : Int) := wrap64_lit _ (by omega) (by omega) |>.trans (by omega)
    have e2 : (0 : Int) < (k : Int) + 1 := by omega
    go_enter Tryz.func80, Tryz.ntmps80
    go_wp2
    go_ret
    refine ⟨_, _, rfl, by rw [Hm.out]; exact hu, fun b' hb' => ?_, (by with_reducible repeat (first | exact Only.refl _ _ | assumption | refine Only.drewN ?_ _ | refine Only.drew ?_ | refine Only.alloc ?_ _ | refine Only.setCell ?_ (by intro hh; exfalso; simp at hh; try omega) _ | refine Only.trans ?_ (by assumption)))⟩
    left
    exact List.mem_append_right _ (List.mem_flatten.2 ⟨_, List.getElem_mem _, hb'⟩)
  · have hm := mv_neg rfl hk
    have Hm := Lib.hid hm; clear hm
    obtain ⟨b, off, u, rfl, hob, hc, hu⟩ := hs.atRow k hk
    have e1 : wrap64 (wrap64 (-(-((k : Int) + 1))) - 1) = (k : Int) := by
      rw [wrap64_lit (-(-((k : Int) + 1))) (by omega) (by omega), wrap64_lit _ (by omega) (by omega)]; omega
    have e2 : ¬ (0 : Int) < -((k : Int) + 1) := by omega
    have hg2 := hg _ (List.getElem_mem hk)
    go_enter Tryz.func80, Tryz.ntmps80
    go_wp2_with ((go_at_call 94; (with_reducible refine (implInverse0_rd u gens[k] _ _ hu hg2.1 hg2.2).mono ?_); rintro e w2 ⟨u2, f2, rfl, r2, F2, t2⟩))
    go_ret
    exact ⟨_, _, rfl, by rw [Hm.out]; exact r2, fun b' hb' => .inr (F2.ge b' hb'), (by with_reducible repeat (first | exact Only.refl _ _ | assumption | refine Only.drewN ?_ _ | refine Only.drew ?_ | refine Only.alloc ?_ _ | refine Only.setCell ?_ (by intro hh; exfalso; simp at hh; try omega) _ | refine Only.trans ?_ (by assumption)))⟩
set_option maxHeartbeats 1000000 in
theorem letters_any (m : Nat) (w : World) (hm : m ≤ 1000) :
    Calls Tryz.prog 79 #[.int .i64 m] w fun e w' => ∃ v fp', e = .returned v ∧ Rd w' v (ltrs m) fp' ∧ Fresh w.heap.size w' fp' ∧ Only [] w w' := by
  obtain ⟨i0, hi, hz0, hz1, hz2⟩ := info_parts Tryz.info2
  go_enter Tryz.func79, Tryz.ntmps79
  go_wp2
  go_loopw [3, 6] (fun o i wr => ∃ j : Nat, j ≤ m ∧ i = .int .i64 j ∧ wr.ownsRow w.heap.size 2 1 o (ltrs j).length ((ltrs j).map (Value.int .i64)) ∧ Only [] w wr)
    (fun _ i _ => m - (intOf i).toNat)
  case atStart => exact ⟨0, Nat.zero_le _, rfl, World.ownsRow_nil w _ _ _, Only.refl _ _⟩
  case round =>
    obtain ⟨j, hj, rfl, hO, hK⟩ := hrel
    by_cases hlt : j < m
    · have hsz := hK.size
      have hlj : (ltrs j).length ≤ 2000 := by rw [ltrs_len]; omega
      go_wp2_with (at_builtin; refine wpList_app _ rfl _ _ 25 rfl w.heap.size 2 i0 _ 1 8 Tryz.underlying25 hi hz0 hz1 hz2 rfl (by omega) _ (ltrs j).length _ rfl (hO.alloc _) (some ⟨wr.heap.size, 0, none⟩) 2 2 [.int .i64 ((j : Int) + 1), .int .i64 (-((j : Int) + 1))] rfl rfl (lit_srcA wr [.int .i64 ((j : Int) + 1), .int .i64 (-((j : Int) + 1))] _ rfl) (by simp) (by intro u hu; simp at hu; rcases hu with rfl | rfl <;> rfl) (by unfold maxLen; omega) (by omega) (by simp; omega) ?_; intro v1 w1 hO1 hg1 hb1)
      go_roundw
      case rel => exact ⟨j + 1, by omega, by go_num, by simpa [ltrs] using hO1, (hK.alloc _).grown hg1 (by intro k hk hk2; have := (hO.lt k hk).1; omega)⟩
      case measure => simp [intOf]; omega
    · have hjl : j = m := by omega
      rw [hjl] at hO
      have hw : ∀ x ∈ ltrs m, I64 x := fun x hx => by have := mem_ltrs.1 hx; unfold I64; omega
      obtain ⟨a', cap', hv, -, hI, hF⟩ := own_ints hO hw
      have HI := Lib.hid hI
      have Hv := Lib.hid hv
      clear hjl hO hv hI hw
      go_wp2
      go_ret
      refine ⟨_, _, rfl, ?_, hF, hK⟩
      have hr := HI.out.rd
      rw [← Hv.out] at hr; exact hr
end Go.Proofs.YtkhdmiemfpelcaaGreat

namespace Go.Proofs.YtkhdmiemfpelcaaGreat
open Go.RowKit
set_option maxRecDepth 10000
open Go.Maps (Keyed)

/-- the key of a list: a byte each -/
def kB (l : List Int) : ByteArray := strOfNums (l.map fun x => x % 256)
theorem kB_size (l : List Int) : (kB l).size = l.length := by unfold kB; rw [strOfNums_size, List.length_map]
theorem kB_inj : ∀ {l l' : List Int}, (∀ x ∈ l, 0 ≤ x ∧ x < 256) → (∀ x ∈ l', 0 ≤ x ∧ x < 256) → kB l = kB l' → l = l' := by
  intro l l' h h' he
  have hd : (kB l).data.toList = (kB l').data.toList := by rw [he]
  unfold kB at hd
  rw [strOfNums_data, strOfNums_data, List.map_map, List.map_map] at hd
  clear he
  induction l generalizing l' with
  | nil => cases l' with
    | nil => rfl
    | cons y l' => simp at hd
  | cons x l ih => cases l' with
    | nil => simp at hd
    | cons y l' =>
      simp only [List.map_cons, List.cons.injEq] at hd
      have hx := h x (by simp); have hy := h' y (by simp)
      have e1 : x % 256 = x := Int.emod_eq_of_lt hx.1 hx.2
      have e2 : y % 256 = y := Int.emod_eq_of_lt hy.1 hy.2
      have h1 := hd.1
      simp only [Function.comp, e1, e2] at h1
      have h2 := congrArg UInt8.toNat h1
      rw [UInt8.toNat_ofNat', UInt8.toNat_ofNat'] at h2
      have : x = y := by omega
      subst this
      rw [ih (fun z hz => h z (by simp [hz])) (fun z hz => h' z (by simp [hz])) hd.2]
theorem kB_eq {l l' : List Int} (h : ∀ x ∈ l, 0 ≤ x ∧ x < 256) (h' : ∀ x ∈ l', 0 ≤ x ∧ x < 256) : kB l = kB l' ↔ l = l' := ⟨kB_inj h h', fun e => by rw [e]⟩

theorem Tryz.lawStr : Keyed Tryz.prog 9 := Go.Maps.string_keyed Tryz.underlying9
/-- block M is a map of at most k entries; g: what lies at a key -/
def Mp (w : World) (M k : Nat) (g : ByteArray → Option Int) : Prop :=
  ∃ D : DataW Unit, w.ownsMap Tryz.prog 9 (plainElem Tryz.prog 3) M k D ∧ ∀ s : ByteArray, s.size ≤ maxLen →
    Go.Maps.has D (.string s.data.toList) = (g s).isSome ∧ ∀ n, g s = some n → D.atKey (.string s.data.toList) (.lit (.int .i64 0)) = .lit (.int .i64 n)
theorem Mp.lt {w : World} {M k : Nat} {g : ByteArray → Option Int} (h : Mp w M k g) : M < w.heap.size := by
  obtain ⟨D, h1, -⟩ := h; exact h1.lt
theorem Mp.frame {w w' : World} {M k : Nat} {g : ByteArray → Option Int} (h : Mp w M k g) (hf : w'.heap[M]? = w.heap[M]?) : Mp w' M k g := by
  obtain ⟨D, ⟨es, c, h1, h2⟩, h3⟩ := h
  exact ⟨D, ⟨es, c, by rw [hf]; exact h1, h2⟩, h3⟩
theorem Mp.only {w w' : World} {fp : List Nat} {M k : Nat} {g : ByteArray → Option Int} (h : Mp w M k g) (ho : Only fp w w') (hn : M ∉ fp) : Mp w' M k g := h.frame (ho.block M h.lt hn)
theorem Mp.keep {w w' : World} {M k : Nat} {g : ByteArray → Option Int} (h : Mp w M k g) (ho : Only [] w w') : Mp w' M k g := h.only ho (by simp)
theorem Mp.made (w : World) {M : Nat} (hM : M = w.heap.size) : Mp (w.alloc (.map #[] 0)) M 0 (fun _ => none) := by
  subst hM
  exact ⟨.map [], World.ownsMap_made _ _ _ _, fun s _ => ⟨rfl, by simp⟩⟩
theorem Mp.congr {w : World} {M k : Nat} {g g' : ByteArray → Option Int} (h : Mp w M k g) (hg : ∀ s, g s = g' s) : Mp w M k g' := by
  have : g = g' := funext hg
  rw [← this]; exact h
section
variable {w : World} {M k : Nat} {g : ByteArray → Option Int}
end

theorem Tryz.infoByte : (Tryz.prog.info? 5).map (fun i => (i.zero, i.size, i.bytes)) = some (some (.int .u8 0), 1, 1) := by kernel_rfl
theorem madeBytes (n : Nat) : (madeCells (Value.cells (.int .u8 0)) n).toList = List.replicate n (.int .u8 0) := by
  apply List.ext_getElem (by simp [madeCells])
  intro i h1 h2
  simp [madeCells, Value.cells, Nat.mod_one]
theorem step_bytes (l : List Int) (j : Nat) (hj : j < l.length) : ((l.take j).map (fun x => Value.int .u8 (x % 256)) ++ List.replicate (l.length - j) (Value.int .u8 0)).set j (.int .u8 (l[j] % 256)) = (l.take (j + 1)).map (fun x => Value.int .u8 (x % 256)) ++ List.replicate (l.length - (j + 1)) (.int .u8 0) := by
  have hl : ((l.take j).map (fun x => Value.int .u8 (x % 256))).length = j := by rw [List.length_map, List.length_take]; omega
  rw [show l.length - j = (l.length - (j + 1)) + 1 by omega, List.replicate_succ, List.set_append_right _ _ (by omega), hl, Nat.sub_self, take_succ_get l j hj]
  simp only [List.map_append, List.map_cons, List.map_nil, List.append_assoc, List.cons_append, List.nil_append, List.set_cons_zero]
set_option maxHeartbeats 1000000 in
theorem stateKey_rd (v : Value) (l : List Int) (fp : List Nat) (w : World) (h : Rd w v l fp) (hl : l.length ≤ 1000) :
    Calls Tryz.prog 62 #[v] w fun e w' => e = .returned (.string (kB l)) ∧ Only [] w w' := by
  obtain ⟨a, cap, rfl, hI⟩ := h.ints
  obtain ⟨i0, hi, hz0, hz1, hz2⟩ := info_parts Tryz.infoByte
  go_enter Tryz.func62, Tryz.ntmps62
  go_wp2_with (at_make; refine wpList_make_full _ rfl _ _ 100 rfl w.heap.size 5 i0 _ 1 Tryz.underlying100 hi hz0 hz1 _ _ _ _ l.length rfl rfl rfl rfl (by rw [hz2]; omega) (by unfold maxLen; omega) (Nat.le_refl _) ?_; intro w1 hown hg)
  rw [madeBytes, Nat.mul_one] at hown
  go_loopw [11] (fun i wr => ∃ j : Nat, j ≤ l.length ∧ i = .int .i64 j ∧
      wr.ownsRow w.heap.size 5 1 (.slice (some ⟨w.heap.size, 0, none⟩) l.length l.length) l.length ((l.take j).map (fun x => Value.int .u8 (x % 256)) ++ List.replicate (l.length - j) (.int .u8 0)) ∧ Only [] w wr)
    (fun i _ => l.length - (intOf i).toNat)
  case atStart => exact ⟨0, Nat.zero_le _, rfl, by simpa using hown, (Only.refl _ _).grown hg (by simp)⟩
  case round =>
    obtain ⟨j, hj, rfl, hO, hK⟩ := hrel
    by_cases hlt : j < l.length
    · obtain ⟨b, off, rfl, -, hc0⟩ := hI.at_ j hlt
      have hc := hK.cell (by simp) hc0
      have hO2 := (hO.stored j (.int .u8 (l[j] % 256))).1
      rw [step_bytes l j hlt] at hO2
      obtain ⟨z2, hc2⟩ : ∃ z, wr.cell? ⟨w.heap.size, j, none⟩ = some z := by
        rw [hO.cellAt j (by omega)]
        exact ⟨_, List.getElem?_eq_getElem (by simp; omega)⟩
      have hf2 := hO.frozenAt j
      have hK2 := hK.setCell (p := ⟨w.heap.size, j, none⟩) (by simp) (.int .u8 (l[j] % 256))
      have HO := Lib.hid hO2
      clear hO hO2 hown hc0
      go_wp2
      go_roundw
      case rel => exact ⟨j + 1, by omega, by go_num, HO.out, hK2⟩
      case measure => simp [intOf]; omega
    · have hjl : j = l.length := by omega
      rw [hjl] at hO
      simp only [Nat.sub_self, List.replicate_zero, List.append_nil, List.take_length] at hO
      have hcv := run_convert_bytes_arg (P := Tryz.prog) wr 100 5 Tryz.underlying100 Tryz.underlying5 w.heap.size 0 l.length l.length (l.map fun x => x % 256) (by simp) (fun i hi => by
        rw [Nat.zero_add, hO.cellAt i (by omega)]
        simp [hi]) 9 Tryz.underlying9
      have hKB : strOfNums (l.map fun x => x % 256) = kB l := rfl
      rw [hKB] at hcv
      clear hjl hO hown hKB
      go_wp2
      go_ret
      exact ⟨rfl, hK⟩
end Go.Proofs.YtkhdmiemfpelcaaGreat

namespace Go.Proofs.YtkhdmiemfpelcaaGreat
open Go.RowKit
set_option maxRecDepth 10000

def ckF (s : Int × Int) (x : Int) : Int × Int := ((s.1 + x) % 65521, (s.2 + (s.1 + x) % 65521) % 65521)
def ckL (l : List Int) : Int × Int := l.foldl ckF (1, 0)
def csum (s : ByteArray) : Int := (ckL (bl s)).2 * 65536 + (ckL (bl s)).1
theorem ckL_snoc (l : List Int) (x : Int) : ckL (l ++ [x]) = ckF (ckL l) x := by simp [ckL, List.foldl_append]
theorem ckF_rng (s : Int × Int) (x : Int) : (0 ≤ (ckF s x).1 ∧ (ckF s x).1 < 65521) ∧ 0 ≤ (ckF s x).2 ∧ (ckF s x).2 < 65521 := by unfold ckF; simp only; omega
theorem ck_foldl_rng : ∀ (l : List Int) (s : Int × Int), ((0 ≤ s.1 ∧ s.1 < 65521) ∧ 0 ≤ s.2 ∧ s.2 < 65521) → ((0 ≤ (l.foldl ckF s).1 ∧ (l.foldl ckF s).1 < 65521) ∧ 0 ≤ (l.foldl ckF s).2 ∧ (l.foldl ckF s).2 < 65521)
  | [], _, h => h
  | x :: l, s, _ => ck_foldl_rng l (ckF s x) (ckF_rng s x)
theorem ckL_rng (l : List Int) : (0 ≤ (ckL l).1 ∧ (ckL l).1 < 65521) ∧ 0 ≤ (ckL l).2 ∧ (ckL l).2 < 65521 := ck_foldl_rng l (1, 0) (by decide)
theorem csum_rng (s : ByteArray) : 0 ≤ csum s ∧ csum s < 4294967296 := by have := ckL_rng (bl s); unfold csum; omega
theorem tmod_pos {a b : Int} (h : 0 ≤ a) : Int.tmod a b = a % b := Int.tmod_eq_emod_of_nonneg h

set_option maxHeartbeats 1000000 in
theorem specChecksum_any (s : ByteArray) (w : World) (hs : s.size ≤ maxLen) :
    Calls Tryz.prog 54 #[.string s] w fun e w' => e = .returned (.int .i64 (csum s)) ∧ Drew w w' := by
  unfold maxLen at hs
  go_enter Tryz.func54, Tryz.ntmps54
  go_wp2
  go_loopw [3, 4, 5] (fun a b t wr => ∃ j : Nat, j ≤ s.size ∧ t = .int .i64 j ∧ a = .int .i64 (ckL ((bl s).take j)).1 ∧ b = .int .i64 (ckL ((bl s).take j)).2 ∧ Drew w wr)
    (fun _ _ t _ => s.size - (intOf t).toNat)
  case atStart => exact ⟨0, Nat.zero_le _, rfl, rfl, rfl, Drew.refl _⟩
  case round =>
    obtain ⟨j, hj, rfl, rfl, rfl, k, rfl⟩ := hrel
    have hr := ckL_rng ((bl s).take j)
    by_cases hlt : j < s.size
    · have hj1 : (0 : Int) ≤ (j : Int) := by omega
      have hj2 : (j : Int) < (s.size : Int) := by omega
      have hbj : (bl s)[j]'(by rw [bl_len]; exact hlt) = (s[j].toNat : Int) := bl_get s j hlt _
      have hst : ckL ((bl s).take (j + 1)) = ckF (ckL ((bl s).take j)) (s[j].toNat : Int) := by rw [take_succ_get (bl s) j (by rw [bl_len]; exact hlt), ckL_snoc, hbj]
      have hx := UInt8.toNat_lt s[j]
      have hw : wrap64 (s[j].toNat : Int) = (s[j].toNat : Int) := wrap64_small _ (by omega) (by omega)
      generalize hA : (ckL ((bl s).take j)).1 = A at *
      generalize hB : (ckL ((bl s).take j)).2 = B at *
      have hst1 : (ckL ((bl s).take (j + 1))).1 = (A + (s[j].toNat : Int)) % 65521 := by rw [hst]; unfold ckF; rw [hA]
      have hst2 : (ckL ((bl s).take (j + 1))).2 = (B + (A + (s[j].toNat : Int)) % 65521) % 65521 := by rw [hst]; unfold ckF; rw [hA, hB]
      have Hst1 := Lib.hid hst1; have Hst2 := Lib.hid hst2; clear hst hst1 hst2 hbj
      have HA := Lib.hid hA; have HB := Lib.hid hB; clear hA hB
      have e1 : Int.tmod (A + (s[j].toNat : Int)) 65521 = (A + (s[j].toNat : Int)) % 65521 := tmod_pos (by omega)
      have e2 : Int.tmod (B + (A + (s[j].toNat : Int)) % 65521) 65521 = (B + (A + (s[j].toNat : Int)) % 65521) % 65521 := tmod_pos (by omega)
      go_wp2
      go_roundw
      case rel => exact ⟨j + 1, by omega, by go_num, by rw [Hst1.out], by rw [Hst2.out]; congr 1; omega, ⟨_, rfl⟩⟩
      case measure => simp [intOf]; omega
    · have he : csum s = (ckL ((bl s).take j)).2 * 65536 + (ckL ((bl s).take j)).1 := by unfold csum; rw [List.take_of_length_le (by rw [bl_len]; omega)]
      have He := Lib.hid he; clear he
      go_wp2
      go_ret
      exact ⟨ret_int He.out.symm, ⟨_, rfl⟩⟩
set_option maxHeartbeats 1000000 in
theorem implChecksum_any (s : ByteArray) (w : World) (hs : s.size ≤ maxLen) :
    Calls Tryz.prog 65 #[.string s] w fun e w' => e = .returned (.int .i64 (csum s)) ∧ Drew w w' := by
  unfold maxLen at hs
  go_enter Tryz.func65, Tryz.ntmps65
  go_wp2
  go_loopw [3, 4, 8] (fun a b t wr => ∃ j : Nat, j ≤ s.size ∧ t = .int .i64 j ∧ a = .int .i64 (ckL ((bl s).take j)).1 ∧ b = .int .i64 (ckL ((bl s).take j)).2 ∧ Drew w wr)
    (fun _ _ t _ => s.size - (intOf t).toNat)
  case atStart => exact ⟨0, Nat.zero_le _, rfl, rfl, rfl, Drew.refl _⟩
  case round =>
    obtain ⟨j, hj, rfl, rfl, rfl, k, rfl⟩ := hrel
    have hr := ckL_rng ((bl s).take j)
    by_cases hlt : j < s.size
    · have hj1 : (0 : Int) ≤ (j : Int) := by omega
      have hj2 : (j : Int) < (s.size : Int) := by omega
      have hbj : (bl s)[j]'(by rw [bl_len]; exact hlt) = (s[j].toNat : Int) := bl_get s j hlt _
      have hst : ckL ((bl s).take (j + 1)) = ckF (ckL ((bl s).take j)) (s[j].toNat : Int) := by rw [take_succ_get (bl s) j (by rw [bl_len]; exact hlt), ckL_snoc, hbj]
      have hx := UInt8.toNat_lt s[j]
      have hw : wrap64 (s[j].toNat : Int) = (s[j].toNat : Int) := wrap64_small _ (by omega) (by omega)
      generalize hA : (ckL ((bl s).take j)).1 = A at *
      generalize hB : (ckL ((bl s).take j)).2 = B at *
      have hst1 : (ckL ((bl s).take (j + 1))).1 = (A + (s[j].toNat : Int)) % 65521 := by rw [hst]; unfold ckF; rw [hA]
      have hst2 : (ckL ((bl s).take (j + 1))).2 = (B + (A + (s[j].toNat : Int)) % 65521) % 65521 := by rw [hst]; unfold ckF; rw [hA, hB]
      have Hst1 := Lib.hid hst1; have Hst2 := Lib.hid hst2; clear hst hst1 hst2 hbj
      have HA := Lib.hid hA; have HB := Lib.hid hB; clear hA hB
      have e1 : Int.tmod (A + (s[j].toNat : Int)) 65521 = (A + (s[j].toNat : Int)) % 65521 := tmod_pos (by omega)
      have e2 : Int.tmod (B + (A + (s[j].toNat : Int)) % 65521) 65521 = (B + (A + (s[j].toNat : Int)) % 65521) % 65521 := tmod_pos (by omega)
      go_wp2
      go_roundw
      case rel => exact ⟨j + 1, by omega, by go_num, by rw [Hst1.out], by rw [Hst2.out]; congr 1; omega, ⟨_, rfl⟩⟩
      case measure => simp [intOf]; omega
    · have he : csum s = (ckL ((bl s).take j)).2 * 65536 + (ckL ((bl s).take j)).1 := by unfold csum; rw [List.take_of_length_le (by rw [bl_len]; omega)]
      have He := Lib.hid he; clear he
      go_wp2
      go_ret
      exact ⟨ret_int He.out.symm, ⟨_, rfl⟩⟩
end Go.Proofs.YtkhdmiemfpelcaaGreat

namespace Go.Proofs.YtkhdmiemfpelcaaGreat
open Go.RowKit
set_option maxRecDepth 10000

/-- the bytes of a number, the upper ones first -/
def nbL (n : Int) (k : Nat) : List Int := (List.range k).map fun i => n / 2 ^ (8 * (k - 1 - i))
def nbB (n : Int) (k : Nat) : ByteArray := kB (nbL n k)
theorem nbL_len (n : Int) (k : Nat) : (nbL n k).length = k := by simp [nbL]
theorem nbL_get (n : Int) (k i : Nat) (h : i < (nbL n k).length) : (nbL n k)[i] = n / 2 ^ (8 * (k - 1 - i)) := by simp [nbL]
theorem step_bytesK (l : List Int) (k : Nat) (hk : l.length = k) (j : Nat) (hj : j < k) : ((l.take j).map (fun x => Value.int .u8 (x % 256)) ++ List.replicate (k - j) (Value.int .u8 0)).set j (.int .u8 (l[j]'(by omega) % 256)) = (l.take (j + 1)).map (fun x => Value.int .u8 (x % 256)) ++ List.replicate (k - (j + 1)) (.int .u8 0) := by
  subst hk
  exact step_bytes l j hj

set_option maxHeartbeats 1000000 in
theorem number_any (n : Int) (k : Nat) (w : World) (_ : I64 n) (hk : k ≤ 8) :
    Calls Tryz.prog 64 #[.int .i64 n, .int .i64 k] w fun e w' => e = .returned (.string (nbB n k)) ∧ Only [] w w' := by
  obtain ⟨i0, hi, hz0, hz1, hz2⟩ := info_parts Tryz.infoByte
  have hl : (nbL n k).length = k := nbL_len n k
  go_enter Tryz.func64, Tryz.ntmps64
  go_wp2_with (at_make; refine wpList_make_full _ rfl _ _ 100 rfl w.heap.size 5 i0 _ 1 Tryz.underlying100 hi hz0 hz1 _ _ _ _ k rfl rfl rfl rfl (by rw [hz2]; omega) (by unfold maxLen; omega) (Nat.le_refl _) ?_; intro w1 hown hg)
  rw [madeBytes, Nat.mul_one] at hown
  go_loopw [11] (fun i wr => ∃ j : Nat, j ≤ k ∧ i = .int .i64 j ∧
      wr.ownsRow w.heap.size 5 1 (.slice (some ⟨w.heap.size, 0, none⟩) k k) k (((nbL n k).take j).map (fun x => Value.int .u8 (x % 256)) ++ List.replicate (k - j) (.int .u8 0)) ∧ Only [] w wr)
    (fun i _ => k - (intOf i).toNat)
  case atStart => exact ⟨0, Nat.zero_le _, rfl, by simpa using hown, (Only.refl _ _).grown hg (by simp)⟩
  case round =>
    obtain ⟨j, hj, rfl, hO, hK⟩ := hrel
    by_cases hlt : j < k
    · have hO2 := (hO.stored j (.int .u8 (n / 2 ^ (8 * (k - 1 - j)) % 256))).1
      have hst := step_bytesK (nbL n k) k hl j hlt
      rw [nbL_get] at hst
      rw [hst] at hO2
      obtain ⟨z2, hc2⟩ : ∃ z, wr.cell? ⟨w.heap.size, j, none⟩ = some z := by
        rw [hO.cellAt j (by omega)]
        exact ⟨_, List.getElem?_eq_getElem (by simp; omega)⟩
      have hf2 := hO.frozenAt j
      have hK2 := hK.setCell (p := ⟨w.heap.size, j, none⟩) (by simp) (.int .u8 (n / 2 ^ (8 * (k - 1 - j)) % 256))
      have HO := Lib.hid hO2
      clear hO hO2 hown hst
      go_wp2
      go_roundw
      case rel => exact ⟨j + 1, by omega, by go_num, HO.out, hK2⟩
      case measure => simp [intOf]; omega
    · have hjl : j = k := by omega
      rw [hjl] at hO
      simp only [Nat.sub_self, List.replicate_zero, List.append_nil] at hO
      rw [List.take_of_length_le (by omega)] at hO
      have hcv := run_convert_bytes_arg (P := Tryz.prog) wr 100 5 Tryz.underlying100 Tryz.underlying5 w.heap.size 0 k k ((nbL n k).map fun x => x % 256) (by simp [hl]) (fun i hi => by
        rw [Nat.zero_add, hO.cellAt i (by omega)]
        simp [hl, hi]) 9 Tryz.underlying9
      have hKB : strOfNums ((nbL n k).map fun x => x % 256) = nbB n k := rfl
      rw [hKB] at hcv
      clear hjl hO hown hKB
      go_wp2
      go_ret
      exact ⟨rfl, hK⟩
theorem and255 {x : Int} (h0 : 0 ≤ x) (h1 : x < 4294967296) : bits BinOp.and IntKind.i64 x 255 = x % 256 := by
  obtain ⟨m, rfl⟩ := Int.eq_ofNat_of_zero_le h0
  have h1' : (BitVec.ofInt 64 (m : Int)).toNat = m := by
    rw [BitVec.ofInt_natCast, BitVec.toNat_ofNat]; exact Nat.mod_eq_of_lt (by omega)
  show IntKind.i64.wrap ((BitVec.ofInt 64 (m : Int) &&& BitVec.ofInt 64 255).toNat : Int) = _
  rw [BitVec.toNat_and, h1', show (BitVec.ofInt 64 255).toNat = 2 ^ 8 - 1 by decide, Nat.and_two_pow_sub_one_eq_mod]
  rw [IntKind.wrap_i64]
  omega
theorem nbL4 (n : Int) : (nbL n 4).map (fun x => x % 256) = [n / 16777216 % 256, n / 65536 % 256, n / 256 % 256, n % 256] := by
  simp [nbL, List.range_succ]
set_option maxHeartbeats 1000000 in
theorem l29Uint32_any (n : Int) (w : World) (h0 : 0 ≤ n) (h1 : n < 4294967296) :
    Calls Tryz.prog 53 #[.int .i64 n] w fun e w' => e = .returned (.string (nbB n 4)) ∧ Only [] w w' := by
  have e1 := and255 (x := n / 16777216) (by omega) (by omega)
  have e2 := and255 (x := n / 65536) (by omega) (by omega)
  have e3 := and255 (x := n / 256) (by omega) (by omega)
  have e4 := and255 (x := n) (by omega) (by omega)
  have hcv := run_convert_bytes_arg (P := Tryz.prog) (w.alloc (.cells #[.int .u8 (n / 16777216 % 256), .int .u8 (n / 65536 % 256), .int .u8 (n / 256 % 256), .int .u8 (n % 256)] 5)) 100 5 Tryz.underlying100 Tryz.underlying5 w.heap.size 0 4 4 ((nbL n 4).map fun x => x % 256) (by simp [nbL]) (fun i hi => by
    rw [nbL4]
    match i, hi with
    | 0, _ => simp
    | 1, _ => simp
    | 2, _ => simp
    | 3, _ => simp) 9 Tryz.underlying9
  have hKB : strOfNums ((nbL n 4).map fun x => x % 256) = nbB n 4 := rfl
  rw [hKB] at hcv
  clear hKB
  go_enter Tryz.func53, Tryz.ntmps53
  go_wp2
  go_ret
  exact ⟨rfl, (by with_reducible repeat (first | exact Only.refl _ _ | assumption | refine Only.drewN ?_ _ | refine Only.drew ?_ | refine Only.alloc ?_ _ | refine Only.setCell ?_ (by intro hh; exfalso; simp at hh; try omega) _ | refine Only.trans ?_ (by assumption)))⟩
end Go.Proofs.YtkhdmiemfpelcaaGreat

namespace Go.Proofs.YtkhdmiemfpelcaaGreat
open Go.RowKit
set_option maxRecDepth 10000

set_option maxHeartbeats 400000 in
theorem equalInts_any (a a' : Option Addr) (cap cap' : Nat) (l l' : List Int) (fp fp' : List Nat) (w : World) (h : IntsA w a cap l fp) (h' : IntsA w a' cap' l' fp') :
    Calls Tryz.prog 74 #[.slice a l.length cap, .slice a' l'.length cap'] w fun e w' => e = .returned (.bool (eqV l l')) ∧ Drew w w' := by
  have hb := h.bound
  have hb' := h'.bound
  by_cases hl : l.length = l'.length
  · have hne : ((l.length : Int) != (l'.length : Int)) = false := by simp [hl]
    have Hl := Lib.hid hl; clear hl
    go_enter Tryz.func74, Tryz.ntmps74
    go_wp2
    go_loopw [5] (fun i wr => ∃ j : Nat, j ≤ l.length ∧ i = .int .i64 j ∧ l.take j = l'.take j ∧ Drew w wr)
      (fun i _ => l.length - (intOf i).toNat)
    case atStart => exact ⟨0, Nat.zero_le _, rfl, rfl, Drew.refl _⟩
    case round =>
      obtain ⟨j, hj, rfl, hr, n, rfl⟩ := hrel
      have Hr := Lib.hid hr; clear hr
      by_cases hlt : j < l.length
      · have hlt' : j < l'.length := by have := Hl.out; omega
        obtain ⟨b, off, ha, -, hc⟩ := h.at_ j hlt
        obtain ⟨b', off', ha', -, hc'⟩ := h'.at_ j hlt'
        go_wp2
        go_quiet (fail)
        go_wp2
        · have hne : (l[j] != l'[j]) = true := by assumption
          go_ret
          exact ⟨ret_bool (eqInts_no hlt hlt' hne).symm, ((Drew.refl _).drewN _).drewN _⟩
        · have heq : (l[j] != l'[j]) = false := by assumption
          go_roundw
          case rel => exact ⟨j + 1, by omega, by go_num, eqInts_step hlt hlt' heq Hr.out, ⟨_, rfl⟩⟩
          case measure => simp [intOf]; omega
      · go_wp2
        go_ret
        exact ⟨ret_bool (eqL_yes Hl.out hlt Hr.out).symm, (Drew.refl _).drewN n⟩
  · have hne : ((l.length : Int) != (l'.length : Int)) = true := by simp; omega
    go_enter Tryz.func74, Tryz.ntmps74
    go_wp2
    go_ret
    exact ⟨ret_bool (eqL_len hne).symm, Drew.refl _⟩

theorem equalInts_rd (v v' : Value) (l l' : List Int) (fp fp' : List Nat) (w : World) (h : Rd w v l fp) (h' : Rd w v' l' fp') :
    Calls Tryz.prog 74 #[v, v'] w fun e w' => e = .returned (.bool (eqV l l')) ∧ Drew w w' := by
  obtain ⟨a, cap, rfl, hI⟩ := h.ints
  obtain ⟨a', cap', rfl, hI'⟩ := h'.ints
  exact equalInts_any a a' cap cap' l l' fp fp' w hI hI'

set_option maxHeartbeats 400000 in
theorem Equal_any (a a' : Option Addr) (cap cap' : Nat) (l l' : List Int) (fp fp' : List Nat) (w : World) (h : IntsA w a cap l fp) (h' : IntsA w a' cap' l' fp') :
    Calls Tryz.prog 75 #[.slice a l.length cap, .slice a' l'.length cap'] w fun e w' => e = .returned (.bool (eqV l l')) ∧ Drew w w' := by
  have hb := h.bound
  have hb' := h'.bound
  by_cases hl : l.length = l'.length
  · have hne : ((l.length : Int) != (l'.length : Int)) = false := by simp [hl]
    have Hl := Lib.hid hl; clear hl
    go_enter Tryz.func75, Tryz.ntmps75
    go_wp2
    go_loopw [5, 13] (fun _ i wr => ∃ j : Nat, j ≤ l.length ∧ i = .int .i64 j ∧ l.take j = l'.take j ∧ Drew w wr)
      (fun _ i _ => l.length - (intOf i).toNat)
    case atStart => exact ⟨0, Nat.zero_le _, rfl, rfl, Drew.refl _⟩
    case round =>
      obtain ⟨j, hj, rfl, hr, n, rfl⟩ := hrel
      have Hr := Lib.hid hr; clear hr
      by_cases hlt : j < l.length
      · have hlt' : j < l'.length := by have := Hl.out; omega
        obtain ⟨b, off, ha, -, hc⟩ := h.at_ j hlt
        obtain ⟨b', off', ha', -, hc'⟩ := h'.at_ j hlt'
        go_wp2
        go_quiet (fail)
        go_wp2
        · have hne : (l[j] != l'[j]) = true := by assumption
          go_ret
          exact ⟨ret_bool (eqInts_no hlt hlt' hne).symm, ((Drew.refl _).drewN _).drewN _⟩
        · have heq : (l[j] != l'[j]) = false := by assumption
          go_roundw
          case rel => exact ⟨j + 1, by omega, by go_num, eqInts_step hlt hlt' heq Hr.out, ⟨_, rfl⟩⟩
          case measure => simp [intOf]; omega
      · go_wp2
        go_ret
        exact ⟨ret_bool (eqL_yes Hl.out hlt Hr.out).symm, (Drew.refl _).drewN n⟩
  · have hne : ((l.length : Int) != (l'.length : Int)) = true := by simp; omega
    go_enter Tryz.func75, Tryz.ntmps75
    go_wp2
    go_ret
    exact ⟨ret_bool (eqL_len hne).symm, Drew.refl _⟩

theorem Equal_rd (v v' : Value) (l l' : List Int) (fp fp' : List Nat) (w : World) (h : Rd w v l fp) (h' : Rd w v' l' fp') :
    Calls Tryz.prog 75 #[v, v'] w fun e w' => e = .returned (.bool (eqV l l')) ∧ Drew w w' := by
  obtain ⟨a, cap, rfl, hI⟩ := h.ints
  obtain ⟨a', cap', rfl, hI'⟩ := h'.ints
  exact Equal_any a a' cap cap' l l' fp fp' w hI hI'
set_option maxHeartbeats 1000000 in
/-- slices.EqualFunc over slices of slices: the function says whether two elements are equal -/
theorem EqualFunc_rows (f : FuncId) (caps : Array Value) (hcf : ∀ args w, (callFunc f args).run Tryz.prog w = .ok (.enter f args) w)
    (v v' : Value) (l l' : List (List Int)) (fp fp' : List Nat) (w : World) (h : Rd w v l fp) (h' : Rd w v' l' fp')
    (hc : ∀ (u u' : Value) (x x' : List Int) (f1 f1' : List Nat) (w' : World), Rd w' u x f1 → Rd w' u' x' f1' → Calls Tryz.prog f (#[u, u'] ++ caps) w' fun e w'' => e = .returned (.bool (eqV x x')) ∧ Only [] w' w'') :
    Calls Tryz.prog 90 #[v, v', .func (.func f) #[] caps] w fun e w' => e = .returned (.bool (eqV l l')) ∧ Only [] w w' := by
  obtain ⟨a, cap, ob, fps, rfl, -, hs⟩ := h.open_
  obtain ⟨a', cap', ob', fps', rfl, -, hs'⟩ := h'.open_
  have hb := hs.bound
  have hb' := hs'.bound
  have HC := Lib.hid hc
  clear hc
  by_cases hl : l.length = l'.length
  · have hne : ((l.length : Int) != (l'.length : Int)) = false := by simp [hl]
    have Hl := Lib.hid hl; clear hl
    go_enter Tryz.func90, Tryz.ntmps90
    go_wp2
    go_loopw [7, 8, 9, 17] (fun _ _ _ i wr => ∃ j : Nat, j ≤ l.length ∧ i = .int .i64 j ∧ l.take j = l'.take j ∧ Only [] w wr)
      (fun _ _ _ i _ => l.length - (intOf i).toNat)
    case atStart => exact ⟨0, Nat.zero_le _, rfl, rfl, Only.refl _ _⟩
    case round =>
      obtain ⟨j, hj, rfl, hr, hK⟩ := hrel
      have Hr := Lib.hid hr; clear hr
      by_cases hlt : j < l.length
      · have hlt' : j < l'.length := by have := Hl.out; omega
        obtain ⟨b, off, u, rfl, -, c0, hv⟩ := hs.atRow j hlt
        obtain ⟨b', off', u', rfl, -, c0', hv'⟩ := hs'.atRow j hlt'
        have c := hK.cell (by simp) c0
        have c' := hK.cell (by simp) c0'
        clear c0 c0'
        rcases hq : eqV l[j] l'[j]
        all_goals go_wp2_with (with_reducible refine (HC.out u u' l[j] l'[j] _ _ wr (Rp.keep hv hK) (Rp.keep hv' hK)).mono ?_; rintro e w1 ⟨rfl, hk1⟩)
        · go_ret
          exact ⟨ret_bool (eqL_no hlt hlt' hq).symm, hK.trans hk1⟩
        · go_roundw
          case rel => exact ⟨j + 1, by omega, by go_num, eqL_step hlt hlt' hq Hr.out, hK.trans hk1⟩
          case measure => simp [intOf]; omega
      · go_wp2
        go_ret
        exact ⟨ret_bool (eqL_yes Hl.out hlt Hr.out).symm, hK⟩
  · have hne : ((l.length : Int) != (l'.length : Int)) = true := by simp; omega
    go_enter Tryz.func90, Tryz.ntmps90
    go_wp2
    go_ret
    exact ⟨ret_bool (eqL_len hne).symm, Only.refl _ _⟩

theorem samePartition_closure (u u' : Value) (x x' : List Int) (f1 f1' : List Nat) (w : World) (h : Rd w u x f1) (h' : Rd w u' x' f1') :
    Calls Tryz.prog 91 #[u, u'] w fun e w' => e = .returned (.bool (eqV x x')) ∧ Only [] w w' := by
  go_enter Tryz.func91, Tryz.ntmps91
  go_wp2_with ((go_at_call 75; (with_reducible refine (Equal_rd u u' x x' _ _ _ h h').mono ?_); rintro e w1 ⟨rfl, d1⟩))
  go_ret
  exact ⟨rfl, d1.only _⟩
theorem samePartition_rd (v v' : Value) (l l' : List (List Int)) (fp fp' : List Nat) (w : World) (h : Rd w v l fp) (h' : Rd w v' l' fp') :
    Calls Tryz.prog 76 #[v, v'] w fun e w' => e = .returned (.bool (eqV l l')) ∧ Only [] w w' := by
  have Hc := Lib.hid (EqualFunc_rows 91 #[] Tryz.call91 v v' l l' fp fp' w h h' (fun u u' x x' f1 f1' w' r r' => samePartition_closure u u' x x' f1 f1' w' r r'))
  go_enter Tryz.func76, Tryz.ntmps76
  go_wp2_with ((go_at_call 90; (with_reducible refine (Hc.out).mono ?_); rintro e w1 ⟨rfl, t1⟩))
  go_ret
  exact ⟨rfl, t1⟩

theorem Table.ne1 {t t' : Table} (h : eqV t.tracked t'.tracked = false) : eqV t t' = false := eqV_no fun he => (eqV_iff'.1 h) (by rw [he])
theorem Table.ne2 {t t' : Table} (h : eqV t.patterns t'.patterns = false) : eqV t t' = false := eqV_no fun he => (eqV_iff'.1 h) (by rw [he])
theorem Table.ne3 {t t' : Table} (h : eqV t.distances t'.distances = false) : eqV t t' = false := eqV_no fun he => (eqV_iff'.1 h) (by rw [he])
theorem Table.eq3 {t t' : Table} (h1 : eqV t.tracked t'.tracked = true) (h2 : eqV t.patterns t'.patterns = true) (h3 : eqV t.distances t'.distances = true) : eqV t t' = true :=
  eqV_yes (Table.eq_iff.2 ⟨eqV_iff.1 h1, eqV_iff.1 h2, eqV_iff.1 h3⟩)

set_option maxHeartbeats 1000000 in
theorem implSameTable_any (cs cs' : List Value) (t t' : Table) (fp fp' : List Nat) (w : World) (h : Rp.rep w cs t fp) (h' : Rp.rep w cs' t' fp') :
    Calls Tryz.prog 57 #[.agg cs.toArray, .agg cs'.toArray] w fun e w' => e = .returned (.bool (eqV t t')) ∧ Only [] w w' := by
  obtain ⟨v0, v1, v2, f0, f1, f2, rfl, rfl, h0, h1, h2⟩ := h
  obtain ⟨v0', v1', v2', f0', f1', f2', rfl, rfl, h0', h1', h2'⟩ := h'
  rcases q0 : eqV t.tracked t'.tracked
  · go_enter Tryz.func57, Tryz.ntmps57
    go_wp2_with ((go_at_call 75; (with_reducible refine (Equal_rd v0 v0' t.tracked t'.tracked _ _ _ (Rp.keep h0 (by with_reducible repeat (first | exact Only.refl _ _ | assumption | refine Only.drewN ?_ _ | refine Only.drew ?_ | refine Only.alloc ?_ _ | refine Only.setCell ?_ (by intro hh; exfalso; simp at hh; try omega) _ | refine Only.trans ?_ (by assumption)))) (Rp.keep h0' (by with_reducible repeat (first | exact Only.refl _ _ | assumption | refine Only.drewN ?_ _ | refine Only.drew ?_ | refine Only.alloc ?_ _ | refine Only.setCell ?_ (by intro hh; exfalso; simp at hh; try omega) _ | refine Only.trans ?_ (by assumption))))).mono ?_); rintro e w1 ⟨rfl, n1, rfl⟩))
    go_ret
    exact ⟨ret_bool (Table.ne1 q0).symm, (by with_reducible repeat (first | exact Only.refl _ _ | assumption | refine Only.drewN ?_ _ | refine Only.drew ?_ | refine Only.alloc ?_ _ | refine Only.setCell ?_ (by intro hh; exfalso; simp at hh; try omega) _ | refine Only.trans ?_ (by assumption)))⟩
  rcases q1 : eqV t.patterns t'.patterns
  · go_enter Tryz.func57, Tryz.ntmps57
    go_wp2_with (first
      | (go_at_call 75; (with_reducible refine (Equal_rd v0 v0' t.tracked t'.tracked _ _ _ (Rp.keep h0 (by with_reducible repeat (first | exact Only.refl _ _ | assumption | refine Only.drewN ?_ _ | refine Only.drew ?_ | refine Only.alloc ?_ _ | refine Only.setCell ?_ (by intro hh; exfalso; simp at hh; try omega) _ | refine Only.trans ?_ (by assumption)))) (Rp.keep h0' (by with_reducible repeat (first | exact Only.refl _ _ | assumption | refine Only.drewN ?_ _ | refine Only.drew ?_ | refine Only.alloc ?_ _ | refine Only.setCell ?_ (by intro hh; exfalso; simp at hh; try omega) _ | refine Only.trans ?_ (by assumption))))).mono ?_); rintro e w1 ⟨rfl, n1, rfl⟩)
      | (go_at_call 76; (with_reducible refine (samePartition_rd v1 v1' t.patterns t'.patterns _ _ _ (Rp.keep h1 (by with_reducible repeat (first | exact Only.refl _ _ | assumption | refine Only.drewN ?_ _ | refine Only.drew ?_ | refine Only.alloc ?_ _ | refine Only.setCell ?_ (by intro hh; exfalso; simp at hh; try omega) _ | refine Only.trans ?_ (by assumption)))) (Rp.keep h1' (by with_reducible repeat (first | exact Only.refl _ _ | assumption | refine Only.drewN ?_ _ | refine Only.drew ?_ | refine Only.alloc ?_ _ | refine Only.setCell ?_ (by intro hh; exfalso; simp at hh; try omega) _ | refine Only.trans ?_ (by assumption))))).mono ?_); rintro e w2 ⟨rfl, t2⟩))
    go_ret
    exact ⟨ret_bool (Table.ne2 q1).symm, (by with_reducible repeat (first | exact Only.refl _ _ | assumption | refine Only.drewN ?_ _ | refine Only.drew ?_ | refine Only.alloc ?_ _ | refine Only.setCell ?_ (by intro hh; exfalso; simp at hh; try omega) _ | refine Only.trans ?_ (by assumption)))⟩
  rcases q2 : eqV t.distances t'.distances
  all_goals go_enter Tryz.func57, Tryz.ntmps57
  all_goals go_wp2_with (first
      | (go_at_call 75; (with_reducible refine (Equal_rd v0 v0' t.tracked t'.tracked _ _ _ (Rp.keep h0 (by with_reducible repeat (first | exact Only.refl _ _ | assumption | refine Only.drewN ?_ _ | refine Only.drew ?_ | refine Only.alloc ?_ _ | refine Only.setCell ?_ (by intro hh; exfalso; simp at hh; try omega) _ | refine Only.trans ?_ (by assumption)))) (Rp.keep h0' (by with_reducible repeat (first | exact Only.refl _ _ | assumption | refine Only.drewN ?_ _ | refine Only.drew ?_ | refine Only.alloc ?_ _ | refine Only.setCell ?_ (by intro hh; exfalso; simp at hh; try omega) _ | refine Only.trans ?_ (by assumption))))).mono ?_); rintro e w1 ⟨rfl, n1, rfl⟩)
      | (go_at_call 76; (with_reducible refine (samePartition_rd v1 v1' t.patterns t'.patterns _ _ _ (Rp.keep h1 (by with_reducible repeat (first | exact Only.refl _ _ | assumption | refine Only.drewN ?_ _ | refine Only.drew ?_ | refine Only.alloc ?_ _ | refine Only.setCell ?_ (by intro hh; exfalso; simp at hh; try omega) _ | refine Only.trans ?_ (by assumption)))) (Rp.keep h1' (by with_reducible repeat (first | exact Only.refl _ _ | assumption | refine Only.drewN ?_ _ | refine Only.drew ?_ | refine Only.alloc ?_ _ | refine Only.setCell ?_ (by intro hh; exfalso; simp at hh; try omega) _ | refine Only.trans ?_ (by assumption))))).mono ?_); rintro e w2 ⟨rfl, t2⟩; have y0 := t2.cells_eq w.heap.size (by simp; try omega) (by simp); have y1 := t2.cells_eq (w.heap.size + 1) (by simp) (by simp))
      | (go_at_call 75; (with_reducible refine (Equal_rd v2 v2' t.distances t'.distances _ _ _ (Rp.keep h2 (by with_reducible repeat (first | exact Only.refl _ _ | assumption | refine Only.drewN ?_ _ | refine Only.drew ?_ | refine Only.alloc ?_ _ | refine Only.setCell ?_ (by intro hh; exfalso; simp at hh; try omega) _ | refine Only.trans ?_ (by assumption)))) (Rp.keep h2' (by with_reducible repeat (first | exact Only.refl _ _ | assumption | refine Only.drewN ?_ _ | refine Only.drew ?_ | refine Only.alloc ?_ _ | refine Only.setCell ?_ (by intro hh; exfalso; simp at hh; try omega) _ | refine Only.trans ?_ (by assumption))))).mono ?_); rintro e w3 ⟨rfl, n3, rfl⟩))
  · go_ret
    exact ⟨ret_bool (Table.ne3 q2).symm, (by with_reducible repeat (first | exact Only.refl _ _ | assumption | refine Only.drewN ?_ _ | refine Only.drew ?_ | refine Only.alloc ?_ _ | refine Only.setCell ?_ (by intro hh; exfalso; simp at hh; try omega) _ | refine Only.trans ?_ (by assumption)))⟩
  · go_ret
    exact ⟨ret_bool (Table.eq3 q0 q1 q2).symm, (by with_reducible repeat (first | exact Only.refl _ _ | assumption | refine Only.drewN ?_ _ | refine Only.drew ?_ | refine Only.alloc ?_ _ | refine Only.setCell ?_ (by intro hh; exfalso; simp at hh; try omega) _ | refine Only.trans ?_ (by assumption)))⟩

set_option maxHeartbeats 1000000 in
theorem specSameTable_any (cs cs' : List Value) (t t' : Table) (fp fp' : List Nat) (w : World) (h : Rp.rep w cs t fp) (h' : Rp.rep w cs' t' fp') :
    Calls Tryz.prog 55 #[.agg cs.toArray, .agg cs'.toArray] w fun e w' => e = .returned (.bool (eqV t t')) ∧ Only [] w w' := by
  obtain ⟨v0, v1, v2, f0, f1, f2, rfl, rfl, h0, h1, h2⟩ := h
  obtain ⟨v0', v1', v2', f0', f1', f2', rfl, rfl, h0', h1', h2'⟩ := h'
  rcases q0 : eqV t.tracked t'.tracked
  · go_enter Tryz.func55, Tryz.ntmps55
    go_wp2_with ((go_at_call 74; (with_reducible refine (equalInts_rd v0 v0' t.tracked t'.tracked _ _ _ (Rp.keep h0 (by with_reducible repeat (first | exact Only.refl _ _ | assumption | refine Only.drewN ?_ _ | refine Only.drew ?_ | refine Only.alloc ?_ _ | refine Only.setCell ?_ (by intro hh; exfalso; simp at hh; try omega) _ | refine Only.trans ?_ (by assumption)))) (Rp.keep h0' (by with_reducible repeat (first | exact Only.refl _ _ | assumption | refine Only.drewN ?_ _ | refine Only.drew ?_ | refine Only.alloc ?_ _ | refine Only.setCell ?_ (by intro hh; exfalso; simp at hh; try omega) _ | refine Only.trans ?_ (by assumption))))).mono ?_); rintro e w1 ⟨rfl, n1, rfl⟩))
    go_ret
    exact ⟨ret_bool (Table.ne1 q0).symm, (by with_reducible repeat (first | exact Only.refl _ _ | assumption | refine Only.drewN ?_ _ | refine Only.drew ?_ | refine Only.alloc ?_ _ | refine Only.setCell ?_ (by intro hh; exfalso; simp at hh; try omega) _ | refine Only.trans ?_ (by assumption)))⟩
  rcases q2 : eqV t.distances t'.distances
  · go_enter Tryz.func55, Tryz.ntmps55
    go_wp2_with (first
      | (go_at_call 74; (with_reducible refine (equalInts_rd v0 v0' t.tracked t'.tracked _ _ _ (Rp.keep h0 (by with_reducible repeat (first | exact Only.refl _ _ | assumption | refine Only.drewN ?_ _ | refine Only.drew ?_ | refine Only.alloc ?_ _ | refine Only.setCell ?_ (by intro hh; exfalso; simp at hh; try omega) _ | refine Only.trans ?_ (by assumption)))) (Rp.keep h0' (by with_reducible repeat (first | exact Only.refl _ _ | assumption | refine Only.drewN ?_ _ | refine Only.drew ?_ | refine Only.alloc ?_ _ | refine Only.setCell ?_ (by intro hh; exfalso; simp at hh; try omega) _ | refine Only.trans ?_ (by assumption))))).mono ?_); rintro e w1 ⟨rfl, n1, rfl⟩)
      | (go_at_call 74; (with_reducible refine (equalInts_rd v2 v2' t.distances t'.distances _ _ _ (Rp.keep h2 (by with_reducible repeat (first | exact Only.refl _ _ | assumption | refine Only.drewN ?_ _ | refine Only.drew ?_ | refine Only.alloc ?_ _ | refine Only.setCell ?_ (by intro hh; exfalso; simp at hh; try omega) _ | refine Only.trans ?_ (by assumption)))) (Rp.keep h2' (by with_reducible repeat (first | exact Only.refl _ _ | assumption | refine Only.drewN ?_ _ | refine Only.drew ?_ | refine Only.alloc ?_ _ | refine Only.setCell ?_ (by intro hh; exfalso; simp at hh; try omega) _ | refine Only.trans ?_ (by assumption))))).mono ?_); rintro e w3 ⟨rfl, n3, rfl⟩))
    go_ret
    exact ⟨ret_bool (Table.ne3 q2).symm, (by with_reducible repeat (first | exact Only.refl _ _ | assumption | refine Only.drewN ?_ _ | refine Only.drew ?_ | refine Only.alloc ?_ _ | refine Only.setCell ?_ (by intro hh; exfalso; simp at hh; try omega) _ | refine Only.trans ?_ (by assumption)))⟩
  generalize hl : t.patterns = l at *
  generalize hl' : t'.patterns = l' at *
  have L1 := Lib.hid hl
  have L2 := Lib.hid hl'
  clear hl hl'
  obtain ⟨a, cap, ob, fps, rfl, rfl, hs⟩ := h1.open_
  obtain ⟨a', cap', ob', fps', rfl, rfl, hs'⟩ := h1'.open_
  have hb := hs.bound
  have hb' := hs'.bound
  by_cases hlen : l.length ≠ l'.length
  · have hne : ((l.length : Int) != (l'.length : Int)) = true := by simp; omega
    go_enter Tryz.func55, Tryz.ntmps55
    go_wp2_with (first
      | (go_at_call 74; (with_reducible refine (equalInts_rd v0 v0' t.tracked t'.tracked _ _ _ (Rp.keep h0 (by with_reducible repeat (first | exact Only.refl _ _ | assumption | refine Only.drewN ?_ _ | refine Only.drew ?_ | refine Only.alloc ?_ _ | refine Only.setCell ?_ (by intro hh; exfalso; simp at hh; try omega) _ | refine Only.trans ?_ (by assumption)))) (Rp.keep h0' (by with_reducible repeat (first | exact Only.refl _ _ | assumption | refine Only.drewN ?_ _ | refine Only.drew ?_ | refine Only.alloc ?_ _ | refine Only.setCell ?_ (by intro hh; exfalso; simp at hh; try omega) _ | refine Only.trans ?_ (by assumption))))).mono ?_); rintro e w1 ⟨rfl, n1, rfl⟩)
      | (go_at_call 74; (with_reducible refine (equalInts_rd v2 v2' t.distances t'.distances _ _ _ (Rp.keep h2 (by with_reducible repeat (first | exact Only.refl _ _ | assumption | refine Only.drewN ?_ _ | refine Only.drew ?_ | refine Only.alloc ?_ _ | refine Only.setCell ?_ (by intro hh; exfalso; simp at hh; try omega) _ | refine Only.trans ?_ (by assumption)))) (Rp.keep h2' (by with_reducible repeat (first | exact Only.refl _ _ | assumption | refine Only.drewN ?_ _ | refine Only.drew ?_ | refine Only.alloc ?_ _ | refine Only.setCell ?_ (by intro hh; exfalso; simp at hh; try omega) _ | refine Only.trans ?_ (by assumption))))).mono ?_); rintro e w3 ⟨rfl, n3, rfl⟩))
    go_ret
    exact ⟨ret_bool (Table.ne2 (by rw [L1.out, L2.out]; exact eqL_len hne)).symm, (by with_reducible repeat (first | exact Only.refl _ _ | assumption | refine Only.drewN ?_ _ | refine Only.drew ?_ | refine Only.alloc ?_ _ | refine Only.setCell ?_ (by intro hh; exfalso; simp at hh; try omega) _ | refine Only.trans ?_ (by assumption)))⟩
  have hlen := Classical.not_not.1 hlen
  have hne : ((l.length : Int) != (l'.length : Int)) = false := by simp [hlen]
  have Hl := Lib.hid hlen; clear hlen
  go_enter Tryz.func55, Tryz.ntmps55
  go_wp2_with (first
      | (go_at_call 74; (with_reducible refine (equalInts_rd v0 v0' t.tracked t'.tracked _ _ _ (Rp.keep h0 (by with_reducible repeat (first | exact Only.refl _ _ | assumption | refine Only.drewN ?_ _ | refine Only.drew ?_ | refine Only.alloc ?_ _ | refine Only.setCell ?_ (by intro hh; exfalso; simp at hh; try omega) _ | refine Only.trans ?_ (by assumption)))) (Rp.keep h0' (by with_reducible repeat (first | exact Only.refl _ _ | assumption | refine Only.drewN ?_ _ | refine Only.drew ?_ | refine Only.alloc ?_ _ | refine Only.setCell ?_ (by intro hh; exfalso; simp at hh; try omega) _ | refine Only.trans ?_ (by assumption))))).mono ?_); rintro e w1 ⟨rfl, n1, rfl⟩)
      | (go_at_call 74; (with_reducible refine (equalInts_rd v2 v2' t.distances t'.distances _ _ _ (Rp.keep h2 (by with_reducible repeat (first | exact Only.refl _ _ | assumption | refine Only.drewN ?_ _ | refine Only.drew ?_ | refine Only.alloc ?_ _ | refine Only.setCell ?_ (by intro hh; exfalso; simp at hh; try omega) _ | refine Only.trans ?_ (by assumption)))) (Rp.keep h2' (by with_reducible repeat (first | exact Only.refl _ _ | assumption | refine Only.drewN ?_ _ | refine Only.drew ?_ | refine Only.alloc ?_ _ | refine Only.setCell ?_ (by intro hh; exfalso; simp at hh; try omega) _ | refine Only.trans ?_ (by assumption))))).mono ?_); rintro e w3 ⟨rfl, n3, rfl⟩))
  go_loopw [5] (fun i wr => ∃ j : Nat, j ≤ l.length ∧ i = .int .i64 j ∧ l.take j = l'.take j ∧ Drew ((w.alloc (.cells #[v0, .slice a l.length cap, v2] 32)).alloc (.cells #[v0', .slice a' l'.length cap', v2'] 32)) wr)
    (fun i _ => l.length - (intOf i).toNat)
  case atStart => exact ⟨0, Nat.zero_le _, rfl, rfl, ⟨_, rfl⟩⟩
  case round =>
    obtain ⟨j, hj, rfl, hr, n, rfl⟩ := hrel
    have Hr := Lib.hid hr; clear hr
    by_cases hlt : j < l.length
    · have hlt' : j < l'.length := by have := Hl.out; omega
      obtain ⟨b, off, u, rfl, -, c0, hv⟩ := hs.atRow j hlt
      obtain ⟨b', off', u', rfl, -, c0', hv'⟩ := hs'.atRow j hlt'
      have k0 := World.block_lt_of_cell? w _ c0
      have k0' := World.block_lt_of_cell? w _ c0'
      simp only at k0 k0'
      have l0 : b < w.heap.size + 1 := by omega
      have l0' : b' < w.heap.size + 1 := by omega
      rcases hq : eqV l[j] l'[j]
      all_goals go_wp2
      all_goals go_quiet ((go_at_call 74; exact quiet_drewN (equalInts_rd u u' l[j] l'[j] _ _ _ (Rp.keep hv ((((Only.refl [] w).alloc _).alloc _).drewN _)) (Rp.keep hv' ((((Only.refl [] w).alloc _).alloc _).drewN _)))))
      all_goals go_wp2
      · go_ret
        exact ⟨ret_bool (Table.ne2 (by rw [L1.out, L2.out]; exact eqL_no hlt hlt' hq)).symm, (by with_reducible repeat (first | exact Only.refl _ _ | assumption | refine Only.drewN ?_ _ | refine Only.drew ?_ | refine Only.alloc ?_ _ | refine Only.setCell ?_ (by intro hh; exfalso; simp at hh; try omega) _ | refine Only.trans ?_ (by assumption)))⟩
      · go_roundw
        case rel => exact ⟨j + 1, by omega, by go_num, eqL_step hlt hlt' hq Hr.out, ⟨_, rfl⟩⟩
        case measure => simp [intOf]; omega
    · go_wp2
      go_ret
      exact ⟨ret_bool (Table.eq3 q0 (by rw [L1.out, L2.out]; exact eqL_yes Hl.out hlt Hr.out) q2).symm, (by with_reducible repeat (first | exact Only.refl _ _ | assumption | refine Only.drewN ?_ _ | refine Only.drew ?_ | refine Only.alloc ?_ _ | refine Only.setCell ?_ (by intro hh; exfalso; simp at hh; try omega) _ | refine Only.trans ?_ (by assumption)))⟩

end Go.Proofs.YtkhdmiemfpelcaaGreat
