/- Inverses, letters, positions after a letter: the reference's and the program's. A table's faults, in plain words. The laws' drawn permutations, puzzles, tracked sets (laws 10, 11). The making of chains: the reference's emptyChain and buildChain; membership. The members of a stabilizer chain: how many there are. The way down a stabilizer chain (laws 33, 47): the choices at each level, the member that a selection leads to; it hangs on the group alone. Breadth-first search of patterns in plain words (law 16). -/
import Derived.Test.YtpkplmnpepkdaaaGreatRowAdmissibleTablesG3
import Derived.Test.YtpkplmnpepkdaaaGreatRowAdmissibleTablesG6
import Derived.Test.YtpkplmnpepkdaaaGreatRowAdmissibleTablesG5
import Derived.Test.YtpkplmnpepkdaaaGreatRowAdmissibleTablesG1
namespace Go.Proofs.YtpkplmnpepkdaaaGreat
open Go.RowKit
set_option maxRecDepth 10000

/-- the letters of n moves, in order -/
def ltrs : Nat → List Int
  | 0 => []
  | n + 1 => ltrs n ++ [((n + 1 : Nat) : Int), -((n + 1 : Nat) : Int)]
theorem ltrs_len (n : Nat) : (ltrs n).length = 2 * n := by
  induction n with
  | zero => rfl
  | succ n ih => simp [ltrs, ih]; omega
theorem mem_ltrs {n : Nat} {x : Int} : x ∈ ltrs n ↔ x ≠ 0 ∧ -(n : Int) ≤ x ∧ x ≤ n := by
  induction n with
  | zero => simp [ltrs]; omega
  | succ n ih => simp [ltrs, ih]; omega
/-- the permutation of a letter -/
def mv (gens : List (List Int)) (l : Int) : List Int := if 0 < l then gens.getD (l - 1).toNat [] else PM.inv (gens.getD (-l - 1).toNat [])
theorem mv_pos {gens : List (List Int)} {l : Int} {k : Nat} (h : l = (k : Int) + 1) (hk : k < gens.length) : mv gens l = gens[k] := by
  unfold mv
  rw [if_pos (by omega), show (l - 1).toNat = k by omega, List.getD_eq_getElem?_getD, List.getElem?_eq_getElem hk]; rfl
theorem mv_neg {gens : List (List Int)} {l : Int} {k : Nat} (h : l = -((k : Int) + 1)) (hk : k < gens.length) : mv gens l = PM.inv gens[k] := by
  unfold mv
  rw [if_neg (by omega), show (-l - 1).toNat = k by omega, List.getD_eq_getElem?_getD, List.getElem?_eq_getElem hk]; rfl
theorem letter_cases {n : Nat} {l : Int} (h : l ∈ ltrs n) : (∃ k : Nat, k < n ∧ l = (k : Int) + 1) ∨ (∃ k : Nat, k < n ∧ l = -((k : Int) + 1)) := by
  rw [mem_ltrs] at h
  rcases Int.lt_or_gt_of_ne h.1 with h0 | h0
  · right; exact ⟨(-l - 1).toNat, by omega, by omega⟩
  · left; exact ⟨(l - 1).toNat, by omega, by omega⟩
theorem mv_pn {n : Nat} {gens : List (List Int)} (h : ∀ g ∈ gens, PM.PN n g) {l : Int} (hl : l ∈ ltrs gens.length) : PM.PN n (mv gens l) := by
  rcases letter_cases hl with ⟨k, hk, e⟩ | ⟨k, hk, e⟩
  · rw [mv_pos e hk]; exact h _ (List.getElem_mem _)
  · rw [mv_neg e hk]; exact (h _ (List.getElem_mem _)).inv

theorem lit_srcA (w : World) (cs : List Value) (e : TypeId) {g : Nat} (hg : g = w.heap.size) : ∀ ad, some (⟨g, 0, none⟩ : Addr) = some ad → ∀ j u, cs[j]? = some u → (w.alloc (.cells cs.toArray e)).cell? (ad.add j) = some u := by
  intro ad had j u hu
  injection had with had; subst had
  have hadd : (⟨g, 0, none⟩ : Addr).add j = ⟨g, j, none⟩ := by unfold Addr.add; split <;> simp_all
  rw [hadd]; exact lit_src w cs e hg j u hu
theorem wrap64_lit (n : Int) (h0 : -9223372036854775808 ≤ n) (h1 : n < 9223372036854775808) : wrap64 n = n := by unfold wrap64; omega

/-- an array of int64s that a call fills -/
def Arr (B : Nat) (e : TypeId) (w : World) (g m : Nat) (l : List Int) : Prop := w.ownsRow B e 1 (.slice (some ⟨g, 0, none⟩) m m) m (l.map (Value.int .i64))
section
variable {B : Nat} {e : TypeId} {w : World} {g m : Nat} {l : List Int}
theorem Arr.len (h : Arr B e w g m l) : l.length = m := by have := h.1; simpa using this
theorem Arr.set (h : Arr B e w g m l) (i : Nat) (x : Int) : Arr B e (w.setCell ⟨g, i, none⟩ (.int .i64 x)) g m (l.set i x) := by
  have := (World.ownsRow.stored h i (.int .i64 x)).1
  unfold Arr
  rwa [List.map_set]
theorem Arr.cell (h : Arr B e w g m l) {i : Nat} (hi : i < l.length) : w.cell? ⟨g, i, none⟩ = some (.int .i64 l[i]) := by
  rw [World.ownsRow.cellAt h i (by have := h.len; omega)]; simp [hi]
theorem Arr.frozen (h : Arr B e w g m l) (i : Nat) : w.frozen? ⟨g, i, none⟩ = false := World.ownsRow.frozenAt h i
theorem Arr.rd (h : Arr B e w g m l) (hw : ∀ x ∈ l, I64 x) : Rd w (.slice (some ⟨g, 0, none⟩) m m) l [g] ∧ Fresh B w [g] := by
  have h' : w.ownsRow B e 1 (.slice (some ⟨g, 0, none⟩) m m) m (l.map (Value.int .i64)) := h
  obtain ⟨a, cap, hv, -, hI, hF⟩ := own_ints h' hw
  have hr := hI.rd
  rw [← hv] at hr
  exact ⟨hr, hF⟩
end

/-- the inverse so far -/
def invUp (p : List Int) (j : Nat) : List Int := (PM.pts p.length).map fun y => if p.idxOf y < j then (p.idxOf y : Int) else 0
theorem invUp_zero (p : List Int) : invUp p 0 = List.replicate p.length 0 := by
  unfold invUp
  apply List.ext_getElem (by simp [PM.pts_len])
  intro k h1 h2; simp
theorem invUp_len (p : List Int) (j : Nat) : (invUp p j).length = p.length := by simp [invUp, PM.pts_len]
theorem invUp_all {p : List Int} (h : PM.IsP p) : invUp p p.length = PM.inv p := by
  unfold invUp PM.inv
  apply List.map_congr_left
  intro y hy
  have := h.all hy
  rw [if_pos (List.idxOf_lt_length_of_mem this)]
theorem invUp_step {p : List Int} (h : PM.IsP p) {j : Nat} (hj : j < p.length) : (invUp p j).set p[j].toNat (j : Int) = invUp p (j + 1) := by
  have hp := h.1 p[j] (List.getElem_mem hj)
  apply List.ext_getElem (by simp [invUp_len])
  intro k h1 h2
  have hk : k < p.length := by simpa [invUp_len] using h2
  have hm : ((k : Int)) ∈ p := h.all (PM.mem_pts.2 ⟨by omega, by omega⟩)
  have hi := List.idxOf_lt_length_of_mem hm
  have hgi : p[p.idxOf (k : Int)] = (k : Int) := List.getElem_idxOf hi
  rw [List.getElem_set]
  simp only [invUp, List.getElem_map, PM.pts_get]
  by_cases hjk : p[j].toNat = k
  · rw [if_pos hjk]
    have : p.idxOf (k : Int) = j := PM.nodup_inj h.2 hi hj (by rw [hgi]; omega)
    rw [this, if_pos (by omega)]
  · rw [if_neg hjk]
    have : p.idxOf (k : Int) ≠ j := by
      intro he
      apply hjk
      have : p[j] = (k : Int) := by rw [← hgi]; congr 1; exact he.symm
      omega
    by_cases hlt : p.idxOf (k : Int) < j
    · rw [if_pos hlt, if_pos (by omega)]
    · rw [if_neg hlt, if_neg (by omega)]
theorem madeArr {B : Nat} {e : TypeId} {w : World} {g m : Nat} (h : w.ownsRow B e 1 (.slice (some ⟨g, 0, none⟩) m m) m (List.replicate m (.int .i64 0))) : Arr B e w g m (List.replicate m 0) := by
  unfold Arr; rwa [List.map_replicate]
theorem inv_i64 {p : List Int} (hl : p.length ≤ 1000) : ∀ x ∈ PM.inv p, I64 x := by
  intro x hx
  unfold PM.inv at hx
  obtain ⟨y, -, rfl⟩ := List.mem_map.1 hx
  have := List.idxOf_le_length (a := y) (l := p)
  unfold I64; omega

set_option maxHeartbeats 1000000 in
theorem specInverse0_any (a : Option Addr) (cap : Nat) (p : List Int) (fp : List Nat) (w : World) (h : IntsA w a cap p fp) (hp : PM.IsP p) (hl : p.length ≤ 1000) :
    Calls Tryz.prog 91 #[.slice a p.length cap] w fun e w' => ∃ v fp', e = .returned v ∧ Rd w' v (PM.inv p) fp' ∧ Fresh w.heap.size w' fp' ∧ Only [] w w' := by
  obtain ⟨i0, hi, hz0, hz1, hz2⟩ := info_parts Tryz.info2
  go_enter Tryz.func91, Tryz.ntmps91
  go_wp2_with (at_make; refine wpList_make_full _ rfl _ _ 27 rfl w.heap.size 2 i0 _ 1 Tryz.underlying27 hi hz0 hz1 _ _ _ _ p.length rfl rfl rfl rfl (by rw [hz2]; omega) (by unfold maxLen; omega) (Nat.le_refl _) ?_; intro w1 hown hg)
  rw [madeInts, Nat.mul_one] at hown
  have hA := madeArr hown
  clear hown
  go_loopw [4] (fun i wr => ∃ j : Nat, j ≤ p.length ∧ i = .int .i64 j ∧ Arr w.heap.size 2 wr w.heap.size p.length (invUp p j) ∧ Only [] w wr)
    (fun i _ => p.length - (intOf i).toNat)
  case atStart => exact ⟨0, Nat.zero_le _, rfl, by rw [invUp_zero]; exact hA, (Only.refl _ _).grown hg (by simp)⟩
  case round =>
    obtain ⟨j, hj, rfl, hO, hK⟩ := hrel
    by_cases hlt : j < p.length
    · obtain ⟨b, off, rfl, -, hc0⟩ := h.at_ j hlt
      have hc := hK.cell (by simp) hc0
      have hr := hp.1 p[j] (List.getElem_mem _)
      have hO2 := hO.set p[j].toNat j
      rw [invUp_step hp hlt] at hO2
      have hc2 := hO.cell (i := p[j].toNat) (by rw [invUp_len]; omega)
      have hf2 := hO.frozen p[j].toNat
      have hK2 := hK.setCell (p := ⟨w.heap.size, p[j].toNat, none⟩) (by simp) (.int .i64 j)
      obtain ⟨hr0, hr1⟩ := hr
      have HO := Lib.hid hO2
      clear hO hO2 hA hc0
      go_wp2
      go_roundw
      case rel => exact ⟨j + 1, by omega, by go_num, HO.out, hK2⟩
      case measure => simp [intOf]; omega
    · have hjl : j = p.length := by omega
      rw [hjl, invUp_all hp] at hO
      have HO := Lib.hid (hO.rd (inv_i64 hl))
      clear hjl hO hA
      go_wp2
      go_ret
      exact ⟨_, _, rfl, HO.out.1, HO.out.2, hK⟩
set_option maxHeartbeats 1000000 in
theorem implInverse0_any (a : Option Addr) (cap : Nat) (p : List Int) (fp : List Nat) (w : World) (h : IntsA w a cap p fp) (hp : PM.IsP p) (hl : p.length ≤ 1000) :
    Calls Tryz.prog 81 #[.slice a p.length cap] w fun e w' => ∃ v fp', e = .returned v ∧ Rd w' v (PM.inv p) fp' ∧ Fresh w.heap.size w' fp' ∧ Only [] w w' := by
  obtain ⟨i0, hi, hz0, hz1, hz2⟩ := info_parts Tryz.info2
  go_enter Tryz.func81, Tryz.ntmps81
  go_wp2_with (at_make; refine wpList_make_full _ rfl _ _ 27 rfl w.heap.size 2 i0 _ 1 Tryz.underlying27 hi hz0 hz1 _ _ _ _ p.length rfl rfl rfl rfl (by rw [hz2]; omega) (by unfold maxLen; omega) (Nat.le_refl _) ?_; intro w1 hown hg)
  rw [madeInts, Nat.mul_one] at hown
  have hA := madeArr hown
  clear hown
  go_loopw [11] (fun i wr => ∃ j : Nat, j ≤ p.length ∧ i = .int .i64 j ∧ Arr w.heap.size 2 wr w.heap.size p.length (invUp p j) ∧ Only [] w wr)
    (fun i _ => p.length - (intOf i).toNat)
  case atStart => exact ⟨0, Nat.zero_le _, rfl, by rw [invUp_zero]; exact hA, (Only.refl _ _).grown hg (by simp)⟩
  case round =>
    obtain ⟨j, hj, rfl, hO, hK⟩ := hrel
    by_cases hlt : j < p.length
    · obtain ⟨b, off, rfl, -, hc0⟩ := h.at_ j hlt
      have hc := hK.cell (by simp) hc0
      have hr := hp.1 p[j] (List.getElem_mem _)
      have hO2 := hO.set p[j].toNat j
      rw [invUp_step hp hlt] at hO2
      have hc2 := hO.cell (i := p[j].toNat) (by rw [invUp_len]; omega)
      have hf2 := hO.frozen p[j].toNat
      have hK2 := hK.setCell (p := ⟨w.heap.size, p[j].toNat, none⟩) (by simp) (.int .i64 j)
      obtain ⟨hr0, hr1⟩ := hr
      have HO := Lib.hid hO2
      clear hO hO2 hA hc0
      go_wp2
      go_roundw
      case rel => exact ⟨j + 1, by omega, by go_num, HO.out, hK2⟩
      case measure => simp [intOf]; omega
    · have hjl : j = p.length := by omega
      rw [hjl, invUp_all hp] at hO
      have HO := Lib.hid (hO.rd (inv_i64 hl))
      clear hjl hO hA
      go_wp2
      go_ret
      exact ⟨_, _, rfl, HO.out.1, HO.out.2, hK⟩
theorem implInverse0_rd (v : Value) (p : List Int) (fp : List Nat) (w : World) (h : Rd w v p fp) (hp : PM.IsP p) (hl : p.length ≤ 1000) :
    Calls Tryz.prog 81 #[v] w fun e w' => ∃ v fp', e = .returned v ∧ Rd w' v (PM.inv p) fp' ∧ Fresh w.heap.size w' fp' ∧ Only [] w w' := by
  obtain ⟨a, cap, rfl, hI⟩ := h.ints
  exact implInverse0_any a cap p fp w hI hp hl
theorem specInverse0_rd (v : Value) (p : List Int) (fp : List Nat) (w : World) (h : Rd w v p fp) (hp : PM.IsP p) (hl : p.length ≤ 1000) :
    Calls Tryz.prog 91 #[v] w fun e w' => ∃ v fp', e = .returned v ∧ Rd w' v (PM.inv p) fp' ∧ Fresh w.heap.size w' fp' ∧ Only [] w w' := by
  obtain ⟨a, cap, rfl, hI⟩ := h.ints
  exact specInverse0_any a cap p fp w hI hp hl
theorem specInverse_rd (v : Value) (p : List Int) (fp : List Nat) (w : World) (h : Rd w v p fp) (hp : permB p = true) :
    Calls Tryz.prog 120 #[v] w fun e w' => ∃ v fp', e = .returned v ∧ Rd w' v (PM.inv p) fp' ∧ Fresh w.heap.size w' fp' ∧ Only [] w w' := by
  have hp' := permB_iff.1 hp
  go_enter Tryz.func120, Tryz.ntmps120
  go_wp2_with (first | (go_at_call 85; (with_reducible refine (specIsPerm_rd v p _ _ h).mono ?_); rintro e w1 ⟨rfl, n1, rfl⟩) | (go_at_call 91; (with_reducible refine (specInverse0_rd v p _ _ (Rp.keep h (Only.ofDrewN _ _ _)) hp'.2 (by omega)).mono ?_); rintro e w2 ⟨u, f2, rfl, r2, F2, t2⟩))
  go_ret
  exact ⟨_, _, rfl, r2, F2, (by with_reducible repeat (first | exact Only.refl _ _ | assumption | refine Only.drewN ?_ _ | refine Only.drew ?_ | refine Only.alloc ?_ _ | refine Only.setCell ?_ (by intro hh; exfalso; simp at hh; try omega) _ | refine Only.trans ?_ (by assumption)))⟩
set_option maxHeartbeats 1000000 in
theorem picked_rd (v u : Value) (l ix : List Int) (f1 f2 : List Nat) (w : World) (h : Rd w v l f1) (h' : Rd w u ix f2) (hx : ∀ x ∈ ix, 0 ≤ x ∧ x < l.length) (hl : ix.length ≤ 1000) :
    Calls Tryz.prog 82 #[v, u] w fun e w' => ∃ v fp', e = .returned v ∧ Rd w' v (PM.comp ix l) fp' ∧ Fresh w.heap.size w' fp' ∧ Only [] w w' := by
  obtain ⟨a, cap, rfl, hI⟩ := h.ints
  obtain ⟨a', cap', rfl, hI'⟩ := h'.ints
  have hb := hI.bound
  obtain ⟨i0, hi, hz0, hz1, hz2⟩ := info_parts Tryz.info2
  go_enter Tryz.func82, Tryz.ntmps82
  go_wp2_with (at_make; refine wpList_make_full _ rfl _ _ 27 rfl w.heap.size 2 i0 _ 1 Tryz.underlying27 hi hz0 hz1 _ _ _ _ ix.length rfl rfl rfl rfl (by rw [hz2]; omega) (by unfold maxLen; omega) (Nat.le_refl _) ?_; intro w1 hown hg)
  rw [madeInts, Nat.mul_one] at hown
  have hA := madeArr hown
  clear hown
  go_loopw [13] (fun i wr => ∃ j : Nat, j ≤ ix.length ∧ i = .int .i64 j ∧ Arr w.heap.size 2 wr w.heap.size ix.length ((PM.comp (ix.take j) l) ++ List.replicate (ix.length - j) 0) ∧ Only [] w wr)
    (fun i _ => ix.length - (intOf i).toNat)
  case atStart => exact ⟨0, Nat.zero_le _, rfl, by simpa [PM.comp] using hA, (Only.refl _ _).grown hg (by simp)⟩
  case round =>
    obtain ⟨j, hj, rfl, hO, hK⟩ := hrel
    have hcl : (PM.comp (ix.take j) l).length = j := by rw [PM.comp_len, List.length_take]; omega
    by_cases hlt : j < ix.length
    · obtain ⟨b, off, rfl, -, hc0⟩ := hI'.at_ j hlt
      obtain ⟨hr0, hr1⟩ := hx ix[j] (List.getElem_mem _)
      have hxl : ix[j].toNat < l.length := by omega
      obtain ⟨b2, off2, rfl, -, hd0⟩ := hI.at_ ix[j].toNat hxl
      have hc := hK.cell (by simp) hc0
      have hd := hK.cell (by simp) hd0
      have hstep : (PM.comp (ix.take j) l ++ List.replicate (ix.length - j) 0).set j l[ix[j].toNat] = PM.comp (ix.take (j + 1)) l ++ List.replicate (ix.length - (j + 1)) 0 := by
        have e1 : PM.at_ l ix[j] = l[ix[j].toNat] := by
          have := PM.at_nat l ix[j].toNat hxl
          rwa [show ((ix[j].toNat : Nat) : Int) = ix[j] by omega] at this
        rw [show ix.length - j = (ix.length - (j + 1)) + 1 by omega, List.replicate_succ, List.set_append_right _ _ (by omega), hcl, Nat.sub_self, take_succ_get ix j hlt]
        simp only [PM.comp, List.map_append, List.map_cons, List.map_nil, List.append_assoc, List.cons_append, List.nil_append, List.set_cons_zero, e1]
      have hO2 := hO.set j l[ix[j].toNat]
      rw [hstep] at hO2
      obtain ⟨z2, hc2⟩ : ∃ z, wr.cell? ⟨w.heap.size, j, none⟩ = some z := ⟨_, hO.cell (i := j) (by simp [hcl]; omega)⟩
      have hf2 := hO.frozen j
      have hK2 := hK.setCell (p := ⟨w.heap.size, j, none⟩) (by simp) (.int .i64 l[ix[j].toNat])
      have HO := Lib.hid hO2
      clear hO hO2 hA hc0 hd0 hstep hcl
      go_wp2
      go_roundw
      case rel => exact ⟨j + 1, by omega, by go_num, HO.out, hK2⟩
      case measure => simp [intOf]; omega
    · have hjl : j = ix.length := by omega
      rw [hjl] at hO
      simp only [Nat.sub_self, List.replicate_zero, List.append_nil, List.take_length] at hO
      have hw : ∀ x ∈ PM.comp ix l, I64 x := by
        intro x hxm
        obtain ⟨y, hy, rfl⟩ := List.mem_map.1 hxm
        have := hx y hy
        exact hI.wf _ (PM.at_mem this.1 this.2)
      have HO := Lib.hid (hO.rd hw)
      clear hjl hO hA hcl hw
      go_wp2
      go_ret
      exact ⟨_, _, rfl, HO.out.1, HO.out.2, hK⟩
set_option maxHeartbeats 1000000 in
/-- a move, or its inverse: old memory, or new -/
theorem letterOf_rd (v : Value) (gens : List (List Int)) (l : Int) (fp : List Nat) (w : World) (h : Rd w v gens fp) (hg : ∀ g ∈ gens, PM.IsP g ∧ g.length ≤ 1000) (hl : l ∈ ltrs gens.length) (hn : gens.length ≤ 1000) :
    Calls Tryz.prog 43 #[v, .int .i64 l] w fun e w' => ∃ v fp', e = .returned v ∧ Rd w' v (mv gens l) fp' ∧ (∀ b ∈ fp', b ∈ fp ∨ w.heap.size ≤ b) ∧ Only [] w w' := by
  obtain ⟨a, cap, ob, fps, rfl, rfl, hs⟩ := h.open_
  have hb := hs.bound
  rcases letter_cases hl with ⟨k, hk, rfl⟩ | ⟨k, hk, rfl⟩
  · have hm := mv_pos rfl hk
    have Hm := Lib.hid hm; clear hm
    obtain ⟨b, off, u, rfl, hob, hc, hu⟩ := hs.atRow k hk
    have e1 : wrap64 ((k : Int) + 1 - 1) = (k : Int) := wrap64_lit _ (by omega) (by omega) |>.trans (by omega)
    have e2 : (0 : Int) < (k : Int) + 1 := by omega
    go_enter Tryz.func43, Tryz.ntmps43
    go_wp2
    go_ret
    refine ⟨_, _, rfl, by rw [Hm.out]; exact hu, fun b' hb' => ?_, (by with_reducible repeat (first | exact Only.refl _ _ | assumption | refine Only.drewN ?_ _ | refine Only.drew ?_ | refine Only.alloc ?_ _ | refine Only.setCell ?_ (by intro hh; exfalso; simp at hh; try omega) _ | refine Only.trans ?_ (by assumption)))⟩
    left
    exact List.mem_append_right _ (List.mem_flatten.2 ⟨_, List.getElem_mem _, hb'⟩)
  · have hm := mv_neg rfl hk
    have Hm := Lib.hid hm; clear hm
    obtain ⟨b, off, u, rfl, hob, hc, hu⟩ := hs.atRow k hk
    have e1 : wrap64 (wrap64 (-(-((k : Int) + 1))) - 1) = (k : Int) := by
      rw [wrap64_lit (-(-((k : Int) + 1))) (by omega) (by omega), wrap64_lit _ (by omega) (by omega)]; omega
    have e2 : ¬ (0 : Int) < -((k : Int) + 1) := by omega
    have hg2 := hg _ (List.getElem_mem hk)
    go_enter Tryz.func43, Tryz.ntmps43
    go_wp2_with ((go_at_call 81; (with_reducible refine (implInverse0_rd u gens[k] _ _ hu hg2.1 hg2.2).mono ?_); rintro e w2 ⟨u2, f2, rfl, r2, F2, t2⟩))
    go_ret
    exact ⟨_, _, rfl, by rw [Hm.out]; exact r2, fun b' hb' => .inr (F2.ge b' hb'), (by with_reducible repeat (first | exact Only.refl _ _ | assumption | refine Only.drewN ?_ _ | refine Only.drew ?_ | refine Only.alloc ?_ _ | refine Only.setCell ?_ (by intro hh; exfalso; simp at hh; try omega) _ | refine Only.trans ?_ (by assumption)))⟩
set_option maxHeartbeats 1000000 in
theorem letters_any (m : Nat) (w : World) (hm : m ≤ 1000) :
    Calls Tryz.prog 40 #[.int .i64 m] w fun e w' => ∃ v fp', e = .returned v ∧ Rd w' v (ltrs m) fp' ∧ Fresh w.heap.size w' fp' ∧ Only [] w w' := by
  obtain ⟨i0, hi, hz0, hz1, hz2⟩ := info_parts Tryz.info2
  go_enter Tryz.func40, Tryz.ntmps40
  go_wp2
  go_loopw [3, 6] (fun o i wr => ∃ j : Nat, j ≤ m ∧ i = .int .i64 j ∧ wr.ownsRow w.heap.size 2 1 o (ltrs j).length ((ltrs j).map (Value.int .i64)) ∧ Only [] w wr)
    (fun _ i _ => m - (intOf i).toNat)
  case atStart => exact ⟨0, Nat.zero_le _, rfl, World.ownsRow_nil w _ _ _, Only.refl _ _⟩
  case round =>
    obtain ⟨j, hj, rfl, hO, hK⟩ := hrel
    by_cases hlt : j < m
    · have hsz := hK.size
      have hlj : (ltrs j).length ≤ 2000 := by rw [ltrs_len]; omega
      go_wp2_with (at_builtin; refine wpList_app _ rfl _ _ 27 rfl w.heap.size 2 i0 _ 1 8 Tryz.underlying27 hi hz0 hz1 hz2 rfl (by omega) _ (ltrs j).length _ rfl (hO.alloc _) (some ⟨wr.heap.size, 0, none⟩) 2 2 [.int .i64 ((j : Int) + 1), .int .i64 (-((j : Int) + 1))] rfl rfl (lit_srcA wr [.int .i64 ((j : Int) + 1), .int .i64 (-((j : Int) + 1))] _ rfl) (by simp) (by intro u hu; simp at hu; rcases hu with rfl | rfl <;> rfl) (by unfold maxLen; omega) (by omega) (by simp; omega) ?_; intro v1 w1 hO1 hg1 hb1)
      go_roundw
      case rel => exact ⟨j + 1, by omega, by go_num, by simpa [ltrs] using hO1, (hK.alloc _).grown hg1 (by intro k hk hk2; have := (hO.lt k hk).1; omega)⟩
      case measure => simp [intOf]; omega
    · have hjl : j = m := by omega
      rw [hjl] at hO
      have hw : ∀ x ∈ ltrs m, I64 x := fun x hx => by have := mem_ltrs.1 hx; unfold I64; omega
      obtain ⟨a', cap', hv, -, hI, hF⟩ := own_ints hO hw
      have HI := Lib.hid hI
      have Hv := Lib.hid hv
      clear hjl hO hv hI hw
      go_wp2
      go_ret
      refine ⟨_, _, rfl, ?_, hF, hK⟩
      have hr := HI.out.rd
      rw [← Hv.out] at hr; exact hr
end Go.Proofs.YtpkplmnpepkdaaaGreat

namespace Go.Proofs.YtpkplmnpepkdaaaGreat
open Go.RowKit
set_option maxRecDepth 10000

theorem validPz_facts {x : Puzzle} (h : validPz x = true) : 1 ≤ x.points ∧ x.points ≤ 20 ∧ x.moves.length ≤ 8 ∧ ∀ y ∈ x.moves, (y.length : Int) = x.points ∧ permB y = true := by
  unfold validPz at h
  rw [Bool.and_eq_true] at h
  have h1 := h.1
  unfold gensB at h1
  rw [Bool.and_eq_true, Bool.and_eq_true, inR_iff, decide_eq_true_iff, List.all_eq_true] at h1
  refine ⟨h1.1.1.1, h1.1.1.2, h1.1.2, fun y hy => ?_⟩
  have := h1.2 y hy
  unfold genB at this
  simpa using this
theorem validPz_pn {x : Puzzle} (h : validPz x = true) : ∀ g ∈ x.moves, PM.PN x.points.toNat g := by
  intro g hg
  obtain ⟨h1, h2, h3, h4⟩ := validPz_facts h
  obtain ⟨h5, h6⟩ := h4 g hg
  exact ⟨by omega, (permB_iff.1 h6).2⟩
/-- the tables that can be checked -/
def checkT (x : Puzzle) (t : Table) : Bool := validPz x && (wfT t && (trackB x.points t.tracked && t.patterns.all (patB x.points t.tracked.length)))
theorem checkT_iff {x : Puzzle} {t : Table} : checkT x t = true ↔ validPz x = true ∧ wfT t = true ∧ trackB x.points t.tracked = true ∧ ∀ p ∈ t.patterns, patB x.points t.tracked.length p = true := by
  simp [checkT]
/-- the index of the first pattern that is this one, -1 if there is none -/
def idxL (l : List (List Int)) (p : List Int) : Int := idxF (fun q => decide (q = p)) l
/-- the pattern behind a letter -/
def nxt (x : Puzzle) (p : List Int) (l : Int) : List Int := PM.comp p (mv x.moves l)
/-- where a letter leads -/
def nextI (x : Puzzle) (t : Table) (p : List Int) (l : Int) : Int := idxL t.patterns (nxt x p l)
/-- a letter leads to an entry of this distance -/
def leads (x : Puzzle) (t : Table) (p : List Int) (d : Int) (l : Int) : Bool := decide (0 ≤ nextI x t p l) && decide (t.distances.getD (nextI x t p l).toNat 0 = d)
/-- the first letter that leads to an entry of this distance, 0 if there is none -/
def descL (x : Puzzle) (t : Table) (p : List Int) (d : Int) : Int := ((ltrs x.moves.length).find? (leads x t p d)).getD 0
structure Fault where
  kind : Int
  entry : Int
  letter : Int
instance : Rp Fault where
  size := 3
  rep _ cs x fp := cs = [Value.int .i64 x.kind, Value.int .i64 x.entry, Value.int .i64 x.letter] ∧ (I64 x.kind ∧ I64 x.entry ∧ I64 x.letter) ∧ fp = []
  len h := by rw [h.1]; rfl
  frame h _ := h
  lt h := by rw [h.2.2]; simp
def atD (t : Table) (i : Int) : Int := t.distances.getD i.toNat 0
def atP (t : Table) (i : Nat) : List Int := t.patterns.getD i []
def one (b : Bool) (f : Fault) : List Fault := if b = true then [f] else []
/-- the fault of a letter -/
def letF (x : Puzzle) (t : Table) (i : Nat) (l : Int) : List Fault :=
  if nextI x t (atP t i) l < 0 then [⟨4, i, l⟩] else if inR (atD t (nextI x t (atP t i) l) - atD t i) (-1) 1 = true then [] else [⟨5, i, l⟩]
def entF (x : Puzzle) (t : Table) (i : Nat) : List Fault :=
  one (decide (i = 0) && (decide (atD t i ≠ 0) || decide (atP t 0 ≠ t.tracked))) ⟨1, i, 0⟩ ++
  (one (decide (idxL t.patterns (atP t i) < i)) ⟨2, i, 0⟩ ++
  (one (decide (0 < i) && decide (atD t i = 0)) ⟨3, i, 0⟩ ++
  ((ltrs x.moves.length).flatMap (letF x t i) ++
  one (decide (0 < atD t i) && decide (descL x t (atP t i) (atD t i - 1) = 0)) ⟨6, i, 0⟩)))
/-- a fault by which a distance may be too great -/
def badK (f : Fault) : Bool := decide (f.kind = 1) || (decide (f.kind = 4) || decide (f.kind = 5))
def admB (x : Puzzle) (t : Table) : Bool := checkT x t && (List.range t.patterns.length).all fun i => (entF x t i).all fun f => !badK f

theorem idxF_nonneg_or {α : Type} (pr : α → Bool) (l : List α) : idxF pr l = -1 ∨ ∃ k : Nat, ∃ h : k < l.length, idxF pr l = k ∧ pr l[k] = true := by
  unfold idxF
  cases h : l.findIdx? pr with
  | none => exact .inl rfl
  | some i =>
    right
    obtain ⟨hi, hp, -⟩ := List.findIdx?_eq_some_iff_getElem.1 h
    exact ⟨i, hi, rfl, hp⟩
theorem idxL_lt {l : List (List Int)} {p : List Int} : -1 ≤ idxL l p ∧ idxL l p < l.length := by
  rcases idxF_nonneg_or (fun q => decide (q = p)) l with h | ⟨k, hk, h, -⟩
  · unfold idxL; omega
  · unfold idxL; omega
theorem one_len (b : Bool) (f : Fault) : (one b f).length ≤ 1 := by unfold one; split <;> simp
theorem letF_len (x : Puzzle) (t : Table) (i : Nat) (l : Int) : (letF x t i l).length ≤ 1 := by unfold letF; split <;> (try split) <;> simp
theorem flat_len {α β : Type} {f : α → List β} {m : Nat} (h : ∀ a, (f a).length ≤ m) : ∀ l : List α, (l.flatMap f).length ≤ m * l.length
  | [] => by simp
  | a :: l => by
    have := flat_len h l; have := h a
    simp only [List.flatMap_cons, List.length_append, List.length_cons, Nat.mul_add, Nat.mul_one]; omega
theorem atP_of {t : Table} {i : Nat} (h : i < t.patterns.length) : atP t i = t.patterns[i] := by
  unfold atP; rw [List.getD_eq_getElem?_getD, List.getElem?_eq_getElem h]; rfl
theorem atD_of {t : Table} {i : Nat} {j : Int} (hj : j = i) (h : i < t.distances.length) : atD t j = t.distances[i] := by
  unfold atD; rw [hj, Int.toNat_natCast, List.getD_eq_getElem?_getD, List.getElem?_eq_getElem h]; rfl
theorem nxt_pat {x : Puzzle} {k : Nat} {p : List Int} {l : Int} (hv : validPz x = true) (hp : patB x.points k p = true) (hl : l ∈ ltrs x.moves.length) : patB x.points k (nxt x p l) = true := by
  obtain ⟨h1, h2, h3, h4⟩ := validPz_facts hv
  obtain ⟨h5, h6, h7⟩ := patB_iff.1 hp
  have hm := mv_pn (validPz_pn hv) hl
  refine patB_iff.2 ⟨by unfold nxt; rw [PM.comp_len]; exact h5, fun y hy => ?_, ?_⟩
  · obtain ⟨z, hz, rfl⟩ := List.mem_map.1 hy
    have := h6 z hz
    have := hm.rng this.1 (by omega)
    omega
  · unfold nxt PM.comp
    rw [List.nodup_iff_pairwise_ne, List.pairwise_map]
    refine (List.nodup_iff_pairwise_ne.1 h7).imp_of_mem fun {a b} ha hb hab he => hab ?_
    have h8 := h6 a ha; have h9 := h6 b hb
    exact hm.inj h8.1 (by omega) h9.1 (by omega) he
end Go.Proofs.YtpkplmnpepkdaaaGreat

namespace Go.Proofs.YtpkplmnpepkdaaaGreat
open Go.RowKit
set_option maxRecDepth 10000

/-- one point more is laid into a permutation -/
theorem ins_isP {p : List Int} (h : PM.IsP p) {k : Nat} (_ : k ≤ p.length) : PM.IsP (p.take k ++ ((p.length : Int) :: p.drop k)) := by
  have hperm : (p.take k ++ ((p.length : Int) :: p.drop k)).Perm ((p.length : Int) :: p) := by
    have := List.perm_middle (l₁ := p.take k) (l₂ := p.drop k) (a := (p.length : Int))
    rwa [List.take_append_drop] at this
  have hl : (p.take k ++ ((p.length : Int) :: p.drop k)).length = p.length + 1 := by rw [hperm.length_eq]; rfl
  refine ⟨fun x hx => ?_, hperm.nodup_iff.2 (List.nodup_cons.2 ⟨fun hm => ?_, h.2⟩)⟩
  · rw [hl]
    rcases List.mem_cons.1 (hperm.mem_iff.1 hx) with rfl | hx
    · omega
    · have := h.1 x hx; omega
  · have := h.1 _ hm; omega
theorem IntsA.drop {w : World} {b off cap : Nat} {l : List Int} {fp : List Nat} (h : IntsA w (some ⟨b, off, none⟩) cap l fp) {k : Nat} (hk : k ≤ l.length) : IntsA w (some ⟨b, off + k, none⟩) (cap - k) (l.drop k) fp := by
  have hl := h.len
  have hc := h.cap
  refine ⟨by rw [List.length_drop]; omega, by omega, fun x hx => h.wf x (List.mem_of_mem_drop hx), fun i hi => ?_, h.lt, h.one⟩
  rw [List.length_drop] at hi
  obtain ⟨b', off', ha, hf, hcell⟩ := h.at_ (k + i) (by omega)
  injection ha with ha; injection ha with e1 e2; subst e1; subst e2
  refine ⟨b, off + k, rfl, hf, ?_⟩
  rw [Nat.add_assoc, List.getElem_drop]
  exact hcell

end Go.Proofs.YtpkplmnpepkdaaaGreat

namespace Go.Proofs.YtpkplmnpepkdaaaGreat
open Go.RowKit
set_option maxRecDepth 10000

def empV (eb : Nat → Nat) (j : Nat) : List RawV := (List.range j).map fun k => ⟨.slice (some ⟨eb k, 0, none⟩) 0 0⟩
theorem empV_len (eb : Nat → Nat) (j : Nat) : (empV eb j).length = j := by simp [empV]
theorem empV_succ (eb : Nat → Nat) (j b : Nat) : empV (updF eb j b) (j + 1) = empV eb j ++ [⟨.slice (some ⟨b, 0, none⟩) 0 0⟩] := by
  unfold empV
  rw [List.range_succ, List.map_append]
  congr 1
  · refine List.map_congr_left fun k hk => ?_
    rw [updF_other _ _ (by have := List.mem_range.1 hk; omega)]
  · simp [updF_same]
/-- the reference's chain as far as it is made: j1 rows, j2 lists of generators -/
structure SR (eR eG : TypeId) (n : Nat) (w : World) (g : Nat) (j1 j2 : Nat) (wr : World) (S : Key → List Nat) (tv gt : Value) (rb : Nat → Nat) (iv : Nat → Value) (eb : Nat → Nat) : Prop where
  em : Em eR w.heap.size n j1 wr S tv rb iv
  gS : S .g = [g]
  acc : ∃ fs, Acc w.heap.size eR wr gt (empV eb j2) fs ∧ fs.flatten = []
  gtS : gt.ownBlock.toList = S .gt
  emp : ∀ k, k < j2 → S (.emp k) = [eb k] ∧ Acc w.heap.size eG wr (.slice (some ⟨eb k, 0, none⟩) 0 0) ([] : List (List Int)) []
  blk : Blk wr g [.int .i64 n, tv, gt]
  keep : Only [] w wr
section
variable {eR eG eI : TypeId} {n : Nat} {w wr w1 w2 w4 w5 w8 w9 : World} {g j j1 j2 : Nat} {S : Key → List Nat} {tv gt : Value} {rb : Nat → Nat} {iv : Nat → Value} {eb : Nat → Nat}
theorem SR.row (h : SR eR eG n w g j j2 wr S tv gt rb iv eb) (hj : j < n)
    (hown : w1.ownsRow wr.heap.size eI 1 (.slice (some ⟨wr.heap.size, 0, none⟩) n n) n (List.replicate n (.slice none 0 0))) (h1 : Only [] wr w1)
    {v2 : Value} {f2 : List Nat} (r2 : Rd w2 v2 (PM.pts n) f2) (F2 : Fresh w1.heap.size w2 f2) (h2 : Only [] w1 w2) (h4 : Only [] (w2.setCell ⟨wr.heap.size, j, none⟩ v2) w4)
    {tv' : Value} {fs' : List (List Nat)} (hA : Acc w.heap.size eR w5 tv' (rowsV n rb j ++ [⟨rowV n wr.heap.size⟩]) fs') (hfs : fs'.flatten = []) (h5 : Only tv.ownBlock.toList w4 w5) (hb : tv'.ownBlock = tv.ownBlock ∨ tv'.ownBlock = some w4.heap.size) :
    ∃ S' rb' iv', SR eR eG n w g (j + 1) j2 (w5.setCell ⟨g, 1, none⟩ tv') S' tv' gt rb' iv' eb := by
  obtain ⟨S', hE', e1, e2, e3⟩ := h.em.step hj hown h1 r2 F2 h2 h4 hA hfs h5 hb
  have hst := setCell_only w5 g 1 tv'
  have hst2 := setCell_only w2 wr.heap.size j v2
  have hgS : g ∈ S .g := by rw [h.gS]; simp
  have hgS' : g ∈ S' .g := by rw [e1]; exact hgS
  have hglt := h.em.sep.lt _ _ hgS
  have hgtv : g ∉ tv.ownBlock.toList := by rw [h.em.tvS]; exact h.em.sep.sep _ _ (by simp) _ hgS
  have hwr : w.heap.size ≤ wr.heap.size := h.keep.size
  have hw2 : wr.heap.size ≤ w2.heap.size := Nat.le_trans h1.size h2.size
  have key : ∀ {β : Type} [Rp β] {e : TypeId} {v : Value} {l : List β} {fs : List (List Nat)}, Acc w.heap.size e wr v l fs → fs.flatten = [] → (∀ b ∈ v.ownBlock.toList, b ∉ S .g ∧ b ∉ S .tv ∧ b < wr.heap.size) → Acc w.heap.size e (w5.setCell ⟨g, 1, none⟩ tv') v l fs := by
    intro β _ e v l fs hA hfs hv
    refine ((((((hA.keep h1).keep h2).only hst2 (by rw [hfs]; simp) fun x hx hm => ?_).keep h4).only h5 (by rw [hfs]; simp) fun x hx hm => ?_).only hst (by rw [hfs]; simp) fun x hx hm => ?_)
    · have e : x = wr.heap.size := by simpa using hm
      have := (hv x (by simp [hx])).2.2; omega
    · rw [h.em.tvS] at hm
      exact (hv x (by simp [hx])).2.1 hm
    · have e : x = g := by simpa using hm
      subst e
      exact (hv x (by simp [hx])).1 hgS
  obtain ⟨fs, hacc, hfs0⟩ := h.acc
  refine ⟨S', _, _, hE'.only hst fun b hb' => ?_, by rw [e1, h.gS], ⟨fs, key hacc hfs0 fun b hb' => ?_, hfs0⟩, by rw [e2]; exact h.gtS, fun k hk => ⟨by rw [e3]; exact (h.emp k hk).1, key (h.emp k hk).2 rfl fun b hb' => ?_⟩, ?_, ?_⟩
  · have e : b = g := by simpa using hb'
    subst e
    exact ⟨hE'.sep.sep _ _ (by simp) _ hgS', fun k => hE'.sep.sep _ _ (by simp) _ hgS', fun k => hE'.sep.sep _ _ (by simp) _ hgS'⟩
  · rw [h.gtS] at hb'
    exact ⟨h.em.sep.sep _ _ (by simp) _ hb', h.em.sep.sep _ _ (by simp) _ hb', h.em.sep.lt _ _ hb'⟩
  · have hb2 : b ∈ S (.emp k) := by rw [(h.emp k hk).1]; simpa [Value.ownBlock, eq_comm] using hb'
    exact ⟨h.em.sep.sep _ _ (by simp) _ hb2, h.em.sep.sep _ _ (by simp) _ hb2, h.em.sep.lt _ _ hb2⟩
  · have := (((((h.blk.keep h1).keep h2).only hst2 (by simp; omega)).keep h4).only h5 hgtv).set 1 tv'
    simpa using this
  · refine ((((h.keep.trans h1).trans h2).setCell (fun h => by simp at h; omega) _).trans h4).then_ h5 (fun x hx hl => ?_) |>.setCell (fun h' => ?_) _
    · rw [h.em.tvS] at hx
      have := h.em.sep.ge _ _ hx; omega
    · have := h.em.sep.ge _ _ hgS
      have h'' : g < w.heap.size := h'
      omega
theorem SR.gen {e0 : Nat} (he0 : e0 = wr.heap.size) (h : SR eR eG n w g j1 j wr S tv gt rb iv eb) (h8 : Only [] (wr.alloc (.cells #[] eG)) w8)
    {gt' : Value} {fs' : List (List Nat)} (hA : Acc w.heap.size eR w9 gt' (empV eb j ++ [⟨.slice (some ⟨e0, 0, none⟩) 0 0⟩]) fs') (hfs : fs'.flatten = []) (h9 : Only gt.ownBlock.toList w8 w9) (hb : gt'.ownBlock = gt.ownBlock ∨ gt'.ownBlock = some w8.heap.size) :
    ∃ S' eb', SR eR eG n w g j1 (j + 1) (w9.setCell ⟨g, 2, none⟩ gt') S' tv gt' rb iv eb' := by
  subst he0
  have hst := setCell_only w9 g 2 gt'
  have h7 : Only [] wr (wr.alloc (.cells #[] eG)) := (Only.refl _ _).alloc _
  have h78 := h7.trans h8
  have hs7 : (wr.alloc (.cells #[] eG)).heap.size = wr.heap.size + 1 := by simp
  have hs8 := h8.size
  have hs9 := h9.size
  have hgS : g ∈ S .g := by rw [h.gS]; simp
  have hglt := h.em.sep.lt _ _ hgS
  have hwr : w.heap.size ≤ wr.heap.size := h.keep.size
  have hggt : g ∉ gt.ownBlock.toList := by rw [h.gtS]; exact h.em.sep.sep _ _ (by simp) _ hgS
  -- the old rows
  have hE9 : Em eR w.heap.size n j1 (w9.setCell ⟨g, 2, none⟩ gt') S tv rb iv := ((h.em.keep h78).only h9 fun b hb' => by
    rw [h.gtS] at hb'
    exact ⟨h.em.sep.sep _ _ (by simp) _ hb', fun k => h.em.sep.sep _ _ (by simp) _ hb', fun k => h.em.sep.sep _ _ (by simp) _ hb'⟩).only hst fun b hb' => by
    have e : b = g := by simpa using hb'
    subst e
    exact ⟨h.em.sep.sep _ _ (by simp) _ hgS, fun k => h.em.sep.sep _ _ (by simp) _ hgS, fun k => h.em.sep.sep _ _ (by simp) _ hgS⟩
  have hemp : ∀ k b, k < j → b ∈ S (.emp k) → b ∉ gt.ownBlock.toList ∧ b ≠ g ∧ b < wr.heap.size := fun k b hk hb' => by
    refine ⟨by rw [h.gtS]; exact h.em.sep.sep _ _ (by simp) _ hb', fun e => h.em.sep.sep .g (.emp k) (by simp) _ hgS (e ▸ hb'), h.em.sep.lt _ _ hb'⟩
  have hS1 : Sep w.heap.size w8 (updS S (.emp j) [wr.heap.size]) := h.em.sep.upd (fun x hx => by
    have e : x = wr.heap.size := by simpa using hx
    omega) (by omega)
  have hgt'S : ∀ x, gt'.ownBlock = some x → x ≠ g := fun x hx e => by
    subst e
    rcases hb with hb | hb
    · rw [hb] at hx; exact hggt (by simp [hx])
    · rw [hb] at hx; injection hx with hx; omega
  have hblk : Blk (w9.setCell ⟨g, 2, none⟩ gt') g [.int .i64 n, tv, gt'] := by
    have := ((h.blk.keep h78).only h9 hggt).set 2 gt'
    simpa using this
  have hkeep : Only [] w (w9.setCell ⟨g, 2, none⟩ gt') := by
    refine ((h.keep.trans h78).then_ h9 fun x hx hl => ?_).setCell (fun h' => ?_) _
    · rw [h.gtS] at hx
      have := h.em.sep.ge _ _ hx; omega
    · have := h.em.sep.ge _ _ hgS
      have h'' : g < w.heap.size := h'
      omega
  have hacc : Acc w.heap.size eR (w9.setCell ⟨g, 2, none⟩ gt') gt' (empV (updF eb j wr.heap.size) (j + 1)) fs' := by
    rw [empV_succ]
    exact hA.only hst (by rw [hfs]; simp) fun x hx hm => hgt'S x hx (by simpa using hm)
  have hnew : Acc w.heap.size eG (w9.setCell ⟨g, 2, none⟩ gt') (.slice (some ⟨wr.heap.size, 0, none⟩) 0 0) ([] : List (List Int)) [] := by
    refine (((Acc.made wr w.heap.size eG rfl hwr).keep h8).only h9 (by simp) fun x hx hm => ?_).only hst (by simp) fun x hx hm => ?_
    · have e : wr.heap.size = x := by simpa [Value.ownBlock] using hx
      rw [h.gtS] at hm
      have := h.em.sep.lt _ _ hm; omega
    · have e : wr.heap.size = x := by simpa [Value.ownBlock] using hx
      have e2 : x = g := by simpa using hm
      omega
  have key : ∀ S' : Key → List Nat, Sep w.heap.size (w9.setCell ⟨g, 2, none⟩ gt') S' → gt'.ownBlock.toList = S' .gt → S' .tv = S .tv → S' .g = S .g → (∀ k, S' (.row k) = S (.row k)) → (∀ k, S' (.idn k) = S (.idn k)) → (∀ k, S' (.emp k) = updS S (.emp j) [wr.heap.size] (.emp k)) →
      SR eR eG n w g j1 (j + 1) (w9.setCell ⟨g, 2, none⟩ gt') S' tv gt' rb iv (updF eb j wr.heap.size) := by
    intro S' hs hgt htv hg hr hi he
    refine ⟨hE9.reS hs htv hr hi, by rw [hg]; exact h.gS, ⟨fs', hacc, hfs⟩, hgt, fun k hk => ?_, hblk, hkeep⟩
    rw [he k]
    by_cases e : k = j
    · subst e
      rw [updS_same, updF_same]
      exact ⟨rfl, hnew⟩
    · rw [updS_other _ _ (by simpa using e), updF_other _ _ e]
      obtain ⟨p1, p2⟩ := h.emp k (by omega)
      have hin : eb k ∈ S (.emp k) := by rw [p1]; simp
      obtain ⟨q1, q2, q3⟩ := hemp k (eb k) (by omega) hin
      refine ⟨p1, ((p2.keep h78).only h9 (by simp) fun x hx hm => ?_).only hst (by simp) fun x hx hm => ?_⟩
      · have e : eb k = x := by simpa [Value.ownBlock] using hx
        subst e; exact q1 hm
      · have e : eb k = x := by simpa [Value.ownBlock] using hx
        subst e; exact q2 (by simpa using hm)
  have hsz9 : (w9.setCell ⟨g, 2, none⟩ gt').heap.size = w9.heap.size := by simp [World.setCell]
  rcases hb with hb | hb
  · refine ⟨updS S (.emp j) [wr.heap.size], _, key _ (hS1.keep (by omega)) ?_ ?_ ?_ (fun k => ?_) (fun k => ?_) (fun k => rfl)⟩
    · rw [hb, h.gtS, updS_other _ _ (by simp)]
    all_goals rw [updS_other _ _ (by simp)]
  · have hlt := (hA.ownlt _ hb).2
    refine ⟨updS (updS S (.emp j) [wr.heap.size]) .gt [w8.heap.size], _, key _ (hS1.upd (fun x hx => by
      have e : x = w8.heap.size := by simpa using hx
      omega) (by omega)) ?_ ?_ ?_ (fun k => ?_) (fun k => ?_) (fun k => ?_)⟩
    · rw [hb, updS_same]; rfl
    · rw [updS_other _ _ (by simp), updS_other _ _ (by simp)]
    · rw [updS_other _ _ (by simp), updS_other _ _ (by simp)]
    · rw [updS_other _ _ (by simp), updS_other _ _ (by simp)]
    · rw [updS_other _ _ (by simp), updS_other _ _ (by simp)]
    · rw [updS_other _ _ (by simp)]
theorem SR.fin (h : SR eR eG n w g n n wr S tv gt rb iv eb) (hn : 0 < n) (hn20 : n ≤ 20) : NC1 eG 2 1 n w (.pointer (some ⟨g, 0, none⟩)) wr := by
  obtain ⟨fs, hA, hfs⟩ := h.acc
  have hlen := empV_len eb n
  obtain ⟨bg, cG, hgt, -⟩ := hA.raw (k := 0) (by omega)
  rw [hlen] at hgt
  have hbg : S .gt = [bg] := by rw [← h.gtS, hgt]; rfl
  obtain ⟨css, hown, -, -⟩ := hA.own
  have hob := (own_fresh hown).own
  rw [h.gtS, hbg] at hob
  obtain ⟨L, M, F, e1, e2, e3, -, hC⟩ := h.em.ch (eG := eG) (oG := 2) (oT := 1) (cG := cG) hn hn20 (fun k => .slice (some ⟨eb k, 0, none⟩) 0 0) h.gS hbg (h.blk.cell 0 rfl) (by rw [h.blk.cell 2 rfl, hgt]) (h.blk.cell 1 rfl)
    (fun k hk => by
      obtain ⟨g', c', q1, q2⟩ := hA.raw (k := k) (by omega)
      have q3 := hgt.symm.trans q1
      injection q3 with q4 _ _
      injection q4 with q5
      injection q5 with q6 _ _
      rw [← q6] at q2
      rw [q2]; simp [empV])
    (fun k hk => (h.emp k hk).2) (fun k hk => by rw [(h.emp k hk).1]; rfl) hob
  exact ⟨L, _, M, F, by rw [e1], e2, e3, hC, h.keep⟩
end
set_option maxHeartbeats 2000000 in
theorem emptyChain_any (n : Nat) (hn : 0 < n) (hn20 : n ≤ 20) (w : World) :
    Calls Tryz.prog 86 #[.int .i64 n] w fun e w' => ∃ v, e = .returned v ∧ NC1 27 2 1 n w v w' := by
  obtain ⟨i2, hi2, hz20, hz21, hz22⟩ := info_parts Tryz.info222
  obtain ⟨i1, hi, hz0, hz1, hz2⟩ := info_parts Tryz.info22
  have HN0 : Hid (∃ S tv gt rb iv eb, SR 24 27 n w w.heap.size 0 0 (w.alloc (.cells #[.int .i64 n, .slice none 0 0, .slice none 0 0] 131)) S tv gt rb iv eb) := Lib.hid (by
    have hsz : (w.alloc (.cells #[.int .i64 n, .slice none 0 0, .slice none 0 0] 131)).heap.size = w.heap.size + 1 := by simp
    exact ⟨updS (updS (fun _ => []) .g [w.heap.size]) .gt [], .slice none 0 0, .slice none 0 0, fun _ => 0, fun _ => .slice none 0 0, fun _ => 0, Em.start _ n (Sep.start _ _ (by omega) (by simp) (by simp) (by simp)) (by rw [updS_other _ _ (by simp), updS_other _ _ (by simp)]) _ _, by rw [updS_other _ _ (by simp), updS_same], ⟨[], Acc.nil _ _ _, rfl⟩, by rw [updS_same]; rfl, by intro k hk; omega, Blk.new w _ _, (Only.refl _ _).alloc _⟩)
  go_enter Tryz.func86, Tryz.ntmps86
  go_wp2
  go_loopw [4] (fun i wr => ∃ (j : Nat), j ≤ n ∧ i = .int .i64 j ∧ ∃ S tv gt rb iv eb, SR 24 27 n w w.heap.size j j wr S tv gt rb iv eb)
    (fun i _ => n - (intOf i).toNat)
  case atStart => exact ⟨0, Nat.zero_le _, rfl, HN0.out⟩
  case round =>
    obtain ⟨W2, hnew⟩ : ∃ W, W = wr := ⟨_, rfl⟩
    subst hnew
    obtain ⟨j, hj, rfl, S, tv, gt, rb, iv, eb, hN⟩ := hrel
    by_cases hlt : j < n
    · have hE := hN.em
      have hgS : w.heap.size ∈ S .g := by rw [hN.gS]; simp
      have hglt := hE.sep.lt _ _ hgS
      have hgtv : w.heap.size ∉ tv.ownBlock.toList := by rw [hE.tvS]; exact hE.sep.sep _ _ (by simp) _ hgS
      have hggt : w.heap.size ∉ gt.ownBlock.toList := by rw [hN.gtS]; exact hE.sep.sep _ _ (by simp) _ hgS
      obtain ⟨fs, hA, hfs⟩ := hE.acc
      have hrl := rowsV_len n rb j
      have hel := empV_len eb j
      have hne : w.heap.size ≠ W2.heap.size := by omega
      have hBn : w.heap.size ≤ W2.heap.size := hN.keep.size
      have htvlt : ∀ g, tv.ownBlock = some g → g ∉ [W2.heap.size] := fun g hg hm => by
        have h5 := (hA.ownlt g hg).2
        have h6 : g = W2.heap.size := by simpa using hm
        omega
      have HN := Lib.hid hN
      have HA := Lib.hid hA
      have Hfs := Lib.hid hfs
      have Hrl := Lib.hid hrl
      have Hel := Lib.hid hel
      have Hgtv := Lib.hid hgtv
      have Hggt := Lib.hid hggt
      have Htvlt := Lib.hid htvlt
      clear hN hE hA hfs hrl hel hgS hgtv hggt htvlt
      go_wp2_with (first
        | (at_make; refine wpList_make_full _ rfl _ _ 24 rfl W2.heap.size 27 i1 _ 1 Tryz.underlying24 hi hz0 hz1 _ _ _ _ n rfl rfl rfl rfl (by rw [hz2]; omega) (by unfold maxLen; omega) (Nat.le_refl _) ?_; intro w3 hown hg; rw [madeNils', Nat.mul_one] at hown; have h3 : Only [] W2 w3 := (Only.refl _ _).grown hg (by simp); have Hown := Lib.hid hown; clear hown hg)
        | (go_at_call 61; (with_reducible refine (specIdentity_any n w3 (by omega)).mono ?_); rintro en w4 ⟨v4, f4, rfl, r4, F4, t4⟩; obtain ⟨a4, c4, rfl, -⟩ := r4.ints; have hO4 := owns_keep Hown.out t4; have c40 := (hO4.cellAt j (by omega)); rw [List.getElem?_replicate, if_pos hlt] at c40; have z40 := hO4.frozenAt j; have HO4 := Lib.hid hO4; clear hO4; have c41 := ((HN.out.blk.keep h3).keep t4).cell 1 rfl)
        | (at_builtin; go_loud (refine wpList_push2d (α := RawV) rfl (.tmp 25) (.tmp 27) 129 rfl w.heap.size 24 i2 _ 24 Tryz.underlying129 hi2 hz20 hz21 hz22 rfl (by decide) (by decide) (w4.setCell ⟨W2.heap.size, j, none⟩ _) tv (rowsV n rb j) fs rfl (((HA.out.keep h3).keep t4).only (setCell_only w4 _ j _) (by rw [Hfs.out]; simp) Htvlt.out) ((Only.refl _ _).alloc _) (Nat.le_trans hBn (Nat.le_trans (Nat.le_trans h3.size t4.size) (setCell_only w4 _ j _).size)) _ 1 [.slice (some ⟨W2.heap.size, 0, none⟩) n n] ⟨rowV n W2.heap.size⟩ [] rfl (lit_src _ [.slice (some ⟨W2.heap.size, 0, none⟩) n n] _ (by simp only [World.size_setCell])) (by intro u hu; simp at hu; subst hu; rfl) ⟨rfl, rfl⟩ (by simp) (by rw [Hrl.out]; omega) ?_; intro v5 w5 hA5 hO5 hb5; obtain ⟨a5, n5, c5, rfl⟩ : ∃ a n c, v5 = Value.slice a n c := (let ⟨a, c, hh⟩ := hA5.form; ⟨a, _, c, hh⟩); have hB5 := ((((HN.out.blk.keep h3).keep t4).only (setCell_only w4 W2.heap.size j _) (by simpa using hne)).keep ((Only.refl _ _).alloc _)).only hO5 Hgtv.out; have y5 := hB5.cell 1 rfl; have z5 := hB5.frozen 1; clear hB5; obtain ⟨S6, rb6, iv6, hN6⟩ := HN.out.row hlt Hown.out h3 r4 F4 t4 ((Only.refl _ _).alloc _) hA5 (by rw [List.flatten_append, Hfs.out]; rfl) hO5 hb5; obtain ⟨fs6, hA6, hfs6⟩ := hN6.acc; have y6 := hN6.blk.cell 2 rfl; have hn6 : w.heap.size ≤ (w5.setCell ⟨w.heap.size, 1, none⟩ (.slice a5 n5 c5)).heap.size := hN6.keep.size; have HN6 := Lib.hid hN6; have Hn6 := Lib.hid hn6; have HA6 := Lib.hid hA6; have Hfs6 := Lib.hid hfs6; clear hN6 hA6 hfs6 hn6))
        | (at_builtin; go_loud (refine wpList_push2d (α := RawV) rfl (.tmp 35) (.tmp 37) 129 rfl w.heap.size 24 i2 _ 24 Tryz.underlying129 hi2 hz20 hz21 hz22 rfl (by decide) (by decide) (w5.setCell ⟨w.heap.size, 1, none⟩ _) gt (empV eb j) fs6 rfl HA6.out (((Only.refl _ _).alloc _).alloc _) Hn6.out _ 1 [.slice (some ⟨w5.heap.size, 0, none⟩) 0 0] ⟨.slice (some ⟨w5.heap.size, 0, none⟩) 0 0⟩ [] rfl (lit_src _ [.slice (some ⟨w5.heap.size, 0, none⟩) 0 0] _ (by simp [World.size_setCell])) (by intro u hu; simp at hu; subst hu; rfl) ⟨rfl, rfl⟩ (by simp) (by rw [Hel.out]; omega) ?_; intro v9 w9 hA9 hO9 hb9; obtain ⟨a9, n9, c9, rfl⟩ : ∃ a n c, v9 = Value.slice a n c := (let ⟨a, c, hh⟩ := hA9.form; ⟨a, _, c, hh⟩); have hB9 := (HN6.out.blk.keep (((Only.refl _ _).alloc _).alloc _)).only hO9 Hggt.out; have y9 := hB9.cell 2 rfl; have z9 := hB9.frozen 2; clear hB9))
        | fail "no arm")
      go_roundw
      case rel => exact ⟨j + 1, by omega, by go_num, (let ⟨S', eb', hh⟩ := SR.gen (by simp) HN6.out ((Only.refl _ _).alloc _) hA9 (by rw [List.flatten_append, Hfs6.out]; rfl) hO9 (hb9.imp id fun h => h.trans (by simp)); ⟨S', _, _, _, _, eb', hh⟩)⟩
      case measure => simp [intOf]; omega
    · obtain rfl : j = n := by omega
      have HF := Lib.hid (hN.fin hn hn20)
      clear hN
      go_wp2
      go_ret
      exact ⟨_, rfl, HF.out⟩
theorem specGen0 {n : Nat} {B : Nat} {L : Lay} {gv : Nat → Value} {G : PM.Gens} {T : PM.Rows} {M F : List Nat} {w : World} (hC : Ch 27 B w L gv n G T M F) (hoG : L.oG = 2) (hoT : L.oT = 1) (hI : PM.Inv n 0 G T) (hL : PM.Ln n 0 G T)
    {p : List Int} {vp : Value} {fp : List Nat} (hp : PM.PN n p) (hv : Rd w vp p fp) (hf : ∀ b ∈ fp, b ∉ M) (hB : B ≤ w.heap.size) :
    Calls Tryz.prog 87 #[.pointer (some ⟨L.g, 0, none⟩), .int .i64 0, vp] w fun en w' => en = .returned (.tuple #[]) ∧ AddP 27 B L n 0 p G T M F fp gv w w' :=
  specGen_any B L hoG hoT n n 0 (by omega) (by omega) gv G T M F w hC hI hL p vp fp (PM.May.zero G hp) hv hf hB
set_option maxHeartbeats 2000000 in
theorem buildChain_any (n : Nat) (hn : 0 < n) (hn20 : n ≤ 20) (vg : Value) (gens : List (List Int)) (fpg : List Nat) (w : World) (hg : Rd w vg gens fpg) (hpn : ∀ g ∈ gens, PM.PN n g) (hgl : gens.length ≤ 1000) :
    Calls Tryz.prog 58 #[.int .i64 n, vg] w fun e w' => ∃ (L : Lay) (gv : Nat → Value) (G : PM.Gens) (T : PM.Rows) (M F : List Nat), e = .returned (.pointer (some ⟨L.g, 0, none⟩)) ∧ L.oG = 2 ∧ L.oT = 1 ∧ Ch 27 w.heap.size w' L gv n G T M F ∧ PM.Chain n gens G T ∧ Only [] w w' := by
  obtain ⟨ag, cg, obg, fpsg, rfl, hfpg, hSg⟩ := hg.open_
  have hgb := hSg.bound
  have Hpn := Lib.hid hpn
  have HSg := Lib.hid hSg
  clear hpn hSg hg hfpg
  go_enter Tryz.func58, Tryz.ntmps58
  go_wp2_with (first
    | (go_at_call 86; (with_reducible refine (emptyChain_any n hn hn20 w).mono ?_); rintro en w1 ⟨v1, rfl, hN1⟩; obtain ⟨⟨g', bg', bt', cG', cT', oG', oT', rb'⟩, gv0, M0, F0, es, eoG, eoT, hC, hK⟩ := hN1; subst es; have eoG' : oG' = 2 := eoG; subst eoG'; have eoT' : oT' = 1 := eoT; subst eoT'; have HL0 := Lib.hid (CL.start gens hC hK); clear eoG eoT hC hK)
    | fail "no arm")
  go_loopw [6] (fun i wr => ∃ m : Nat, m ≤ gens.length ∧ i = .int .i64 m ∧ CL 27 ⟨g', bg', bt', cG', cT', 2, 1, rb'⟩ n gens w m wr)
    (fun i _ => gens.length - (intOf i).toNat)
  case atStart => exact ⟨0, Nat.zero_le _, rfl, HL0.out⟩
  case round =>
    obtain ⟨W3, hnew⟩ : ∃ W, W = wr := ⟨_, rfl⟩
    subst hnew
    obtain ⟨m, hm, rfl, hCL⟩ := hrel
    obtain ⟨gv3, G3, T3, M3, F3, hC3, hc3, hL3, hK3⟩ := hCL
    by_cases hltm : m < gens.length
    · obtain ⟨b, off, u, rfl, hob, hcu0, hru0⟩ := HSg.out.atRow m hltm
      have hcu := hK3.cell (by simp) hcu0
      have hru := Rp.keep hru0 hK3
      have hgm : gens[m] ∈ gens := List.getElem_mem _
      have hpm := Hpn.out _ hgm
      have hlm : gens[m].length ≤ 1073741824 := by rw [hpm.1]; omega
      have HC3 := Lib.hid hC3
      have Hc3 := Lib.hid hc3
      have HL3 := Lib.hid hL3
      have HK3 := Lib.hid hK3
      have Hru := Lib.hid hru
      have Hpm := Lib.hid hpm
      have Hlm := Lib.hid hlm
      clear hcu0 hru0 hC3 hc3 hL3 hK3 hru hpm hob hgm hlm
      go_wp2_with (first
        | (go_at_call 36; (with_reducible refine (copyInts_rd _ _ _ _ Hru.out Hlm.out).mono ?_); rintro en w4 ⟨v4, f4, rfl, r4, F4, t4⟩)
        | (go_at_call 87; (with_reducible refine (specGen0 (HC3.out.keep t4) rfl rfl Hc3.out.inv HL3.out Hpm.out r4 (notin_fresh HC3.out.lM (Nat.le_refl _) F4) (Nat.le_trans HK3.out.size t4.size)).mono ?_); rintro en w5 ⟨rfl, ha5⟩)
        | fail "no arm")
      go_roundw
      case rel => exact ⟨m + 1, by omega, by go_num, CL.step HC3.out Hc3.out HK3.out t4 hltm ha5⟩
      case measure => simp [intOf]; omega
    · obtain rfl : m = gens.length := by omega
      rw [List.take_length] at hc3
      have Hc3 := Lib.hid hc3
      have HC3 := Lib.hid hC3
      have HK3 := Lib.hid hK3
      clear hC3 hc3 hL3 hK3
      go_wp2
      go_ret
      exact ⟨_, gv3, G3, T3, M3, F3, rfl, rfl, rfl, HC3.out, Hc3.out, HK3.out⟩
end Go.Proofs.YtpkplmnpepkdaaaGreat

namespace PM
/-- how many -/
def ordM (T : Rows) (n : Nat) : Nat → Nat
  | 0 => 1
  | m + 1 => cntR n T (n - (m + 1)) * ordM T n m
section
variable {n : Nat} {gens : List (List Int)} {G : Gens} {T : Rows} (h : Chain n gens G T) (hn : 0 < n) (hp : ∀ g ∈ gens, PN n g)
end
theorem cntR_le2 {n k : Nat} {T : Rows} (hw : WF n T) (hk : k < n) : cntR n T k ≤ n - k := by
  have h1 : ((List.range (n - k)).map fun i : Nat => ((i + k : Nat) : Int)).length = n - k := by simp
  unfold cntR
  rw [← h1]
  refine nodup_sub_len (List.Pairwise.filter _ (pts_nodup n)) fun y hy => ?_
  rw [List.mem_filter, decide_eq_true_iff, mem_pts] at hy
  obtain ⟨⟨h0, h1⟩, h2⟩ := hy
  have hky : (k : Int) ≤ y := by
    rcases Int.lt_or_le y k with hlt | hle
    · exfalso
      have a := hw.fix k y hk h2 y h0 hlt
      have b := hw.at_ k y hk h2
      have := (hw.pn k y hk h2).inj h0 h1 (by omega) (by omega) (a.trans b.symm)
      omega
    · exact hle
  rw [List.mem_map]
  exact ⟨(y - k).toNat, by simp; omega, by omega⟩
theorem cntR_pos {n k : Nat} {T : Rows} (hw : WF n T) (hk : k < n) : 1 ≤ cntR n T k := by
  unfold cntR
  refine List.length_pos_of_mem (a := (k : Int)) ?_
  rw [List.mem_filter, decide_eq_true_iff, mem_pts]
  exact ⟨by omega, by rw [hw.one k hk]; exact pts_ne (by omega)⟩
def fac : Nat → Nat
  | 0 => 1
  | m + 1 => (m + 1) * fac m
theorem ordM_rng {n : Nat} {T : Rows} (hw : WF n T) : ∀ m, m ≤ n → 1 ≤ ordM T n m ∧ ordM T n m ≤ fac m
  | 0, _ => by simp [ordM, fac]
  | m + 1, hm => by
    obtain ⟨a, b⟩ := ordM_rng hw m (by omega)
    have h1 := cntR_pos hw (k := n - (m + 1)) (by omega)
    have h2 := cntR_le2 hw (k := n - (m + 1)) (by omega)
    unfold ordM fac
    exact ⟨Nat.mul_le_mul h1 a, Nat.mul_le_mul (by omega) b⟩
theorem fac_mono : ∀ {a b : Nat}, a ≤ b → fac a ≤ fac b
  | a, 0, h => by
    have : a = 0 := by omega
    subst this; exact Nat.le_refl _
  | a, b + 1, h => by
    by_cases e : a = b + 1
    · subst e; exact Nat.le_refl _
    · have h1 := fac_mono (a := a) (b := b) (by omega)
      have h2 : fac (b + 1) = (b + 1) * fac b := rfl
      rw [h2]
      exact Nat.le_trans h1 (Nat.le_mul_of_pos_left _ (by omega))
theorem ordM_le {n : Nat} {T : Rows} (hw : WF n T) (hn : n ≤ 20) {m : Nat} (hm : m ≤ n) : ordM T n m ≤ 2432902008176640000 :=
  Nat.le_trans (ordM_rng hw m hm).2 (Nat.le_trans (fac_mono (by omega : m ≤ 20)) (by decide))
end PM

namespace PM

/-- one number more in an ascending list -/
def insU (v : Int) : List Int → List Int
  | [] => [v]
  | x :: l => if x < v then x :: insU v l else if x = v then x :: l else v :: x :: l
theorem mem_insU {v x : Int} : ∀ {l : List Int}, x ∈ insU v l ↔ x = v ∨ x ∈ l
  | [] => by simp [insU]
  | y :: l => by
    have ih := mem_insU (v := v) (x := x) (l := l)
    unfold insU
    by_cases h1 : y < v
    · rw [if_pos h1, List.mem_cons, ih, List.mem_cons]
      constructor
      · rintro (h | h | h)
        · exact Or.inr (Or.inl h)
        · exact Or.inl h
        · exact Or.inr (Or.inr h)
      · rintro (h | h | h)
        · exact Or.inr (Or.inl h)
        · exact Or.inl h
        · exact Or.inr (Or.inr h)
    · rw [if_neg h1]
      by_cases h2 : y = v
      · rw [if_pos h2]; subst h2; simp
      · rw [if_neg h2, List.mem_cons]
/-- ascending, each once -/
def Asc (l : List Int) : Prop := l.Pairwise (· < ·)
theorem insU_asc {v : Int} : ∀ {l : List Int}, Asc l → Asc (insU v l)
  | [], _ => by simp [insU, Asc]
  | y :: l, h => by
    obtain ⟨a, b⟩ := List.pairwise_cons.1 h
    have ih := insU_asc (v := v) b
    unfold insU
    by_cases h1 : y < v
    · rw [if_pos h1]
      refine List.pairwise_cons.2 ⟨fun z hz => ?_, ih⟩
      rcases mem_insU.1 hz with rfl | hz
      · exact h1
      · exact a z hz
    · rw [if_neg h1]
      by_cases h2 : y = v
      · rw [if_pos h2]; exact h
      · rw [if_neg h2]
        refine List.pairwise_cons.2 ⟨fun z hz => ?_, h⟩
        rcases List.mem_cons.1 hz with rfl | hz
        · omega
        · have := a z hz; omega
theorem asc_ext : ∀ {l l' : List Int}, Asc l → Asc l' → (∀ x, x ∈ l ↔ x ∈ l') → l = l'
  | [], [], _, _, _ => rfl
  | [], y :: l', _, _, h => by have := (h y).2 (by simp); cases this
  | x :: l, [], _, _, h => by have := (h x).1 (by simp); cases this
  | x :: l, y :: l', a, b, h => by
    obtain ⟨a1, a2⟩ := List.pairwise_cons.1 a
    obtain ⟨b1, b2⟩ := List.pairwise_cons.1 b
    have hxy : x = y := by
      have h1 := (h x).1 (by simp)
      have h2 := (h y).2 (by simp)
      rcases List.mem_cons.1 h1 with e | e
      · exact e
      · rcases List.mem_cons.1 h2 with e' | e'
        · exact e'.symm
        · have := b1 _ e; have := a1 _ e'; omega
    subst hxy
    have := asc_ext a2 b2 (fun z => ⟨fun hz => by
      rcases List.mem_cons.1 ((h z).1 (List.mem_cons_of_mem _ hz)) with e | e
      · have := a1 _ hz; omega
      · exact e, fun hz => by
      rcases List.mem_cons.1 ((h z).2 (List.mem_cons_of_mem _ hz)) with e | e
      · have := b1 _ hz; omega
      · exact e⟩)
    rw [this]
/-- the values of entry i in the members that begin as m -/
def choO (m : List Int) (ys : List Int) : List Int := ys.foldl (fun l y => insU (at_ m y) l) []
def rowP (n : Nat) (T : Rows) (i : Nat) : List Int := (pts n).filter fun y => decide (tr T i y ≠ [])
def cho (n : Nat) (T : Rows) (i : Nat) (m : List Int) : List Int := choO m (rowP n T i)
theorem choO_snoc (m ys : List Int) (y : Int) : choO m (ys ++ [y]) = insU (at_ m y) (choO m ys) := by
  unfold choO; rw [List.foldl_append]; rfl
theorem foldl_mem (m : List Int) {v : Int} : ∀ (ys acc : List Int), v ∈ ys.foldl (fun l y => insU (at_ m y) l) acc ↔ (∃ y ∈ ys, at_ m y = v) ∨ v ∈ acc
  | [], acc => by simp
  | y :: ys, acc => by
    rw [List.foldl_cons, foldl_mem m ys, mem_insU]
    constructor
    · rintro (⟨z, h1, h2⟩ | h | h)
      · exact Or.inl ⟨z, List.mem_cons_of_mem _ h1, h2⟩
      · exact Or.inl ⟨y, by simp, h.symm⟩
      · exact Or.inr h
    · rintro (⟨z, h1, h2⟩ | h)
      · rcases List.mem_cons.1 h1 with rfl | h1
        · exact Or.inr (Or.inl h2.symm)
        · exact Or.inl ⟨z, h1, h2⟩
      · exact Or.inr (Or.inr h)
theorem mem_choO {m ys : List Int} {v : Int} : v ∈ choO m ys ↔ ∃ y ∈ ys, at_ m y = v := by
  unfold choO; rw [foldl_mem]; simp
theorem foldl_asc (m : List Int) : ∀ (ys acc : List Int), Asc acc → Asc (ys.foldl (fun l y => insU (at_ m y) l) acc)
  | [], _, h => h
  | y :: ys, acc, h => by rw [List.foldl_cons]; exact foldl_asc m ys _ (insU_asc h)
theorem choO_asc (m ys : List Int) : Asc (choO m ys) := foldl_asc m ys [] List.Pairwise.nil
theorem mem_rowP {n : Nat} {T : Rows} {i : Nat} {y : Int} : y ∈ rowP n T i ↔ (0 ≤ y ∧ y < n) ∧ tr T i y ≠ [] := by
  unfold rowP; rw [List.mem_filter, mem_pts]; simp
theorem mem_cho {n : Nat} {T : Rows} {i : Nat} {m : List Int} {v : Int} : v ∈ cho n T i m ↔ ∃ y : Int, ((0 ≤ y ∧ y < n) ∧ tr T i y ≠ []) ∧ at_ m y = v := by
  unfold cho; rw [mem_choO]
  constructor
  · rintro ⟨y, h1, h2⟩; exact ⟨y, mem_rowP.1 h1, h2⟩
  · rintro ⟨y, h1, h2⟩; exact ⟨y, mem_rowP.2 h1, h2⟩
theorem Asc.nodup {l : List Int} (h : Asc l) : l.Nodup := List.Pairwise.imp (fun h => by omega) h
theorem rowP_nodup (n : Nat) (T : Rows) (i : Nat) : (rowP n T i).Nodup := List.Nodup.sublist List.filter_sublist (pts_nodup n)
theorem cho_len {n : Nat} {T : Rows} {i : Nat} {m : List Int} (hm : PN n m) : (cho n T i m).length = cntR n T i := by
  have hmap : ((rowP n T i).map (at_ m)).Nodup := by
    unfold List.Nodup
    rw [List.pairwise_map]
    refine List.Pairwise.imp_of_mem (fun {a b} ha hb hab e => hab ?_) (rowP_nodup n T i)
    obtain ⟨⟨a0, a1⟩, -⟩ := mem_rowP.1 ha
    obtain ⟨⟨b0, b1⟩, -⟩ := mem_rowP.1 hb
    exact hm.inj a0 a1 b0 b1 e
  have h1 : (cho n T i m).length ≤ ((rowP n T i).map (at_ m)).length := nodup_sub_len (choO_asc _ _).nodup fun v hv => by
    obtain ⟨y, hy, e⟩ := mem_choO.1 hv
    exact List.mem_map.2 ⟨y, hy, e⟩
  have h2 : ((rowP n T i).map (at_ m)).length ≤ (cho n T i m).length := nodup_sub_len hmap fun v hv => by
    obtain ⟨y, hy, e⟩ := List.mem_map.1 hv
    exact mem_choO.2 ⟨y, hy, e⟩
  rw [List.length_map] at h1 h2
  exact Nat.le_antisymm h1 h2
theorem at_inv' {n : Nat} {p : List Int} (hp : PN n p) {x : Int} (h0 : 0 ≤ x) (h1 : x < n) : at_ p (at_ (inv p) x) = x := by
  have h : at_ (comp (inv p) p) x = at_ (pts n) x := by rw [inv_comp hp]
  rw [at_comp h0 (by rw [hp.inv.1]; exact h1), at_pts h0 h1] at h
  exact h
/-- the member that has v at entry i -/
def putV (T : Rows) (i : Nat) (m : List Int) (v : Int) : List Int := comp (tr T i (at_ (inv m) v)) m
theorem cho_pre {n : Nat} {T : Rows} {i : Nat} {m : List Int} (hm : PN n m) {v : Int} (hv : v ∈ cho n T i m) : 0 ≤ v ∧ v < n ∧ 0 ≤ at_ (inv m) v ∧ at_ (inv m) v < n ∧ tr T i (at_ (inv m) v) ≠ [] ∧ at_ m (at_ (inv m) v) = v := by
  obtain ⟨y, ⟨⟨h0, h1⟩, h2⟩, rfl⟩ := mem_cho.1 hv
  have hr := hm.rng h0 h1
  have e := at_inv hm h0 h1
  rw [e]
  exact ⟨hr.1, hr.2, h0, h1, h2, rfl⟩
/-- two permutations begin alike -/
def Alike (i : Nat) (p q : List Int) : Prop := ∀ x : Int, 0 ≤ x → x < i → at_ p x = at_ q x
theorem putV_pn {n : Nat} {T : Rows} (hw : WF n T) {i : Nat} (hi : i < n) {m : List Int} (hm : PN n m) {v : Int} (hv : v ∈ cho n T i m) : PN n (putV T i m v) ∧ Alike i (putV T i m v) m ∧ at_ (putV T i m v) (i : Int) = v := by
  obtain ⟨h0, h1, h2, h3, h4, h5⟩ := cho_pre hm hv
  have ht := hw.pn i _ hi h4
  refine ⟨ht.comp hm, fun x x0 x1 => ?_, ?_⟩
  · unfold putV
    rw [at_comp x0 (by rw [ht.1]; omega), hw.fix i _ hi h4 x x0 x1]
  · unfold putV
    rw [at_comp (by omega) (by rw [ht.1]; omega), hw.at_ i _ hi h4, h5]
/-- down k levels from level i on, by a selection -/
def desc (T : Rows) (n : Nat) (sel : Nat → Nat → Nat) : Nat → Nat → List Int → List Int
  | 0, _, m => m
  | k + 1, i, m => desc T n sel k (i + 1) (putV T i m ((cho n T i m).getD (sel i (cho n T i m).length) 0))
section
variable {n : Nat} {gens : List (List Int)} {G : Gens} {T : Rows} (h : Chain n gens G T) (hn : 0 < n) (hp : ∀ g ∈ gens, PN n g)
include h hn hp
theorem Chain.row_grp {j : Nat} (hj : j < n) {y : Int} (hy : tr T j y ≠ []) : Grp n gens (tr T j y) := by
  have hsub : ∀ j, j < n → ∀ p, Grp n (lv G j) p → Grp n (lv G 0) p := by
    intro j
    induction j with
    | zero => intro _ p hp; exact hp
    | succ j ih =>
      intro hj p hp
      exact ih (by omega) p (Grp.mono (fun g hg => h.inv.gpn j g (by omega) hg) (fun g hg => h.inv.up j g hj hg) hp)
  exact (h.grp hn hp _).1 (hsub j hj _ (h.inv.row j y hj hy))
theorem Chain.putV {i : Nat} (hi : i < n) {m : List Int} (hm : Grp n gens m) {v : Int} (hv : v ∈ cho n T i m) : Grp n gens (PM.putV T i m v) :=
  Grp.comp hp (h.row_grp hn hp hi (cho_pre (hm.pn hp) hv).2.2.2.2.1) hm
/-- the choices are the values of the entry in the members that begin so -/
theorem Chain.mem_cho {i : Nat} (hi : i < n) {m : List Int} (hm : Grp n gens m) {v : Int} : v ∈ cho n T i m ↔ ∃ p, Grp n gens p ∧ Alike i p m ∧ at_ p (i : Int) = v := by
  have hpn := hm.pn hp
  constructor
  · intro hv
    have := putV_pn h.inv.wf hi hpn hv
    exact ⟨_, h.putV hn hp hi hm hv, this.2.1, this.2.2⟩
  · rintro ⟨p, h1, h2, rfl⟩
    have hpp := h1.pn hp
    have hq : Grp n gens (comp p (PM.inv m)) := Grp.comp hp h1 (hm.inv hp)
    have hr := hpp.rng (x := (i : Int)) (by omega) (by omega)
    have hir := (hpn.inv).rng hr.1 hr.2
    refine PM.mem_cho.2 ⟨at_ (PM.inv m) (at_ p (i : Int)), ⟨hir, ?_⟩, at_inv' hpn hr.1 hr.2⟩
    refine (h.row_iff hn hp hi hir.1 hir.2).2 ⟨_, hq, fun x x0 x1 => ?_, ?_⟩
    · rw [at_comp x0 (by rw [hpp.1]; omega), h2 x x0 x1, at_inv hpn x0 (by omega)]
    · rw [at_comp (by omega) (by rw [hpp.1]; omega)]
theorem Chain.cho_congr {G' : Gens} {T' : Rows} (h' : Chain n gens G' T') {i : Nat} (hi : i < n) {m m' : List Int} (hm : Grp n gens m) (hm' : Grp n gens m') (ha : Alike i m m') : cho n T i m = cho n T' i m' := by
  refine asc_ext (choO_asc _ _) (choO_asc _ _) fun v => ?_
  show v ∈ cho n T i m ↔ v ∈ cho n T' i m'
  rw [h.mem_cho hn hp hi hm, h'.mem_cho hn hp hi hm']
  constructor
  · rintro ⟨p, a, b, c⟩; exact ⟨p, a, fun x x0 x1 => (b x x0 x1).trans (ha x x0 x1), c⟩
  · rintro ⟨p, a, b, c⟩; exact ⟨p, a, fun x x0 x1 => (b x x0 x1).trans (ha x x0 x1).symm, c⟩
theorem Chain.cntR_congr {G' : Gens} {T' : Rows} (h' : Chain n gens G' T') {i : Nat} (hi : i < n) : cntR n T i = cntR n T' i := by
  rw [← cho_len (T := T) (i := i) (PN.id n), ← cho_len (T := T') (i := i) (PN.id n), h.cho_congr hn hp h' hi .id .id fun _ _ _ => rfl]
theorem Chain.ordM_congr {G' : Gens} {T' : Rows} (h' : Chain n gens G' T') : ∀ k, k ≤ n → ordM T n k = ordM T' n k
  | 0, _ => rfl
  | k + 1, hk => by
    unfold ordM
    rw [h.cntR_congr hn hp h' (i := n - (k + 1)) (by omega), Chain.ordM_congr h' k (by omega)]
/-- the way down leads to a member -/
theorem Chain.desc_grp (sel : Nat → Nat → Nat) (hs : ∀ i, i < n → sel i (cntR n T i) < cntR n T i) : ∀ (k i : Nat) (m : List Int), i + k = n → Grp n gens m → Grp n gens (desc T n sel k i m)
  | 0, _, _, _, hm => hm
  | k + 1, i, m, hi, hm => by
    have hl := cho_len (T := T) (i := i) (hm.pn hp)
    have hlt : sel i (cho n T i m).length < (cho n T i m).length := by rw [hl]; exact hs i (by omega)
    exact Chain.desc_grp sel hs k (i + 1) _ (by omega) (h.putV hn hp (by omega) hm (by rw [List.getD_eq_getElem?_getD, List.getElem?_eq_getElem hlt]; exact List.getElem_mem hlt))
/-- and it does not hang on the chain -/
theorem Chain.desc_congr {G' : Gens} {T' : Rows} (h' : Chain n gens G' T') (sel : Nat → Nat → Nat) (hs : ∀ i, i < n → sel i (cntR n T i) < cntR n T i) : ∀ (k i : Nat) (m m' : List Int), i + k = n → Grp n gens m → Grp n gens m' → Alike i m m' → desc T n sel k i m = desc T' n sel k i m'
  | 0, i, m, m', hi, hm, hm', ha => by
    have h1 := hm.pn hp
    have h2 := hm'.pn hp
    show m = m'
    exact ext_at (by rw [h1.1, h2.1]) fun x x0 x1 => ha x x0 (by rw [h1.1] at x1; omega)
  | k + 1, i, m, m', hi, hm, hm', ha => by
    have hl := cho_len (T := T) (i := i) (hm.pn hp)
    have hc := h.cho_congr hn hp h' (by omega : i < n) hm hm' ha
    have hlt : sel i (cho n T i m).length < (cho n T i m).length := by rw [hl]; exact hs i (by omega)
    obtain ⟨v, hv⟩ : ∃ v, v = (cho n T i m).getD (sel i (cho n T i m).length) 0 := ⟨_, rfl⟩
    have hvm : v ∈ cho n T i m := by rw [hv, List.getD_eq_getElem?_getD, List.getElem?_eq_getElem hlt]; exact List.getElem_mem hlt
    have hvm' : v ∈ cho n T' i m' := by rw [← hc]; exact hvm
    unfold desc
    rw [← hc, ← hv]
    have a := putV_pn h.inv.wf (by omega : i < n) (hm.pn hp) hvm
    have b := putV_pn h'.inv.wf (by omega : i < n) (hm'.pn hp) hvm'
    refine Chain.desc_congr h' sel hs k (i + 1) _ _ (by omega) (h.putV hn hp (by omega) hm hvm) (h'.putV hn hp (by omega) hm' hvm') fun x x0 x1 => ?_
    by_cases hx : x < i
    · rw [a.2.1 x x0 hx, b.2.1 x x0 hx, ha x x0 hx]
    · have : x = (i : Int) := by omega
      subst this
      rw [a.2.2, b.2.2]
end
open Classical in
/-- the rows of some chain of the generators -/
noncomputable def chainR (n : Nat) (gens : List (List Int)) : Rows := if h : ∃ T, ∃ G, Chain n gens G T then h.choose else []
/-- the member that a selection leads to -/
noncomputable def descG (n : Nat) (gens : List (List Int)) (sel : Nat → Nat → Nat) : List Int := desc (chainR n gens) n sel n 0 (pts n)
theorem Chain.chainR {n : Nat} {gens : List (List Int)} {G : Gens} {T : Rows} (h : Chain n gens G T) : ∃ G', Chain n gens G' (PM.chainR n gens) := by
  have hex : ∃ T, ∃ G, Chain n gens G T := ⟨T, G, h⟩
  unfold PM.chainR
  rw [dif_pos hex]
  exact hex.choose_spec
theorem Chain.descG {n : Nat} {gens : List (List Int)} {G : Gens} {T : Rows} (h : Chain n gens G T) (hn : 0 < n) (hp : ∀ g ∈ gens, PN n g) (sel : Nat → Nat → Nat) (hs : ∀ i, i < n → sel i (cntR n T i) < cntR n T i) : desc T n sel n 0 (pts n) = PM.descG n gens sel := by
  obtain ⟨G', h'⟩ := h.chainR
  exact h.desc_congr hn hp h' sel hs n 0 _ _ (by omega) .id .id fun _ _ _ => rfl
theorem Chain.descG_grp {n : Nat} {gens : List (List Int)} {G : Gens} {T : Rows} (h : Chain n gens G T) (hn : 0 < n) (hp : ∀ g ∈ gens, PN n g) (sel : Nat → Nat → Nat) (hs : ∀ i, i < n → sel i (cntR n T i) < cntR n T i) : Grp n gens (PM.descG n gens sel) := by
  rw [← h.descG hn hp sel hs]
  exact h.desc_grp hn hp sel hs n 0 _ (by omega) .id
/-- one level down -/
theorem desc_step {T : Rows} {n : Nat} {sel : Nat → Nat → Nat} {i : Nat} (hi : i < n) (m : List Int) {k : Nat} (hk : k = sel i (cho n T i m).length) (hl : k < (cho n T i m).length) :
    desc T n sel (n - i) i m = desc T n sel (n - (i + 1)) (i + 1) (putV T i m (cho n T i m)[k]) := by
  have h1 : n - i = (n - (i + 1)) + 1 := by omega
  rw [h1]
  show desc T n sel (n - (i + 1)) (i + 1) (putV T i m ((cho n T i m).getD (sel i (cho n T i m).length) 0)) = _
  rw [← hk, List.getD_eq_getElem?_getD, List.getElem?_eq_getElem hl]
  rfl
theorem desc_end {T : Rows} {n : Nat} {sel : Nat → Nat → Nat} {i : Nat} (hi : n ≤ i) (m : List Int) : desc T n sel (n - i) i m = m := by
  rw [show n - i = 0 by omega]; rfl
end PM

namespace Go.Proofs.YtpkplmnpepkdaaaGreat
open Go.RowKit
set_option maxRecDepth 10000

/-- the patterns met so far and their depths -/
abbrev Met16 := List (List Int) × List Int
/-- a pattern of depth d is met; none: too many -/
def bMeet (s : Met16) (d : Int) (y : List Int) : Option Met16 := if y ∈ s.1 then some s else if s.1.length = 3000 then none else some (s.1 ++ [y], s.2 ++ [d])
/-- the letters from an entry -/
def bLets (x : Puzzle) (q : List Int) (d : Int) : List Int → Met16 → Option Met16
  | [], s => some s
  | l :: ls, s => (bMeet s d (nxt x q l)).bind (bLets x q d ls)
/-- the entries from the k-th on; n: enough -/
def bFrom (x : Puzzle) : Nat → Nat → Met16 → Option Met16
  | 0, _, s => some s
  | n + 1, k, s => if k < s.1.length then (bLets x (s.1.getD k []) (s.2.getD k 0 + 1) (ltrs x.moves.length) s).bind (bFrom x n (k + 1)) else some s
def bfs16 (x : Puzzle) (tr : List Int) : Option Met16 := if (validPz x && trackB x.points tr) = true then bFrom x 3001 0 ([tr], [0]) else none
theorem bMeet_len {s s' : Met16} {d : Int} {y : List Int} (h : bMeet s d y = some s') (h1 : s.1.length = s.2.length) (h2 : s.1.length ≤ 3000) : s'.1.length = s'.2.length ∧ s'.1.length ≤ 3000 ∧ s.1.length ≤ s'.1.length := by
  unfold bMeet at h
  split at h
  · injection h with h; subst h; exact ⟨h1, h2, Nat.le_refl _⟩
  · split at h
    · cases h
    · injection h with h; subst h; simp; omega
theorem bLets_len {x : Puzzle} {q : List Int} {d : Int} : ∀ {ls : List Int} {s s' : Met16}, bLets x q d ls s = some s' → s.1.length = s.2.length → s.1.length ≤ 3000 → s'.1.length = s'.2.length ∧ s'.1.length ≤ 3000 ∧ s.1.length ≤ s'.1.length
  | [], s, s', h, h1, h2 => by unfold bLets at h; injection h with h; subst h; exact ⟨h1, h2, Nat.le_refl _⟩
  | l :: ls, s, s', h, h1, h2 => by
    unfold bLets at h
    rw [Option.bind_eq_some_iff] at h
    obtain ⟨s1, e1, e2⟩ := h
    obtain ⟨a, b, c⟩ := bMeet_len e1 h1 h2
    obtain ⟨a', b', c'⟩ := bLets_len e2 a b
    exact ⟨a', b', Nat.le_trans c c'⟩
end Go.Proofs.YtpkplmnpepkdaaaGreat
