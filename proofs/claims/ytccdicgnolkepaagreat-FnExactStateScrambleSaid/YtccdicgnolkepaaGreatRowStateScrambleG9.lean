/- Inverses, letters, positions after a letter: the reference's and the program's. A table's faults, in plain words. Breadth-first search of patterns in plain words (law 16). Lists of one length in order; an index kept sorted by them (law 16). The reference's search: an index of lists kept sorted (law 16). States and reachable states: the reference's and the program's functions. Session: plain data, how it lies in memory, the laws' own helpers on it. (Printed by gen_struct.py.) Valid sessions: the reference's and the program's functions. A new session: the reference's and the program's. What the functions on sessions do with words and histories: pushes, evaluation of words, copies. Words evaluated: the reference's and the program's functions. Histories: a word more, a word less; copies of sessions. Copies of sessions: the reference's and the program's; what they are made of. (Printed by mkseops2.py.) PlayWord: the reference's and the program's. -/
import Derived.Test.YtccdicgnolkepaaGreatRowStateScrambleG3
import Derived.Test.YtccdicgnolkepaaGreatRowStateScrambleG8
import Derived.Laws.CopyOwn
import Derived.Test.YtccdicgnolkepaaGreatRowStateScrambleG7
import Derived.Test.YtccdicgnolkepaaGreatRowStateScrambleG6
import Derived.StillTailTactics
import Derived.Deep.RegionHeld3
import Derived.Deep.DeepCutAuto
import Derived.BigQuiet
namespace Go.Proofs.YtccdicgnolkepaaGreat
open Go.RowKit
set_option maxRecDepth 10000

/-- the letters of n moves, in order -/
def ltrs : Nat → List Int
  | 0 => []
  | n + 1 => ltrs n ++ [((n + 1 : Nat) : Int), -((n + 1 : Nat) : Int)]
theorem ltrs_len (n : Nat) : (ltrs n).length = 2 * n := by
  induction n with
  | zero => rfl
  | succ n ih => simp [ltrs, ih]; omega
theorem mem_ltrs {n : Nat} {x : Int} : x ∈ ltrs n ↔ x ≠ 0 ∧ -(n : Int) ≤ x ∧ x ≤ n := by
  induction n with
  | zero => simp [ltrs]; omega
  | succ n ih => simp [ltrs, ih]; omega
/-- the permutation of a letter -/
def mv (gens : List (List Int)) (l : Int) : List Int := if 0 < l then gens.getD (l - 1).toNat [] else PM.inv (gens.getD (-l - 1).toNat [])
theorem mv_pos {gens : List (List Int)} {l : Int} {k : Nat} (h : l = (k : Int) + 1) (hk : k < gens.length) : mv gens l = gens[k] := by
  unfold mv
  rw [if_pos (by omega), show (l - 1).toNat = k by omega, List.getD_eq_getElem?_getD, List.getElem?_eq_getElem hk]; rfl
theorem mv_neg {gens : List (List Int)} {l : Int} {k : Nat} (h : l = -((k : Int) + 1)) (hk : k < gens.length) : mv gens l = PM.inv gens[k] := by
  unfold mv
  rw [if_neg (by omega), show (-l - 1).toNat = k by omega, List.getD_eq_getElem?_getD, List.getElem?_eq_getElem hk]; rfl
theorem letter_cases {n : Nat} {l : Int} (h : l ∈ ltrs n) : (∃ k : Nat, k < n ∧ l = (k : Int) + 1) ∨ (∃ k : Nat, k < n ∧ l = -((k : Int) + 1)) := by
  rw [mem_ltrs] at h
  rcases Int.lt_or_gt_of_ne h.1 with h0 | h0
  · right; exact ⟨(-l - 1).toNat, by omega, by omega⟩
  · left; exact ⟨(l - 1).toNat, by omega, by omega⟩
theorem mv_pn {n : Nat} {gens : List (List Int)} (h : ∀ g ∈ gens, PM.PN n g) {l : Int} (hl : l ∈ ltrs gens.length) : PM.PN n (mv gens l) := by
  rcases letter_cases hl with ⟨k, hk, e⟩ | ⟨k, hk, e⟩
  · rw [mv_pos e hk]; exact h _ (List.getElem_mem _)
  · rw [mv_neg e hk]; exact (h _ (List.getElem_mem _)).inv

theorem lit_srcA (w : World) (cs : List Value) (e : TypeId) {g : Nat} (hg : g = w.heap.size) : ∀ ad, some (⟨g, 0, none⟩ : Addr) = some ad → ∀ j u, cs[j]? = some u → (w.alloc (.cells cs.toArray e)).cell? (ad.add j) = some u := by
  intro ad had j u hu
  injection had with had; subst had
  have hadd : (⟨g, 0, none⟩ : Addr).add j = ⟨g, j, none⟩ := by unfold Addr.add; split <;> simp_all
  rw [hadd]; exact lit_src w cs e hg j u hu
theorem wrap64_lit (n : Int) (h0 : -9223372036854775808 ≤ n) (h1 : n < 9223372036854775808) : wrap64 n = n := by unfold wrap64; omega

/-- an array of int64s that a call fills -/
def Arr (B : Nat) (e : TypeId) (w : World) (g m : Nat) (l : List Int) : Prop := w.ownsRow B e 1 (.slice (some ⟨g, 0, none⟩) m m) m (l.map (Value.int .i64))
section
variable {B : Nat} {e : TypeId} {w : World} {g m : Nat} {l : List Int}
theorem Arr.len (h : Arr B e w g m l) : l.length = m := by have := h.1; simpa using this
theorem Arr.set (h : Arr B e w g m l) (i : Nat) (x : Int) : Arr B e (w.setCell ⟨g, i, none⟩ (.int .i64 x)) g m (l.set i x) := by
  have := (World.ownsRow.stored h i (.int .i64 x)).1
  unfold Arr
  rwa [List.map_set]
theorem Arr.cell (h : Arr B e w g m l) {i : Nat} (hi : i < l.length) : w.cell? ⟨g, i, none⟩ = some (.int .i64 l[i]) := by
  rw [World.ownsRow.cellAt h i (by have := h.len; omega)]; simp [hi]
theorem Arr.frozen (h : Arr B e w g m l) (i : Nat) : w.frozen? ⟨g, i, none⟩ = false := World.ownsRow.frozenAt h i
theorem Arr.rd (h : Arr B e w g m l) (hw : ∀ x ∈ l, I64 x) : Rd w (.slice (some ⟨g, 0, none⟩) m m) l [g] ∧ Fresh B w [g] := by
  have h' : w.ownsRow B e 1 (.slice (some ⟨g, 0, none⟩) m m) m (l.map (Value.int .i64)) := h
  obtain ⟨a, cap, hv, -, hI, hF⟩ := own_ints h' hw
  have hr := hI.rd
  rw [← hv] at hr
  exact ⟨hr, hF⟩
theorem Arr.only {w' : World} {fp : List Nat} (h : Arr B e w g m l) (ho : Only fp w w') (hg : g ∉ fp) : Arr B e w' g m l := by
  refine ⟨h.1, ?_⟩
  rcases h.2 with ⟨h', _⟩ | ⟨g', cp, cur, h', hb, hgg, hrest⟩
  · simp at h'
  · have : g' = g := by simp at h'; exact h'.1.symm
    subst this
    exact .inr ⟨g', cp, cur, h', hb, by rw [ho.block g' (Array.getElem?_eq_some_iff.1 hgg).1 hg]; exact hgg, hrest⟩
end

/-- the inverse so far -/
def invUp (p : List Int) (j : Nat) : List Int := (PM.pts p.length).map fun y => if p.idxOf y < j then (p.idxOf y : Int) else 0
theorem invUp_zero (p : List Int) : invUp p 0 = List.replicate p.length 0 := by
  unfold invUp
  apply List.ext_getElem (by simp [PM.pts_len])
  intro k h1 h2; simp
theorem invUp_len (p : List Int) (j : Nat) : (invUp p j).length = p.length := by simp [invUp, PM.pts_len]
theorem invUp_all {p : List Int} (h : PM.IsP p) : invUp p p.length = PM.inv p := by
  unfold invUp PM.inv
  apply List.map_congr_left
  intro y hy
  have := h.all hy
  rw [if_pos (List.idxOf_lt_length_of_mem this)]
theorem invUp_step {p : List Int} (h : PM.IsP p) {j : Nat} (hj : j < p.length) : (invUp p j).set p[j].toNat (j : Int) = invUp p (j + 1) := by
  have hp := h.1 p[j] (List.getElem_mem hj)
  apply List.ext_getElem (by simp [invUp_len])
  intro k h1 h2
  have hk : k < p.length := by simpa [invUp_len] using h2
  have hm : ((k : Int)) ∈ p := h.all (PM.mem_pts.2 ⟨by omega, by omega⟩)
  have hi := List.idxOf_lt_length_of_mem hm
  have hgi : p[p.idxOf (k : Int)] = (k : Int) := List.getElem_idxOf hi
  rw [List.getElem_set]
  simp only [invUp, List.getElem_map, PM.pts_get]
  by_cases hjk : p[j].toNat = k
  · rw [if_pos hjk]
    have : p.idxOf (k : Int) = j := PM.nodup_inj h.2 hi hj (by rw [hgi]; omega)
    rw [this, if_pos (by omega)]
  · rw [if_neg hjk]
    have : p.idxOf (k : Int) ≠ j := by
      intro he
      apply hjk
      have : p[j] = (k : Int) := by rw [← hgi]; congr 1; exact he.symm
      omega
    by_cases hlt : p.idxOf (k : Int) < j
    · rw [if_pos hlt, if_pos (by omega)]
    · rw [if_neg hlt, if_neg (by omega)]
theorem madeArr {B : Nat} {e : TypeId} {w : World} {g m : Nat} (h : w.ownsRow B e 1 (.slice (some ⟨g, 0, none⟩) m m) m (List.replicate m (.int .i64 0))) : Arr B e w g m (List.replicate m 0) := by
  unfold Arr; rwa [List.map_replicate]
theorem inv_i64 {p : List Int} (hl : p.length ≤ 1000) : ∀ x ∈ PM.inv p, I64 x := by
  intro x hx
  unfold PM.inv at hx
  obtain ⟨y, -, rfl⟩ := List.mem_map.1 hx
  have := List.idxOf_le_length (a := y) (l := p)
  unfold I64; omega

set_option maxHeartbeats 1000000 in
theorem specInverse0_any (a : Option Addr) (cap : Nat) (p : List Int) (fp : List Nat) (w : World) (h : IntsA w a cap p fp) (hp : PM.IsP p) (hl : p.length ≤ 1000) :
    Calls Tryz.prog 78 #[.slice a p.length cap] w fun e w' => ∃ v fp', e = .returned v ∧ Rd w' v (PM.inv p) fp' ∧ Fresh w.heap.size w' fp' ∧ Only [] w w' := by
  obtain ⟨i0, hi, hz0, hz1, hz2⟩ := info_parts Tryz.info2
  go_enter Tryz.func78, Tryz.ntmps78
  go_wp2_with (at_make; refine wpList_make_full _ rfl _ _ 26 rfl w.heap.size 2 i0 _ 1 Tryz.underlying26 hi hz0 hz1 _ _ _ _ p.length rfl rfl rfl rfl (by rw [hz2]; omega) (by unfold maxLen; omega) (Nat.le_refl _) ?_; intro w1 hown hg)
  rw [madeInts, Nat.mul_one] at hown
  have hA := madeArr hown
  clear hown
  go_loopw [4] (fun i wr => ∃ j : Nat, j ≤ p.length ∧ i = .int .i64 j ∧ Arr w.heap.size 2 wr w.heap.size p.length (invUp p j) ∧ Only [] w wr)
    (fun i _ => p.length - (intOf i).toNat)
  case atStart => exact ⟨0, Nat.zero_le _, rfl, by rw [invUp_zero]; exact hA, (Only.refl _ _).grown hg (by simp)⟩
  case round =>
    obtain ⟨j, hj, rfl, hO, hK⟩ := hrel
    by_cases hlt : j < p.length
    · obtain ⟨b, off, rfl, -, hc0⟩ := h.at_ j hlt
      have hc := hK.cell (by simp) hc0
      have hr := hp.1 p[j] (List.getElem_mem _)
      have hO2 := hO.set p[j].toNat j
      rw [invUp_step hp hlt] at hO2
      have hc2 := hO.cell (i := p[j].toNat) (by rw [invUp_len]; omega)
      have hf2 := hO.frozen p[j].toNat
      have hK2 := hK.setCell (p := ⟨w.heap.size, p[j].toNat, none⟩) (by simp) (.int .i64 j)
      obtain ⟨hr0, hr1⟩ := hr
      have HO := Lib.hid hO2
      clear hO hO2 hA hc0
      go_wp2
      go_roundw
      case rel => exact ⟨j + 1, by omega, by go_num, HO.out, hK2⟩
      case measure => simp [intOf]; omega
    · have hjl : j = p.length := by omega
      rw [hjl, invUp_all hp] at hO
      have HO := Lib.hid (hO.rd (inv_i64 hl))
      clear hjl hO hA
      go_wp2
      go_ret
      exact ⟨_, _, rfl, HO.out.1, HO.out.2, hK⟩
set_option maxHeartbeats 1000000 in
theorem implInverse0_any (a : Option Addr) (cap : Nat) (p : List Int) (fp : List Nat) (w : World) (h : IntsA w a cap p fp) (hp : PM.IsP p) (hl : p.length ≤ 1000) :
    Calls Tryz.prog 69 #[.slice a p.length cap] w fun e w' => ∃ v fp', e = .returned v ∧ Rd w' v (PM.inv p) fp' ∧ Fresh w.heap.size w' fp' ∧ Only [] w w' := by
  obtain ⟨i0, hi, hz0, hz1, hz2⟩ := info_parts Tryz.info2
  go_enter Tryz.func69, Tryz.ntmps69
  go_wp2_with (at_make; refine wpList_make_full _ rfl _ _ 26 rfl w.heap.size 2 i0 _ 1 Tryz.underlying26 hi hz0 hz1 _ _ _ _ p.length rfl rfl rfl rfl (by rw [hz2]; omega) (by unfold maxLen; omega) (Nat.le_refl _) ?_; intro w1 hown hg)
  rw [madeInts, Nat.mul_one] at hown
  have hA := madeArr hown
  clear hown
  go_loopw [11] (fun i wr => ∃ j : Nat, j ≤ p.length ∧ i = .int .i64 j ∧ Arr w.heap.size 2 wr w.heap.size p.length (invUp p j) ∧ Only [] w wr)
    (fun i _ => p.length - (intOf i).toNat)
  case atStart => exact ⟨0, Nat.zero_le _, rfl, by rw [invUp_zero]; exact hA, (Only.refl _ _).grown hg (by simp)⟩
  case round =>
    obtain ⟨j, hj, rfl, hO, hK⟩ := hrel
    by_cases hlt : j < p.length
    · obtain ⟨b, off, rfl, -, hc0⟩ := h.at_ j hlt
      have hc := hK.cell (by simp) hc0
      have hr := hp.1 p[j] (List.getElem_mem _)
      have hO2 := hO.set p[j].toNat j
      rw [invUp_step hp hlt] at hO2
      have hc2 := hO.cell (i := p[j].toNat) (by rw [invUp_len]; omega)
      have hf2 := hO.frozen p[j].toNat
      have hK2 := hK.setCell (p := ⟨w.heap.size, p[j].toNat, none⟩) (by simp) (.int .i64 j)
      obtain ⟨hr0, hr1⟩ := hr
      have HO := Lib.hid hO2
      clear hO hO2 hA hc0
      go_wp2
      go_roundw
      case rel => exact ⟨j + 1, by omega, by go_num, HO.out, hK2⟩
      case measure => simp [intOf]; omega
    · have hjl : j = p.length := by omega
      rw [hjl, invUp_all hp] at hO
      have HO := Lib.hid (hO.rd (inv_i64 hl))
      clear hjl hO hA
      go_wp2
      go_ret
      exact ⟨_, _, rfl, HO.out.1, HO.out.2, hK⟩
theorem implInverse0_rd (v : Value) (p : List Int) (fp : List Nat) (w : World) (h : Rd w v p fp) (hp : PM.IsP p) (hl : p.length ≤ 1000) :
    Calls Tryz.prog 69 #[v] w fun e w' => ∃ v fp', e = .returned v ∧ Rd w' v (PM.inv p) fp' ∧ Fresh w.heap.size w' fp' ∧ Only [] w w' := by
  obtain ⟨a, cap, rfl, hI⟩ := h.ints
  exact implInverse0_any a cap p fp w hI hp hl
theorem specInverse0_rd (v : Value) (p : List Int) (fp : List Nat) (w : World) (h : Rd w v p fp) (hp : PM.IsP p) (hl : p.length ≤ 1000) :
    Calls Tryz.prog 78 #[v] w fun e w' => ∃ v fp', e = .returned v ∧ Rd w' v (PM.inv p) fp' ∧ Fresh w.heap.size w' fp' ∧ Only [] w w' := by
  obtain ⟨a, cap, rfl, hI⟩ := h.ints
  exact specInverse0_any a cap p fp w hI hp hl
theorem specInverse_rd (v : Value) (p : List Int) (fp : List Nat) (w : World) (h : Rd w v p fp) (hp : permB p = true) :
    Calls Tryz.prog 53 #[v] w fun e w' => ∃ v fp', e = .returned v ∧ Rd w' v (PM.inv p) fp' ∧ Fresh w.heap.size w' fp' ∧ Only [] w w' := by
  have hp' := permB_iff.1 hp
  go_enter Tryz.func53, Tryz.ntmps53
  go_wp2_with (first | (go_at_call 71; (with_reducible refine (specIsPerm_rd v p _ _ h).mono ?_); rintro e w1 ⟨rfl, n1, rfl⟩) | (go_at_call 78; (with_reducible refine (specInverse0_rd v p _ _ (Rp.keep h (Only.ofDrewN _ _ _)) hp'.2 (by omega)).mono ?_); rintro e w2 ⟨u, f2, rfl, r2, F2, t2⟩))
  go_ret
  exact ⟨_, _, rfl, r2, F2, (by with_reducible repeat (first | exact Only.refl _ _ | assumption | refine Only.drewN ?_ _ | refine Only.drew ?_ | refine Only.alloc ?_ _ | refine Only.setCell ?_ (by intro hh; exfalso; simp at hh; try omega) _ | refine Only.trans ?_ (by assumption)))⟩

set_option maxHeartbeats 1000000 in
/-- a move, or its inverse: old memory, or new -/
theorem letterOf_rd (v : Value) (gens : List (List Int)) (l : Int) (fp : List Nat) (w : World) (h : Rd w v gens fp) (hg : ∀ g ∈ gens, PM.IsP g ∧ g.length ≤ 1000) (hl : l ∈ ltrs gens.length) (hn : gens.length ≤ 1000) :
    Calls Tryz.prog 120 #[v, .int .i64 l] w fun e w' => ∃ v fp', e = .returned v ∧ Rd w' v (mv gens l) fp' ∧ (∀ b ∈ fp', b ∈ fp ∨ w.heap.size ≤ b) ∧ Only [] w w' := by
  obtain ⟨a, cap, ob, fps, rfl, rfl, hs⟩ := h.open_
  have hb := hs.bound
  rcases letter_cases hl with ⟨k, hk, rfl⟩ | ⟨k, hk, rfl⟩
  · have hm := mv_pos rfl hk
    have Hm := Lib.hid hm; clear hm
    obtain ⟨b, off, u, rfl, hob, hc, hu⟩ := hs.atRow k hk
    have e1 : wrap64 ((k : Int) + 1 - 1) = (k : Int) := wrap64_lit _ (by omega) (by omega) |>.trans (by omega)
    have e2 : (0 : Int) < (k : Int) + 1 := by omega
    go_enter Tryz.func120, Tryz.ntmps120
    go_wp2
    go_ret
    refine ⟨_, _, rfl, by rw [Hm.out]; exact hu, fun b' hb' => ?_, (by with_reducible repeat (first | exact Only.refl _ _ | assumption | refine Only.drewN ?_ _ | refine Only.drew ?_ | refine Only.alloc ?_ _ | refine Only.setCell ?_ (by intro hh; exfalso; simp at hh; try omega) _ | refine Only.trans ?_ (by assumption)))⟩
    left
    exact List.mem_append_right _ (List.mem_flatten.2 ⟨_, List.getElem_mem _, hb'⟩)
  · have hm := mv_neg rfl hk
    have Hm := Lib.hid hm; clear hm
    obtain ⟨b, off, u, rfl, hob, hc, hu⟩ := hs.atRow k hk
    have e1 : wrap64 (wrap64 (-(-((k : Int) + 1))) - 1) = (k : Int) := by
      rw [wrap64_lit (-(-((k : Int) + 1))) (by omega) (by omega), wrap64_lit _ (by omega) (by omega)]; omega
    have e2 : ¬ (0 : Int) < -((k : Int) + 1) := by omega
    have hg2 := hg _ (List.getElem_mem hk)
    go_enter Tryz.func120, Tryz.ntmps120
    go_wp2_with ((go_at_call 69; (with_reducible refine (implInverse0_rd u gens[k] _ _ hu hg2.1 hg2.2).mono ?_); rintro e w2 ⟨u2, f2, rfl, r2, F2, t2⟩))
    go_ret
    exact ⟨_, _, rfl, by rw [Hm.out]; exact r2, fun b' hb' => .inr (F2.ge b' hb'), (by with_reducible repeat (first | exact Only.refl _ _ | assumption | refine Only.drewN ?_ _ | refine Only.drew ?_ | refine Only.alloc ?_ _ | refine Only.setCell ?_ (by intro hh; exfalso; simp at hh; try omega) _ | refine Only.trans ?_ (by assumption)))⟩
set_option maxHeartbeats 1000000 in
theorem letters_any (m : Nat) (w : World) (hm : m ≤ 1000) :
    Calls Tryz.prog 96 #[.int .i64 m] w fun e w' => ∃ v fp', e = .returned v ∧ Rd w' v (ltrs m) fp' ∧ Fresh w.heap.size w' fp' ∧ Only [] w w' := by
  obtain ⟨i0, hi, hz0, hz1, hz2⟩ := info_parts Tryz.info2
  go_enter Tryz.func96, Tryz.ntmps96
  go_wp2
  go_loopw [3, 6] (fun o i wr => ∃ j : Nat, j ≤ m ∧ i = .int .i64 j ∧ wr.ownsRow w.heap.size 2 1 o (ltrs j).length ((ltrs j).map (Value.int .i64)) ∧ Only [] w wr)
    (fun _ i _ => m - (intOf i).toNat)
  case atStart => exact ⟨0, Nat.zero_le _, rfl, World.ownsRow_nil w _ _ _, Only.refl _ _⟩
  case round =>
    obtain ⟨j, hj, rfl, hO, hK⟩ := hrel
    by_cases hlt : j < m
    · have hsz := hK.size
      have hlj : (ltrs j).length ≤ 2000 := by rw [ltrs_len]; omega
      go_wp2_with (at_builtin; refine wpList_app _ rfl _ _ 26 rfl w.heap.size 2 i0 _ 1 8 Tryz.underlying26 hi hz0 hz1 hz2 rfl (by omega) _ (ltrs j).length _ rfl (hO.alloc _) (some ⟨wr.heap.size, 0, none⟩) 2 2 [.int .i64 ((j : Int) + 1), .int .i64 (-((j : Int) + 1))] rfl rfl (lit_srcA wr [.int .i64 ((j : Int) + 1), .int .i64 (-((j : Int) + 1))] _ rfl) (by simp) (by intro u hu; simp at hu; rcases hu with rfl | rfl <;> rfl) (by unfold maxLen; omega) (by omega) (by simp; omega) ?_; intro v1 w1 hO1 hg1 hb1)
      go_roundw
      case rel => exact ⟨j + 1, by omega, by go_num, by simpa [ltrs] using hO1, (hK.alloc _).grown hg1 (by intro k hk hk2; have := (hO.lt k hk).1; omega)⟩
      case measure => simp [intOf]; omega
    · have hjl : j = m := by omega
      rw [hjl] at hO
      have hw : ∀ x ∈ ltrs m, I64 x := fun x hx => by have := mem_ltrs.1 hx; unfold I64; omega
      obtain ⟨a', cap', hv, -, hI, hF⟩ := own_ints hO hw
      have HI := Lib.hid hI
      have Hv := Lib.hid hv
      clear hjl hO hv hI hw
      go_wp2
      go_ret
      refine ⟨_, _, rfl, ?_, hF, hK⟩
      have hr := HI.out.rd
      rw [← Hv.out] at hr; exact hr
end Go.Proofs.YtccdicgnolkepaaGreat

namespace Go.Proofs.YtccdicgnolkepaaGreat
open Go.RowKit
set_option maxRecDepth 10000

theorem validPz_facts {x : Puzzle} (h : validPz x = true) : 1 ≤ x.points ∧ x.points ≤ 20 ∧ x.moves.length ≤ 8 ∧ ∀ y ∈ x.moves, (y.length : Int) = x.points ∧ permB y = true := by
  unfold validPz at h
  rw [Bool.and_eq_true] at h
  have h1 := h.1
  unfold gensB at h1
  rw [Bool.and_eq_true, Bool.and_eq_true, inR_iff, decide_eq_true_iff, List.all_eq_true] at h1
  refine ⟨h1.1.1.1, h1.1.1.2, h1.1.2, fun y hy => ?_⟩
  have := h1.2 y hy
  unfold genB at this
  simpa using this
theorem validPz_pn {x : Puzzle} (h : validPz x = true) : ∀ g ∈ x.moves, PM.PN x.points.toNat g := by
  intro g hg
  obtain ⟨h1, h2, h3, h4⟩ := validPz_facts h
  obtain ⟨h5, h6⟩ := h4 g hg
  exact ⟨by omega, (permB_iff.1 h6).2⟩
/-- the tables that can be checked -/
def checkT (x : Puzzle) (t : Table) : Bool := validPz x && (wfT t && (trackB x.points t.tracked && t.patterns.all (patB x.points t.tracked.length)))
theorem checkT_iff {x : Puzzle} {t : Table} : checkT x t = true ↔ validPz x = true ∧ wfT t = true ∧ trackB x.points t.tracked = true ∧ ∀ p ∈ t.patterns, patB x.points t.tracked.length p = true := by
  simp [checkT]
/-- the index of the first pattern that is this one, -1 if there is none -/
def idxL (l : List (List Int)) (p : List Int) : Int := idxF (fun q => decide (q = p)) l
/-- the pattern behind a letter -/
def nxt (x : Puzzle) (p : List Int) (l : Int) : List Int := PM.comp p (mv x.moves l)
/-- where a letter leads -/
def nextI (x : Puzzle) (t : Table) (p : List Int) (l : Int) : Int := idxL t.patterns (nxt x p l)
/-- a letter leads to an entry of this distance -/
def leads (x : Puzzle) (t : Table) (p : List Int) (d : Int) (l : Int) : Bool := decide (0 ≤ nextI x t p l) && decide (t.distances.getD (nextI x t p l).toNat 0 = d)
/-- the first letter that leads to an entry of this distance, 0 if there is none -/
def descL (x : Puzzle) (t : Table) (p : List Int) (d : Int) : Int := ((ltrs x.moves.length).find? (leads x t p d)).getD 0
structure Fault where
  kind : Int
  entry : Int
  letter : Int
instance : Rp Fault where
  size := 3
  rep _ cs x fp := cs = [Value.int .i64 x.kind, Value.int .i64 x.entry, Value.int .i64 x.letter] ∧ (I64 x.kind ∧ I64 x.entry ∧ I64 x.letter) ∧ fp = []
  len h := by rw [h.1]; rfl
  frame h _ := h
  lt h := by rw [h.2.2]; simp
def atD (t : Table) (i : Int) : Int := t.distances.getD i.toNat 0
def atP (t : Table) (i : Nat) : List Int := t.patterns.getD i []
def one (b : Bool) (f : Fault) : List Fault := if b = true then [f] else []
/-- the fault of a letter -/
def letF (x : Puzzle) (t : Table) (i : Nat) (l : Int) : List Fault :=
  if nextI x t (atP t i) l < 0 then [⟨4, i, l⟩] else if inR (atD t (nextI x t (atP t i) l) - atD t i) (-1) 1 = true then [] else [⟨5, i, l⟩]
def entF (x : Puzzle) (t : Table) (i : Nat) : List Fault :=
  one (decide (i = 0) && (decide (atD t i ≠ 0) || decide (atP t 0 ≠ t.tracked))) ⟨1, i, 0⟩ ++
  (one (decide (idxL t.patterns (atP t i) < i)) ⟨2, i, 0⟩ ++
  (one (decide (0 < i) && decide (atD t i = 0)) ⟨3, i, 0⟩ ++
  ((ltrs x.moves.length).flatMap (letF x t i) ++
  one (decide (0 < atD t i) && decide (descL x t (atP t i) (atD t i - 1) = 0)) ⟨6, i, 0⟩)))
theorem idxF_nonneg_or {α : Type} (pr : α → Bool) (l : List α) : idxF pr l = -1 ∨ ∃ k : Nat, ∃ h : k < l.length, idxF pr l = k ∧ pr l[k] = true := by
  unfold idxF
  cases h : l.findIdx? pr with
  | none => exact .inl rfl
  | some i =>
    right
    obtain ⟨hi, hp, -⟩ := List.findIdx?_eq_some_iff_getElem.1 h
    exact ⟨i, hi, rfl, hp⟩
theorem idxL_lt {l : List (List Int)} {p : List Int} : -1 ≤ idxL l p ∧ idxL l p < l.length := by
  rcases idxF_nonneg_or (fun q => decide (q = p)) l with h | ⟨k, hk, h, -⟩
  · unfold idxL; omega
  · unfold idxL; omega
theorem nxt_pat {x : Puzzle} {k : Nat} {p : List Int} {l : Int} (hv : validPz x = true) (hp : patB x.points k p = true) (hl : l ∈ ltrs x.moves.length) : patB x.points k (nxt x p l) = true := by
  obtain ⟨h1, h2, h3, h4⟩ := validPz_facts hv
  obtain ⟨h5, h6, h7⟩ := patB_iff.1 hp
  have hm := mv_pn (validPz_pn hv) hl
  refine patB_iff.2 ⟨by unfold nxt; rw [PM.comp_len]; exact h5, fun y hy => ?_, ?_⟩
  · obtain ⟨z, hz, rfl⟩ := List.mem_map.1 hy
    have := h6 z hz
    have := hm.rng this.1 (by omega)
    omega
  · unfold nxt PM.comp
    rw [List.nodup_iff_pairwise_ne, List.pairwise_map]
    refine (List.nodup_iff_pairwise_ne.1 h7).imp_of_mem fun {a b} ha hb hab he => hab ?_
    have h8 := h6 a ha; have h9 := h6 b hb
    exact hm.inj h8.1 (by omega) h9.1 (by omega) he
end Go.Proofs.YtccdicgnolkepaaGreat

namespace Go.Proofs.YtccdicgnolkepaaGreat
open Go.RowKit
set_option maxRecDepth 10000

/-- the patterns met so far and their depths -/
abbrev Met16 := List (List Int) × List Int
/-- a pattern of depth d is met; none: too many -/
def bMeet (s : Met16) (d : Int) (y : List Int) : Option Met16 := if y ∈ s.1 then some s else if s.1.length = 3000 then none else some (s.1 ++ [y], s.2 ++ [d])
/-- the letters from an entry -/
def bLets (x : Puzzle) (q : List Int) (d : Int) : List Int → Met16 → Option Met16
  | [], s => some s
  | l :: ls, s => (bMeet s d (nxt x q l)).bind (bLets x q d ls)
/-- the entries from the k-th on; n: enough -/
def bFrom (x : Puzzle) : Nat → Nat → Met16 → Option Met16
  | 0, _, s => some s
  | n + 1, k, s => if k < s.1.length then (bLets x (s.1.getD k []) (s.2.getD k 0 + 1) (ltrs x.moves.length) s).bind (bFrom x n (k + 1)) else some s
def bfs16 (x : Puzzle) (tr : List Int) : Option Met16 := if (validPz x && trackB x.points tr) = true then bFrom x 3001 0 ([tr], [0]) else none
theorem bMeet_len {s s' : Met16} {d : Int} {y : List Int} (h : bMeet s d y = some s') (h1 : s.1.length = s.2.length) (h2 : s.1.length ≤ 3000) : s'.1.length = s'.2.length ∧ s'.1.length ≤ 3000 ∧ s.1.length ≤ s'.1.length := by
  unfold bMeet at h
  split at h
  · injection h with h; subst h; exact ⟨h1, h2, Nat.le_refl _⟩
  · split at h
    · cases h
    · injection h with h; subst h; simp; omega
theorem bLets_len {x : Puzzle} {q : List Int} {d : Int} : ∀ {ls : List Int} {s s' : Met16}, bLets x q d ls s = some s' → s.1.length = s.2.length → s.1.length ≤ 3000 → s'.1.length = s'.2.length ∧ s'.1.length ≤ 3000 ∧ s.1.length ≤ s'.1.length
  | [], s, s', h, h1, h2 => by unfold bLets at h; injection h with h; subst h; exact ⟨h1, h2, Nat.le_refl _⟩
  | l :: ls, s, s', h, h1, h2 => by
    unfold bLets at h
    rw [Option.bind_eq_some_iff] at h
    obtain ⟨s1, e1, e2⟩ := h
    obtain ⟨a, b, c⟩ := bMeet_len e1 h1 h2
    obtain ⟨a', b', c'⟩ := bLets_len e2 a b
    exact ⟨a', b', Nat.le_trans c c'⟩
end Go.Proofs.YtccdicgnolkepaaGreat

namespace Go.Proofs.YtccdicgnolkepaaGreat
open Go.RowKit
set_option maxRecDepth 10000

/-- a precedes b -/
def prec : List Int → List Int → Bool
  | a :: xs, b :: ys => if a = b then prec xs ys else decide (a < b)
  | _, _ => false
theorem prec_irr : ∀ (a : List Int), prec a a = false
  | [] => rfl
  | a :: xs => by simp [prec, prec_irr xs]
theorem prec_trans : ∀ {a b c : List Int}, a.length = b.length → b.length = c.length → prec a b = true → prec b c = true → prec a c = true
  | [], _, _, _, _, h, _ => by cases h
  | _ :: _, [], _, h, _, _, _ => by cases h
  | _ :: _, _ :: _, [], _, h, _, _ => by cases h
  | a :: xs, b :: ys, c :: zs, h1, h2, h3, h4 => by
    unfold prec at h3 h4 ⊢
    by_cases e1 : a = b
    · by_cases e2 : b = c
      · rw [if_pos e1] at h3; rw [if_pos e2] at h4; rw [if_pos (e1.trans e2)]
        exact prec_trans (by simpa using h1) (by simpa using h2) h3 h4
      · rw [if_neg e2] at h4; subst e1; rw [if_neg e2]; exact h4
    · rw [if_neg e1] at h3
      have h3 := of_decide_eq_true h3
      by_cases e2 : b = c
      · subst e2; rw [if_neg e1]; exact decide_eq_true h3
      · rw [if_neg e2] at h4
        have h4 := of_decide_eq_true h4
        rw [if_neg (by omega)]; exact decide_eq_true (by omega)
theorem prec_tri : ∀ {a b : List Int}, a.length = b.length → a ≠ b → prec a b = false → prec b a = true
  | [], [], _, h, _ => absurd rfl h
  | [], _ :: _, h, _, _ => by cases h
  | _ :: _, [], h, _, _ => by cases h
  | a :: xs, b :: ys, h1, h2, h3 => by
    unfold prec at h3 ⊢
    by_cases e1 : a = b
    · subst e1
      rw [if_pos rfl] at h3 ⊢
      exact prec_tri (by simpa using h1) (fun e => h2 (by rw [e])) h3
    · rw [if_neg e1] at h3
      rw [if_neg (fun e => e1 e.symm)]
      have := of_decide_eq_false h3
      exact decide_eq_true (by omega)
theorem prec_drop : ∀ {a b : List Int} {j : Nat}, (∀ i, i < j → a[i]? = b[i]?) → j ≤ a.length → j ≤ b.length → prec a b = prec (a.drop j) (b.drop j)
  | _, _, 0, _, _, _ => by simp
  | [], _, j + 1, _, h, _ => by simp at h
  | _ :: _, [], j + 1, _, _, h => by simp at h
  | a :: xs, b :: ys, j + 1, h, h1, h2 => by
    have h0 := h 0 (by omega)
    simp only [List.getElem?_cons_zero, Option.some.injEq] at h0
    rw [List.drop_succ_cons, List.drop_succ_cons]
    rw [show prec (a :: xs) (b :: ys) = if a = b then prec xs ys else decide (a < b) from rfl, if_pos h0]
    exact prec_drop (fun i hi => by simpa using h (i + 1) (by omega)) (by simpa using h1) (by simpa using h2)
theorem prec_at {a b : List Int} {j : Nat} (h : ∀ i, i < j → a[i]? = b[i]?) (h1 : j < a.length) (h2 : j < b.length) (hne : a[j] ≠ b[j]) : prec a b = decide (a[j] < b[j]) := by
  rw [prec_drop h (by omega) (by omega), List.drop_eq_getElem_cons h1, List.drop_eq_getElem_cons h2]
  rw [show ∀ (x y : Int) (xs ys : List Int), prec (x :: xs) (y :: ys) = if x = y then prec xs ys else decide (x < y) from fun _ _ _ _ => rfl, if_neg hne]
theorem prec_all {a b : List Int} (h : ∀ i, i < a.length → a[i]? = b[i]?) (hl : a.length = b.length) : prec a b = false := by
  rw [prec_drop h (Nat.le_refl _) (by omega), List.drop_length]
  rfl

/-- so: an index of the lists L, sorted by them -/
structure Srt (m : Nat) (L : List (List Int)) (so : List Nat) : Prop where
  len : so.length = L.length
  many : ∀ x ∈ L, x.length = m
  in_ : ∀ i ∈ so, i < L.length
  all : ∀ i, i < L.length → i ∈ so
  asc : ∀ (i j : Nat) (hi : i < so.length) (hj : j < so.length), i < j → prec (L.getD so[i] []) (L.getD so[j] []) = true
theorem Srt.nil (m : Nat) : Srt m [] [] := ⟨rfl, by simp, by simp, by simp, by simp⟩
theorem Srt.mem {m : Nat} {L : List (List Int)} {so : List Nat} (h : Srt m L so) {i : Nat} (hi : i < so.length) : L.getD so[i] [] ∈ L := by
  have := h.in_ so[i] (List.getElem_mem hi)
  rw [List.getD_eq_getElem?_getD, List.getElem?_eq_getElem this]
  exact List.getElem_mem this
/-- k: the place at which s is or would be -/
structure Slot (L : List (List Int)) (so : List Nat) (s : List Int) (k : Nat) : Prop where
  le : k ≤ so.length
  lo : ∀ (i : Nat) (hi : i < so.length), i < k → prec (L.getD so[i] []) s = true
  hi : ∀ (i : Nat) (hi : i < so.length), k ≤ i → prec (L.getD so[i] []) s = false
theorem Srt.below {m : Nat} {L : List (List Int)} {so : List Nat} (h : Srt m L so) {s : List Int} (hs : s.length = m) {k : Nat} (hk : k < so.length) (hp : prec (L.getD so[k] []) s = true) {i : Nat} (hi : i < so.length) (hik : i ≤ k) : prec (L.getD so[i] []) s = true := by
  rcases Nat.lt_or_eq_of_le hik with hlt | rfl
  · exact prec_trans (by rw [h.many _ (h.mem hi), h.many _ (h.mem hk)]) (by rw [h.many _ (h.mem hk), hs]) (h.asc i k hi hk hlt) hp
  · exact hp
theorem Srt.above {m : Nat} {L : List (List Int)} {so : List Nat} (h : Srt m L so) {s : List Int} (hs : s.length = m) {k : Nat} (hk : k < so.length) (hp : prec (L.getD so[k] []) s = false) {i : Nat} (hi : i < so.length) (hik : k ≤ i) : prec (L.getD so[i] []) s = false := by
  rcases hq : prec (L.getD so[i] []) s
  · rfl
  · rw [h.below hs hi hq hk hik] at hp; cases hp
theorem Srt.slot_mem {m : Nat} {L : List (List Int)} {so : List Nat} (h : Srt m L so) {s : List Int} {k : Nat} (hk : Slot L so s k) : s ∈ L ↔ ∃ hk : k < so.length, L.getD so[k] [] = s := by
  constructor
  · intro hm
    obtain ⟨i, hi, he⟩ := List.mem_iff_getElem.1 hm
    obtain ⟨t, ht, hte⟩ := List.mem_iff_getElem.1 (h.all i hi)
    have hts : L.getD so[t] [] = s := by rw [hte, List.getD_eq_getElem?_getD, List.getElem?_eq_getElem hi]; exact he
    rcases Nat.lt_trichotomy t k with hlt | heq | hgt
    · have := hk.lo t ht hlt
      rw [hts, prec_irr] at this; cases this
    · subst heq; exact ⟨ht, hts⟩
    · have h1 := h.asc k t (by omega) ht hgt
      have h2 := hk.hi k (by omega) (Nat.le_refl _)
      rw [hts] at h1; rw [h1] at h2; cases h2
  · rintro ⟨hk, he⟩
    rw [← he]; exact h.mem hk
/-- one list more -/
theorem Srt.add {m : Nat} {L : List (List Int)} {so : List Nat} (h : Srt m L so) {s : List Int} (hs : s.length = m) (hn : s ∉ L) {k : Nat} (hk : Slot L so s k) : Srt m (L ++ [s]) (so.take k ++ L.length :: so.drop k) := by
  have hD : ∀ (t : Nat) (ht : t < so.length), (L ++ [s]).getD so[t] [] = L.getD so[t] [] := fun t ht => by
    have := h.in_ so[t] (List.getElem_mem ht)
    simp only [List.getD_eq_getElem?_getD, List.getElem?_append_left this]
  have hS : (L ++ [s]).getD L.length [] = s := by simp [List.getD_eq_getElem?_getD]
  have hle := hk.le
  have hG : ∀ (t : Nat) (ht : t < (so.take k ++ L.length :: so.drop k).length), (L ++ [s]).getD (so.take k ++ L.length :: so.drop k)[t] [] = if t < k then L.getD (so.getD t 0) [] else if t = k then s else L.getD (so.getD (t - 1) 0) [] := by
    intro t ht
    have htl : t < so.length + 1 := by simp at ht; omega
    by_cases h1 : t < k
    · rw [if_pos h1]
      rw [List.getElem_append_left (by simp; omega), List.getElem_take]
      rw [hD t (by omega)]
      simp [List.getD_eq_getElem?_getD, List.getElem?_eq_getElem (show t < so.length by omega)]
    · rw [if_neg h1]
      have hkl : (so.take k).length = k := by simp; omega
      rw [List.getElem_append_right (by rw [hkl]; omega)]
      by_cases h2 : t = k
      · subst h2; rw [if_pos rfl]; simp only [hkl, Nat.sub_self, List.getElem_cons_zero]; exact hS
      · rw [if_neg h2]
        have h3 : t - (so.take k).length = (t - 1 - k) + 1 := by rw [hkl]; omega
        simp only [h3, List.getElem_cons_succ, List.getElem_drop]
        have h4 : k + (t - 1 - k) = t - 1 := by omega
        have h5 : t - 1 < so.length := by omega
        simp only [h4]
        rw [hD _ h5]
        simp [List.getD_eq_getElem?_getD, List.getElem?_eq_getElem h5]
  refine ⟨?_, ?_, ?_, ?_, ?_⟩
  · have := h.len; simp; omega
  · intro x hx
    rcases List.mem_append.1 hx with hx | hx
    · exact h.many x hx
    · simp at hx; subst hx; exact hs
  · intro i hi
    rw [List.length_append, List.length_singleton]
    rcases List.mem_append.1 hi with hi | hi
    · have := h.in_ i (List.mem_of_mem_take hi); omega
    · rcases List.mem_cons.1 hi with rfl | hi
      · omega
      · have := h.in_ i (List.mem_of_mem_drop hi); omega
  · intro i hi
    rw [List.length_append, List.length_singleton] at hi
    by_cases he : i = L.length
    · subst he; simp
    · have := h.all i (by omega)
      rw [← List.take_append_drop k so] at this
      rcases List.mem_append.1 this with h1 | h1
      · exact List.mem_append_left _ h1
      · exact List.mem_append_right _ (List.mem_cons_of_mem _ h1)
  · intro i j hi hj hij
    rw [hG i hi, hG j hj]
    have hjl : j < so.length + 1 := by simp at hj; omega
    have gd : ∀ (t : Nat) (ht : t < so.length), so.getD t 0 = so[t] := fun t ht => by simp [List.getD_eq_getElem?_getD, List.getElem?_eq_getElem ht]
    by_cases j1 : j < k
    · rw [if_pos j1, if_pos (by omega), gd i (by omega), gd j (by omega)]
      exact h.asc i j (by omega) (by omega) hij
    · rw [if_neg j1]
      by_cases j2 : j = k
      · subst j2
        rw [if_pos rfl, if_pos hij, gd i (by omega)]
        exact hk.lo i (by omega) hij
      · rw [if_neg j2, gd (j - 1) (by omega)]
        by_cases i1 : i < k
        · rw [if_pos i1, gd i (by omega)]
          exact h.asc i (j - 1) (by omega) (by omega) (by omega)
        · rw [if_neg i1]
          by_cases i2 : i = k
          · rw [if_pos i2]
            have hj1 : j - 1 < so.length := by omega
            have hne : L.getD so[j - 1] [] ≠ s := fun e => hn (e ▸ h.mem hj1)
            exact prec_tri (by rw [h.many _ (h.mem hj1), hs]) hne (hk.hi (j - 1) hj1 (by omega))
          · rw [if_neg i2, gd (i - 1) (by omega)]
            exact h.asc (i - 1) (j - 1) (by omega) (by omega) (by omega)
end Go.Proofs.YtccdicgnolkepaaGreat

namespace Go.Proofs.YtccdicgnolkepaaGreat
open Go.RowKit
set_option maxRecDepth 10000

set_option maxHeartbeats 1000000 in
theorem listPrecedes_rd (v u : Value) (l p : List Int) (f g : List Nat) (w : World) (h : Rd w v l f) (h' : Rd w u p g) (hl : l.length = p.length) :
    Calls Tryz.prog 102 #[v, u] w fun e w' => e = .returned (.bool (prec l p)) ∧ Drew w w' := by
  obtain ⟨a, cap, rfl, IL⟩ := h.ints
  obtain ⟨a', cap', rfl, IP⟩ := h'.ints
  have hb := IL.bound
  have hb' := IP.bound
  have Hl := Lib.hid hl
  clear hl
  go_enter Tryz.func102, Tryz.ntmps102
  go_wp2
  go_loopw [5] (fun i wr => ∃ j : Nat, j ≤ l.length ∧ i = .int .i64 j ∧ (∀ i, i < j → l[i]? = p[i]?) ∧ Drew w wr)
    (fun i _ => l.length - (intOf i).toNat)
  case atStart => exact ⟨0, Nat.zero_le _, rfl, by simp, Drew.refl _⟩
  case round =>
    obtain ⟨j, hj, rfl, hr, n, rfl⟩ := hrel
    have Hr := Lib.hid hr
    clear hr
    by_cases hlt : j < l.length
    · have hlt' : j < p.length := by have := Hl.out; omega
      obtain ⟨b, off, rfl, -, hc⟩ := IL.at_ j hlt
      obtain ⟨b', off', rfl, -, hc'⟩ := IP.at_ j hlt'
      rcases hq : (l[j] != p[j])
      · have heq : l[j] = p[j] := by simpa using hq
        have Heq := Lib.hid heq
        clear heq
        go_wp2
        go_quiet (fail)
        go_wp2
        go_roundw
        case rel => exact ⟨j + 1, by omega, by go_num, fun i hi => by
          rcases Nat.lt_or_eq_of_le (Nat.lt_succ_iff.1 hi) with h1 | rfl
          · exact Hr.out i h1
          · rw [List.getElem?_eq_getElem hlt, List.getElem?_eq_getElem hlt', Heq.out], ⟨_, rfl⟩⟩
        case measure => simp [intOf]; omega
      · have hne : l[j] ≠ p[j] := by simpa using hq
        have Hne := Lib.hid hne
        clear hne
        go_wp2
        go_quiet (fail)
        go_wp2
        go_quiet (fail)
        go_wp2
        go_ret
        exact ⟨ret_bool (prec_at Hr.out hlt hlt' Hne.out).symm, (((Drew.refl _).drewN _).drewN _).drewN _⟩
    · obtain rfl : j = l.length := by omega
      go_wp2
      go_ret
      exact ⟨ret_bool (prec_all Hr.out Hl.out).symm, ⟨_, rfl⟩⟩
/-- the index as numbers -/
def soI (so : List Nat) : List Int := so.map fun i : Nat => (i : Int)
theorem soI_len (so : List Nat) : (soI so).length = so.length := by simp [soI]
theorem soI_get (so : List Nat) {j : Nat} (h : j < so.length) : (soI so)[j]'(by rw [soI_len]; exact h) = (so[j] : Int) := by simp [soI]
/-- what a search holds, as its functions read it -/
structure SrR (w : World) (A1 A2 A3 : Option Addr) (C1 C2 C3 : Nat) (L : List (List Int)) (D : List Int) (so : List Nat) (ob : List Nat) (fps : List (List Nat)) (fd fs : List Nat) : Prop where
  ls : SeqA w A1 C1 L ob fps
  dp : IntsA w A2 C2 D fd
  st : IntsA w A3 C3 (soI so) fs
theorem SrR.keep {w w' : World} {A1 A2 A3 : Option Addr} {C1 C2 C3 : Nat} {L : List (List Int)} {D : List Int} {so : List Nat} {ob : List Nat} {fps : List (List Nat)} {fd fs : List Nat} (h : SrR w A1 A2 A3 C1 C2 C3 L D so ob fps fd fs) (ho : Only [] w w') : SrR w' A1 A2 A3 C1 C2 C3 L D so ob fps fd fs :=
  ⟨h.ls.frame fun b hb => ho.block b (h.ls.lt_all b hb) (by simp), h.dp.keep ho, h.st.keep ho⟩
theorem SrR.only {w w' : World} {A1 A2 A3 : Option Addr} {C1 C2 C3 : Nat} {L : List (List Int)} {D : List Int} {so : List Nat} {ob : List Nat} {fps : List (List Nat)} {fd fs fp : List Nat} (h : SrR w A1 A2 A3 C1 C2 C3 L D so ob fps fd fs) (ho : Only fp w w') (hd : ∀ g ∈ (ob ++ fps.flatten) ++ (fd ++ fs), g ∉ fp) : SrR w' A1 A2 A3 C1 C2 C3 L D so ob fps fd fs :=
  ⟨h.ls.frame fun b hb => ho.block b (h.ls.lt_all b hb) (hd b (List.mem_append_left _ hb)), h.dp.only ho fun b hb => hd b (List.mem_append_right _ (List.mem_append_left _ hb)), h.st.only ho fun b hb => hd b (List.mem_append_right _ (List.mem_append_right _ hb))⟩
set_option maxHeartbeats 2000000 in
theorem searchSlot_any (A1 A2 A3 : Option Addr) (C1 C2 C3 : Nat) (wh : Bool) (L : List (List Int)) (D : List Int) (so : List Nat) (ob : List Nat) (fps : List (List Nat)) (fd fs : List Nat) (m : Nat) (v : Value) (s : List Int) (f : List Nat) (w : World)
    (h : SrR w A1 A2 A3 C1 C2 C3 L D so ob fps fd fs) (hS : Srt m L so) (hv : Rd w v s f) (hs : s.length = m) (hL : L.length ≤ 3000) :
    Calls Tryz.prog 81 #[.agg #[.slice A1 L.length C1, .slice A2 D.length C2, .slice A3 so.length C3, .bool wh], v] w fun e w' => ∃ k : Nat, e = .returned (.int .i64 k) ∧ Slot L so s k ∧ k ≤ 3000 ∧ Only [] w w' := by
  have hlen : so.length ≤ 3000 := by rw [hS.len]; exact hL
  have HS := Lib.hid hS
  clear hS
  go_enter Tryz.func81, Tryz.ntmps81
  go_wp2
  go_loopw [5, 6] (fun lo hi wr => ∃ a b : Nat, a ≤ b ∧ b ≤ so.length ∧ lo = .int .i64 a ∧ hi = .int .i64 b ∧ (∀ (i : Nat) (hi : i < so.length), i < a → prec (L.getD so[i] []) s = true) ∧ (∀ (i : Nat) (hi : i < so.length), b ≤ i → prec (L.getD so[i] []) s = false) ∧ Drew (w.alloc (.cells #[.slice A1 L.length C1, .slice A2 D.length C2, .slice A3 so.length C3, .bool wh] 66)) wr)
    (fun lo hi _ => (intOf hi - intOf lo).toNat)
  case atStart => exact ⟨0, so.length, Nat.zero_le _, Nat.le_refl _, rfl, rfl, by simp, fun i hi h => absurd hi (Nat.not_lt.2 h), Drew.refl _⟩
  case round =>
    obtain ⟨a, b, hab, hbl, rfl, rfl, hlo, hhi, n, rfl⟩ := hrel
    have Hlo := Lib.hid hlo
    have Hhi := Lib.hid hhi
    clear hlo hhi
    by_cases hlt : a < b
    · obtain ⟨mid, hmid⟩ : ∃ mid, mid = (a + b) / 2 := ⟨_, rfl⟩
      have hm1 : a ≤ mid := by omega
      have hm2 : mid < b := by omega
      have hq1 : ((a : Int) + (b : Int)) / 2 = (mid : Int) := by omega
      have hq2 : ((a : Int) + (b : Int)).tdiv 2 = (mid : Int) := by rw [Int.tdiv_eq_ediv_of_nonneg (by omega)]; exact hq1
      clear hmid
      have hml : mid < so.length := by omega
      obtain ⟨b3, off3, rfl, -, hc3⟩ := h.st.at_ mid (by rw [soI_len]; exact hml)
      have hin := HS.out.in_ so[mid] (List.getElem_mem hml)
      have hget := soI_get so hml
      obtain ⟨i0, hi0⟩ : ∃ i0, i0 = so[mid] := ⟨_, rfl⟩
      rw [hget, ← hi0] at hc3
      rw [← hi0] at hin
      obtain ⟨b1, off1, u, rfl, -, hc1, hu⟩ := h.ls.atRow i0 hin
      have hmany := HS.out.many L[i0] (List.getElem_mem hin)
      have hlu : L[i0].length = s.length := by rw [hmany, hs]
      have hD : L.getD so[mid] [] = L[i0] := by rw [← hi0, List.getD_eq_getElem?_getD, List.getElem?_eq_getElem hin]; rfl
      have HD := Lib.hid hD
      have HU := Lib.hid hlu
      have K : Only [] w (w.alloc (.cells #[.slice (some ⟨b1, off1, none⟩) L.length C1, .slice A2 D.length C2, .slice (some ⟨b3, off3, none⟩) so.length C3, .bool wh] 66)) := (Only.refl _ _).alloc _
      have hk3 := K.cell (by simp) hc3
      have hk1 := K.cell (by simp) hc1
      clear hget hi0 hmany hlu hD
      go_wp2
      go_quiet ((go_at_call 102; exact quiet_drewN (listPrecedes_rd u v L[i0] s _ _ _ (Rp.keep hu (K.drewN _)) (Rp.keep hv (K.drewN _)) HU.out)))
      go_wp2
      · have hp : prec L[i0] s = true := by assumption
        go_roundw
        case rel => exact ⟨mid + 1, b, by omega, hbl, by go_num, by go_num, fun i hi h1 => HS.out.below hs hml (by rw [HD.out]; exact hp) hi (by omega), Hhi.out, by first | exact (Drew.refl _).drewN _ | exact ((Drew.refl _).drewN _).drewN _⟩
        case measure => simp [intOf]; omega
      · have hp : prec L[i0] s = false := by assumption
        go_roundw
        case rel => exact ⟨a, mid, hm1, by omega, by go_num, by go_num, Hlo.out, fun i hi h1 => HS.out.above hs hml (by rw [HD.out]; exact hp) hi h1, by first | exact (Drew.refl _).drewN _ | exact ((Drew.refl _).drewN _).drewN _⟩
        case measure => simp [intOf]; omega
    · obtain rfl : a = b := by omega
      go_wp2
      go_ret
      exact ⟨a, rfl, ⟨hbl, Hlo.out, Hhi.out⟩, by omega, (by with_reducible repeat (first | exact Only.refl _ _ | assumption | refine Only.drewN ?_ _ | refine Only.drew ?_ | refine Only.alloc ?_ _ | refine Only.setCell ?_ (by intro hh; exfalso; simp at hh; try omega) _ | refine Only.trans ?_ (by assumption)))⟩
set_option maxHeartbeats 2000000 in
theorem searchIndex_at (A1 A2 A3 : Option Addr) (C1 C2 C3 : Nat) (wh : Bool) (L : List (List Int)) (D : List Int) (so : List Nat) (ob : List Nat) (fps : List (List Nat)) (fd fs : List Nat) (m : Nat) (v : Value) (s : List Int) (f : List Nat) (w : World)
    (h : SrR w A1 A2 A3 C1 C2 C3 L D so ob fps fd fs) (hS : Srt m L so) (hv : Rd w v s f) (hs : s.length = m) (hL : L.length ≤ 3000) :
    Calls Tryz.prog 51 #[.agg #[.slice A1 L.length C1, .slice A2 D.length C2, .slice A3 so.length C3, .bool wh], v] w fun e w' => ∃ r : Int, e = .returned (.int .i64 r) ∧ (0 ≤ r ↔ s ∈ L) ∧ (r = -1 ∨ ∃ i : Nat, r = i ∧ i < L.length ∧ L.getD i [] = s) ∧ Only [] w w' := by
  have hlen : so.length ≤ 3000 := by rw [hS.len]; exact hL
  have HS := Lib.hid hS
  clear hS
  have K : Only [] w (w.alloc (.cells #[.slice A1 L.length C1, .slice A2 D.length C2, .slice A3 so.length C3, .bool wh] 66)) := (Only.refl _ _).alloc _
  have hB := Blk.new w [.slice A1 L.length C1, .slice A2 D.length C2, .slice A3 so.length C3, .bool wh] 66
  go_enter Tryz.func51, Tryz.ntmps51
  go_wp2_with (first
    | (go_at_call 81; (with_reducible refine (searchSlot_any A1 A2 A3 C1 C2 C3 wh L D so ob fps fd fs m _ s f _ (h.keep K) HS.out (Rp.keep hv K) hs hL).mono ?_); rintro e w1 ⟨k, rfl, hk, hk3, t1⟩; have y0 := (hB.keep t1).cell 0 rfl; have y2 := (hB.keep t1).cell 2 rfl)
    | fail "no arm")
  have KK := K.trans t1
  have Hk := Lib.hid hk
  clear hk
  by_cases hlt : k < so.length
  · obtain ⟨b3, off3, rfl, -, hc3⟩ := h.st.at_ k (by rw [soI_len]; exact hlt)
    have hin := HS.out.in_ so[k] (List.getElem_mem hlt)
    have hget := soI_get so hlt
    obtain ⟨i0, hi0⟩ : ∃ i0, i0 = so[k] := ⟨_, rfl⟩
    rw [hget, ← hi0] at hc3
    rw [← hi0] at hin
    obtain ⟨b1, off1, u, rfl, -, hc1, hu⟩ := h.ls.atRow i0 hin
    have hD : L.getD so[k] [] = L[i0] := by rw [← hi0, List.getD_eq_getElem?_getD, List.getElem?_eq_getElem hin]; rfl
    have HD := Lib.hid hD
    have hk3' := KK.cell (by simp) hc3
    have hk1 := KK.cell (by simp) hc1
    clear hget hi0 hD hc3 hc1 hB
    go_quiet ((go_at_call 82; exact quiet_drewN0 (equalInts_rd u v L[i0] s _ _ _ (Rp.keep hu (KK.drewN _)) (Rp.keep hv (KK.drewN _)))))
    go_wp2
    · have hp : eqV L[i0] s = true := by assumption
      go_ret
      exact ⟨i0, rfl, ⟨fun _ => (HS.out.slot_mem Hk.out).2 ⟨hlt, HD.out.trans (eqV_iff.1 hp)⟩, fun _ => by omega⟩, .inr ⟨i0, rfl, hin, by rw [List.getD_eq_getElem?_getD, List.getElem?_eq_getElem hin]; exact eqV_iff.1 hp⟩, (by with_reducible repeat (first | exact Only.refl _ _ | assumption | refine Only.drewN ?_ _ | refine Only.drew ?_ | refine Only.alloc ?_ _ | refine Only.setCell ?_ (by intro hh; exfalso; simp at hh; try omega) _ | refine Only.trans ?_ (by assumption)))⟩
    · have hp : eqV L[i0] s = false := by assumption
      go_ret
      exact ⟨-1, rfl, ⟨fun h => by omega, fun h => by
        obtain ⟨_, he⟩ := (HS.out.slot_mem Hk.out).1 h
        exact absurd (HD.out.symm.trans he) (eqV_iff'.1 hp)⟩, .inl rfl, (by with_reducible repeat (first | exact Only.refl _ _ | assumption | refine Only.drewN ?_ _ | refine Only.drew ?_ | refine Only.alloc ?_ _ | refine Only.setCell ?_ (by intro hh; exfalso; simp at hh; try omega) _ | refine Only.trans ?_ (by assumption)))⟩
  · have hge : so.length ≤ k := by omega
    clear hB
    go_quiet (fail)
    go_wp2
    go_ret
    exact ⟨-1, rfl, ⟨fun h => by omega, fun h => by
      obtain ⟨h1, _⟩ := (HS.out.slot_mem Hk.out).1 h
      exact absurd h1 hlt⟩, .inl rfl, (by with_reducible repeat (first | exact Only.refl _ _ | assumption | refine Only.drewN ?_ _ | refine Only.drew ?_ | refine Only.alloc ?_ _ | refine Only.setCell ?_ (by intro hh; exfalso; simp at hh; try omega) _ | refine Only.trans ?_ (by assumption)))⟩
theorem searchIndex_any (A1 A2 A3 : Option Addr) (C1 C2 C3 : Nat) (wh : Bool) (L : List (List Int)) (D : List Int) (so : List Nat) (ob : List Nat) (fps : List (List Nat)) (fd fs : List Nat) (m : Nat) (v : Value) (s : List Int) (f : List Nat) (w : World)
    (h : SrR w A1 A2 A3 C1 C2 C3 L D so ob fps fd fs) (hS : Srt m L so) (hv : Rd w v s f) (hs : s.length = m) (hL : L.length ≤ 3000) :
    Calls Tryz.prog 51 #[.agg #[.slice A1 L.length C1, .slice A2 D.length C2, .slice A3 so.length C3, .bool wh], v] w fun e w' => ∃ r : Int, e = .returned (.int .i64 r) ∧ (0 ≤ r ↔ s ∈ L) ∧ Only [] w w' := by
  refine (searchIndex_at A1 A2 A3 C1 C2 C3 wh L D so ob fps fd fs m v s f w h hS hv hs hL).mono ?_
  rintro e w' ⟨r, e1, h1, -, h2⟩
  exact ⟨r, e1, h1, h2⟩
end Go.Proofs.YtccdicgnolkepaaGreat

namespace Go.Proofs.YtccdicgnolkepaaGreat
open Go.RowKit
set_option maxRecDepth 10000

open Classical in
/-- membership in the group that gens generate -/
noncomputable def memB (n : Nat) (gens : List (List Int)) (p : List Int) : Bool := decide (PM.Grp n gens p)
def stateB (x : Puzzle) (s : List Int) : Bool := validPz x && genB x.points s
noncomputable def reachB (x : Puzzle) (s : List Int) : Bool := stateB x s && memB x.points.toNat x.moves s
theorem gensB_iff {n : Int} {gens : List (List Int)} : gensB n gens = true ↔ (1 ≤ n ∧ n ≤ 20) ∧ gens.length ≤ 8 ∧ ∀ g ∈ gens, PM.PN n.toNat g := by
  unfold gensB
  rw [Bool.and_eq_true, Bool.and_eq_true, inR_iff, decide_eq_true_iff, List.all_eq_true]
  constructor
  · rintro ⟨⟨h1, h2⟩, h3⟩
    refine ⟨h1, h2, fun g hg => ?_⟩
    have h := h3 g hg
    unfold genB at h
    rw [Bool.and_eq_true, decide_eq_true_iff, permB_iff] at h
    exact ⟨by omega, h.2.2⟩
  · rintro ⟨h1, h2, h3⟩
    refine ⟨⟨h1, h2⟩, fun g hg => ?_⟩
    obtain ⟨h4, h5⟩ := h3 g hg
    unfold genB
    rw [Bool.and_eq_true, decide_eq_true_iff, permB_iff]
    exact ⟨by omega, ⟨by omega, by omega⟩, h5⟩
theorem genB_iff {n : Int} {g : List Int} (h0 : 1 ≤ n) (h1 : n ≤ 20) : genB n g = true ↔ PM.PN n.toNat g := by
  unfold genB
  rw [Bool.and_eq_true, decide_eq_true_iff, permB_iff]
  constructor
  · rintro ⟨h2, -, h3⟩; exact ⟨by omega, h3⟩
  · rintro ⟨h2, h3⟩; exact ⟨by omega, ⟨by omega, by omega⟩, h3⟩
theorem validPz_gensB {x : Puzzle} (h : validPz x = true) : gensB x.points x.moves = true := by
  unfold validPz at h
  rw [Bool.and_eq_true] at h
  exact h.1
theorem stateB_pn {x : Puzzle} {s : List Int} (h : stateB x s = true) : (1 ≤ x.points ∧ x.points ≤ 20) ∧ x.moves.length ≤ 8 ∧ (∀ g ∈ x.moves, PM.PN x.points.toNat g) ∧ PM.PN x.points.toNat s := by
  unfold stateB at h
  rw [Bool.and_eq_true] at h
  obtain ⟨a, b, c⟩ := gensB_iff.1 (validPz_gensB h.1)
  exact ⟨a, b, c, (genB_iff a.1 a.2).1 h.2⟩
set_option maxHeartbeats 1000000 in
theorem isPermOf_rd (n : Int) (v : Value) (s : List Int) (fp : List Nat) (w : World) (h : Rd w v s fp) :
    Calls Tryz.prog 80 #[.int .i64 n, v] w fun e w' => e = .returned (.bool (genB n s)) ∧ Drew w w' := by
  obtain ⟨a, cap, rfl, hI⟩ := h.ints
  have hb := hI.bound
  by_cases c1 : (s.length : Int) = n
  · have d1 : ((s.length : Int) == n) = true := by simp [c1]
    have hg : genB n s = permB s := by simp [genB, c1]
    have Hg := Lib.hid hg; clear hg c1
    go_enter Tryz.func80, Tryz.ntmps80
    go_wp2_with ((go_at_call 71; (with_reducible refine (specIsPerm_rd _ s fp _ h).mono ?_); rintro e w1 ⟨rfl, t1⟩))
    go_ret
    exact ⟨ret_bool Hg.out.symm, t1⟩
  · have d1 : ((s.length : Int) == n) = false := by simp [c1]
    have hg : genB n s = false := by simp [genB, c1]
    have Hg := Lib.hid hg; clear hg c1
    go_enter Tryz.func80, Tryz.ntmps80
    go_wp2
    go_ret
    exact ⟨ret_bool Hg.out.symm, Drew.refl _⟩
set_option maxHeartbeats 1000000 in
theorem specIsState_any (cs : List Value) (x : Puzzle) (fp : List Nat) (v : Value) (s : List Int) (fs : List Nat) (w : World) (h : Rp.rep w cs x fp) (hs : Rd w v s fs) :
    Calls Tryz.prog 50 #[.agg cs.toArray, v] w fun e w' => e = .returned (.bool (stateB x s)) ∧ Only [] w w' := by
  have h0 := h
  obtain ⟨v2, rfl, p0, p1, h2⟩ := h
  obtain ⟨A2, C2, ob, fps, rfl, -, -⟩ := h2.open_
  rcases hq : validPz x
  all_goals have hf : stateB x s = (validPz x && genB x.points s) := rfl
  all_goals rw [hq] at hf
  all_goals have Hf := Lib.hid hf
  all_goals clear hf
  all_goals go_enter Tryz.func50, Tryz.ntmps50
  all_goals go_wp2_with (first | (go_at_call 24; (with_reducible refine (specIsValidPuzzle_any [.int .i64 x.points, .string x.names, .slice A2 x.moves.length C2] x _ _ (Rp.keep h0 (by with_reducible repeat (first | exact Only.refl _ _ | assumption | refine Only.drewN ?_ _ | refine Only.drew ?_ | refine Only.alloc ?_ _ | refine Only.setCell ?_ (by intro hh; exfalso; simp at hh; try omega) _ | refine Only.trans ?_ (by assumption))))).mono ?_); rintro e w1 ⟨rfl, t1⟩; have y1 := t1.cells_eq w.heap.size (by simp) (by simp)) | (go_at_call 80; (with_reducible refine (isPermOf_rd x.points _ s _ _ (Rp.keep hs (by with_reducible repeat (first | exact Only.refl _ _ | assumption | refine Only.drewN ?_ _ | refine Only.drew ?_ | refine Only.alloc ?_ _ | refine Only.setCell ?_ (by intro hh; exfalso; simp at hh; try omega) _ | refine Only.trans ?_ (by assumption))))).mono ?_); rintro e w2 ⟨rfl, d2⟩; have t2 := d2.only []) | fail "no arm")
  all_goals go_ret
  all_goals exact ⟨ret_bool Hf.out.symm, (by with_reducible repeat (first | exact Only.refl _ _ | assumption | refine Only.drewN ?_ _ | refine Only.drew ?_ | refine Only.alloc ?_ _ | refine Only.setCell ?_ (by intro hh; exfalso; simp at hh; try omega) _ | refine Only.trans ?_ (by assumption)))⟩
set_option maxHeartbeats 1000000 in
theorem implIsStateOf_any (cs : List Value) (x : Puzzle) (fp : List Nat) (v : Value) (s : List Int) (fs : List Nat) (w : World) (h : Rp.rep w cs x fp) (hs : Rd w v s fs) :
    Calls Tryz.prog 94 #[.agg cs.toArray, v] w fun e w' => e = .returned (.bool (genB x.points s)) ∧ Only [] w w' := by
  have h0 := h
  obtain ⟨v2, rfl, p0, p1, h2⟩ := h
  obtain ⟨A2, C2, ob, fps, rfl, -, -⟩ := h2.open_
  by_cases c1 : (s.length : Int) = x.points
  · have d1 : ((s.length : Int) == x.points) = true := by simp [c1]
    have hg : genB x.points s = permB s := by simp [genB, c1]
    have Hg := Lib.hid hg; clear hg c1
    go_enter Tryz.func94, Tryz.ntmps94
    go_wp2
    go_quiet (first
      | (go_at_call 63; exact quiet_drewN0 (lengthInt_q _ s fs _ (Rp.keep hs (by with_reducible repeat (first | exact Only.refl _ _ | assumption | refine Only.drewN ?_ _ | refine Only.drew ?_ | refine Only.alloc ?_ _ | refine Only.setCell ?_ (by intro hh; exfalso; simp at hh; try omega) _ | refine Only.trans ?_ (by assumption))))))
      | (go_at_call 63; exact quiet_drewN (lengthInt_q _ s fs _ (Rp.keep hs (by with_reducible repeat (first | exact Only.refl _ _ | assumption | refine Only.drewN ?_ _ | refine Only.drew ?_ | refine Only.alloc ?_ _ | refine Only.setCell ?_ (by intro hh; exfalso; simp at hh; try omega) _ | refine Only.trans ?_ (by assumption))))))
      | (go_at_call 89; exact quiet_drewN (implIsPerm_rd _ s fs _ (Rp.keep hs (by with_reducible repeat (first | exact Only.refl _ _ | assumption | refine Only.drewN ?_ _ | refine Only.drew ?_ | refine Only.alloc ?_ _ | refine Only.setCell ?_ (by intro hh; exfalso; simp at hh; try omega) _ | refine Only.trans ?_ (by assumption))))))
      | (go_at_call 89; exact quiet_drewN0 (implIsPerm_rd _ s fs _ (Rp.keep hs (by with_reducible repeat (first | exact Only.refl _ _ | assumption | refine Only.drewN ?_ _ | refine Only.drew ?_ | refine Only.alloc ?_ _ | refine Only.setCell ?_ (by intro hh; exfalso; simp at hh; try omega) _ | refine Only.trans ?_ (by assumption)))))))
    go_wp2
    go_ret
    exact ⟨ret_bool Hg.out.symm, (by with_reducible repeat (first | exact Only.refl _ _ | assumption | refine Only.drewN ?_ _ | refine Only.drew ?_ | refine Only.alloc ?_ _ | refine Only.setCell ?_ (by intro hh; exfalso; simp at hh; try omega) _ | refine Only.trans ?_ (by assumption)))⟩
  · have d1 : ((s.length : Int) == x.points) = false := by simp [c1]
    have hg : genB x.points s = false := by simp [genB, c1]
    have Hg := Lib.hid hg; clear hg c1
    go_enter Tryz.func94, Tryz.ntmps94
    go_wp2
    go_quiet (first
      | (go_at_call 63; exact quiet_drewN0 (lengthInt_q _ s fs _ (Rp.keep hs (by with_reducible repeat (first | exact Only.refl _ _ | assumption | refine Only.drewN ?_ _ | refine Only.drew ?_ | refine Only.alloc ?_ _ | refine Only.setCell ?_ (by intro hh; exfalso; simp at hh; try omega) _ | refine Only.trans ?_ (by assumption))))))
      | (go_at_call 63; exact quiet_drewN (lengthInt_q _ s fs _ (Rp.keep hs (by with_reducible repeat (first | exact Only.refl _ _ | assumption | refine Only.drewN ?_ _ | refine Only.drew ?_ | refine Only.alloc ?_ _ | refine Only.setCell ?_ (by intro hh; exfalso; simp at hh; try omega) _ | refine Only.trans ?_ (by assumption)))))))
    go_wp2
    go_ret
    exact ⟨ret_bool Hg.out.symm, (by with_reducible repeat (first | exact Only.refl _ _ | assumption | refine Only.drewN ?_ _ | refine Only.drew ?_ | refine Only.alloc ?_ _ | refine Only.setCell ?_ (by intro hh; exfalso; simp at hh; try omega) _ | refine Only.trans ?_ (by assumption)))⟩

theorem implNewChain_i (n : Int) (hn : 1 ≤ n) (hn20 : n ≤ 20) (vg : Value) (gens : List (List Int)) (fpg : List Nat) (w : World) (hg : Rd w vg gens fpg) (hpn : ∀ g ∈ gens, PM.PN n.toNat g) (hgl : gens.length ≤ 1000) :
    Calls Tryz.prog 34 #[.int .i64 n, vg] w fun e w' => ∃ (L : Lay) (gv : Nat → Value) (G : PM.Gens) (T : PM.Rows) (M F : List Nat), e = .returned (.pointer (some ⟨L.g, 0, none⟩)) ∧ L.oG = 1 ∧ L.oT = 2 ∧ Ch 26 w.heap.size w' L gv n.toNat G T M F ∧ PM.Chain n.toNat gens G T ∧ Only [] w w' := by
  obtain ⟨m, rfl⟩ := Int.eq_ofNat_of_zero_le (by omega : 0 ≤ n)
  exact implNewChain_any m (by omega) (by omega) vg gens fpg w hg hpn hgl
end Go.Proofs.YtccdicgnolkepaaGreat

namespace Go.Proofs.YtccdicgnolkepaaGreat
open Go.RowKit
set_option maxRecDepth 10000

structure Session where
  puzzle : Puzzle
  state : List Int
  history : List (List Int)
  future : List (List Int)

instance : Rp Session where
  size := 6
  rep w cs x fp := ∃ c0 v1 v2 v3 f0 f1 f2 f3, cs = c0 ++ [v1] ++ [v2] ++ [v3] ∧ fp = f0 ++ (f1 ++ (f2 ++ f3)) ∧ Rp.rep w c0 x.puzzle f0 ∧ Rd w v1 x.state f1 ∧ Rd w v2 x.history f2 ∧ Rd w v3 x.future f3
  len h := by
    obtain ⟨c0, v1, v2, v3, f0, f1, f2, f3, rfl, -, h0, h1, h2, h3⟩ := h
    simp [Rp.len h0, Rp.size]
  frame h hf := by
    obtain ⟨c0, v1, v2, v3, f0, f1, f2, f3, hcs, rfl, h0, h1, h2, h3⟩ := h
    exact ⟨c0, v1, v2, v3, f0, f1, f2, f3, hcs, rfl, Rp.frame h0 fun b hb => hf b (by simp [hb]), Rp.frame h1 fun b hb => hf b (by simp [hb]), Rp.frame h2 fun b hb => hf b (by simp [hb]), Rp.frame h3 fun b hb => hf b (by simp [hb])⟩
  lt h := by
    obtain ⟨c0, v1, v2, v3, f0, f1, f2, f3, hcs, rfl, h0, h1, h2, h3⟩ := h
    intro b hb
    simp only [List.mem_append] at hb
    rcases hb with hb | hb | hb | hb
    · exact Rp.lt h0 b hb
    · exact Rp.lt h1 b hb
    · exact Rp.lt h2 b hb
    · exact Rp.lt h3 b hb

instance : Mk Session where
  mark k x := ⟨Mk.mark (k) x.puzzle, Mk.mark (k + (Mk.cnt x.puzzle : Nat)) x.state, Mk.mark (k + (Mk.cnt x.puzzle : Nat) + (Mk.cnt x.state : Nat)) x.history, Mk.mark (k + (Mk.cnt x.puzzle : Nat) + (Mk.cnt x.state : Nat) + (Mk.cnt x.history : Nat)) x.future⟩
  cnt x := Mk.cnt x.puzzle + Mk.cnt x.state + Mk.cnt x.history + Mk.cnt x.future
instance : Sz Session where
  sz x := Sz.sz x.puzzle + Sz.sz x.state + Sz.sz x.history + Sz.sz x.future
instance : Sm Session where
  sm x := Sm.sm x.puzzle ∧ Sm.sm x.state ∧ Sm.sm x.history ∧ Sm.sm x.future
instance : SzSm Session := ⟨fun x h => by
  have h' : Sz.sz x.puzzle + Sz.sz x.state + Sz.sz x.history + Sz.sz x.future ≤ 2097152 := h
  exact ⟨SzSm.of_ x.puzzle (by omega), SzSm.of_ x.state (by omega), SzSm.of_ x.history (by omega), SzSm.of_ x.future (by omega)⟩⟩
instance : CntSz Session := ⟨fun x => by
  have h' : Mk.cnt x.puzzle + Mk.cnt x.state + Mk.cnt x.history + Mk.cnt x.future ≤ Sz.sz x.puzzle + Sz.sz x.state + Sz.sz x.history + Sz.sz x.future := by have := CntSz.le x.puzzle; have := CntSz.le x.state; have := CntSz.le x.history; have := CntSz.le x.future; omega
  exact h'⟩
instance : MkL Session := ⟨fun k x => by simp [Mk.mark, Mk.cnt, markL_idem, markL_cnt], fun k x => by simp [Mk.mark, Mk.cnt, markL_cnt]⟩
theorem Session.eq_iff {x y : Session} : x = y ↔ x.puzzle = y.puzzle ∧ x.state = y.state ∧ x.history = y.history ∧ x.future = y.future := by
  cases x; cases y; simp





end Go.Proofs.YtccdicgnolkepaaGreat


namespace Go.Proofs.YtccdicgnolkepaaGreat
open Go.RowKit
set_option maxRecDepth 10000
end Go.Proofs.YtccdicgnolkepaaGreat

namespace Go.Proofs.YtccdicgnolkepaaGreat
open Go.RowKit
set_option maxRecDepth 10000
end Go.Proofs.YtccdicgnolkepaaGreat

namespace Go.Proofs.YtccdicgnolkepaaGreat
open Go.RowKit
set_option maxRecDepth 10000
section
variable {α : Type} [Rp α] {w w' : World} {a : Option Addr} {cap : Nat} {xs : List α} {ob : List Nat} {fps : List (List Nat)}
/-- the first k elements -/
theorem SeqA.take (h : SeqA w a cap xs ob fps) (k : Nat) : SeqA w a cap (xs.take k) ob (fps.take k) := by
  have hnf := h.nf
  refine ⟨by have := h.len; simp; omega, h.cap, by simp [hnf], fun j hj => ?_, h.lt, h.one⟩
  have hj' : j < xs.length := by simp at hj; omega
  obtain ⟨b, off, cs, h1, h2, h3, h4⟩ := h.at_ j hj'
  refine ⟨b, off, cs, h1, h2, h3, ?_⟩
  simpa using h4
end
/-- a part of own memory gives way to another one -/
theorem Fresh.repl {B : Nat} {w w' : World} {pre mid mid' post fpw : List Nat} (h : Fresh B w (pre ++ (mid ++ post))) (ho : Only fpw w w') (hf : ∀ b ∈ fpw, b ∈ mid) (F' : Fresh B w' mid') (hs : ∀ b ∈ mid', b ∈ mid ∨ w.heap.size ≤ b) : Fresh B w' (pre ++ (mid' ++ post)) := by
  obtain ⟨n1, n2, n3⟩ := List.nodup_append.1 h.nd
  obtain ⟨n4, n5, n6⟩ := List.nodup_append.1 n2
  have lpre : ∀ b ∈ pre, b < w.heap.size := fun b hb => h.lt b (List.mem_append_left _ hb)
  have lpost : ∀ b ∈ post, b < w.heap.size := fun b hb => h.lt b (List.mem_append_right _ (List.mem_append_right _ hb))
  have dpre : ∀ b ∈ pre, b ∉ mid := fun b hb hm => n3 b hb b (List.mem_append_left _ hm) rfl
  have dpost : ∀ b ∈ post, b ∉ mid := fun b hb hm => n6 b hm b hb rfl
  have dpre' : ∀ b ∈ pre, b ∉ mid' := fun b hb hm => by
    rcases hs b hm with h1 | h1
    · exact dpre b hb h1
    · have := lpre b hb; omega
  have dpost' : ∀ b ∈ post, b ∉ mid' := fun b hb hm => by
    rcases hs b hm with h1 | h1
    · exact dpost b hb h1
    · have := lpost b hb; omega
  refine ⟨List.nodup_append.2 ⟨n1, List.nodup_append.2 ⟨F'.nd, n5, fun a ha b hb e => ?_⟩, fun a ha b hb e => ?_⟩, fun b hb => ?_, ?_⟩
  · subst e; exact dpost' a hb ha
  · subst e
    rcases List.mem_append.1 hb with hb | hb
    · exact dpre' a ha hb
    · exact n3 a ha a (List.mem_append_right _ hb) rfl
  · rcases List.mem_append.1 hb with hb | hb
    · exact h.ge b (List.mem_append_left _ hb)
    · rcases List.mem_append.1 hb with hb | hb
      · exact F'.ge b hb
      · exact h.ge b (List.mem_append_right _ (List.mem_append_right _ hb))
  · exact (h.left.own.only ho fun b hb hm => dpre b hb (hf b hm)).append (F'.own.append (h.right.right.own.only ho fun b hb hm => dpost b hb (hf b hm)))
end Go.Proofs.YtccdicgnolkepaaGreat

namespace Go.Proofs.YtccdicgnolkepaaGreat
open Go.RowKit
set_option maxRecDepth 10000
end Go.Proofs.YtccdicgnolkepaaGreat

namespace Go.Proofs.YtccdicgnolkepaaGreat
open Go.RowKit
set_option maxRecDepth 10000
theorem flatten_take : ∀ (fs : List (List Nat)) (k : Nat), (fs.take k).flatten.Sublist fs.flatten
  | [], _ => by simp
  | _ :: _, 0 => by simp
  | f :: fs, k + 1 => by simpa using List.Sublist.append (List.Sublist.refl f) (flatten_take fs k)
theorem Fresh.sublist {B : Nat} {w : World} {fp fp' : List Nat} (h : Fresh B w fp) (hs : fp'.Sublist fp) : Fresh B w fp' :=
  ⟨h.nd.sublist hs, fun b hb => h.ge b (hs.subset hb), h.own.sub fun _ hb => hs.subset hb⟩
section
variable {α : Type} [Rp α] {B : Nat} {e : TypeId} {w : World} {v : Value} {l : List α} {fs : List (List Nat)}
end
end Go.Proofs.YtccdicgnolkepaaGreat

namespace Go.Proofs.YtccdicgnolkepaaGreat
open Go.RowKit
set_option maxRecDepth 10000

/-- a session of the call's own, in parts -/
structure SeP (eI : TypeId) (B : Nat) (w : World) (x : Session) (vm vs vh vf : Value) (fm fs : List Nat) (hs us : List (List Nat)) : Prop where
  nm : I64 x.puzzle.points ∧ x.puzzle.names.size ≤ maxLen
  mv : Rd w vm x.puzzle.moves fm
  st : Rd w vs x.state fs
  hi : Acc B eI w vh x.history hs
  fu : Acc B eI w vf x.future us
  fr : Fresh B w (fm ++ (fs ++ ((vh.ownBlock.toList ++ hs.flatten) ++ (vf.ownBlock.toList ++ us.flatten))))
section
variable {eI : TypeId} {B : Nat} {w w' : World} {x : Session} {vm vs vh vf : Value} {fm fs : List Nat} {hs us : List (List Nat)}
theorem SeP.only (h : SeP eI B w x vm vs vh vf fm fs hs us) {fp : List Nat} (ho : Only fp w w') (hd : ∀ b ∈ fp, b < B ∨ w.heap.size ≤ b) : SeP eI B w' x vm vs vh vf fm fs hs us := by
  have key : ∀ b ∈ fm ++ (fs ++ ((vh.ownBlock.toList ++ hs.flatten) ++ (vf.ownBlock.toList ++ us.flatten))), b ∉ fp := fun b hb hm => by
    have h1 := h.fr.ge b hb
    have h2 := h.fr.lt b hb
    rcases hd b hm with h3 | h3 <;> omega
  have k1 : ∀ b ∈ fm, b ∉ fp := fun b hb => key b (List.mem_append_left _ hb)
  have k2 : ∀ b ∈ fs, b ∉ fp := fun b hb => key b (List.mem_append_right _ (List.mem_append_left _ hb))
  have k3 : ∀ b ∈ vh.ownBlock.toList ++ hs.flatten, b ∉ fp := fun b hb => key b (List.mem_append_right _ (List.mem_append_right _ (List.mem_append_left _ hb)))
  have k4 : ∀ b ∈ vf.ownBlock.toList ++ us.flatten, b ∉ fp := fun b hb => key b (List.mem_append_right _ (List.mem_append_right _ (List.mem_append_right _ hb)))
  exact ⟨h.nm, Rp.only h.mv ho k1, Rp.only h.st ho k2, h.hi.only ho (fun b hb => k3 b (List.mem_append_right _ hb)) (fun g hg => k3 g (List.mem_append_left _ (by simp [hg]))), h.fu.only ho (fun b hb => k4 b (List.mem_append_right _ hb)) (fun g hg => k4 g (List.mem_append_left _ (by simp [hg]))), h.fr.only ho key⟩
theorem Acc.mono {α : Type} [Rp α] {B B' : Nat} {e : TypeId} {w : World} {v : Value} {l : List α} {fs : List (List Nat)} (h : Acc B e w v l fs) (hB : B' ≤ B) : Acc B' e w v l fs := by
  obtain ⟨css, ho, hr⟩ := h.own
  refine ⟨⟨css, ⟨ho.1, ?_⟩, hr⟩, h.fl, h.apart⟩
  rcases ho.2 with h1 | ⟨g, cp, cur, h1, h2, h3⟩
  · exact .inl h1
  · exact .inr ⟨g, cp, cur, h1, Nat.le_trans hB h2, h3⟩
theorem SeP.mono (h : SeP eI B w x vm vs vh vf fm fs hs us) {B' : Nat} (hB : B' ≤ B) : SeP eI B' w x vm vs vh vf fm fs hs us :=
  ⟨h.nm, h.mv, h.st, h.hi.mono hB, h.fu.mono hB, h.fr.mono hB⟩
/-- parts made one behind the other -/
theorem SeP.made {w1 w2 w3 w4 : World} (nm : I64 x.puzzle.points ∧ x.puzzle.names.size ≤ maxLen) {B1 : Nat} (r1 : Rd w1 vm x.puzzle.moves fm) (F1 : Fresh B1 w1 fm) (r2 : Rd w2 vs x.state fs) (F2 : Fresh w1.heap.size w2 fs) (r3 : Acc w2.heap.size eI w3 vh x.history hs) (F3 : Fresh w2.heap.size w3 hs.flatten)
    (r4 : Acc w3.heap.size eI w4 vf x.future us) (F4 : Fresh w3.heap.size w4 us.flatten) (t2 : Only [] w1 w2) (t3 : Only [] w2 w3) (t4 : Only [] w3 w4) (hB : B ≤ B1) (hB1 : B1 ≤ w1.heap.size) : SeP eI B w4 x vm vs vh vf fm fs hs us := by
  have s2 := t2.size
  have s3 := t3.size
  have s4 := t4.size
  refine ⟨nm, Rp.keep (Rp.keep (Rp.keep r1 t2) t3) t4, Rp.keep (Rp.keep r2 t3) t4, (r3.keep t4).mono (by omega), r4.mono (by omega), ?_⟩
  have f4 := r4.fresh F4
  have f3 := (r3.fresh F3)
  have f34 := Fresh.append (f3.keep t4) f4 s3 fun b hb => f3.lt b hb
  have f234 := Fresh.append ((F2.keep t3).keep t4) f34 s2 fun b hb => F2.lt b hb
  exact (Fresh.append (((F1.keep t2).keep t3).keep t4) f234 hB1 fun b hb => F1.lt b hb).mono hB
theorem SeP.keep (h : SeP eI B w x vm vs vh vf fm fs hs us) (ho : Only [] w w') : SeP eI B w' x vm vs vh vf fm fs hs us := h.only ho (by simp)
theorem SeP.rep (h : SeP eI B w x vm vs vh vf fm fs hs us) : Rp.rep w [.int .i64 x.puzzle.points, .string x.puzzle.names, vm, vs, vh, vf] x (fm ++ (fs ++ ((vh.ownBlock.toList ++ hs.flatten) ++ (vf.ownBlock.toList ++ us.flatten)))) :=
  ⟨[.int .i64 x.puzzle.points, .string x.puzzle.names, vm], vs, vh, vf, fm, fs, _, _, rfl, rfl, ⟨vm, rfl, h.nm.1, h.nm.2, h.mv⟩, h.st, h.hi.rd (by decide), h.fu.rd (by decide)⟩
end
end Go.Proofs.YtccdicgnolkepaaGreat

namespace Go.Proofs.YtccdicgnolkepaaGreat
open Go.RowKit
set_option maxRecDepth 10000
end Go.Proofs.YtccdicgnolkepaaGreat
