/- The cycles of a permutation; its cycle type (laws 32, 44; the notation of cycles). All members of a chain, level by level, are the members of the ranks in their order (laws 32, 36, 44). All members of a chain are the members of the ranks (laws 32, 36, 44). Maps from int64 to int64 that a call makes. (Printed by mkmapv.py out of XMap.) The program's walk down a chain: values, take, from (laws 33, 47). The program's walk down a chain: sorted, from; its generator (laws 33, 47). The program's RandomMember (laws 35, 47). The program's memberAt: the member of a rank (laws 33, 34, ..). -/
import Derived.Test.YtpcamkmoabhlhaaRowTypeCountsG2
import Derived.Test.YtpcamkmoabhlhaaRowTypeCountsG8
import Derived.Test.YtpcamkmoabhlhaaRowTypeCountsG10
import Derived.Test.YtpcamkmoabhlhaaRowTypeCountsG9
import Derived.Maps.RangeWalk
import Derived.Test.YtpcamkmoabhlhaaRowTypeCountsG3
import Derived.Test.YtpcamkmoabhlhaaRowTypeCountsG7
import Derived.Deep.RegionLaw
import Derived.Deep.QuietTactic
namespace PM

/-- where x is after k steps -/
def it (p : List Int) : Nat → Int → Int
  | 0, x => x
  | k + 1, x => at_ p (it p k x)
theorem it_add (p : List Int) (a : Nat) (x : Int) : ∀ b, it p (b + a) x = it p b (it p a x)
  | 0 => by simp [it]
  | b + 1 => by rw [Nat.succ_add]; show at_ p (it p (b + a) x) = at_ p (it p b (it p a x)); rw [it_add p a x b]
theorem it_rng {n : Nat} {p : List Int} (hp : PN n p) {x : Int} (h0 : 0 ≤ x) (h1 : x < n) : ∀ k, 0 ≤ it p k x ∧ it p k x < n
  | 0 => ⟨h0, h1⟩
  | k + 1 => hp.rng (it_rng hp h0 h1 k).1 (it_rng hp h0 h1 k).2
theorem it_inj {n : Nat} {p : List Int} (hp : PN n p) {x y : Int} (x0 : 0 ≤ x) (x1 : x < n) (y0 : 0 ≤ y) (y1 : y < n) : ∀ k, it p k x = it p k y → x = y
  | 0, h => h
  | k + 1, h => it_inj hp x0 x1 y0 y1 k (hp.inj (it_rng hp x0 x1 k).1 (it_rng hp x0 x1 k).2 (it_rng hp y0 y1 k).1 (it_rng hp y0 y1 k).2 h)
theorem it_ret {n : Nat} {p : List Int} (hp : PN n p) {x : Int} (x0 : 0 ≤ x) (x1 : x < n) {i j : Nat} (h : i < j) (e : it p i x = it p j x) : it p (j - i) x = x := by
  have hj : j = i + (j - i) := by omega
  rw [hj, it_add] at e
  exact (it_inj hp x0 x1 (it_rng hp x0 x1 _).1 (it_rng hp x0 x1 _).2 i e).symm
theorem least_of (P : Nat → Prop) : ∀ k, P k → ∃ m, P m ∧ m ≤ k ∧ ∀ j, j < m → ¬ P j := by
  intro k
  induction k using Nat.strongRecOn with
  | ind k ih =>
    intro h
    by_cases hx : ∃ j, j < k ∧ P j
    · obtain ⟨j, hj, hP⟩ := hx
      obtain ⟨m, h1, h2, h3⟩ := ih j hj hP
      exact ⟨m, h1, by omega, h3⟩
    · exact ⟨k, h, Nat.le_refl _, fun j hj hP => hx ⟨j, hj, hP⟩⟩
theorem it_back {n : Nat} {p : List Int} (hp : PN n p) {x : Int} (x0 : 0 ≤ x) (x1 : x < n) : ∃ k, (0 < k ∧ it p k x = x) ∧ k ≤ n := by
  apply Classical.byContradiction
  intro hno
  have hnd : ((List.range (n + 1)).map fun i => it p i x).Nodup := by
    unfold List.Nodup
    rw [List.pairwise_map]
    refine List.Pairwise.imp_of_mem (R := fun a b => a < b) (fun {a b} ha hb hab e => ?_) (List.pairwise_lt_range)
    exact hno ⟨b - a, ⟨by omega, it_ret hp x0 x1 hab e⟩, by have := List.mem_range.1 hb; omega⟩
  have := nodup_sub_len hnd (l2 := pts n) fun y hy => by
    obtain ⟨k, -, rfl⟩ := List.mem_map.1 hy
    exact mem_pts.2 (it_rng hp x0 x1 k)
  rw [pts_len, List.length_map, List.length_range] at this
  omega
open Classical in
/-- after how many steps x is back -/
noncomputable def per (p : List Int) (x : Int) : Nat := if h : ∃ m, (0 < m ∧ it p m x = x) ∧ ∀ j, j < m → ¬ (0 < j ∧ it p j x = x) then choose h else 0
theorem per_ok {n : Nat} {p : List Int} (hp : PN n p) {x : Int} (x0 : 0 ≤ x) (x1 : x < n) : 0 < per p x ∧ per p x ≤ n ∧ it p (per p x) x = x ∧ ∀ j, 0 < j → j < per p x → it p j x ≠ x := by
  obtain ⟨k, hk, hkn⟩ := it_back hp x0 x1
  obtain ⟨m, h1, h2, h3⟩ := least_of (fun k => 0 < k ∧ it p k x = x) k hk
  have hex : ∃ m, (0 < m ∧ it p m x = x) ∧ ∀ j, j < m → ¬ (0 < j ∧ it p j x = x) := ⟨m, h1, h3⟩
  have hper : per p x = Classical.choose hex := by unfold per; rw [dif_pos hex]
  obtain ⟨⟨c1, c2⟩, c3⟩ := Classical.choose_spec hex
  rw [hper]
  refine ⟨c1, ?_, c2, fun j h0 hj e => c3 j hj ⟨h0, e⟩⟩
  have : Classical.choose hex ≤ m := by
    apply Classical.byContradiction
    intro hlt
    exact c3 m (by omega) h1
  omega
/-- the first steps of a cycle -/
def cyT (p : List Int) (x : Int) (k : Nat) : List Int := (List.range k).map fun i => it p i x
/-- the cycle of x -/
noncomputable def cyl (p : List Int) (x : Int) : List Int := cyT p x (per p x)
theorem cyT_len (p : List Int) (x : Int) (k : Nat) : (cyT p x k).length = k := by simp [cyT]
theorem cyT_succ (p : List Int) (x : Int) (k : Nat) : cyT p x (k + 1) = cyT p x k ++ [it p k x] := by unfold cyT; rw [List.range_succ, List.map_append]; rfl
theorem mem_cyT {p : List Int} {x y : Int} {k : Nat} : y ∈ cyT p x k ↔ ∃ i, i < k ∧ it p i x = y := by unfold cyT; simp
theorem cyl_len (p : List Int) (x : Int) : (cyl p x).length = per p x := cyT_len ..
section
variable {n : Nat} {p : List Int} (hp : PN n p) {x : Int} (x0 : 0 ≤ x) (x1 : x < n)
include hp x0 x1
theorem it_per (q : Nat) : it p (q * per p x) x = x := by
  induction q with
  | zero => simp [it]
  | succ q ih => rw [Nat.succ_mul, Nat.add_comm, it_add, ih, (per_ok hp x0 x1).2.2.1]
theorem it_mod (k : Nat) : it p k x = it p (k % per p x) x := by
  have h : it p (k % per p x + k / per p x * per p x) x = it p (k % per p x) x := by rw [it_add, it_per hp x0 x1]
  rw [← h]
  congr 1
  have := Nat.mod_add_div' k (per p x)
  omega
theorem cyl_nodup : (cyl p x).Nodup := by
  unfold cyl cyT List.Nodup
  rw [List.pairwise_map]
  refine List.Pairwise.imp_of_mem (R := fun a b => a < b) (fun {a b} ha hb hab e => ?_) (List.pairwise_lt_range)
  have hb' := List.mem_range.1 hb
  exact (per_ok hp x0 x1).2.2.2 (b - a) (by omega) (by omega) (it_ret hp x0 x1 hab e)
theorem mem_cyl {y : Int} : y ∈ cyl p x ↔ ∃ k, it p k x = y := by
  unfold cyl
  rw [mem_cyT]
  constructor
  · rintro ⟨i, -, h⟩; exact ⟨i, h⟩
  · rintro ⟨k, h⟩
    exact ⟨k % per p x, Nat.mod_lt _ (per_ok hp x0 x1).1, by rw [← it_mod hp x0 x1]; exact h⟩
theorem cyl_rng : ∀ y ∈ cyl p x, 0 ≤ y ∧ y < n := fun y hy => by
  obtain ⟨k, rfl⟩ := (mem_cyl hp x0 x1).1 hy
  exact it_rng hp x0 x1 k
theorem self_cyl : x ∈ cyl p x := (mem_cyl hp x0 x1).2 ⟨0, rfl⟩
theorem cyl_back {y : Int} (h : y ∈ cyl p x) : x ∈ cyl p y := by
  have hy := cyl_rng hp x0 x1 y h
  unfold cyl at h
  obtain ⟨i, hi, rfl⟩ := mem_cyT.1 h
  refine (mem_cyl hp hy.1 hy.2).2 ⟨per p x - i, ?_⟩
  rw [← it_add, show per p x - i + i = per p x by omega]
  exact (per_ok hp x0 x1).2.2.1
theorem cyl_trans {y z : Int} (h : y ∈ cyl p x) (h2 : z ∈ cyl p y) : z ∈ cyl p x := by
  have hy := cyl_rng hp x0 x1 y h
  obtain ⟨i, rfl⟩ := (mem_cyl hp x0 x1).1 h
  obtain ⟨j, rfl⟩ := (mem_cyl hp hy.1 hy.2).1 h2
  exact (mem_cyl hp x0 x1).2 ⟨j + i, it_add ..⟩
end
/-- the smallest of its cycle -/
def Mn (p : List Int) (x : Int) : Prop := ∀ y ∈ cyl p x, x ≤ y
open Classical in
/-- the cycles that begin with a number less than k -/
noncomputable def mns (p : List Int) (k : Nat) : List Int := (pts k).filter fun x => decide (Mn p x)
noncomputable def cycs (p : List Int) (k : Nat) : List (List Int) := (mns p k).map (cyl p)
theorem pts_succ (n : Nat) : pts (n + 1) = pts n ++ [(n : Int)] := by unfold pts; rw [List.range_succ, List.map_append]; rfl
theorem mns_yes {p : List Int} {k : Nat} (h : Mn p k) : mns p (k + 1) = mns p k ++ [(k : Int)] := by
  unfold mns; rw [pts_succ, List.filter_append]; simp [h]
theorem mns_no {p : List Int} {k : Nat} (h : ¬ Mn p k) : mns p (k + 1) = mns p k := by
  unfold mns; rw [pts_succ, List.filter_append]; simp [h]
theorem cycs_yes {p : List Int} {k : Nat} (h : Mn p k) : cycs p (k + 1) = cycs p k ++ [cyl p k] := by unfold cycs; rw [mns_yes h, List.map_append]; rfl
theorem cycs_no {p : List Int} {k : Nat} (h : ¬ Mn p k) : cycs p (k + 1) = cycs p k := by unfold cycs; rw [mns_no h]
theorem mem_mns {p : List Int} {k : Nat} {x : Int} : x ∈ mns p k ↔ (0 ≤ x ∧ x < k) ∧ Mn p x := by
  unfold mns; rw [List.mem_filter, mem_pts]; simp
theorem cycs_count (p : List Int) (k : Nat) : (cycs p k).length ≤ k := by
  have h : (mns p k).length ≤ (pts k).length := List.length_filter_le ..
  rw [pts_len] at h
  unfold cycs; rw [List.length_map]; exact h
/-- the smallest of the cycle of y -/
theorem min_of {n : Nat} {p : List Int} (hp : PN n p) {y : Int} (y0 : 0 ≤ y) (y1 : y < n) : ∃ x, x ∈ cyl p y ∧ Mn p x := by
  have key : ∀ (l : List Int), l ≠ [] → ∃ m, m ∈ l ∧ ∀ z ∈ l, m ≤ z := by
    intro l
    induction l with
    | nil => intro h; exact absurd rfl h
    | cons a l ih =>
      intro _
      by_cases hl : l = []
      · exact ⟨a, by simp, by subst hl; simp⟩
      · obtain ⟨m, h1, h2⟩ := ih hl
        by_cases h : a ≤ m
        · exact ⟨a, by simp, fun z hz => by
            rcases List.mem_cons.1 hz with rfl | hz
            · omega
            · have := h2 z hz; omega⟩
        · exact ⟨m, by simp [h1], fun z hz => by
            rcases List.mem_cons.1 hz with rfl | hz
            · omega
            · exact h2 z hz⟩
  obtain ⟨m, h1, h2⟩ := key (cyl p y) (List.ne_nil_of_mem (self_cyl hp y0 y1))
  exact ⟨m, h1, fun z hz => h2 z (cyl_trans hp y0 y1 h1 hz)⟩
/-- y lies in a cycle that begins below k -/
def Seen (p : List Int) (k : Nat) (y : Int) : Prop := ∃ x ∈ mns p k, y ∈ cyl p x
theorem seen_succ {p : List Int} {k : Nat} (h : Mn p k) {y : Int} : Seen p (k + 1) y ↔ Seen p k y ∨ y ∈ cyl p k := by
  unfold Seen
  rw [mns_yes h]
  constructor
  · rintro ⟨x, hx, hy⟩
    rcases List.mem_append.1 hx with hx | hx
    · exact Or.inl ⟨x, hx, hy⟩
    · rw [List.mem_singleton.1 hx] at hy; exact Or.inr hy
  · rintro (⟨x, hx, hy⟩ | hy)
    · exact ⟨x, List.mem_append_left _ hx, hy⟩
    · exact ⟨_, List.mem_append_right _ (List.mem_singleton.2 rfl), hy⟩
theorem seen_skip {p : List Int} {k : Nat} (h : ¬ Mn p k) {y : Int} : Seen p (k + 1) y ↔ Seen p k y := by unfold Seen; rw [mns_no h]
/-- a number is the smallest of its cycle just when no earlier cycle has it -/
theorem seen_iff {n : Nat} {p : List Int} (hp : PN n p) {k : Nat} (hk : k < n) : Seen p k (k : Int) ↔ ¬ Mn p k := by
  constructor
  · rintro ⟨x, hx, hy⟩ hm
    obtain ⟨⟨x0, x1⟩, -⟩ := mem_mns.1 hx
    have := hm x (cyl_back hp x0 (by omega) hy)
    omega
  · intro hm
    obtain ⟨x, h1, h2⟩ := min_of hp (y := (k : Int)) (by omega) (by omega)
    have hr := cyl_rng hp (by omega) (by omega) x h1
    have hb := cyl_back hp (by omega) (by omega) h1
    have hle : x ≤ (k : Int) := h2 _ hb
    have hne : x ≠ (k : Int) := fun e => hm (e ▸ h2)
    exact ⟨x, mem_mns.2 ⟨⟨hr.1, by omega⟩, h2⟩, hb⟩
/-- the cycle of a smallest number has nothing of the earlier ones -/
theorem seen_apart {n : Nat} {p : List Int} (hp : PN n p) {k : Nat} (hk : k < n) (hm : Mn p k) {y : Int} (h : y ∈ cyl p k) : ¬ Seen p k y := by
  rintro ⟨x, hx, hy⟩
  obtain ⟨⟨x0, x1⟩, -⟩ := mem_mns.1 hx
  exact (seen_iff hp hk).1 ⟨x, hx, cyl_trans hp x0 (by omega) hy (cyl_back hp (by omega) (by omega) h)⟩ hm
theorem cycs_flat {n : Nat} {p : List Int} (hp : PN n p) : ∀ k, k ≤ n → (cycs p k).flatten.Nodup ∧ ∀ y, y ∈ (cycs p k).flatten ↔ Seen p k y := by
  intro k
  induction k with
  | zero =>
    intro _
    refine ⟨by simp [cycs, mns, pts], fun y => ?_⟩
    simp [cycs, mns, pts, Seen]
  | succ k ih =>
    intro hk
    obtain ⟨h1, h2⟩ := ih (by omega)
    by_cases hm : Mn p k
    · rw [cycs_yes hm, List.flatten_append]
      simp only [List.flatten_cons, List.flatten_nil, List.append_nil]
      refine ⟨List.nodup_append.2 ⟨h1, cyl_nodup hp (by omega) (by omega), fun a ha b hb e => ?_⟩, fun y => ?_⟩
      · subst e
        exact seen_apart hp (by omega) hm hb ((h2 a).1 ha)
      · rw [List.mem_append, h2, seen_succ hm]
    · rw [cycs_no hm]
      exact ⟨h1, fun y => by rw [h2, seen_skip hm]⟩
theorem perm_sum {l l' : List Int} (h : l.Perm l') : l.sum = l'.sum := by
  induction h with
  | nil => rfl
  | cons x _ ih => simp [ih]
  | swap x y l => simp; omega
  | trans _ _ a b => exact a.trans b
/-- the lengths of all cycles -/
noncomputable def lens (p : List Int) (k : Nat) : List Int := (cycs p k).map fun c => (c.length : Int)
theorem sum_cast : ∀ (l : List (List Int)), (l.map fun c => (c.length : Int)).sum = ((l.flatten.length : Nat) : Int)
  | [] => rfl
  | c :: l => by
    rw [List.map_cons, List.sum_cons, sum_cast l, List.flatten_cons, List.length_append]; omega
theorem lens_sum {n : Nat} {p : List Int} (hp : PN n p) : (lens p n).sum = n := by
  obtain ⟨h1, h2⟩ := cycs_flat hp n (Nat.le_refl _)
  have h3 : (cycs p n).flatten.Perm (pts n) := (List.perm_ext_iff_of_nodup h1 (pts_nodup n)).2 fun y => by
    rw [h2, mem_pts]
    constructor
    · rintro ⟨x, hx, hy⟩
      obtain ⟨⟨x0, x1⟩, -⟩ := mem_mns.1 hx
      exact cyl_rng hp x0 x1 y hy
    · rintro ⟨y0, y1⟩
      obtain ⟨x, h4, h5⟩ := min_of hp y0 y1
      have hr := cyl_rng hp y0 y1 x h4
      exact ⟨x, mem_mns.2 ⟨hr, h5⟩, cyl_back hp y0 y1 h4⟩
  unfold lens
  rw [sum_cast, h3.length_eq, pts_len]
theorem lens_rng {n : Nat} {p : List Int} (hp : PN n p) : ∀ z ∈ lens p n, 1 ≤ z ∧ z ≤ n := by
  intro z hz
  unfold lens cycs at hz
  rw [List.map_map] at hz
  obtain ⟨x, hx, rfl⟩ := List.mem_map.1 hz
  obtain ⟨⟨x0, x1⟩, -⟩ := mem_mns.1 hx
  have h := per_ok hp x0 x1
  simp only [Function.comp_def, cyl_len]
  omega
/-- the numbers of a list from k down -/
def dsc (l : List Int) : Nat → List Int
  | 0 => []
  | k + 1 => l.filter (fun z => decide (z = ((k + 1 : Nat) : Int))) ++ dsc l k
theorem mem_dsc {l : List Int} {z : Int} : ∀ {k : Nat}, z ∈ dsc l k ↔ z ∈ l ∧ 1 ≤ z ∧ z ≤ k
  | 0 => by simp only [dsc]; constructor
            · intro h; cases h
            · rintro ⟨_, h1, h2⟩; omega
  | k + 1 => by
    simp only [dsc]
    rw [List.mem_append, mem_dsc, List.mem_filter, decide_eq_true_iff]
    constructor
    · rintro (⟨h1, h2⟩ | ⟨h1, h2, h3⟩)
      · exact ⟨h1, by omega, by omega⟩
      · exact ⟨h1, h2, by omega⟩
    · rintro ⟨h1, h2, h3⟩
      by_cases h : z = ((k + 1 : Nat) : Int)
      · exact Or.inl ⟨h1, h⟩
      · exact Or.inr ⟨h1, h2, by omega⟩
theorem dsc_desc (l : List Int) : ∀ k, (dsc l k).Pairwise (fun a b => b ≤ a)
  | 0 => List.Pairwise.nil
  | k + 1 => by
    simp only [dsc]
    rw [List.pairwise_append]
    refine ⟨?_, dsc_desc l k, fun a ha b hb => ?_⟩
    · rw [List.pairwise_filter]
      refine List.Pairwise.imp_of_mem (R := fun _ _ => True) (fun {a b} _ _ _ ha hb => ?_) (List.pairwise_of_forall fun _ _ => trivial)
      have := of_decide_eq_true ha; have := of_decide_eq_true hb; omega
    · have := of_decide_eq_true (List.mem_filter.1 ha).2
      have := (mem_dsc.1 hb).2.2
      omega
theorem dsc_perm (l : List Int) : ∀ k, (dsc l k).Perm (l.filter fun z => decide (1 ≤ z ∧ z ≤ k))
  | 0 => by
    have : (l.filter fun z => decide (1 ≤ z ∧ z ≤ ((0 : Nat) : Int))) = [] := by
      rw [List.filter_eq_nil_iff]; intro z _; simp; omega
    rw [this]; exact List.Perm.refl _
  | k + 1 => by
    simp only [dsc]
    refine ((dsc_perm l k).append_left _).trans ?_
    have h := List.filter_append_perm (fun z => decide (z = ((k + 1 : Nat) : Int))) (l.filter fun z => decide (1 ≤ z ∧ z ≤ ((k + 1 : Nat) : Int)))
    rw [List.filter_filter, List.filter_filter] at h
    refine List.Perm.trans (List.Perm.of_eq ?_) h
    congr 1
    · apply List.filter_congr
      intro z _
      by_cases e : z = ((k + 1 : Nat) : Int)
      · rw [decide_eq_true e, decide_eq_true (show 1 ≤ z ∧ z ≤ ((k + 1 : Nat) : Int) by omega)]; rfl
      · rw [decide_eq_false e]; rfl
    · apply List.filter_congr
      intro z _
      by_cases e : z = ((k + 1 : Nat) : Int)
      · rw [decide_eq_true e, decide_eq_false (show ¬ (1 ≤ z ∧ z ≤ (k : Int)) by omega)]; rfl
      · rw [decide_eq_false e]
        show decide (1 ≤ z ∧ z ≤ (k : Int)) = (true && decide (1 ≤ z ∧ z ≤ ((k + 1 : Nat) : Int)))
        rw [Bool.true_and]
        exact decide_eq_decide.2 (by omega)
/-- the cycle type -/
noncomputable def cyt (p : List Int) : List Int := dsc (lens p p.length) p.length
theorem cyt_perm {n : Nat} {p : List Int} (hp : PN n p) : (cyt p).Perm (lens p n) := by
  unfold cyt
  rw [hp.1]
  refine (dsc_perm _ _).trans (List.Perm.of_eq ?_)
  rw [List.filter_eq_self]
  intro z hz
  exact decide_eq_true (lens_rng hp z hz)
theorem cyt_desc (p : List Int) : (cyt p).Pairwise (fun a b => b ≤ a) := dsc_desc _ _
/-- whatever descends and has the same numbers is the cycle type -/
theorem cyt_eq {n : Nat} {p : List Int} (hp : PN n p) {l : List Int} (h : l.Perm (lens p n)) (hd : l.Pairwise (fun a b => b ≤ a)) : l = cyt p :=
  List.Perm.eq_of_pairwise (le := fun a b => b ≤ a) (fun a b _ _ h1 h2 => by omega) hd (cyt_desc p) (h.trans (cyt_perm hp).symm)
/-- the lengths of the longer cycles -/
noncomputable def lng (p : List Int) (k : Nat) : List Int := (lens p k).filter fun z => decide (1 < z)
theorem lng_perm {n : Nat} {p : List Int} (hp : PN n p) : (lng p n ++ List.replicate ((n : Int) - (lng p n).sum).toNat 1).Perm (lens p n) := by
  have h := List.filter_append_perm (fun z => decide ((1 : Int) < z)) (lens p n)
  have h1 : ((lens p n).filter fun z => !decide ((1 : Int) < z)) = List.replicate ((lens p n).filter fun z => !decide ((1 : Int) < z)).length 1 := by
    rw [List.eq_replicate_iff]
    refine ⟨rfl, fun z hz => ?_⟩
    obtain ⟨hz1, hz2⟩ := List.mem_filter.1 hz
    have := lens_rng hp z hz1
    simp at hz2
    omega
  have hs : ((lng p n) ++ ((lens p n).filter fun z => !decide ((1 : Int) < z))).sum = (n : Int) := by
    rw [← lens_sum hp]
    exact perm_sum h
  rw [List.sum_append] at hs
  have h2 : (((lens p n).filter fun z => !decide ((1 : Int) < z))).sum = ((((lens p n).filter fun z => !decide ((1 : Int) < z)).length : Nat) : Int) := by
    conv => lhs; rw [h1]
    simp
  rw [h2] at hs
  have e : ((n : Int) - (lng p n).sum).toNat = ((lens p n).filter fun z => !decide ((1 : Int) < z)).length := by omega
  rw [e, ← h1]
  exact h
theorem lng_sum_le {n : Nat} {p : List Int} (hp : PN n p) : 0 ≤ (n : Int) - (lng p n).sum := by
  have h := (lng_perm hp).length_eq
  have hs := perm_sum (lng_perm hp)
  rw [List.sum_append, lens_sum hp] at hs
  simp at hs
  omega
end PM

namespace PM

/-- the members that begin as m, by the levels that are left -/
def dn (T : Rows) (n : Nat) : Nat → Nat → List Int → List (List Int)
  | 0, _, m => [m]
  | k + 1, i, m => (cho n T i m).flatMap fun v => dn T n k (i + 1) (putV T i m v)
/-- the selection of a rank, by a chain -/
def mselT (T : Rows) (n : Nat) (r i _len : Nat) : Nat := (r % ordM T n (n - i)) / ordM T n (n - (i + 1))
theorem range_mul {α : Type} (f : Nat → α) (b : Nat) : ∀ a, (List.range (a * b)).map f = (List.range a).flatMap fun q => (List.range b).map fun s => f (q * b + s)
  | 0 => by simp
  | a + 1 => by
    rw [List.range_succ, List.flatMap_append, ← range_mul f b a, Nat.succ_mul, List.range_add, List.map_append]
    simp [List.map_map, Function.comp_def]
theorem fm_congr {α β : Type} {f g : α → List β} : ∀ {l : List α}, (∀ x ∈ l, f x = g x) → l.flatMap f = l.flatMap g
  | [], _ => rfl
  | x :: l, h => by
    rw [List.flatMap_cons, List.flatMap_cons, h x (by simp), fm_congr fun y hy => h y (List.mem_cons_of_mem _ hy)]
theorem flatMap_range {α : Type} (l : List Int) (g : Int → List α) : l.flatMap g = (List.range l.length).flatMap fun q => g (l.getD q 0) := by
  have h : l = (List.range l.length).map fun q => l.getD q 0 := by
    apply List.ext_getElem (by simp)
    intro i h1 h2
    simp [h1]
  conv => lhs; rw [h]
  rw [List.flatMap_map]
theorem ordM_dvd (T : Rows) (n : Nat) {a : Nat} : ∀ {b : Nat}, a ≤ b → ordM T n a ∣ ordM T n b
  | 0, h => by obtain rfl : a = 0 := by omega
               exact Nat.dvd_refl _
  | b + 1, h => by
    by_cases e : a = b + 1
    · subst e; exact Nat.dvd_refl _
    · exact Nat.dvd_trans (ordM_dvd T n (show a ≤ b by omega)) ⟨cntR n T (n - (b + 1)), by show cntR n T (n - (b + 1)) * ordM T n b = _; rw [Nat.mul_comm]⟩
theorem desc_sel {T : Rows} {n : Nat} {sel sel' : Nat → Nat → Nat} : ∀ (k i : Nat) (m : List Int), (∀ j, i ≤ j → ∀ l, sel j l = sel' j l) → desc T n sel k i m = desc T n sel' k i m
  | 0, _, _, _ => rfl
  | k + 1, i, m, h => by
    show desc T n sel k (i + 1) _ = desc T n sel' k (i + 1) _
    rw [h i (Nat.le_refl _)]
    exact desc_sel k (i + 1) _ fun j hj => h j (by omega)
theorem dn_eq {T : Rows} {n : Nat} (hw : WF n T) : ∀ (k i : Nat) (m : List Int), i + k = n → PN n m → dn T n k i m = (List.range (ordM T n k)).map fun r => desc T n (mselT T n r) k i m
  | 0, i, m, _, _ => by simp [dn, ordM, desc]
  | k + 1, i, m, hi, hm => by
    have hi' : n - i = k + 1 := by omega
    have hi2 : n - (i + 1) = k := by omega
    have hi3 : n - (k + 1) = i := by omega
    have hl := cho_len (T := T) (i := i) hm
    have hM := (ordM_rng hw k (by omega)).1
    have ho : ordM T n (k + 1) = (cho n T i m).length * ordM T n k := by
      show cntR n T (n - (k + 1)) * ordM T n k = _
      rw [hi3, hl]
    show ((cho n T i m).flatMap fun v => dn T n k (i + 1) (putV T i m v)) = _
    rw [ho, range_mul, flatMap_range]
    refine fm_congr fun q hq => ?_
    have hq' : q < (cho n T i m).length := List.mem_range.1 hq
    have hv : (cho n T i m).getD q 0 ∈ cho n T i m := by rw [List.getD_eq_getElem?_getD, List.getElem?_eq_getElem hq']; exact List.getElem_mem hq'
    rw [dn_eq hw k (i + 1) _ (by omega) (putV_pn hw (by omega) hm hv).1]
    refine List.map_congr_left fun s hs => ?_
    have hs' : s < ordM T n k := List.mem_range.1 hs
    have hlt : q * ordM T n k + s < (cho n T i m).length * ordM T n k := by
      have := Nat.mul_le_mul_right (ordM T n k) (show q + 1 ≤ (cho n T i m).length by omega)
      rw [Nat.succ_mul] at this
      omega
    have hsel : mselT T n (q * ordM T n k + s) i (cho n T i m).length = q := by
      unfold mselT
      rw [hi', hi2, ho, Nat.mod_eq_of_lt hlt, Nat.mul_comm, Nat.mul_add_div (by omega), Nat.div_eq_of_lt hs', Nat.add_zero]
    show desc T n (mselT T n s) k (i + 1) _ = desc T n (mselT T n (q * ordM T n k + s)) k (i + 1) (putV T i m ((cho n T i m).getD (mselT T n (q * ordM T n k + s) i (cho n T i m).length) 0))
    rw [hsel]
    refine desc_sel k (i + 1) _ fun j hj l => ?_
    unfold mselT
    have hd : ordM T n (n - j) ∣ ordM T n k := ordM_dvd T n (by omega)
    obtain ⟨c, hc⟩ := hd
    rw [hc, Nat.mul_comm q, Nat.mul_assoc, Nat.mul_add_mod]
/-- the members that begin alike down to a level, one for each beginning -/
def lvA (T : Rows) (n : Nat) : Nat → List (List Int)
  | 0 => [pts n]
  | i + 1 => (lvA T n i).flatMap fun m => (cho n T i m).map (putV T i m)
theorem lvA_dn (T : Rows) (n : Nat) : ∀ i, i ≤ n → (lvA T n i).flatMap (fun m => dn T n (n - i) i m) = dn T n n 0 (pts n)
  | 0, _ => by simp [lvA]
  | i + 1, h => by
    rw [← lvA_dn T n i (by omega)]
    show ((lvA T n i).flatMap fun m => (cho n T i m).map (putV T i m)).flatMap _ = _
    rw [List.flatMap_assoc]
    refine fm_congr fun m _ => ?_
    rw [show n - i = (n - (i + 1)) + 1 by omega, List.flatMap_map]
    rfl
theorem lvA_all {T : Rows} {n : Nat} (hw : WF n T) : lvA T n n = (List.range (ordM T n n)).map fun r => desc T n (mselT T n r) n 0 (pts n) := by
  rw [← dn_eq hw n 0 (pts n) (by omega) (PN.id n), ← lvA_dn T n n (Nat.le_refl _), Nat.sub_self]
  induction lvA T n n with
  | nil => rfl
  | cons x l ih => rw [List.flatMap_cons, ← ih]; rfl
theorem lvA_pn {T : Rows} {n : Nat} (hw : WF n T) : ∀ i, i ≤ n → ∀ m ∈ lvA T n i, PN n m
  | 0, _, m, hm => by
    have : m = pts n := by simpa [lvA] using hm
    rw [this]; exact PN.id n
  | i + 1, h, m, hm => by
    obtain ⟨x, hx, hm2⟩ := List.mem_flatMap.1 hm
    obtain ⟨v, hv, rfl⟩ := List.mem_map.1 hm2
    exact (putV_pn hw (by omega) (lvA_pn hw i (by omega) x hx) hv).1
/-- before, in the order of the entries -/
def Lex (n : Nat) (p q : List Int) : Prop := ∃ i : Nat, i < n ∧ Alike i p q ∧ at_ p (i : Int) < at_ q (i : Int)
theorem dn_lex {T : Rows} {n : Nat} (hw : WF n T) : ∀ (k i : Nat) (m : List Int), i + k = n → PN n m → (dn T n k i m).Pairwise (Lex n) ∧ ∀ p ∈ dn T n k i m, PN n p ∧ Alike i p m
  | 0, i, m, _, hm => by
    refine ⟨by simp [dn], fun p hp => ?_⟩
    have : p = m := by simpa [dn] using hp
    subst this
    exact ⟨hm, fun _ _ _ => rfl⟩
  | k + 1, i, m, hi, hm => by
    have hin : i < n := by omega
    have ih : ∀ v ∈ cho n T i m, (dn T n k (i + 1) (putV T i m v)).Pairwise (Lex n) ∧ ∀ p ∈ dn T n k (i + 1) (putV T i m v), PN n p ∧ Alike (i + 1) p (putV T i m v) := fun v hv => dn_lex hw k (i + 1) _ (by omega) (putV_pn hw hin hm hv).1
    refine ⟨?_, fun p hp => ?_⟩
    · show ((cho n T i m).flatMap fun v => dn T n k (i + 1) (putV T i m v)).Pairwise (Lex n)
      rw [List.pairwise_flatMap]
      refine ⟨fun v hv => (ih v hv).1, ?_⟩
      refine List.Pairwise.imp_of_mem (fun {v v'} hv hv' hlt p hp q hq => ?_) (choO_asc m (rowP n T i))
      obtain ⟨-, h2, h3⟩ := putV_pn hw hin hm hv
      obtain ⟨-, h2', h3'⟩ := putV_pn hw hin hm hv'
      have a1 := ((ih v hv).2 p hp).2
      have a2 := ((ih v' hv').2 q hq).2
      refine ⟨i, hin, fun x x0 x1 => ?_, ?_⟩
      · rw [a1 x x0 (by omega), a2 x x0 (by omega), h2 x x0 x1, h2' x x0 x1]
      · rw [a1 (i : Int) (by omega) (by omega), a2 (i : Int) (by omega) (by omega), h3, h3']
        exact hlt
    · obtain ⟨v, hv, hp2⟩ := List.mem_flatMap.1 hp
      obtain ⟨-, h2, -⟩ := putV_pn hw hin hm hv
      obtain ⟨b1, b2⟩ := (ih v hv).2 p hp2
      exact ⟨b1, fun x x0 x1 => (b2 x x0 (by omega)).trans (h2 x x0 x1)⟩
theorem lvA_lex {T : Rows} {n : Nat} (hw : WF n T) : (lvA T n n).Pairwise (Lex n) := by
  rw [lvA_all hw, ← dn_eq hw n 0 (pts n) (by omega) (PN.id n)]
  exact (dn_lex hw n 0 (pts n) (by omega) (PN.id n)).1
end PM

namespace Go.Proofs.Ytpcamkmoabhlhaa
open Go.RowKit
set_option maxRecDepth 10000

theorem msel_T {n : Nat} {gens : List (List Int)} {G : PM.Gens} {T : PM.Rows} (h : PM.Chain n gens G T) (hn : 0 < n) (hp : ∀ g ∈ gens, PM.PN n g) (k : Nat) : msel n gens k = PM.mselT T n k := by
  funext i l
  unfold msel PM.mselT
  rw [ordC_eq h hn hp (by omega), ordC_eq h hn hp (by omega)]
/-- all members, in the order of their ranks -/
noncomputable def allMem (n : Nat) (gens : List (List Int)) : List (List Int) := (List.range (ordC n gens n)).map (memAt n gens)
theorem allMem_len (n : Nat) (gens : List (List Int)) : (allMem n gens).length = ordC n gens n := by unfold allMem; simp
theorem lv_allMem {n : Nat} {gens : List (List Int)} {G : PM.Gens} {T : PM.Rows} (h : PM.Chain n gens G T) (hn : 0 < n) (hp : ∀ g ∈ gens, PM.PN n g) : PM.lvA T n n = allMem n gens := by
  rw [PM.lvA_all h.inv.wf, ordC_eq h hn hp (Nat.le_refl _)]
  unfold allMem
  refine List.map_congr_left fun r _ => ?_
  rw [← msel_T h hn hp r]
  exact h.descG hn hp (msel n gens r) (msel_good h hn hp r)
theorem allMem_grp {n : Nat} {gens : List (List Int)} {G : PM.Gens} {T : PM.Rows} (h : PM.Chain n gens G T) (hn : 0 < n) (hp : ∀ g ∈ gens, PM.PN n g) : ∀ m ∈ allMem n gens, PM.Grp n gens m := by
  intro m hm
  unfold allMem at hm
  obtain ⟨r, -, rfl⟩ := List.mem_map.1 hm
  exact h.descG_grp hn hp (msel n gens r) (msel_good h hn hp r)
end Go.Proofs.Ytpcamkmoabhlhaa

namespace Go.Proofs.Ytpcamkmoabhlhaa
open Go.RowKit
set_option maxRecDepth 10000
open Go.Maps (Keyed)

theorem Try.lawI64 : Keyed Try.prog 2 := Go.Maps.int_keyed Try.underlying2
theorem Try.zeroV64 (w : World) : (zeroValue 2).run Try.prog w = .ok (.int .i64 0) w := by kernel_rfl
/-- block M is a map of at most k entries; g: what lies at a key -/
def Mpv (w : World) (M k : Nat) (g : Int → Option Int) : Prop :=
  ∃ D : DataW Unit, w.ownsMap Try.prog 2 (plainElem Try.prog 2) M k D ∧ ∀ s : Int, I64 s →
    Go.Maps.has D (.int .i64 s) = (g s).isSome ∧ ∀ n, g s = some n → D.atKey (.int .i64 s) (.lit (.int .i64 0)) = .lit (.int .i64 n)
theorem Mpv.lt {w : World} {M k : Nat} {g : Int → Option Int} (h : Mpv w M k g) : M < w.heap.size := by
  obtain ⟨D, h1, -⟩ := h; exact h1.lt
theorem Mpv.frame {w w' : World} {M k : Nat} {g : Int → Option Int} (h : Mpv w M k g) (hf : w'.heap[M]? = w.heap[M]?) : Mpv w' M k g := by
  obtain ⟨D, ⟨es, c, h1, h2⟩, h3⟩ := h
  exact ⟨D, ⟨es, c, by rw [hf]; exact h1, h2⟩, h3⟩
theorem Mpv.only {w w' : World} {fp : List Nat} {M k : Nat} {g : Int → Option Int} (h : Mpv w M k g) (ho : Only fp w w') (hn : M ∉ fp) : Mpv w' M k g := h.frame (ho.block M h.lt hn)
theorem Mpv.keep {w w' : World} {M k : Nat} {g : Int → Option Int} (h : Mpv w M k g) (ho : Only [] w w') : Mpv w' M k g := h.only ho (by simp)
theorem Mpv.made (w : World) {M : Nat} (hM : M = w.heap.size) : Mpv (w.alloc (.map #[] 0)) M 0 (fun _ => none) := by
  subst hM
  exact ⟨.map [], World.ownsMap_made _ _ _ _, fun s _ => ⟨rfl, by simp⟩⟩
theorem Mpv.congr {w : World} {M k : Nat} {g g' : Int → Option Int} (h : Mpv w M k g) (hg : ∀ s, g s = g' s) : Mpv w M k g' := by
  have : g = g' := funext hg
  rw [← this]; exact h
section
variable {w : World} {M k : Nat} {g : Int → Option Int}
/-- v, ok := m[k], as an equation -/
theorem Mpv.run_ok (h : Mpv w M k g) {s : Int} (hs : I64 s) : (Instr.lookup 100 (.map (some M)) (.int .i64 s) true).run Try.prog w = .ok (.tuple #[.int .i64 ((g s).getD 0), .bool (g s).isSome]) w := by
  obtain ⟨D, hown, hg⟩ := h
  obtain ⟨h1, h2⟩ := hg s hs
  obtain ⟨v, ps, hrun, hv⟩ := hown.look_ok Try.lawI64 Try.underlying100 (Try.zeroV64 w) (plainElem_int Try.underlying2 (by decide)) (Go.Maps.keyOf_int_mk Try.underlying2 (WalkArith.wf_i64 hs))
  obtain ⟨c, rfl, hc, -⟩ := plainElem_int_inv Try.underlying2 hv
  have hc1 : D.atKey (.int .i64 s) (.lit (.int .i64 0)) = .lit (.int .i64 c) := congrArg Prod.fst hc
  have hcv : c = (g s).getD 0 := by
    cases hgs : g s with
    | none =>
      rw [hgs] at h1
      rw [Go.Maps.atKey_of_not_has h1] at hc1
      injection hc1 with hc1; injection hc1 with _ hc1; simp [hc1]
    | some n =>
      rw [h2 n hgs] at hc1
      injection hc1 with hc1; injection hc1 with _ hc1; simp [hc1]
  rw [hrun, hcv, h1]
theorem Mpv.run_yes (h : Mpv w M k g) {s : Int} (hs : I64 s) {n : Int} (hg : g s = some n) : (Instr.lookup 100 (.map (some M)) (.int .i64 s) true).run Try.prog w = .ok (.tuple #[.int .i64 n, .bool true]) w := by
  rw [h.run_ok hs, hg]; rfl
/-- m[k] = v -/
theorem Mpv.run_put (h : Mpv w M k g) {s : Int} (hs : I64 s) {n : Int} (hn : I64 n) (hk : k < maxLen) :
    ∃ w', (Instr.mapUpdate 100 (.map (some M)) (.int .i64 s) (.int .i64 n)).run Try.prog w = .ok () w' ∧ Mpv w' M (k + 1) (fun s' => if s' = s then some n else g s') ∧ Only [M] w w' := by
  obtain ⟨D, hown, hg⟩ := h
  have hwf : (Lit.int .i64 n).wf = true := WalkArith.wf_i64 hn
  obtain ⟨w', hrun, r1, r2⟩ := hown.store Try.lawI64 Try.underlying100 hk (Go.Maps.keyOf_int_mk Try.underlying2 (WalkArith.wf_i64 hs)) (plainElem_int Try.underlying2 hwf)
  have hmap := hown.isMap
  refine ⟨w', hrun, ⟨_, r1, fun s' hs' => ?_⟩, ?_⟩
  · by_cases he : s' = s
    · subst he
      have hkl : WideAt.IsKeyLit (Lit.int .i64 s') := trivial
      exact ⟨by rw [Go.Maps.has_put_same hmap hkl]; simp, fun m' hm' => by
        rw [Go.Maps.atKey_put_same hmap hkl]; simp at hm'; rw [hm']⟩
    · have hne : (Lit.int .i64 s') ≠ .int .i64 s := by
        intro e; injection e with _ e; exact he e
      obtain ⟨h1, h2⟩ := hg s' hs'
      exact ⟨by rw [Go.Maps.has_put_other hne, h1]; simp [he], fun m' hm' => by
        rw [Go.Maps.atKey_put_other hne]; simp [he] at hm'; exact h2 m' hm'⟩
  · exact (Only.refl _ _).grown r2.grown (by intro j hj _; injection hj with hj; subst hj; simp)
end
end Go.Proofs.Ytpcamkmoabhlhaa

namespace Go.Proofs.Ytpcamkmoabhlhaa
open Go.RowKit
set_option maxRecDepth 10000

/-- a value's point -/
def gV (m ys : List Int) (x : Int) : Option Int := if x ∈ PM.choO m ys then some (PM.at_ (PM.inv m) x) else none
theorem gV_nil (m : List Int) (x : Int) : gV m [] x = none := rfl
theorem gV_snoc {n : Nat} {m : List Int} (hm : PM.PN n m) {ys : List Int} {y : Int} (h0 : 0 ≤ y) (h1 : y < n) (x : Int) : (if x = PM.at_ m y then some y else gV m ys x) = gV m (ys ++ [y]) x := by
  unfold gV
  rw [PM.choO_snoc]
  by_cases hx : x = PM.at_ m y
  · rw [if_pos hx, if_pos (PM.mem_insU.2 (Or.inl hx)), hx, PM.at_inv hm h0 h1]
  · rw [if_neg hx]
    by_cases hm2 : x ∈ PM.choO m ys
    · rw [if_pos hm2, if_pos (PM.mem_insU.2 (Or.inr hm2))]
    · rw [if_neg hm2, if_neg (fun h => (PM.mem_insU.1 h).elim hx hm2)]
theorem Mpv.mono {w : World} {M k k' : Nat} {g : Int → Option Int} (h : Mpv w M k g) (hk : k ≤ k') : Mpv w M k' g := by
  obtain ⟨D, h1, h2⟩ := h
  exact ⟨D, h1.mono hk, h2⟩
set_option maxHeartbeats 2000000 in
theorem values_any {e : TypeId} {B : Nat} {L : Lay} {gv : Nat → Value} {n : Nat} {G : PM.Gens} {T : PM.Rows} {M F : List Nat} (w : World) (hC : Ch e B w L gv n G T M F) (hT : L.oT = 2) (b i : Nat) (hi : i < n) (v : Value) (m : List Int) (fm : List Nat)
    (hb : Blk w b [.pointer (some ⟨L.g, 0, none⟩), .int .i64 i, v]) (hv : Rd w v m fm) (hm : PM.PN n m) :
    Calls Try.prog 93 #[.pointer (some ⟨b, 0, none⟩)] w fun e w' => ∃ K, e = .returned (.map (some K)) ∧ w.heap.size ≤ K ∧ Mpv w' K 1000 (gV m (orb n T i)) ∧ Only [] w w' := by
  obtain ⟨A, C, rfl, IM⟩ := hv.ints
  have hn20 := hC.le
  have hml := hm.1
  have ct := hC.ct
  rw [hT] at ct
  have cr := hC.row i hi
  have kA : Only [] w (w.alloc (.map #[] 0)) := (Only.refl _ _).alloc _
  have z0 := kA.cell (by simp) (hb.cell 0 rfl)
  have z1 := kA.cell (by simp) (hb.cell 1 rfl)
  have zt := kA.cell (by simp) ct
  have zr := kA.cell (by simp) cr
  have y2 := hb.cell 2 rfl
  have hmm := @run_makeMap Try.prog
  have M0 := (Mpv.made w rfl).congr (fun x => (gV_nil m x).symm)
  obtain ⟨ys, hys⟩ : ∃ ys, ys = orb n T i := ⟨_, rfl⟩
  have hyr : ∀ y ∈ ys, 0 ≤ y ∧ y < n := fun y hy => by rw [hys] at hy; exact (mem_orb.1 hy).1
  have hyl : ys.length ≤ 20 := by
    rw [hys]
    have h1 : (orb n T i).length ≤ (PM.pts n).length := PM.nodup_sub_len (orb_nodup n T i) fun y hy => PM.mem_pts.2 (mem_orb.1 hy).1
    rw [PM.pts_len] at h1
    omega
  rw [← hys]
  have Hys := Lib.hid hys
  have HC := Lib.hid hC
  have Hm := Lib.hid hm
  have HIM := Lib.hid IM
  have HM0 := Lib.hid M0
  have Hyr := Lib.hid hyr
  have Hml := Lib.hid hml
  clear hC hm M0 hT hys hyr IM hml ct cr
  go_enter Try.func93, Try.ntmps93
  go_wp2_with fail
  go_region_held3 (fun w' => Only [] (w.alloc (.map #[] 0)) w' ∧ w'.cell? ⟨b, 0, none⟩ = some (.pointer (some ⟨L.g, 0, none⟩)) ∧ w'.cell? ⟨b, 1, none⟩ = some (.int .i64 i) ∧ w'.cell? ⟨L.g, 2, none⟩ = some (.slice (some ⟨L.bt, 0, none⟩) n L.cT) ∧ w'.cell? ⟨L.bt, i, none⟩ = some (.slice (some ⟨L.rb i, 0, none⟩) n n)) (((refine and_of ?_ (fun h__ => ⟨h__.cell (by simp) z0, h__.cell (by simp) z1, h__.cell (by simp) zt, h__.cell (by simp) zr⟩)); first | exact (Only.refl _ _).drew | exact ((Only.refl _ _).drewN _).drew | exact Only.trans (And.left (by assumption)) (by assumption) | exact Only.alloc (And.left (by assumption)) _ | assumption)) (first | (go_at_call 40; (with_reducible refine (orbitOf_any _ (HC.out.keep (kA.trans (And.left (by assumption)))) i hi).mono ?_); rintro e w1 ⟨vo, fo, rfl, A1, F1, t1⟩; rw [← Hys.out] at A1; have kX : Only [] (w.alloc (.map #[] 0)) w1 := Only.trans (And.left (by assumption)) t1; have kB := Only.trans kA kX; have r1 := A1.rd (by decide); have F2 := A1.fresh F1; obtain ⟨ao, co, rfl, IO⟩ := r1.ints) | fail "no arm")
  have hge : ∀ b ∈ ((Value.slice ao ys.length co).ownBlock.toList ++ fo.flatten), w.heap.size < b := fun b hb => by
    have := F2.ge b hb
    simp at this
    omega
  have HIO := Lib.hid IO
  have Hge := Lib.hid hge
  clear A1 F1 F2 r1 IO hge z0 z1 zt zr t1
  go_wp2_with fail
  go_loopw [22] (fun i wr => ∃ j : Nat, j ≤ ys.length ∧ i = .int .i64 j ∧ Mpv wr w.heap.size j (gV m (ys.take j)) ∧ Only [w.heap.size] w1 wr)
    (fun i _ => ys.length - (intOf i).toNat)
  case atStart => exact ⟨0, Nat.zero_le _, rfl, HM0.out.keep kX, Only.refl _ _⟩
  case round =>
    obtain ⟨W2, hnew⟩ : ∃ W, W = wr := ⟨_, rfl⟩
    subst hnew
    obtain ⟨j, hj, rfl, hM, hO⟩ := hrel
    have KO : Only [] w W2 := kB.then_ hO (fun b hb hl => by simp at hb; omega)
    by_cases hlt : j < ys.length
    · obtain ⟨y, hy⟩ : ∃ y, y = ys[j] := ⟨_, rfl⟩
      have hyr := Hyr.out y (by rw [hy]; exact List.getElem_mem hlt)
      obtain ⟨b2, o2, rfl, -, c2⟩ := (HIO.out.only hO (fun b hb hm => by have := Hge.out b hb; simp at hm; omega)).at_ j hlt
      rw [← hy] at c2
      obtain ⟨b3, o3, rfl, -, c3⟩ := (HIM.out.keep KO).at_pm (x := y) hyr.1 (by rw [Hml.out]; exact hyr.2)
      have y2' := KO.cell (by simp) y2
      have hym : y < (m.length : Int) := by rw [Hml.out]; exact hyr.2
      have hy0 := hyr.1
      have hmr := Hm.out.rng hyr.1 hyr.2
      obtain ⟨w3, hrun3, hM3, hO3⟩ := hM.run_put (s := PM.at_ m y) (by unfold I64; omega) (n := y) (by unfold I64; omega) (by unfold maxLen; omega)
      have htk : ys.take (j + 1) = ys.take j ++ [y] := by rw [take_succ_get ys j hlt, hy]
      have Htk := Lib.hid htk
      clear htk hy
      go_wp2
      go_roundw
      case rel => exact ⟨j + 1, by omega, by go_num, hM3.congr (fun x => by rw [Htk.out]; exact gV_snoc Hm.out hyr.1 hyr.2 x), hO.trans hO3⟩
      case measure => simp [intOf]; omega
    · have hfin : Mpv W2 w.heap.size 1000 (gV m ys) := by
        rw [List.take_of_length_le (by omega)] at hM
        exact hM.mono (by omega)
      go_wp2
      go_ret
      exact ⟨w.heap.size, rfl, Nat.le_refl _, hfin, KO⟩
theorem gV_yes {n : Nat} {T : PM.Rows} {i : Nat} {m : List Int} {vv : Int} (h : vv ∈ PM.cho n T i m) : gV m (orb n T i) vv = some (PM.at_ (PM.inv m) vv) := if_pos h
theorem gV_no {n : Nat} {T : PM.Rows} {i : Nat} {m : List Int} {vv : Int} (h : vv ∉ PM.cho n T i m) : gV m (orb n T i) vv = none := if_neg h
/-- the walk has taken a value: q is chosen, the level is still i -/
def TK (w : World) (L : Lay) (b i : Nat) (q : List Int) (wx : World) : Prop :=
  ∃ a c f', Blk wx b [.pointer (some ⟨L.g, 0, none⟩), .int .i64 i, .slice a q.length c] ∧ Rd wx (.slice a q.length c) q f' ∧ Fresh w.heap.size wx f' ∧ Only [b] w wx
theorem TK.of {w w1 w5 w6 : World} {L : Lay} {b i : Nat} {q : List Int} {a : Option Addr} {c : Nat} {f' : List Nat} {v : Value} (t1 : Only [] w w1) (k5 : Only [] w1 w5) (Y5 : Blk w5 b [.pointer (some ⟨L.g, 0, none⟩), .int .i64 i, v]) (hb : b < w.heap.size)
    (r5 : Rd w5 (.slice a q.length c) q f') (F5 : Fresh w1.heap.size w5 f') (h6 : w6 = w5.setCell ⟨b, 2, none⟩ (.slice a q.length c)) : TK w L b i q w6 := by
  subst h6
  have hs : Only [b] w5 (w5.setCell ⟨b, 2, none⟩ (.slice a q.length c)) := (Only.refl _ _).setCell (by simp) _
  have hsz := t1.size
  have hd : ∀ z ∈ f', z ∉ [b] := fun z hz hm => by have := F5.ge z hz; simp at hm; omega
  have hB := Y5.set 2 (.slice a q.length c)
  simp only [List.set] at hB
  exact ⟨a, c, f', hB, Rp.only r5 hs hd, (F5.mono hsz).only hs hd, ((t1.trans k5).weaken _).trans hs⟩
set_option maxHeartbeats 4000000 in
theorem take_yes {e : TypeId} {B : Nat} {L : Lay} {gv : Nat → Value} {n : Nat} {G : PM.Gens} {T : PM.Rows} {M F : List Nat} (w : World) (hC : Ch e B w L gv n G T M F) (hw : PM.WF n T) (hT : L.oT = 2) (b i : Nat) (hi : i < n) (v : Value) (m : List Int) (fm : List Nat)
    (hb : Blk w b [.pointer (some ⟨L.g, 0, none⟩), .int .i64 i, v]) (hv : Rd w v m fm) (hm : PM.PN n m) (vv : Int) (hvv : vv ∈ PM.cho n T i m) :
    Calls Try.prog 84 #[.pointer (some ⟨b, 0, none⟩), .int .i64 vv] w fun e w' => e = .returned (.bool true) ∧ (∃ v' f', Blk w' b [.pointer (some ⟨L.g, 0, none⟩), .int .i64 ((i : Int) + 1), v'] ∧ Rd w' v' (PM.putV T i m vv) f' ∧ Fresh w.heap.size w' f') ∧ Only [b] w w' := by
  have hn20 := hC.le
  obtain ⟨hv0, hv1, hp0, hp1, hp2, hp3⟩ := PM.cho_pre hm hvv
  have hI : I64 vv := by unfold I64; omega
  have HcV := Lib.hid (values_any w hC hT b i hi v m fm hb hv hm)
  have Hyes := Lib.hid (gV_yes hvv)
  obtain ⟨A, C, rfl, IM⟩ := hv.ints
  obtain ⟨y, hy⟩ : ∃ y, y = PM.at_ (PM.inv m) vv := ⟨_, rfl⟩
  rw [← hy] at Hyes hp0 hp1 hp2 hp3
  have hput : PM.putV T i m vv = PM.comp (PM.tr T i y) m := by unfold PM.putV; rw [← hy]
  have ct := hC.ct
  rw [hT] at ct
  have cr := hC.row i hi
  obtain ⟨bt, ot, capt, ft, crt, hrt, -⟩ := hC.at_some hi hp0 hp1 hp2
  have htp := hw.pn i y hi hp2
  have hlt := Lib.hid htp.1
  have HC := Lib.hid hC
  have Hm := Lib.hid hm
  have Hp := Lib.hid hput
  have Htp := Lib.hid htp
  have HI := Lib.hid hI
  have y0 := hb.cell 0 rfl
  have y1 := hb.cell 1 rfl
  have y2 := hb.cell 2 rfl
  have hblt := hb.lt
  clear hC hm hvv hI hy hput hp2 hp3 htp hv0 hv1 IM
  go_enter Try.func84, Try.ntmps84
  go_upto_region 4 with (first
    | (go_at_call 93; (with_reducible refine (HcV.out).mono ?_); rintro en w1 ⟨K, rfl, hK, hM, t1⟩; have hrun := hM.run_yes HI.out Hyes.out)
    | fail "no arm")
  have x0 := t1.cell (by simp) y0
  have x1 := t1.cell (by simp) y1
  have x2 := t1.cell (by simp) y2
  have xt := t1.cell (by simp) ct
  have xr := t1.cell (by simp) cr
  have xy := t1.cell (by simp) crt
  clear y0 y1 y2 ct cr crt hrun hM
  have kd : Only [] w1 w1.drew := (Only.refl _ _).drew
  have d0 := kd.cell (by simp) x0
  have d1 := kd.cell (by simp) x1
  have d2 := kd.cell (by simp) x2
  have dt := kd.cell (by simp) xt
  have dr := kd.cell (by simp) xr
  have dy := kd.cell (by simp) xy
  have HcC := Lib.hid (fun (W : World) (hW : Only [] w1 W) => implCompose_rd n _ _ (PM.tr T i y) m _ _ W (Rp.keep hrt (Only.trans t1 hW)) (Rp.keep hv (Only.trans t1 hW)) Htp.out Hm.out (by omega))
  have Hb := Lib.hid (fun (W : World) (hW : Only [] w1 W) => hb.keep (t1.trans hW))
  clear kd
  go_cut [] (fun wx => TK w L b i (PM.comp (PM.tr T i y) m) wx)
  case first =>
   go_region_law (first
    | (go_simp; go_at_call 80; (with_reducible refine (HcC.out _ (by with_reducible repeat (first | exact Only.refl _ _ | refine Only.drew ?_))).mono ?_); rintro e w5 ⟨v5, f5, rfl, r5, F5, t5⟩; have k5 : Only [] w1 w5 := Only.trans (by with_reducible repeat (first | exact Only.refl _ _ | refine Only.drew ?_)) t5; have Y5 := Hb.out _ k5; have x5 := Y5.cell 2 rfl; have q5 := Y5.frozen 2; have r50 := r5; obtain ⟨a5, c5, rfl, _⟩ := r5.ints)
    | fail "no arm")
   all_goals go_wp2_with fail
   all_goals go_meet
   all_goals exact TK.of t1 k5 Y5 hblt r50 (F5.mono (by simp)) rfl
  case rest =>
    obtain ⟨a6, c6, f6, B6, r6, F6, O6⟩ := hcut
    obtain ⟨W2, hnew⟩ : ∃ W, W = wc := ⟨_, rfl⟩
    subst hnew
    have z1 := B6.cell 1 rfl
    have p1 := B6.frozen 1
    have hs : Only [b] W2 (W2.setCell ⟨b, 1, none⟩ (.int .i64 ((i : Int) + 1))) := (Only.refl _ _).setCell (by simp) _
    have hd : ∀ z ∈ f6, z ∉ [b] := fun z hz hm => by have := F6.ge z hz; simp at hm; omega
    have hB := B6.set 1 (.int .i64 ((i : Int) + 1))
    simp only [List.set] at hB
    have hfin := (⟨⟨_, _, hB, Rp.only r6 hs hd, F6.only hs hd⟩, O6.trans hs⟩ : (∃ v' f', Blk (W2.setCell ⟨b, 1, none⟩ (.int .i64 ((i : Int) + 1))) b [.pointer (some ⟨L.g, 0, none⟩), .int .i64 ((i : Int) + 1), v'] ∧ Rd (W2.setCell ⟨b, 1, none⟩ (.int .i64 ((i : Int) + 1))) v' (PM.comp (PM.tr T i y) m) f' ∧ Fresh w.heap.size (W2.setCell ⟨b, 1, none⟩ (.int .i64 ((i : Int) + 1))) f') ∧ Only [b] w (W2.setCell ⟨b, 1, none⟩ (.int .i64 ((i : Int) + 1))))
    have hwi : IntKind.i64.wrap ((i : Int) + 1) = (i : Int) + 1 := by rw [IntKind.wrap_i64]; omega
    have Hfin := Lib.hid hfin
    clear hfin hB hs hd r6 F6 O6
    go_wp2
    go_ret
    rw [Hp.out]
    exact ⟨rfl, Hfin.out⟩
end Go.Proofs.Ytpcamkmoabhlhaa

namespace Go.Proofs.Ytpcamkmoabhlhaa
open Go.RowKit
set_option maxRecDepth 10000

theorem ranges_frame {P : Program} {k : TypeId} {R : Value → Option (DataW Unit × List MemPlace)} {b r n cnt : Nat} {D : DataW Unit} {left : Lit → Bool} {w w' : World} (h : w.ranges P k R b r n D left cnt) (hb : w'.heap[b]? = w.heap[b]?) (hr : w'.heap[r]? = w.heap[r]?) : w'.ranges P k R b r n D left cnt := by
  obtain ⟨es, clock, since, seen, c0, h1, F, hs, hD, h2, rest⟩ := h
  exact ⟨es, clock, since, seen, c0, hb.trans h1, F, hs, hD, hr.trans h2, rest⟩
theorem AccI.low {B B' : Nat} {e : TypeId} {w : World} {v : Value} {l : List Int} (h : AccI B e w v l) (hB : B' ≤ B) : AccI B' e w v l := by
  obtain ⟨h1, h2⟩ := h.row
  refine AccI.ofRow ⟨h1.1, ?_⟩ h2
  rcases h1.2 with h3 | ⟨g, cap, cur, h3, h4, h5⟩
  · exact .inl h3
  · exact .inr ⟨g, cap, cur, h3, Nat.le_trans hB h4, h5⟩
theorem same_int (a b : Int) : (Lit.int .i64 a).sameKey (.int .i64 b) = decide (a = b) := by
  show decide (IntKind.i64 = IntKind.i64 ∧ a = b) = _
  by_cases h : a = b <;> simp [h]
/-- the keys met so far: l; those to come: left -/
structure KL (C : List Int) (left : Lit → Bool) (l : List Int) : Prop where
  nd : l.Nodup
  iff : ∀ x, I64 x → (x ∈ l ↔ x ∈ C ∧ left (.int .i64 x) = false)
  big : ∀ x ∈ l, I64 x
  dom : ∀ x, I64 x → left (.int .i64 x) = true → x ∈ C
theorem KL.step {C : List Int} {left : Lit → Bool} {l : List Int} (h : KL C left l) {x : Int} (hx : I64 x) (hl : left (.int .i64 x) = true) : KL C (fun z => left z && !z.sameKey (.int .i64 x)) (l ++ [x]) := by
  have hn : x ∉ l := fun hm => by have := ((h.iff x hx).1 hm).2; rw [hl] at this; cases this
  refine ⟨?_, fun y hy => ?_, fun y hy => ?_, fun y hy hl2 => ?_⟩
  · rw [List.nodup_append]
    exact ⟨h.nd, by simp, fun a ha b hb => by simp at hb; subst hb; intro e; subst e; exact hn ha⟩
  · rw [List.mem_append, h.iff y hy]
    simp only [List.mem_singleton, same_int]
    by_cases he : y = x
    · subst he; simp [h.dom _ hx hl]
    · simp [he]
  · rcases List.mem_append.1 hy with hy | hy
    · exact h.big y hy
    · simp at hy; subst hy; exact hx
  · simp only [same_int, Bool.and_eq_true] at hl2
    exact h.dom y hy hl2.1
theorem KL.end_ {C : List Int} {left : Lit → Bool} {l : List Int} (h : KL C left l) (hl : ∀ z, left z = false) (hC : PM.Asc C) (hCb : ∀ x ∈ C, I64 x) : (l.mergeSort fun x y => decide (x ≤ y)) = C := by
  refine PM.asc_ext (sorted_asc h.nd) hC fun x => ?_
  rw [sorted_mem]
  constructor
  · intro hx; exact ((h.iff x (h.big x hx)).1 hx).1
  · intro hx; exact (h.iff x (hCb x hx)).2 ⟨hx, hl _⟩
set_option maxHeartbeats 4000000 in
theorem walkSorted_any {e : TypeId} {B : Nat} {L : Lay} {gv : Nat → Value} {n : Nat} {G : PM.Gens} {T : PM.Rows} {M F : List Nat} (w : World) (hC : Ch e B w L gv n G T M F) (hw : PM.WF n T) (hT : L.oT = 2) (b i : Nat) (hi : i < n) (v : Value) (m : List Int) (fm : List Nat)
    (hb : Blk w b [.pointer (some ⟨L.g, 0, none⟩), .int .i64 i, v]) (hv : Rd w v m fm) (hm : PM.PN n m) :
    Calls Try.prog 83 #[.pointer (some ⟨b, 0, none⟩)] w fun e w' => ∃ v', e = .returned v' ∧ AccI w.heap.size 2 w' v' (PM.cho n T i m) ∧ Only [] w w' := by
  obtain ⟨i0, hii, hz0, hz1, hz2⟩ := info_parts Try.info2
  have HcV := Lib.hid (values_any w hC hT b i hi v m fm hb hv hm)
  obtain ⟨C, hCd⟩ : ∃ C, C = PM.cho n T i m := ⟨_, rfl⟩
  have hn20 := hC.le
  have hAs : PM.Asc C := by rw [hCd]; exact PM.choO_asc _ _
  have hCb : ∀ x ∈ C, I64 x := fun x hx => by rw [hCd] at hx; have := PM.cho_pre hm hx; unfold I64; omega
  have hCl : C.length ≤ 1000 := by rw [hCd, PM.cho_len hm]; have := PM.cntR_le n T i; omega
  have hCne : C ≠ [] := fun hc => by
    have h1 := PM.cho_len (T := T) (i := i) hm
    rw [← hCd, hc] at h1
    have h2 := PM.cntR_pos hw hi
    simp at h1; omega
  have hgC : ∀ x, (gV m (orb n T i) x).isSome = decide (x ∈ C) := fun x => by
    rw [hCd]
    by_cases hx : x ∈ PM.cho n T i m
    · rw [gV_yes hx]; simp [hx]
    · rw [gV_no hx]; simp [hx]
  rw [← hCd]
  have HAs := Lib.hid hAs
  have HCb := Lib.hid hCb
  have HCne := Lib.hid hCne
  have HgC := Lib.hid hgC
  clear hC hm hb hv hw hAs hCb hCne hgC hCd
  go_enter Try.func83, Try.ntmps83
  go_wp2_with (first
    | (go_at_call 93; (with_reducible refine (HcV.out).mono ?_); rintro en w1 ⟨K, rfl, hK, hM, t1⟩; obtain ⟨D, hown, hg⟩ := hM)
    | (at_range; refine wpList_range_own _ rfl _ 100 rfl 2 2 Try.lawI64 Try.underlying100 _ K 1000 D rfl hown ?_; intro w0 hrg0 hg0 hs0)
    | fail "no arm")
  go_frame
  have hKl := hown.lt
  have k01 : Only [] w1 w0 := (Only.refl _ _).grown hg0 (by intro j hj; cases hj)
  have kw0 : Only [] w w0 := t1.trans k01
  have hl0 : KL C (Go.Maps.has D) [] := ⟨List.nodup_nil, fun x hx => by
      rw [(hg x hx).1, HgC.out]
      by_cases hm : x ∈ C <;> simp [hm], by simp, fun x hx hl => by rw [(hg x hx).1, HgC.out] at hl; simpa using hl⟩
  clear hg hg0 hown t1 k01
  go_loopw [3] (fun o wr => ∃ (left : Lit → Bool) (cnt : Nat) (l : List Int), wr.ranges Try.prog 2 (plainElem Try.prog 2) K w1.heap.size 1000 D left cnt ∧ AccI (w1.heap.size + 1) 2 wr o l ∧ KL C left l ∧ Only [] w wr ∧ w1.heap.size + 1 ≤ wr.heap.size)
    (fun _ wr => wr.rangeLeft K w1.heap.size)
  case atStart => exact ⟨_, _, [], hrg0, AccI.nil _ _ _, hl0, kw0, by omega⟩
  case round =>
    obtain ⟨W2, hnew⟩ : ∃ W, W = wr := ⟨_, rfl⟩
    subst hnew
    obtain ⟨left, cnt, l, hrg, hA, hKL, hO, hsz⟩ := hrel
    have hll : l.length ≤ 1000 := Nat.le_trans (PM.nodup_sub_len hKL.nd fun x hx => ((hKL.iff x (hKL.big x hx)).1 hx).1) hCl
    have hlow : w.heap.size ≤ w1.heap.size + 1 := by have := kw0.size; omega
    go_wp2_with (first
      | (at_next; refine wpList_next_ranges_ii _ rfl _ rfl 2 2 .i64 .i64 Try.lawI64 Try.underlying2 Try.underlying2 K w1.heap.size 1000 _ _ _ rfl hrg ?_ ?_)
      | fail "no arm")
    · intro _ hl0
      have hfin := hKL.end_ hl0 HAs.out HCb.out
      have hlne : l ≠ [] := fun hc => HCne.out (by rw [← hfin, hc]; simp)
      have Hfin := Lib.hid hfin
      obtain ⟨a, c, ho⟩ := hA.form
      subst ho
      clear hfin hl0
      go_wp2_with (first
        | (go_at_call 86; (with_reducible refine (sort_accI W2 _ l hA hlne hll).mono ?_); rintro en w3 ⟨rfl, hA3, hO3⟩; rw [Hfin.out] at hA3)
        | fail "no arm")
      go_ret
      exact ⟨_, rfl, hA3.low hlow, hO.then_ hO3 (fun z hz hl => by have := (hA.ownlt z (by simpa using hz)).1; omega)⟩
    · intro x c w2 cnt1 hwx hwc hlx hat hrg1 hlt hg1 hs1 hen
      have hxI : I64 x := by have h9 := hwx; simp [Lit.wf, IntKind.min, IntKind.max, IntKind.signed, IntKind.bits] at h9; unfold I64; omega
      have k2 : Only [w1.heap.size] W2 w2 := (Only.refl _ _).grown hg1 (by intro j hj _; injection hj with hj; subst hj; simp)
      have hA2 := hA.only k2 (fun g hg hm => by have := (hA.ownlt g hg).1; simp at hm; omega)
      have hO2 : Only [] w w2 := hO.then_ k2 (fun z hz hl => by simp at hz; have := kw0.size; omega)
      have hK2 := hKL.step hxI hlx
      have HXI := Lib.hid hxI
      have hsB : w1.heap.size + 1 ≤ w2.heap.size := by omega
      have Hs1 := Lib.hid hs1
      clear hs1
      clear hKL hxI hat hwx hwc hlx
      go_wp2_with (first
        | (at_builtin; refine wpList_pushI rfl _ _ 23 rfl (w1.heap.size + 1) 2 i0 _ Try.underlying23 hii hz0 hz1 hz2 rfl w2 u3 l rfl hA2 ((Only.refl _ _).alloc _) hsB w2.heap.size 1 x rfl (lit1 w2 _ _ rfl) HXI.out (by omega) ?_; intro v3 w3 hA3 hO3 hP3 hN3)
        | fail "no arm")
      have hsz2 : w2.heap.size = W2.heap.size := Hs1.out
      have hne : ∀ g, g ≤ w1.heap.size → w3.heap[g]? = w2.heap[g]? := fun g hg => by
        have h1 : g < w2.heap.size := by omega
        have h2 := hO3.block g (by simp; omega) (fun hm => by have := (hA2.ownlt g (by simpa using hm)).1; omega)
        have h3 := ((Only.refl [] w2).alloc (.cells #[.int .i64 x] 2)).block g h1 (by simp)
        exact h2.trans h3
      have hrg3 := ranges_frame hrg1 (hne K (by omega)) (hne _ (Nat.le_refl _))
      have hsz3 := hO3.size
      simp at hsz3
      go_roundw
      case rel => exact ⟨_, cnt1, l ++ [x], hrg3, hA3, hK2, hP3 w (hO2.alloc _) hlow, by omega⟩
      case measure => rw [hrg3.left_eq, hrg.left_eq]; exact hlt
end Go.Proofs.Ytpcamkmoabhlhaa

namespace Go.Proofs.Ytpcamkmoabhlhaa
open Go.RowKit
set_option maxRecDepth 10000

theorem from_any (g : Nat) (v : Value) (m : List Int) (f : List Nat) (w : World) (hv : Rd w v m f) :
    Calls Try.prog 82 #[.pointer (some ⟨g, 0, none⟩), v] w fun e w' => e = .returned (.pointer (some ⟨w.heap.size, 0, none⟩)) ∧ Blk w' w.heap.size [.pointer (some ⟨g, 0, none⟩), .int .i64 (0 : Nat), v] ∧ Only [] w w' ∧ w'.heap.size = w.heap.size + 1 := by
  obtain ⟨A, C, rfl, -⟩ := hv.ints
  go_enter Try.func82, Try.ntmps82
  go_wp2
  go_ret
  exact ⟨rfl, Blk.new _ _ _, (Only.refl _ _).alloc _, by simp⟩


end Go.Proofs.Ytpcamkmoabhlhaa

namespace Go.Proofs.Ytpcamkmoabhlhaa
open Go.RowKit
set_option maxRecDepth 10000

set_option maxHeartbeats 4000000 in
theorem memberAt_yes (n : Nat) {B : Nat} {L : Lay} {gv : Nat → Value} {gens : List (List Int)} {G : PM.Gens} {T : PM.Rows} {M F : List Nat} (k : Nat) (w : World) (hC : Ch 23 B w L gv n G T M F) (hCh : PM.Chain n gens G T) (hT : L.oT = 2) (hpn : ∀ g ∈ gens, PM.PN n g) (hk : k < ordC n gens n) :
    Calls Try.prog 60 #[.pointer (some ⟨L.g, 0, none⟩), .int .i64 k] w fun e w' => ∃ v f, e = .returned (.tuple #[v, .bool true]) ∧ Rd w' v (memAt n gens k) f ∧ Fresh w.heap.size w' f ∧ Only [] w w' := by
  have hn : 0 < n := hC.pos
  have hn20 : n ≤ 20 := hC.le
  have Hpn := Lib.hid hpn
  obtain ⟨R, hR⟩ : ∃ R, R = memAt n gens k := ⟨_, rfl⟩
  rw [← hR]
  have HR := Lib.hid hR
  clear hR hpn
  have hOE : ∀ j, j ≤ n → PM.ordM T n j = ordC n gens j := fun j hj => ordC_eq hCh hn Hpn.out hj
  have hole := ordC_le hCh hn Hpn.out hn20 (j := n) (Nat.le_refl _)
  have hRng : inR (k : Int) 0 ((ordC n gens n : Nat) - 1 : Int) = true := inR_iff.2 (by omega)
  have HOE := Lib.hid hOE
  have hst : ∀ i, i < n → k % ordC n gens (n - i) % ordC n gens (n - (i + 1)) = k % ordC n gens (n - (i + 1)) := fun i hi => mod_step hCh hn Hpn.out k hi
  have hgood := msel_good hCh hn Hpn.out k
  have hpos : ∀ j, j ≤ n → 1 ≤ ordC n gens j := fun j hj => ordC_pos hCh hn Hpn.out hj
  have hle : ∀ j, j ≤ n → ordC n gens j ≤ 2432902008176640000 := fun j hj => ordC_le hCh hn Hpn.out hn20 hj
  have hk0 : k % ordC n gens (n - 0) = k := by rw [Nat.sub_zero]; exact Nat.mod_eq_of_lt hk
  have Hst := Lib.hid hst
  have Hgood := Lib.hid hgood
  have Hpos := Lib.hid hpos
  have Hle := Lib.hid hle
  have Hk0 := Lib.hid hk0
  have HC := Lib.hid hC
  have hwf := hCh.inv.wf
  have Hwf := Lib.hid hwf
  have HoT := Lib.hid hT
  have hR0 : R = PM.desc T n (msel n gens k) (n - 0) 0 (PM.pts n) := by rw [HR.out, Nat.sub_zero]; exact (hCh.descG hn Hpn.out (msel n gens k) hgood).symm
  have HR0 := Lib.hid hR0
  have HCh := Lib.hid hCh
  have hcn := hC.cn
  obtain ⟨od, hod⟩ : ∃ od, od = ordC n gens n := ⟨_, rfl⟩
  rw [← hod] at hole hRng
  have HRng := Lib.hid hRng
  have HcO : Hid (Calls Try.prog 38 #[.pointer (some ⟨L.g, 0, none⟩), .int .i64 0] w fun e w' => e = .returned (.int .i64 (od : Nat)) ∧ Only [] w w') := Lib.hid (by
    rw [hod, ← hOE n (Nat.le_refl _)]
    exact implOrder0 hC hwf hT)
  have hwo : IntKind.i64.wrap ((od : Int) - 1) = (od : Int) - 1 := by rw [IntKind.wrap_i64]; omega
  have hbM0 := hC.lM
  have hbF0 := hC.lF
  clear hOE hRng hst hgood hpos hle hk0 hC hwf hT hR0 hCh hod
  go_enter Try.func60, Try.ntmps60
  go_wp2_with (first
    | (go_at_call 38; (with_reducible refine (HcO.out).mono ?_); rintro en w1 ⟨rfl, t1⟩; have c1n := t1.cell (by simp) hcn)
    | (go_at_call 54; (with_reducible refine (within_any (k : Int) 0 ((od : Int) - 1) _).mono ?_); rintro e w1' ⟨he, h1⟩; rw [HRng.out] at he; subst he; rw [h1]; clear h1)
    | (go_at_call 58; (with_reducible refine (implIdentity_any n w1 (by omega)).mono ?_); rintro en w4 ⟨v4, f4, rfl, r4, F4, t4⟩)
    | (go_at_call 82; (with_reducible refine (from_any L.g v4 (PM.pts n) f4 w4 r4).mono ?_); rintro en w5 ⟨rfl, hB5, t5, hs5⟩)
    | fail "no arm")
  have z1 := t1.size
  have z4 := t4.size
  have k5 : Only [] w w5 := (t1.trans t4).trans t5
  have hC5 := HC.out.keep k5
  have r5 := Rp.keep r4 t5
  have F5 : Fresh w.heap.size w5 f4 := (F4.keep t5).mono z1
  have hbM : ∀ z ∈ [w4.heap.size], z ∉ M := fun z hz hm => by have := hbM0 z hm; simp at hz; omega
  have hbF : ∀ z ∈ [w4.heap.size], z ∉ F := fun z hz hm => by have := hbF0 z hm; simp at hz; omega
  have HbM := Lib.hid hbM
  have HbF := Lib.hid hbF
  clear hbM hbF t1 t4 t5 r4 F4 hs5 c1n hbM0 hbF0 HcO
  go_loopw [1] (fun kv wr => ∃ (i : Nat) (v : Value) (m : List Int) (f : List Nat), i ≤ n ∧ kv = .int .i64 (k % ordC n gens (n - i) : Nat) ∧ Blk wr w4.heap.size [.pointer (some ⟨L.g, 0, none⟩), .int .i64 i, v] ∧ Rd wr v m f ∧ Fresh w.heap.size wr f ∧ Ch 23 B wr L gv n G T M F ∧ PM.Grp n gens m ∧ Hid (R = PM.desc T n (msel n gens k) (n - i) i m) ∧ Only [] w wr)
    (fun _ wr => n - (intOf ((wr.cell? ⟨w4.heap.size, 1, none⟩).getD undef)).toNat)
  case atStart => exact ⟨0, v4, PM.pts n, f4, Nat.zero_le _, by rw [Hk0.out], hB5, r5, F5, hC5, .id, HR0, k5⟩
  case round =>
    obtain ⟨W2, hnew⟩ : ∃ W, W = wr := ⟨_, rfl⟩
    subst hnew
    clear hB5 r5 F5 hC5 k5
    obtain ⟨i, v, m, f, hi, rfl, hB, hr, hF, hC, hgr, hRR, hO⟩ := hrel
    have y1 := hB.cell 1 rfl
    have yn := hC.cn
    go_upto_region 4 with fail
    go_quiet (fail)
    obtain ⟨W3, hW3⟩ : ∃ W, W = W2.drewN nq := ⟨_, rfl⟩
    have kq : Only [] W2 W3 := by rw [hW3]; exact (Only.refl _ _).drewN _
    rw [← hW3]
    have hB3 := hB.keep kq
    have hC3 := hC.keep kq
    have hr3 := Rp.keep hr kq
    have hF3 := hF.keep kq
    have hO3 := hO.trans kq
    have y13 := hB3.cell 1 rfl
    have hO2 := hO3.size
    have hbW := hB3.lt
    clear hW3
    by_cases hlt : i < n
    · have hpm : PM.PN n m := hgr.pn Hpn.out
      have hwf := Hwf.out
      obtain ⟨C, hCd⟩ : ∃ C, C = PM.cho n T i m := ⟨_, rfl⟩
      have hCl : C.length = PM.cntR n T i := by rw [hCd, PM.cho_len hpm]
      have hCl2 : C.length ≤ 20 := by rw [hCl]; have := PM.cntR_le n T i; omega
      obtain ⟨r, hrr⟩ : ∃ r, r = ordC n gens (n - (i + 1)) := ⟨_, rfl⟩
      obtain ⟨kk, hkk⟩ : ∃ kk, kk = k % ordC n gens (n - i) := ⟨_, rfl⟩
      obtain ⟨q, hq⟩ : ∃ q, q = kk / r := ⟨_, rfl⟩
      have hqs : q = msel n gens k i C.length := by rw [hq, hkk, hrr]; rfl
      have hql : q < C.length := by
        have h1 := Hgood.out i hlt
        rw [hCl]
        have h2 : msel n gens k i C.length = msel n gens k i (PM.cntR n T i) := rfl
        rw [hqs, h2]; exact h1
      have hkm : C[q] ∈ PM.cho n T i m := by rw [← hCd]; exact List.getElem_mem hql
      have hgr2 := HCh.out.putV hn Hpn.out hlt hgr hkm
      have hRR2 : R = PM.desc T n (msel n gens k) (n - (i + 1)) (i + 1) (PM.putV T i m C[q]) := by
        subst hCd
        rw [hRR.out]
        exact PM.desc_step hlt m hqs hql
      have hrp : 1 ≤ r := by rw [hrr]; exact Hpos.out _ (by omega)
      have hrl : r ≤ 2432902008176640000 := by rw [hrr]; exact Hle.out _ (by omega)
      have hkkl : kk ≤ 2432902008176640000 := by
        rw [hkk]
        have h1 := Nat.mod_lt k (show 0 < ordC n gens (n - i) from Hpos.out _ (by omega))
        have h2 := Hle.out (n - i) (by omega)
        omega
      have hdiv : Int.tdiv (kk : Int) (r : Int) = (q : Int) := by rw [tdiv_nat, hq]
      have hmod : Int.tmod (kk : Int) (r : Int) = ((k % ordC n gens (n - (i + 1)) : Nat) : Int) := by rw [tmod_nat, hkk, hrr, Hst.out i hlt]
      have hr0 : ¬ ((r : Int) = 0) := by omega
      have HcO : Hid (Calls Try.prog 38 #[.pointer (some ⟨L.g, 0, none⟩), .int .i64 ((i : Int) + 1)] W3 fun e w' => e = .returned (.int .i64 (r : Nat)) ∧ Only [] W3 w') := Lib.hid (by
        rw [hrr, ← HOE.out _ (by omega)]
        exact implOrder_any W3 hC3 hwf HoT.out (i + 1) (by omega))
      have HcS := Lib.hid (fun (V : World) (hV : Only [] W3 V) => walkSorted_any V (hC3.keep hV) hwf HoT.out w4.heap.size i hlt v m f (hB3.keep hV) (Rp.keep hr3 hV) hpm)
      rw [← hCd] at HcS
      obtain ⟨k2, hk2⟩ : ∃ k2, k2 = k % ordC n gens (n - (i + 1)) := ⟨_, rfl⟩
      rw [← hk2] at hmod
      rw [← hkk]
      have Hk2 := Lib.hid hk2
      have HRR2 := Lib.hid hRR2
      have Hgr2 := Lib.hid hgr2
      have Hkm := Lib.hid hkm
      have Hpm := Lib.hid hpm
      have HC3 := Lib.hid hC3
      have HB3 := Lib.hid hB3
      have hltI : (i : Int) < (n : Int) := by omega
      have hwi : IntKind.i64.wrap ((i : Int) + 1) = (i : Int) + 1 := by rw [IntKind.wrap_i64]; omega
      clear hCd hCl hrr hkk hq hqs hRR2 hgr2 hkm hpm hwf hC hC3 hB hB3 hgr hRR hk2 yn kq
      go_wp2_with (first
        | (go_at_call 38; (with_reducible refine (HcO.out).mono ?_); rintro en w6 ⟨rfl, t6⟩; have y16 := t6.cell (by simp) y13)
        | (go_at_call 83; (with_reducible refine (HcS.out w6 t6).mono ?_); rintro en w7 ⟨v7, rfl, hA7, t7⟩; obtain ⟨a7, c7, rfl, I7⟩ := hA7.rd.ints; obtain ⟨b8, o8, rfl, -, c8⟩ := I7.at_ q hql; have k37 := t6.trans t7)
        | (go_at_call 84; (with_reducible refine (take_yes w7 (HC3.out.keep k37) Hwf.out HoT.out w4.heap.size i hlt v m f (HB3.out.keep k37) (Rp.keep hr3 k37) Hpm.out C[q] Hkm.out).mono ?_); rintro en w9 ⟨rfl, ⟨v9, f9, B9, r9, F9⟩, O9⟩)
        | fail "no arm")
      have k29 : Only [] w w9 := (hO3.trans k37).then_ O9 (fun z hz hl => by simp at hz; omega)
      have HC9 := (HC3.out.keep k37).only O9 HbM.out HbF.out
      have F9' : Fresh w.heap.size w9 f9 := F9.mono (by have := k37.size; omega)
      have y9 := B9.cell 1 rfl
      go_roundw
      case rel => exact ⟨i + 1, v9, _, f9, by omega, by rw [Hk2.out], B9, r9, F9', HC9, Hgr2.out, HRR2, k29⟩
      case measure => rw [y9, y1]; simp [intOf]; omega
    · obtain rfl : i = n := by omega
      have hfin : R = m := by rw [hRR.out]; exact PM.desc_end (Nat.le_refl _) m
      have hge : ¬ ((i : Int) < (i : Int)) := by omega
      have y2 := hB3.cell 2 rfl
      have Hfin := Lib.hid hfin
      clear hfin hRR
      go_wp2
      exact bodyPost_ret (v := .tuple #[v, .bool true]) (by simp [results, Try.results60, go_sem]) rfl ⟨v, rfl, f, by rw [Hfin.out]; exact hr3, hF3, hO3⟩
end Go.Proofs.Ytpcamkmoabhlhaa
