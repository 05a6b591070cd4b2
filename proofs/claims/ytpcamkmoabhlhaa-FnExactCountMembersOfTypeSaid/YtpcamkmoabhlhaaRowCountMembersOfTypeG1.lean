/- Plain facts on permutations as lists of numbers. Plain facts on permutations: composition, inverse, the group that a list generates. The cycles of a permutation; its cycle type (laws 32, 44; the notation of cycles). Words for the memory that the laws read and make: values that read as plain data; what a call leaves alone. The laws' own helpers on slices of int64: held, eq, mark, to, sz: what each answers and leaves. -/
import Derived.Test.YtpcamkmoabhlhaaRows
import Derived.WalkKit
import Derived.WalkSpells
import Derived.WalkLawsBesides
import Derived.Lib.Hide
import Derived.Deep.Draws
import Derived.Deep.QuietTactic
import Derived.BigQuiet
namespace PM

section
variable {α : Type} [DecidableEq α]
theorem nodup_sub_len : ∀ {l1 l2 : List α}, l1.Nodup → l1 ⊆ l2 → l1.length ≤ l2.length := by
  intro l1
  induction l1 with
  | nil => intro l2 _ _; simp
  | cons a t ih =>
    intro l2 hn hs
    obtain ⟨ha, ht⟩ := List.nodup_cons.1 hn
    have ham : a ∈ l2 := hs (by simp)
    have h1 : t ⊆ l2.erase a := by
      intro x hx
      refine (List.mem_erase_of_ne ?_).2 (hs (by simp [hx]))
      intro e; subst e; exact ha hx
    have h2 := ih ht h1
    have h3 := List.length_erase_of_mem ham
    have h4 : 0 < l2.length := List.length_pos_of_mem ham
    simp only [List.length_cons]
    omega
/-- a list without repetitions that lies within a list no longer has all of it -/
theorem nodup_sub_all {l1 l2 : List α} (hn : l1.Nodup) (hs : l1 ⊆ l2) (hl : l2.length ≤ l1.length) : l2 ⊆ l1 := by
  intro x hx
  apply Classical.byContradiction
  intro hxn
  have h := nodup_sub_len (List.nodup_cons.2 ⟨hxn, hn⟩) (l2 := l2) (by
    intro y hy
    rcases List.mem_cons.1 hy with rfl | hy
    · exact hx
    · exact hs hy)
  simp at h
  omega
/-- a list that has all of a list without repetitions, and is no longer, has no repetition -/
theorem nodup_of_all : ∀ {l1 l2 : List α}, l1.Nodup → l1 ⊆ l2 → l2.length ≤ l1.length → l2.Nodup := by
  intro l1
  induction l1 with
  | nil =>
    intro l2 _ _ hl
    have : l2 = [] := List.eq_nil_of_length_eq_zero (by simpa using hl)
    subst this; exact List.nodup_nil
  | cons a t ih =>
    intro l2 hn hs hl
    obtain ⟨ha, ht⟩ := List.nodup_cons.1 hn
    have ham : a ∈ l2 := hs (by simp)
    have h1 : t ⊆ l2.erase a := by
      intro x hx
      refine (List.mem_erase_of_ne ?_).2 (hs (by simp [hx]))
      intro e; subst e; exact ha hx
    have h3 := List.length_erase_of_mem ham
    have h4 : 0 < l2.length := List.length_pos_of_mem ham
    simp only [List.length_cons] at hl
    have h5 := ih ht h1 (by omega)
    have h6 : a ∉ l2.erase a := by
      intro hm
      have := nodup_sub_len hn (l2 := l2.erase a) (by
        intro y hy
        rcases List.mem_cons.1 hy with rfl | hy
        · exact hm
        · exact h1 hy)
      simp at this
      omega
    exact (List.perm_cons_erase ham).nodup_iff.2 (List.nodup_cons.2 ⟨h6, h5⟩)
end

/-- the numbers 0, 1, .., n-1 -/
def pts (n : Nat) : List Int := (List.range n).map (fun k : Nat => (k : Int))
theorem pts_len (n : Nat) : (pts n).length = n := by simp [pts]
theorem mem_pts {n : Nat} {x : Int} : x ∈ pts n ↔ 0 ≤ x ∧ x < n := by
  simp only [pts, List.mem_map, List.mem_range]
  constructor
  · rintro ⟨k, hk, rfl⟩; omega
  · intro ⟨h1, h2⟩; exact ⟨x.toNat, by omega, by omega⟩
theorem pts_nodup (n : Nat) : (pts n).Nodup := by
  exact List.Pairwise.map _ (fun a b (h : a ≠ b) hab => h (by omega)) List.nodup_range
theorem pts_get (n k : Nat) (h : k < (pts n).length) : (pts n)[k] = (k : Int) := by simp [pts]

/-- p is a permutation of its indices -/
def IsP (p : List Int) : Prop := (∀ x ∈ p, 0 ≤ x ∧ x < p.length) ∧ p.Nodup
instance (p : List Int) : Decidable (IsP p) := by unfold IsP; exact inferInstance
theorem IsP.sub {p : List Int} (h : IsP p) : p ⊆ pts p.length := fun x hx => mem_pts.2 (h.1 x hx)
theorem IsP.all {p : List Int} (h : IsP p) : pts p.length ⊆ p := nodup_sub_all h.2 h.sub (by rw [pts_len]; exact Nat.le_refl _)
theorem isP_of_all {p : List Int} (h1 : ∀ x ∈ p, 0 ≤ x ∧ x < p.length) (h2 : pts p.length ⊆ p) : IsP p :=
  ⟨h1, nodup_of_all (pts_nodup _) h2 (by rw [pts_len]; exact Nat.le_refl _)⟩

/-- the numbers of a list as bits -/
def mask : List Int → Nat
  | [] => 0
  | x :: l => 2 ^ x.toNat ||| mask l
theorem mask_append (l : List Int) (x : Int) : mask (l ++ [x]) = mask l ||| 2 ^ x.toNat := by
  induction l with
  | nil => simp [mask]
  | cons y l ih => simp [mask, ih, Nat.or_assoc]
theorem mask_bit (l : List Int) (h : ∀ x ∈ l, 0 ≤ x) (k : Nat) : (mask l).testBit k = decide ((k : Int) ∈ l) := by
  induction l with
  | nil => simp [mask]
  | cons x l ih =>
    rw [mask, Nat.testBit_or, ih (fun y hy => h y (by simp [hy])), Nat.testBit_two_pow]
    have hx := h x (by simp)
    have : (x.toNat = k) ↔ ((k : Int) = x) := by omega
    simp [this]
theorem mask_lt (l : List Int) (n : Nat) (h : ∀ x ∈ l, 0 ≤ x ∧ x < n) : mask l < 2 ^ n := by
  induction l with
  | nil => simp [mask]; exact Nat.pow_pos (by decide)
  | cons x l ih =>
    have hx := h x (by simp)
    exact Nat.or_lt_two_pow (Nat.pow_lt_pow_right (by decide) (by omega)) (ih fun y hy => h y (by simp [hy]))
theorem mask_full (p : List Int) (h : ∀ x ∈ p, 0 ≤ x ∧ x < p.length) : mask p = 2 ^ p.length - 1 ↔ IsP p := by
  constructor
  · intro hm
    refine isP_of_all h fun x hx => ?_
    obtain ⟨h0, h1⟩ := mem_pts.1 hx
    have hb := mask_bit p (fun y hy => (h y hy).1) x.toNat
    rw [hm, Nat.testBit_two_pow_sub_one] at hb
    have : decide (x.toNat < p.length) = true := decide_eq_true (by omega)
    rw [this] at hb
    have := of_decide_eq_true hb.symm
    have e : (x.toNat : Int) = x := by omega
    rwa [e] at this
  · intro hp
    apply Nat.eq_of_testBit_eq
    intro k
    rw [mask_bit p (fun y hy => (h y hy).1), Nat.testBit_two_pow_sub_one]
    have : ((k : Int) ∈ p) ↔ k < p.length := by
      constructor
      · intro hk; have := h _ hk; omega
      · intro hk; exact hp.all (mem_pts.2 (by omega))
    simp [this]
end PM

namespace PM

/-- the entry of p at x -/
def at_ (p : List Int) (x : Int) : Int := p.getD x.toNat 0
/-- p first, q second -/
def comp (p q : List Int) : List Int := p.map (at_ q)
def inv (p : List Int) : List Int := (pts p.length).map fun y => (p.idxOf y : Int)

/-- a permutation of n points -/
def PN (n : Nat) (p : List Int) : Prop := p.length = n ∧ IsP p

theorem at_nat (p : List Int) (k : Nat) (h : k < p.length) : at_ p (k : Int) = p[k] := by
  simp [at_, h]
theorem at_mem {p : List Int} {x : Int} (h0 : 0 ≤ x) (h : x < p.length) : at_ p x ∈ p := by
  have hx : x.toNat < p.length := by omega
  have : at_ p x = p[x.toNat] := by simp [at_, hx]
  rw [this]; exact List.getElem_mem _
theorem comp_len (p q : List Int) : (comp p q).length = p.length := by simp [comp]
theorem inv_len (p : List Int) : (inv p).length = p.length := by simp [inv, pts_len]
theorem at_comp {p q : List Int} {x : Int} (h0 : 0 ≤ x) (h : x < p.length) : at_ (comp p q) x = at_ q (at_ p x) := by
  have hx : x.toNat < p.length := by omega
  simp [at_, comp, hx]
theorem at_pts {n : Nat} {x : Int} (h0 : 0 ≤ x) (h : x < n) : at_ (pts n) x = x := by
  have hx : x.toNat < (pts n).length := by rw [pts_len]; omega
  have : at_ (pts n) x = (pts n)[x.toNat] := by simp [at_, hx]
  rw [this, pts_get]; omega
/-- lists of one length with the same entries -/
theorem ext_at {p q : List Int} (hl : p.length = q.length) (h : ∀ x : Int, 0 ≤ x → x < p.length → at_ p x = at_ q x) : p = q := by
  apply List.ext_getElem hl
  intro k h1 h2
  have := h k (by omega) (by omega)
  rwa [at_nat p k h1, at_nat q k h2] at this

theorem PN.rng {n : Nat} {p : List Int} (h : PN n p) {x : Int} (h0 : 0 ≤ x) (h1 : x < n) : 0 ≤ at_ p x ∧ at_ p x < n := by
  have := h.2.1 _ (at_mem h0 (by rw [h.1]; exact h1))
  rw [h.1] at this; exact this
theorem nodup_inj {p : List Int} (h : p.Nodup) {i j : Nat} (hi : i < p.length) (hj : j < p.length) (e : p[i] = p[j]) : i = j := by
  have hp := List.pairwise_iff_getElem.1 h
  rcases Nat.lt_trichotomy i j with hl | hl | hl
  · exact absurd e (hp i j hi hj hl)
  · exact hl
  · exact absurd e.symm (hp j i hj hi hl)
theorem PN.inj {n : Nat} {p : List Int} (h : PN n p) {x y : Int} (hx0 : 0 ≤ x) (hx : x < n) (hy0 : 0 ≤ y) (hy : y < n) (he : at_ p x = at_ p y) : x = y := by
  have h1 : x.toNat < p.length := by rw [h.1]; omega
  have h2 : y.toNat < p.length := by rw [h.1]; omega
  have e1 : at_ p x = p[x.toNat] := by simp [at_, h1]
  have e2 : at_ p y = p[y.toNat] := by simp [at_, h2]
  rw [e1, e2] at he
  have := nodup_inj h.2.2 h1 h2 he
  omega
theorem PN.surj {n : Nat} {p : List Int} (h : PN n p) {y : Int} (hy0 : 0 ≤ y) (hy : y < n) : ∃ x : Int, 0 ≤ x ∧ x < n ∧ at_ p x = y := by
  have hm : y ∈ p := h.2.all (mem_pts.2 ⟨hy0, by rw [h.1]; exact hy⟩)
  obtain ⟨k, hk, hk2⟩ := List.getElem_of_mem hm
  refine ⟨k, by omega, by have := h.1; omega, ?_⟩
  rw [at_nat p k hk]; exact hk2
/-- what makes a list a permutation -/
theorem PN.mk' {n : Nat} {p : List Int} (hl : p.length = n) (hr : ∀ x : Int, 0 ≤ x → x < n → 0 ≤ at_ p x ∧ at_ p x < n) (hi : ∀ x y : Int, 0 ≤ x → x < n → 0 ≤ y → y < n → at_ p x = at_ p y → x = y) : PN n p := by
  refine ⟨hl, fun x hx => ?_, ?_⟩
  · obtain ⟨k, hk, rfl⟩ := List.getElem_of_mem hx
    have := hr k (by omega) (by omega)
    rw [at_nat p k hk] at this; rw [hl]; exact this
  · rw [List.nodup_iff_pairwise_ne, List.pairwise_iff_getElem]
    intro i j hi' hj' hij he
    have := hi i j (by omega) (by omega) (by omega) (by omega) (by rw [at_nat p i hi', at_nat p j hj']; exact he)
    omega
theorem PN.id (n : Nat) : PN n (pts n) := PN.mk' (pts_len n) (fun x h0 h1 => by rw [at_pts h0 h1]; exact ⟨h0, h1⟩) (fun x y a b c d e => by rwa [at_pts a b, at_pts c d] at e)
theorem PN.comp {n : Nat} {p q : List Int} (hp : PN n p) (hq : PN n q) : PN n (comp p q) := by
  refine PN.mk' (by rw [comp_len, hp.1]) (fun x h0 h1 => ?_) (fun x y a b c d e => ?_)
  · rw [at_comp h0 (by rw [hp.1]; exact h1)]
    have := hp.rng h0 h1
    exact hq.rng this.1 this.2
  · rw [at_comp a (by rw [hp.1]; exact b), at_comp c (by rw [hp.1]; exact d)] at e
    have h1 := hp.rng a b
    have h2 := hp.rng c d
    exact hp.inj a b c d (hq.inj h1.1 h1.2 h2.1 h2.2 e)
theorem at_inv {n : Nat} {p : List Int} (hp : PN n p) {x : Int} (h0 : 0 ≤ x) (h1 : x < n) : at_ (inv p) (at_ p x) = x := by
  have hr := hp.rng h0 h1
  have hk : x.toNat < p.length := by rw [hp.1]; omega
  have e1 : at_ p x = p[x.toNat] := by simp [at_, hk]
  have e2 : ∀ y : Int, 0 ≤ y → y < n → at_ (inv p) y = (p.idxOf y : Int) := by
    intro y hy0 hy1
    have hy : y.toNat < (pts p.length).length := by rw [pts_len, hp.1]; omega
    have he : (pts p.length)[y.toNat] = y := by rw [pts_get]; omega
    unfold at_ inv
    rw [List.getD_eq_getElem?_getD, List.getElem?_map, List.getElem?_eq_getElem hy, he]
    rfl
  rw [e2 _ hr.1 hr.2, e1]
  have hm : p[x.toNat] ∈ p := List.getElem_mem _
  have hi := List.idxOf_lt_length_of_mem hm
  have hg : p[p.idxOf p[x.toNat]] = p[x.toNat] := by simp
  have := nodup_inj hp.2.2 hi hk hg
  rw [this]; omega
theorem PN.inv {n : Nat} {p : List Int} (hp : PN n p) : PN n (inv p) := by
  refine PN.mk' (by rw [inv_len, hp.1]) (fun x h0 h1 => ?_) (fun x y a b c d e => ?_)
  · obtain ⟨z, hz0, hz1, rfl⟩ := hp.surj h0 h1
    rw [at_inv hp hz0 hz1]; exact ⟨hz0, hz1⟩
  · obtain ⟨z, hz0, hz1, rfl⟩ := hp.surj a b
    obtain ⟨z', hz0', hz1', rfl⟩ := hp.surj c d
    rw [at_inv hp hz0 hz1, at_inv hp hz0' hz1'] at e
    rw [e]
theorem comp_inv {n : Nat} {p : List Int} (hp : PN n p) : comp p (inv p) = pts n := by
  refine ext_at (by rw [comp_len, pts_len, hp.1]) fun x h0 h1 => ?_
  rw [comp_len, hp.1] at h1
  rw [at_comp h0 (by rw [hp.1]; exact h1), at_inv hp h0 h1, at_pts h0 h1]
theorem inv_comp {n : Nat} {p : List Int} (hp : PN n p) : comp (inv p) p = pts n := by
  refine ext_at (by rw [comp_len, pts_len, inv_len, hp.1]) fun x h0 h1 => ?_
  rw [comp_len, inv_len, hp.1] at h1
  obtain ⟨z, hz0, hz1, rfl⟩ := hp.surj h0 h1
  rw [at_comp h0 (by rw [inv_len, hp.1]; exact h1), at_inv hp hz0 hz1, at_pts h0 h1]
theorem comp_id {n : Nat} {p : List Int} (hp : PN n p) : comp p (pts n) = p := by
  refine ext_at (by rw [comp_len]) fun x h0 h1 => ?_
  rw [comp_len, hp.1] at h1
  have := hp.rng h0 h1
  rw [at_comp h0 (by rw [hp.1]; exact h1), at_pts this.1 this.2]
theorem id_comp {n : Nat} {p : List Int} (hp : PN n p) : comp (pts n) p = p := by
  refine ext_at (by rw [comp_len, pts_len, hp.1]) fun x h0 h1 => ?_
  rw [comp_len, pts_len] at h1
  rw [at_comp h0 (by rw [pts_len]; exact h1), at_pts h0 h1]
theorem comp_assoc {n : Nat} {p q r : List Int} (hp : PN n p) (hq : PN n q) : comp (comp p q) r = comp p (comp q r) := by
  refine ext_at (by simp [comp_len]) fun x h0 h1 => ?_
  rw [comp_len, comp_len, hp.1] at h1
  have := hp.rng h0 h1
  rw [at_comp h0 (by rw [comp_len, hp.1]; exact h1), at_comp h0 (by rw [hp.1]; exact h1), at_comp h0 (by rw [hp.1]; exact h1), at_comp this.1 (by rw [hq.1]; exact this.2)]
theorem comp_right_cancel {n : Nat} {p q g : List Int} (hp : PN n p) (hq : PN n q) (hg : PN n g) (h : comp p g = comp q g) : p = q := by
  have h2 : comp (comp p g) (inv g) = comp (comp q g) (inv g) := by rw [h]
  rwa [comp_assoc hp hg, comp_assoc hq hg, comp_inv hg, comp_id hp, comp_id hq] at h2

/-- the group that G generates -/
inductive Grp (n : Nat) (G : List (List Int)) : List Int → Prop
  | id : Grp n G (pts n)
  | mul {p g : List Int} : Grp n G p → g ∈ G → Grp n G (comp p g)
  | div {p g : List Int} : Grp n G p → g ∈ G → Grp n G (comp p (inv g))

section
variable {n : Nat} {G : List (List Int)} (hG : ∀ g ∈ G, PN n g)
include hG
theorem Grp.pn {p : List Int} (h : Grp n G p) : PN n p := by
  induction h with
  | id => exact PN.id n
  | mul _ hg ih => exact ih.comp (hG _ hg)
  | div _ hg ih => exact ih.comp (hG _ hg).inv
theorem Grp.comp {p q : List Int} (hp : Grp n G p) (hq : Grp n G q) : Grp n G (comp p q) := by
  have pp := hp.pn hG
  induction hq with
  | id => rw [comp_id pp]; exact hp
  | mul hq hg ih => rw [← comp_assoc pp (Grp.pn hG hq)]; exact ih.mul hg
  | div hq hg ih => rw [← comp_assoc pp (Grp.pn hG hq)]; exact ih.div hg
theorem Grp.gen {g : List Int} (h : g ∈ G) : Grp n G g := by
  have := (Grp.id (n := n) (G := G)).mul h
  rwa [id_comp (hG g h)] at this
theorem Grp.gen_inv {g : List Int} (h : g ∈ G) : Grp n G (PM.inv g) := by
  have := (Grp.id (n := n) (G := G)).div h
  rwa [id_comp (hG g h).inv] at this
end
theorem inv_of {n : Nat} {p q : List Int} (hp : PN n p) (hq : PN n q) (h : comp p q = pts n) : q = PM.inv p := by
  have : comp (PM.inv p) (comp p q) = comp (PM.inv p) (pts n) := by rw [h]
  rwa [← comp_assoc hp.inv hp, inv_comp hp, id_comp hq, comp_id hp.inv] at this
theorem inv_inv {n : Nat} {p : List Int} (hp : PN n p) : PM.inv (PM.inv p) = p := (inv_of hp.inv hp (inv_comp hp)).symm
theorem inv_comp_eq {n : Nat} {p q : List Int} (hp : PN n p) (hq : PN n q) : PM.inv (comp p q) = comp (PM.inv q) (PM.inv p) := by
  refine (inv_of (hp.comp hq) (hq.inv.comp hp.inv) ?_).symm
  rw [comp_assoc hp hq, ← comp_assoc hq hq.inv, comp_inv hq, id_comp hp.inv, comp_inv hp]
theorem inv_id (n : Nat) : PM.inv (pts n) = pts n := (inv_of (PN.id n) (PN.id n) (comp_id (PN.id n))).symm
theorem Grp.inv {n : Nat} {G : List (List Int)} (hG : ∀ g ∈ G, PN n g) {p : List Int} (hp : Grp n G p) : Grp n G (PM.inv p) := by
  induction hp with
  | id => rw [inv_id]; exact .id
  | mul hq hg ih => rw [inv_comp_eq (Grp.pn hG hq) (hG _ hg)]; exact Grp.comp hG (Grp.gen_inv hG hg) ih
  | div hq hg ih => rw [inv_comp_eq (Grp.pn hG hq) (hG _ hg).inv, inv_inv (hG _ hg)]; exact Grp.comp hG (Grp.gen hG hg) ih
theorem Grp.mono {n : Nat} {G G' : List (List Int)} (hG' : ∀ g ∈ G', PN n g) (h : ∀ g ∈ G, Grp n G' g) {p : List Int} (hp : Grp n G p) : Grp n G' p := by
  induction hp with
  | id => exact .id
  | mul _ hg ih => exact Grp.comp hG' ih (h _ hg)
  | div _ hg ih => exact Grp.comp hG' ih (Grp.inv hG' (h _ hg))

/-- all lists of k entries out of a list -/
def allL (A : List Int) : Nat → List (List Int)
  | 0 => [[]]
  | k + 1 => (allL A k).flatMap fun l => A.map fun x => x :: l
theorem mem_allL {A : List Int} : ∀ (p : List Int), (∀ x ∈ p, x ∈ A) → p ∈ allL A p.length := by
  intro p
  induction p with
  | nil => intro _; simp [allL]
  | cons x p ih =>
    intro h
    have h1 := ih fun y hy => h y (by simp [hy])
    simp only [allL, List.length_cons, List.mem_flatMap, List.mem_map]
    exact ⟨p, h1, x, h x (by simp), rfl⟩
theorem nodup_exists {α : Type} (L : List α) (S : α → Prop) : ∃ L' : List α, L'.Nodup ∧ ∀ x, x ∈ L' ↔ x ∈ L ∧ S x := by
  classical
  induction L with
  | nil => exact ⟨[], List.nodup_nil, by simp⟩
  | cons a L ih =>
    obtain ⟨L', h1, h2⟩ := ih
    by_cases h : a ∈ L' ∨ ¬ S a
    · refine ⟨L', h1, fun x => ?_⟩
      rw [h2 x]
      constructor
      · rintro ⟨a1, a2⟩; exact ⟨by simp [a1], a2⟩
      · rintro ⟨a1, a2⟩
        rcases List.mem_cons.1 a1 with rfl | a1
        · rcases h with h | h
          · exact (h2 x).1 h
          · exact absurd a2 h
        · exact ⟨a1, a2⟩
    · have h' : a ∉ L' ∧ S a := ⟨fun e => h (.inl e), Classical.byContradiction fun e => h (.inr e)⟩
      refine ⟨a :: L', List.nodup_cons.2 ⟨h'.1, h1⟩, fun x => ?_⟩
      simp only [List.mem_cons, h2 x]
      constructor
      · rintro (rfl | ⟨a1, a2⟩)
        · exact ⟨.inl rfl, h'.2⟩
        · exact ⟨.inr a1, a2⟩
      · rintro ⟨rfl | a1, a2⟩
        · exact .inl rfl
        · exact .inr ⟨a1, a2⟩
/-- a set of permutations closed under a factor is closed under its inverse -/
theorem closed_div {n : Nat} {S : List Int → Prop} (hS : ∀ p, S p → PN n p) {g : List Int} (hg : PN n g) (hc : ∀ p, S p → S (comp p g)) : ∀ p, S p → S (comp p (PM.inv g)) := by
  intro p hp
  obtain ⟨L, h1, h2⟩ := nodup_exists (allL (pts n) n) S
  have hin : ∀ q, S q → q ∈ L := fun q hq => (h2 q).2 ⟨by
    have h3 := hS q hq
    have h4 := mem_allL (A := pts n) q (fun x hx => by have := h3.2.1 x hx; rw [h3.1] at this; exact mem_pts.2 this)
    rwa [h3.1] at h4, hq⟩
  have hsub : L.map (fun q => comp q g) ⊆ L := by
    intro x hx
    obtain ⟨q, hq, rfl⟩ := List.mem_map.1 hx
    exact hin _ (hc q ((h2 q).1 hq).2)
  have hnd : (L.map fun q => comp q g).Nodup := by
    refine List.pairwise_map.2 ?_
    refine List.Pairwise.imp_of_mem (R := fun a b => a ≠ b) ?_ h1
    intro a b ha hb hab he
    exact hab (comp_right_cancel (hS a ((h2 a).1 ha).2) (hS b ((h2 b).1 hb).2) hg he)
  have hall := nodup_sub_all hnd hsub (by simp)
  obtain ⟨q, hq, hqe⟩ := List.mem_map.1 (hall (hin p hp))
  have hqS := ((h2 q).1 hq).2
  rw [← hqe, comp_assoc (hS q hqS) hg, comp_inv hg, comp_id (hS q hqS)]
  exact hqS
/-- a set that has the identity and is closed under generators has the group -/
theorem grp_sub {n : Nat} {G : List (List Int)} (hG : ∀ g ∈ G, PN n g) {S : List Int → Prop} (hS : ∀ p, S p → PN n p) (h1 : S (pts n)) (hc : ∀ p g, S p → g ∈ G → S (comp p g)) {p : List Int} (hp : Grp n G p) : S p := by
  induction hp with
  | id => exact h1
  | mul _ hg ih => exact hc _ _ ih hg
  | div _ hg ih => exact closed_div hS (hG _ hg) (fun q hq => hc q _ hq hg) _ ih
end PM

namespace PM

/-- where x is after k steps -/
def it (p : List Int) : Nat → Int → Int
  | 0, x => x
  | k + 1, x => at_ p (it p k x)
theorem it_add (p : List Int) (a : Nat) (x : Int) : ∀ b, it p (b + a) x = it p b (it p a x)
  | 0 => by simp [it]
  | b + 1 => by rw [Nat.succ_add]; show at_ p (it p (b + a) x) = at_ p (it p b (it p a x)); rw [it_add p a x b]
theorem it_rng {n : Nat} {p : List Int} (hp : PN n p) {x : Int} (h0 : 0 ≤ x) (h1 : x < n) : ∀ k, 0 ≤ it p k x ∧ it p k x < n
  | 0 => ⟨h0, h1⟩
  | k + 1 => hp.rng (it_rng hp h0 h1 k).1 (it_rng hp h0 h1 k).2
theorem it_inj {n : Nat} {p : List Int} (hp : PN n p) {x y : Int} (x0 : 0 ≤ x) (x1 : x < n) (y0 : 0 ≤ y) (y1 : y < n) : ∀ k, it p k x = it p k y → x = y
  | 0, h => h
  | k + 1, h => it_inj hp x0 x1 y0 y1 k (hp.inj (it_rng hp x0 x1 k).1 (it_rng hp x0 x1 k).2 (it_rng hp y0 y1 k).1 (it_rng hp y0 y1 k).2 h)
theorem it_ret {n : Nat} {p : List Int} (hp : PN n p) {x : Int} (x0 : 0 ≤ x) (x1 : x < n) {i j : Nat} (h : i < j) (e : it p i x = it p j x) : it p (j - i) x = x := by
  have hj : j = i + (j - i) := by omega
  rw [hj, it_add] at e
  exact (it_inj hp x0 x1 (it_rng hp x0 x1 _).1 (it_rng hp x0 x1 _).2 i e).symm
theorem least_of (P : Nat → Prop) : ∀ k, P k → ∃ m, P m ∧ m ≤ k ∧ ∀ j, j < m → ¬ P j := by
  intro k
  induction k using Nat.strongRecOn with
  | ind k ih =>
    intro h
    by_cases hx : ∃ j, j < k ∧ P j
    · obtain ⟨j, hj, hP⟩ := hx
      obtain ⟨m, h1, h2, h3⟩ := ih j hj hP
      exact ⟨m, h1, by omega, h3⟩
    · exact ⟨k, h, Nat.le_refl _, fun j hj hP => hx ⟨j, hj, hP⟩⟩
theorem it_back {n : Nat} {p : List Int} (hp : PN n p) {x : Int} (x0 : 0 ≤ x) (x1 : x < n) : ∃ k, (0 < k ∧ it p k x = x) ∧ k ≤ n := by
  apply Classical.byContradiction
  intro hno
  have hnd : ((List.range (n + 1)).map fun i => it p i x).Nodup := by
    unfold List.Nodup
    rw [List.pairwise_map]
    refine List.Pairwise.imp_of_mem (R := fun a b => a < b) (fun {a b} ha hb hab e => ?_) (List.pairwise_lt_range)
    exact hno ⟨b - a, ⟨by omega, it_ret hp x0 x1 hab e⟩, by have := List.mem_range.1 hb; omega⟩
  have := nodup_sub_len hnd (l2 := pts n) fun y hy => by
    obtain ⟨k, -, rfl⟩ := List.mem_map.1 hy
    exact mem_pts.2 (it_rng hp x0 x1 k)
  rw [pts_len, List.length_map, List.length_range] at this
  omega
open Classical in
/-- after how many steps x is back -/
noncomputable def per (p : List Int) (x : Int) : Nat := if h : ∃ m, (0 < m ∧ it p m x = x) ∧ ∀ j, j < m → ¬ (0 < j ∧ it p j x = x) then choose h else 0
theorem per_ok {n : Nat} {p : List Int} (hp : PN n p) {x : Int} (x0 : 0 ≤ x) (x1 : x < n) : 0 < per p x ∧ per p x ≤ n ∧ it p (per p x) x = x ∧ ∀ j, 0 < j → j < per p x → it p j x ≠ x := by
  obtain ⟨k, hk, hkn⟩ := it_back hp x0 x1
  obtain ⟨m, h1, h2, h3⟩ := least_of (fun k => 0 < k ∧ it p k x = x) k hk
  have hex : ∃ m, (0 < m ∧ it p m x = x) ∧ ∀ j, j < m → ¬ (0 < j ∧ it p j x = x) := ⟨m, h1, h3⟩
  have hper : per p x = Classical.choose hex := by unfold per; rw [dif_pos hex]
  obtain ⟨⟨c1, c2⟩, c3⟩ := Classical.choose_spec hex
  rw [hper]
  refine ⟨c1, ?_, c2, fun j h0 hj e => c3 j hj ⟨h0, e⟩⟩
  have : Classical.choose hex ≤ m := by
    apply Classical.byContradiction
    intro hlt
    exact c3 m (by omega) h1
  omega
/-- the first steps of a cycle -/
def cyT (p : List Int) (x : Int) (k : Nat) : List Int := (List.range k).map fun i => it p i x
/-- the cycle of x -/
noncomputable def cyl (p : List Int) (x : Int) : List Int := cyT p x (per p x)
theorem cyT_len (p : List Int) (x : Int) (k : Nat) : (cyT p x k).length = k := by simp [cyT]
theorem cyT_succ (p : List Int) (x : Int) (k : Nat) : cyT p x (k + 1) = cyT p x k ++ [it p k x] := by unfold cyT; rw [List.range_succ, List.map_append]; rfl
theorem mem_cyT {p : List Int} {x y : Int} {k : Nat} : y ∈ cyT p x k ↔ ∃ i, i < k ∧ it p i x = y := by unfold cyT; simp
theorem cyl_len (p : List Int) (x : Int) : (cyl p x).length = per p x := cyT_len ..
section
variable {n : Nat} {p : List Int} (hp : PN n p) {x : Int} (x0 : 0 ≤ x) (x1 : x < n)
include hp x0 x1
theorem it_per (q : Nat) : it p (q * per p x) x = x := by
  induction q with
  | zero => simp [it]
  | succ q ih => rw [Nat.succ_mul, Nat.add_comm, it_add, ih, (per_ok hp x0 x1).2.2.1]
theorem it_mod (k : Nat) : it p k x = it p (k % per p x) x := by
  have h : it p (k % per p x + k / per p x * per p x) x = it p (k % per p x) x := by rw [it_add, it_per hp x0 x1]
  rw [← h]
  congr 1
  have := Nat.mod_add_div' k (per p x)
  omega
theorem cyl_nodup : (cyl p x).Nodup := by
  unfold cyl cyT List.Nodup
  rw [List.pairwise_map]
  refine List.Pairwise.imp_of_mem (R := fun a b => a < b) (fun {a b} ha hb hab e => ?_) (List.pairwise_lt_range)
  have hb' := List.mem_range.1 hb
  exact (per_ok hp x0 x1).2.2.2 (b - a) (by omega) (by omega) (it_ret hp x0 x1 hab e)
theorem mem_cyl {y : Int} : y ∈ cyl p x ↔ ∃ k, it p k x = y := by
  unfold cyl
  rw [mem_cyT]
  constructor
  · rintro ⟨i, -, h⟩; exact ⟨i, h⟩
  · rintro ⟨k, h⟩
    exact ⟨k % per p x, Nat.mod_lt _ (per_ok hp x0 x1).1, by rw [← it_mod hp x0 x1]; exact h⟩
theorem cyl_rng : ∀ y ∈ cyl p x, 0 ≤ y ∧ y < n := fun y hy => by
  obtain ⟨k, rfl⟩ := (mem_cyl hp x0 x1).1 hy
  exact it_rng hp x0 x1 k
theorem self_cyl : x ∈ cyl p x := (mem_cyl hp x0 x1).2 ⟨0, rfl⟩
theorem cyl_back {y : Int} (h : y ∈ cyl p x) : x ∈ cyl p y := by
  have hy := cyl_rng hp x0 x1 y h
  unfold cyl at h
  obtain ⟨i, hi, rfl⟩ := mem_cyT.1 h
  refine (mem_cyl hp hy.1 hy.2).2 ⟨per p x - i, ?_⟩
  rw [← it_add, show per p x - i + i = per p x by omega]
  exact (per_ok hp x0 x1).2.2.1
theorem cyl_trans {y z : Int} (h : y ∈ cyl p x) (h2 : z ∈ cyl p y) : z ∈ cyl p x := by
  have hy := cyl_rng hp x0 x1 y h
  obtain ⟨i, rfl⟩ := (mem_cyl hp x0 x1).1 h
  obtain ⟨j, rfl⟩ := (mem_cyl hp hy.1 hy.2).1 h2
  exact (mem_cyl hp x0 x1).2 ⟨j + i, it_add ..⟩
end
/-- the smallest of its cycle -/
def Mn (p : List Int) (x : Int) : Prop := ∀ y ∈ cyl p x, x ≤ y
open Classical in
/-- the cycles that begin with a number less than k -/
noncomputable def mns (p : List Int) (k : Nat) : List Int := (pts k).filter fun x => decide (Mn p x)
noncomputable def cycs (p : List Int) (k : Nat) : List (List Int) := (mns p k).map (cyl p)
theorem pts_succ (n : Nat) : pts (n + 1) = pts n ++ [(n : Int)] := by unfold pts; rw [List.range_succ, List.map_append]; rfl
theorem mns_yes {p : List Int} {k : Nat} (h : Mn p k) : mns p (k + 1) = mns p k ++ [(k : Int)] := by
  unfold mns; rw [pts_succ, List.filter_append]; simp [h]
theorem mns_no {p : List Int} {k : Nat} (h : ¬ Mn p k) : mns p (k + 1) = mns p k := by
  unfold mns; rw [pts_succ, List.filter_append]; simp [h]
theorem cycs_yes {p : List Int} {k : Nat} (h : Mn p k) : cycs p (k + 1) = cycs p k ++ [cyl p k] := by unfold cycs; rw [mns_yes h, List.map_append]; rfl
theorem cycs_no {p : List Int} {k : Nat} (h : ¬ Mn p k) : cycs p (k + 1) = cycs p k := by unfold cycs; rw [mns_no h]
theorem mem_mns {p : List Int} {k : Nat} {x : Int} : x ∈ mns p k ↔ (0 ≤ x ∧ x < k) ∧ Mn p x := by
  unfold mns; rw [List.mem_filter, mem_pts]; simp
theorem cycs_count (p : List Int) (k : Nat) : (cycs p k).length ≤ k := by
  have h : (mns p k).length ≤ (pts k).length := List.length_filter_le ..
  rw [pts_len] at h
  unfold cycs; rw [List.length_map]; exact h
/-- the smallest of the cycle of y -/
theorem min_of {n : Nat} {p : List Int} (hp : PN n p) {y : Int} (y0 : 0 ≤ y) (y1 : y < n) : ∃ x, x ∈ cyl p y ∧ Mn p x := by
  have key : ∀ (l : List Int), l ≠ [] → ∃ m, m ∈ l ∧ ∀ z ∈ l, m ≤ z := by
    intro l
    induction l with
    | nil => intro h; exact absurd rfl h
    | cons a l ih =>
      intro _
      by_cases hl : l = []
      · exact ⟨a, by simp, by subst hl; simp⟩
      · obtain ⟨m, h1, h2⟩ := ih hl
        by_cases h : a ≤ m
        · exact ⟨a, by simp, fun z hz => by
            rcases List.mem_cons.1 hz with rfl | hz
            · omega
            · have := h2 z hz; omega⟩
        · exact ⟨m, by simp [h1], fun z hz => by
            rcases List.mem_cons.1 hz with rfl | hz
            · omega
            · exact h2 z hz⟩
  obtain ⟨m, h1, h2⟩ := key (cyl p y) (List.ne_nil_of_mem (self_cyl hp y0 y1))
  exact ⟨m, h1, fun z hz => h2 z (cyl_trans hp y0 y1 h1 hz)⟩
/-- y lies in a cycle that begins below k -/
def Seen (p : List Int) (k : Nat) (y : Int) : Prop := ∃ x ∈ mns p k, y ∈ cyl p x
theorem seen_succ {p : List Int} {k : Nat} (h : Mn p k) {y : Int} : Seen p (k + 1) y ↔ Seen p k y ∨ y ∈ cyl p k := by
  unfold Seen
  rw [mns_yes h]
  constructor
  · rintro ⟨x, hx, hy⟩
    rcases List.mem_append.1 hx with hx | hx
    · exact Or.inl ⟨x, hx, hy⟩
    · rw [List.mem_singleton.1 hx] at hy; exact Or.inr hy
  · rintro (⟨x, hx, hy⟩ | hy)
    · exact ⟨x, List.mem_append_left _ hx, hy⟩
    · exact ⟨_, List.mem_append_right _ (List.mem_singleton.2 rfl), hy⟩
theorem seen_skip {p : List Int} {k : Nat} (h : ¬ Mn p k) {y : Int} : Seen p (k + 1) y ↔ Seen p k y := by unfold Seen; rw [mns_no h]
/-- a number is the smallest of its cycle just when no earlier cycle has it -/
theorem seen_iff {n : Nat} {p : List Int} (hp : PN n p) {k : Nat} (hk : k < n) : Seen p k (k : Int) ↔ ¬ Mn p k := by
  constructor
  · rintro ⟨x, hx, hy⟩ hm
    obtain ⟨⟨x0, x1⟩, -⟩ := mem_mns.1 hx
    have := hm x (cyl_back hp x0 (by omega) hy)
    omega
  · intro hm
    obtain ⟨x, h1, h2⟩ := min_of hp (y := (k : Int)) (by omega) (by omega)
    have hr := cyl_rng hp (by omega) (by omega) x h1
    have hb := cyl_back hp (by omega) (by omega) h1
    have hle : x ≤ (k : Int) := h2 _ hb
    have hne : x ≠ (k : Int) := fun e => hm (e ▸ h2)
    exact ⟨x, mem_mns.2 ⟨⟨hr.1, by omega⟩, h2⟩, hb⟩
/-- the cycle of a smallest number has nothing of the earlier ones -/
theorem seen_apart {n : Nat} {p : List Int} (hp : PN n p) {k : Nat} (hk : k < n) (hm : Mn p k) {y : Int} (h : y ∈ cyl p k) : ¬ Seen p k y := by
  rintro ⟨x, hx, hy⟩
  obtain ⟨⟨x0, x1⟩, -⟩ := mem_mns.1 hx
  exact (seen_iff hp hk).1 ⟨x, hx, cyl_trans hp x0 (by omega) hy (cyl_back hp (by omega) (by omega) h)⟩ hm
theorem cycs_flat {n : Nat} {p : List Int} (hp : PN n p) : ∀ k, k ≤ n → (cycs p k).flatten.Nodup ∧ ∀ y, y ∈ (cycs p k).flatten ↔ Seen p k y := by
  intro k
  induction k with
  | zero =>
    intro _
    refine ⟨by simp [cycs, mns, pts], fun y => ?_⟩
    simp [cycs, mns, pts, Seen]
  | succ k ih =>
    intro hk
    obtain ⟨h1, h2⟩ := ih (by omega)
    by_cases hm : Mn p k
    · rw [cycs_yes hm, List.flatten_append]
      simp only [List.flatten_cons, List.flatten_nil, List.append_nil]
      refine ⟨List.nodup_append.2 ⟨h1, cyl_nodup hp (by omega) (by omega), fun a ha b hb e => ?_⟩, fun y => ?_⟩
      · subst e
        exact seen_apart hp (by omega) hm hb ((h2 a).1 ha)
      · rw [List.mem_append, h2, seen_succ hm]
    · rw [cycs_no hm]
      exact ⟨h1, fun y => by rw [h2, seen_skip hm]⟩
theorem perm_sum {l l' : List Int} (h : l.Perm l') : l.sum = l'.sum := by
  induction h with
  | nil => rfl
  | cons x _ ih => simp [ih]
  | swap x y l => simp; omega
  | trans _ _ a b => exact a.trans b
/-- the lengths of all cycles -/
noncomputable def lens (p : List Int) (k : Nat) : List Int := (cycs p k).map fun c => (c.length : Int)
theorem sum_cast : ∀ (l : List (List Int)), (l.map fun c => (c.length : Int)).sum = ((l.flatten.length : Nat) : Int)
  | [] => rfl
  | c :: l => by
    rw [List.map_cons, List.sum_cons, sum_cast l, List.flatten_cons, List.length_append]; omega
theorem lens_sum {n : Nat} {p : List Int} (hp : PN n p) : (lens p n).sum = n := by
  obtain ⟨h1, h2⟩ := cycs_flat hp n (Nat.le_refl _)
  have h3 : (cycs p n).flatten.Perm (pts n) := (List.perm_ext_iff_of_nodup h1 (pts_nodup n)).2 fun y => by
    rw [h2, mem_pts]
    constructor
    · rintro ⟨x, hx, hy⟩
      obtain ⟨⟨x0, x1⟩, -⟩ := mem_mns.1 hx
      exact cyl_rng hp x0 x1 y hy
    · rintro ⟨y0, y1⟩
      obtain ⟨x, h4, h5⟩ := min_of hp y0 y1
      have hr := cyl_rng hp y0 y1 x h4
      exact ⟨x, mem_mns.2 ⟨hr, h5⟩, cyl_back hp y0 y1 h4⟩
  unfold lens
  rw [sum_cast, h3.length_eq, pts_len]
theorem lens_rng {n : Nat} {p : List Int} (hp : PN n p) : ∀ z ∈ lens p n, 1 ≤ z ∧ z ≤ n := by
  intro z hz
  unfold lens cycs at hz
  rw [List.map_map] at hz
  obtain ⟨x, hx, rfl⟩ := List.mem_map.1 hz
  obtain ⟨⟨x0, x1⟩, -⟩ := mem_mns.1 hx
  have h := per_ok hp x0 x1
  simp only [Function.comp_def, cyl_len]
  omega
/-- the numbers of a list from k down -/
def dsc (l : List Int) : Nat → List Int
  | 0 => []
  | k + 1 => l.filter (fun z => decide (z = ((k + 1 : Nat) : Int))) ++ dsc l k
theorem mem_dsc {l : List Int} {z : Int} : ∀ {k : Nat}, z ∈ dsc l k ↔ z ∈ l ∧ 1 ≤ z ∧ z ≤ k
  | 0 => by simp only [dsc]; constructor
            · intro h; cases h
            · rintro ⟨_, h1, h2⟩; omega
  | k + 1 => by
    simp only [dsc]
    rw [List.mem_append, mem_dsc, List.mem_filter, decide_eq_true_iff]
    constructor
    · rintro (⟨h1, h2⟩ | ⟨h1, h2, h3⟩)
      · exact ⟨h1, by omega, by omega⟩
      · exact ⟨h1, h2, by omega⟩
    · rintro ⟨h1, h2, h3⟩
      by_cases h : z = ((k + 1 : Nat) : Int)
      · exact Or.inl ⟨h1, h⟩
      · exact Or.inr ⟨h1, h2, by omega⟩
theorem dsc_desc (l : List Int) : ∀ k, (dsc l k).Pairwise (fun a b => b ≤ a)
  | 0 => List.Pairwise.nil
  | k + 1 => by
    simp only [dsc]
    rw [List.pairwise_append]
    refine ⟨?_, dsc_desc l k, fun a ha b hb => ?_⟩
    · rw [List.pairwise_filter]
      refine List.Pairwise.imp_of_mem (R := fun _ _ => True) (fun {a b} _ _ _ ha hb => ?_) (List.pairwise_of_forall fun _ _ => trivial)
      have := of_decide_eq_true ha; have := of_decide_eq_true hb; omega
    · have := of_decide_eq_true (List.mem_filter.1 ha).2
      have := (mem_dsc.1 hb).2.2
      omega
theorem dsc_perm (l : List Int) : ∀ k, (dsc l k).Perm (l.filter fun z => decide (1 ≤ z ∧ z ≤ k))
  | 0 => by
    have : (l.filter fun z => decide (1 ≤ z ∧ z ≤ ((0 : Nat) : Int))) = [] := by
      rw [List.filter_eq_nil_iff]; intro z _; simp; omega
    rw [this]; exact List.Perm.refl _
  | k + 1 => by
    simp only [dsc]
    refine ((dsc_perm l k).append_left _).trans ?_
    have h := List.filter_append_perm (fun z => decide (z = ((k + 1 : Nat) : Int))) (l.filter fun z => decide (1 ≤ z ∧ z ≤ ((k + 1 : Nat) : Int)))
    rw [List.filter_filter, List.filter_filter] at h
    refine List.Perm.trans (List.Perm.of_eq ?_) h
    congr 1
    · apply List.filter_congr
      intro z _
      by_cases e : z = ((k + 1 : Nat) : Int)
      · rw [decide_eq_true e, decide_eq_true (show 1 ≤ z ∧ z ≤ ((k + 1 : Nat) : Int) by omega)]; rfl
      · rw [decide_eq_false e]; rfl
    · apply List.filter_congr
      intro z _
      by_cases e : z = ((k + 1 : Nat) : Int)
      · rw [decide_eq_true e, decide_eq_false (show ¬ (1 ≤ z ∧ z ≤ (k : Int)) by omega)]; rfl
      · rw [decide_eq_false e]
        show decide (1 ≤ z ∧ z ≤ (k : Int)) = (true && decide (1 ≤ z ∧ z ≤ ((k + 1 : Nat) : Int)))
        rw [Bool.true_and]
        exact decide_eq_decide.2 (by omega)
/-- the cycle type -/
noncomputable def cyt (p : List Int) : List Int := dsc (lens p p.length) p.length
theorem cyt_perm {n : Nat} {p : List Int} (hp : PN n p) : (cyt p).Perm (lens p n) := by
  unfold cyt
  rw [hp.1]
  refine (dsc_perm _ _).trans (List.Perm.of_eq ?_)
  rw [List.filter_eq_self]
  intro z hz
  exact decide_eq_true (lens_rng hp z hz)
theorem cyt_desc (p : List Int) : (cyt p).Pairwise (fun a b => b ≤ a) := dsc_desc _ _
/-- whatever descends and has the same numbers is the cycle type -/
theorem cyt_eq {n : Nat} {p : List Int} (hp : PN n p) {l : List Int} (h : l.Perm (lens p n)) (hd : l.Pairwise (fun a b => b ≤ a)) : l = cyt p :=
  List.Perm.eq_of_pairwise (le := fun a b => b ≤ a) (fun a b _ _ h1 h2 => by omega) hd (cyt_desc p) (h.trans (cyt_perm hp).symm)
/-- the lengths of the longer cycles -/
noncomputable def lng (p : List Int) (k : Nat) : List Int := (lens p k).filter fun z => decide (1 < z)
theorem lng_perm {n : Nat} {p : List Int} (hp : PN n p) : (lng p n ++ List.replicate ((n : Int) - (lng p n).sum).toNat 1).Perm (lens p n) := by
  have h := List.filter_append_perm (fun z => decide ((1 : Int) < z)) (lens p n)
  have h1 : ((lens p n).filter fun z => !decide ((1 : Int) < z)) = List.replicate ((lens p n).filter fun z => !decide ((1 : Int) < z)).length 1 := by
    rw [List.eq_replicate_iff]
    refine ⟨rfl, fun z hz => ?_⟩
    obtain ⟨hz1, hz2⟩ := List.mem_filter.1 hz
    have := lens_rng hp z hz1
    simp at hz2
    omega
  have hs : ((lng p n) ++ ((lens p n).filter fun z => !decide ((1 : Int) < z))).sum = (n : Int) := by
    rw [← lens_sum hp]
    exact perm_sum h
  rw [List.sum_append] at hs
  have h2 : (((lens p n).filter fun z => !decide ((1 : Int) < z))).sum = ((((lens p n).filter fun z => !decide ((1 : Int) < z)).length : Nat) : Int) := by
    conv => lhs; rw [h1]
    simp
  rw [h2] at hs
  have e : ((n : Int) - (lng p n).sum).toNat = ((lens p n).filter fun z => !decide ((1 : Int) < z)).length := by omega
  rw [e, ← h1]
  exact h
theorem lng_sum_le {n : Nat} {p : List Int} (hp : PN n p) : 0 ≤ (n : Int) - (lng p n).sum := by
  have h := (lng_perm hp).length_eq
  have hs := perm_sum (lng_perm hp)
  rw [List.sum_append, lens_sum hp] at hs
  simp at hs
  omega
end PM

namespace Go.Proofs.Ytpcamkmoabhlhaa
open Go.RowKit
set_option maxRecDepth 10000

/-- w' is w with new blocks, and with writes to the blocks of fp alone -/
structure Only (fp : List Nat) (w w' : World) : Prop where
  os : w'.os = w.os
  tape : w'.tape = w.tape
  output : w'.output = w.output
  size : w.heap.size ≤ w'.heap.size
  block : ∀ k, k < w.heap.size → k ∉ fp → w'.heap[k]? = w.heap[k]?

theorem Only.refl (fp : List Nat) (w : World) : Only fp w w := ⟨rfl, rfl, rfl, Nat.le_refl _, fun _ _ _ => rfl⟩
theorem Only.mono {fp fp' : List Nat} {w w' : World} (h : Only fp w w') (hs : ∀ b ∈ fp, b < w.heap.size → b ∈ fp') : Only fp' w w' :=
  ⟨h.os, h.tape, h.output, h.size, fun k hk hn => h.block k hk fun hm => hn (hs k hm hk)⟩
theorem Only.trans {fp : List Nat} {a b c : World} (h : Only fp a b) (k : Only fp b c) : Only fp a c :=
  ⟨k.os.trans h.os, k.tape.trans h.tape, k.output.trans h.output, Nat.le_trans h.size k.size,
   fun i hi hn => (k.block i (Nat.lt_of_lt_of_le hi h.size) hn).trans (h.block i hi hn)⟩
/-- what is written behind the first step is new, or was allowed -/
theorem Only.then_ {fp fp' : List Nat} {a b c : World} (h : Only fp a b) (k : Only fp' b c) (hs : ∀ x ∈ fp', x < a.heap.size → x ∈ fp) : Only fp a c :=
  ⟨k.os.trans h.os, k.tape.trans h.tape, k.output.trans h.output, Nat.le_trans h.size k.size,
   fun i hi hn => (k.block i (Nat.lt_of_lt_of_le hi h.size) fun hm => hn (hs i hm hi)).trans (h.block i hi hn)⟩
theorem Only.keepThen {fp : List Nat} {a b c : World} (h : Only fp a b) (k : Only [] b c) : Only fp a c := h.then_ k (by simp)
theorem Only.weaken {a b : World} (h : Only [] a b) (fp : List Nat) : Only fp a b := h.mono (by simp)
theorem Only.drew {fp : List Nat} {a w : World} (h : Only fp a w) : Only fp a w.drew := ⟨h.os, h.tape, h.output, h.size, h.block⟩
theorem Only.drewN {fp : List Nat} {a w : World} (h : Only fp a w) (n : Nat) : Only fp a (w.drewN n) := ⟨h.os, h.tape, h.output, h.size, h.block⟩
theorem Only.alloc {fp : List Nat} {a w : World} (h : Only fp a w) (o : Obj) : Only fp a (w.alloc o) :=
  h.trans ⟨rfl, rfl, rfl, by simp, fun k hk _ => Below.heap_alloc _ _ _ hk⟩
theorem Only.setCell {fp : List Nat} {a w : World} (h : Only fp a w) {p : Addr} (hp : p.block < a.heap.size → p.block ∈ fp) (u : Value) : Only fp a (w.setCell p u) :=
  h.then_ (fp' := [p.block]) ⟨rfl, rfl, rfl, by simp [World.setCell], fun k hk hn => Below.heap_setCell _ _ _ _ (by simpa using hn)⟩ (by simpa using hp)
theorem Only.grown {fp : List Nat} {a w w' : World} {row : Option Nat} (h : Only fp a w) (hg : w.grownBy w' row) (hr : ∀ k, row = some k → k < a.heap.size → k ∈ fp) : Only fp a w' :=
  h.then_ (fp' := row.toList) ⟨hg.os, hg.tape, hg.output, hg.size, fun k hk hn => hg.block k hk (fun e => hn (by simp [← e]))⟩ (by
    intro x hx; exact hr x (by simpa using hx))
theorem Only.below {fp : List Nat} {w w' : World} {B : Nat} (h : Only fp w w') (hB : B ≤ w.heap.size) (hf : ∀ b ∈ fp, B ≤ b) : Below B w w' :=
  ⟨h.os, h.tape, h.output, h.size, fun k hk => h.block k (Nat.lt_of_lt_of_le hk hB) fun hm => by have := hf k hm; omega⟩
theorem Only.ofDrewN (w : World) (n : Nat) (fp : List Nat) : Only fp w (w.drewN n) := (Only.refl fp w).drewN n
theorem Only.cell {fp : List Nat} {w w' : World} (h : Only fp w w') {p : Addr} (hn : p.block ∉ fp) {v : Value} (hc : w.cell? p = some v) : w'.cell? p = some v :=
  (World.cell?_of_block (h.block p.block (World.block_lt_of_cell? w p hc) hn)).trans hc

/-- only answers were drawn -/
def Drew (w w' : World) : Prop := ∃ n, w' = w.drewN n
theorem Drew.refl (w : World) : Drew w w := ⟨0, rfl⟩
theorem Drew.drewN {a w : World} (h : Drew a w) (n : Nat) : Drew a (w.drewN n) := by
  obtain ⟨m, rfl⟩ := h; exact ⟨m + n, by rw [World.drewN_drewN]⟩
theorem Drew.drew {a w : World} (h : Drew a w) : Drew a w.drew := h.drewN 1
theorem Drew.trans {a b c : World} (h : Drew a b) (k : Drew b c) : Drew a c := by
  obtain ⟨m, rfl⟩ := k; exact h.drewN m
theorem Drew.only {a b : World} (h : Drew a b) (fp : List Nat) : Only fp a b := by
  obtain ⟨m, rfl⟩ := h; exact Only.ofDrewN a m fp

/-- the blocks of fp are rows of cells, none frozen -/
def Own (w : World) (fp : List Nat) : Prop := ∀ b ∈ fp, ∃ c e, w.heap[b]? = some (.cells c e (0, 0))

theorem Own.nil (w : World) : Own w [] := by intro b hb; cases hb
theorem Own.lt {w : World} {fp : List Nat} (h : Own w fp) : ∀ b ∈ fp, b < w.heap.size := by
  intro b hb
  obtain ⟨c, e, he⟩ := h b hb
  exact (Array.getElem?_eq_some_iff.1 he).1
theorem Own.frame {w w' : World} {fp : List Nat} (h : Own w fp) (hf : ∀ b ∈ fp, w'.heap[b]? = w.heap[b]?) : Own w' fp := by
  intro b hb; rw [hf b hb]; exact h b hb
theorem Own.only {w w' : World} {fp fp' : List Nat} (h : Own w fp) (ho : Only fp' w w') (hd : ∀ b ∈ fp, b ∉ fp') : Own w' fp :=
  h.frame fun b hb => ho.block b (h.lt b hb) (hd b hb)
theorem Own.keep {w w' : World} {fp : List Nat} (h : Own w fp) (ho : Only [] w w') : Own w' fp := h.only ho (by simp)
theorem Own.append {w : World} {fp fp' : List Nat} (h : Own w fp) (h' : Own w fp') : Own w (fp ++ fp') := by
  intro b hb; rcases List.mem_append.1 hb with hb | hb
  · exact h b hb
  · exact h' b hb
theorem Own.sub {w : World} {fp fp' : List Nat} (h : Own w fp) (hs : ∀ b ∈ fp', b ∈ fp) : Own w fp' := fun b hb => h b (hs b hb)
theorem Own.left {w : World} {fp fp' : List Nat} (h : Own w (fp ++ fp')) : Own w fp := fun b hb => h b (List.mem_append_left _ hb)
theorem Own.right {w : World} {fp fp' : List Nat} (h : Own w (fp ++ fp')) : Own w fp' := fun b hb => h b (List.mem_append_right _ hb)
theorem Own.frozen {w : World} {fp : List Nat} (h : Own w fp) {b off : Nat} (hb : b ∈ fp) : w.frozen? ⟨b, off, none⟩ = false := by
  obtain ⟨c, e, he⟩ := h b hb
  simp [World.frozen?, he]
theorem Own.setCell {w : World} {fp : List Nat} (h : Own w fp) (p : Addr) (u : Value) : Own (w.setCell p u) fp := by
  intro b hb
  obtain ⟨c, e, he⟩ := h b hb
  by_cases hp : p.block = b
  · subst hp
    exact ⟨if p.spot.isSome = true then c else c.setIfInBounds p.off u, e, by simp [World.setCell, Array.getElem?_modify, he]⟩
  · exact ⟨c, e, by rw [Below.heap_setCell _ _ _ _ (fun e => hp e.symm)]; exact he⟩

/-- memory of a call's own: all from block B on, all different, none frozen -/
structure Fresh (B : Nat) (w : World) (fp : List Nat) : Prop where
  nd : fp.Nodup
  ge : ∀ b ∈ fp, B ≤ b
  own : Own w fp
theorem Fresh.nil (B : Nat) (w : World) : Fresh B w [] := ⟨List.nodup_nil, by simp, Own.nil w⟩
theorem Fresh.keep {B : Nat} {w w' : World} {fp : List Nat} (h : Fresh B w fp) (ho : Only [] w w') : Fresh B w' fp := ⟨h.nd, h.ge, h.own.keep ho⟩
theorem Fresh.only {B : Nat} {w w' : World} {fp fp' : List Nat} (h : Fresh B w fp) (ho : Only fp' w w') (hd : ∀ b ∈ fp, b ∉ fp') : Fresh B w' fp := ⟨h.nd, h.ge, h.own.only ho hd⟩
theorem Fresh.mono {B B' : Nat} {w : World} {fp : List Nat} (h : Fresh B w fp) (hB : B' ≤ B) : Fresh B' w fp := ⟨h.nd, fun b hb => Nat.le_trans hB (h.ge b hb), h.own⟩
theorem Fresh.lt {B : Nat} {w : World} {fp : List Nat} (h : Fresh B w fp) : ∀ b ∈ fp, b < w.heap.size := h.own.lt
/-- the second was made behind the first -/
theorem Fresh.append {B B' : Nat} {w : World} {fp fp' : List Nat} (h : Fresh B w fp) (h' : Fresh B' w fp') (hB : B ≤ B') (hlt : ∀ b ∈ fp, b < B') : Fresh B w (fp ++ fp') :=
  ⟨List.nodup_append.2 ⟨h.nd, h'.nd, fun a ha b hb e => by have := hlt a ha; have := h'.ge b hb; omega⟩,
   fun b hb => by rcases List.mem_append.1 hb with hb | hb
                  · exact h.ge b hb
                  · exact Nat.le_trans hB (h'.ge b hb), h.own.append h'.own⟩
theorem Fresh.left {B : Nat} {w : World} {fp fp' : List Nat} (h : Fresh B w (fp ++ fp')) : Fresh B w fp :=
  ⟨(List.nodup_append.1 h.nd).1, fun b hb => h.ge b (List.mem_append_left _ hb), h.own.left⟩
theorem Fresh.right {B : Nat} {w : World} {fp fp' : List Nat} (h : Fresh B w (fp ++ fp')) : Fresh B w fp' :=
  ⟨(List.nodup_append.1 h.nd).2.1, fun b hb => h.ge b (List.mem_append_right _ hb), h.own.right⟩

theorem ret_int {k : IntKind} {a b : Int} (h : a = b) : Ending.returned (.int k a) = .returned (.int k b) := by rw [h]
theorem ret_bool {a b : Bool} (h : a = b) : Ending.returned (.bool a) = .returned (.bool b) := by rw [h]

/-- an int64 -/
def I64 (n : Int) : Prop := -9223372036854775808 ≤ n ∧ n ≤ 9223372036854775807

/-- how plain data lies in memory: the cells of a variable, what they reach (fp) -/
class Rp (α : Type) where
  size : Nat
  rep : World → List Value → α → List Nat → Prop
  len : ∀ {w cs x fp}, rep w cs x fp → cs.length = size
  frame : ∀ {w w' : World} {cs x fp}, rep w cs x fp → (∀ b ∈ fp, w'.heap[b]? = w.heap[b]?) → rep w' cs x fp
  lt : ∀ {w cs x fp}, rep w cs x fp → ∀ b ∈ fp, b < w.heap.size

theorem Rp.only {α : Type} [Rp α] {w w' : World} {cs : List Value} {x : α} {fp fp' : List Nat} (h : Rp.rep w cs x fp) (ho : Only fp' w w') (hd : ∀ b ∈ fp, b ∉ fp') : Rp.rep w' cs x fp :=
  Rp.frame h fun b hb => ho.block b (Rp.lt h b hb) (hd b hb)
theorem Rp.keep {α : Type} [Rp α] {w w' : World} {cs : List Value} {x : α} {fp : List Nat} (h : Rp.rep w cs x fp) (ho : Only [] w w') : Rp.rep w' cs x fp := Rp.only h ho (by simp)

instance : Rp Int where
  size := 1
  rep _ cs n fp := cs = [.int .i64 n] ∧ I64 n ∧ fp = []
  len h := by rw [h.1]; rfl
  frame h _ := h
  lt h := by rw [h.2.2]; simp

/-- the slice of address a and capacity cap reads as xs; its cells, if any, lie in the block of ob; what they reach: fps -/
structure SeqA {α : Type} [Rp α] (w : World) (a : Option Addr) (cap : Nat) (xs : List α) (ob : List Nat) (fps : List (List Nat)) : Prop where
  len : xs.length ≤ cap
  cap : cap ≤ maxLen
  nf : fps.length = xs.length
  at_ : ∀ k (h : k < xs.length), ∃ b off cs, a = some ⟨b, off, none⟩ ∧ ob = [b] ∧ (∀ j u, cs[j]? = some u → w.cell? ⟨b, off + k * Rp.size α + j, none⟩ = some u) ∧ Rp.rep w cs (xs[k]) (fps[k]'(by omega))
  lt : ∀ b ∈ ob, b < w.heap.size
  one : ob.length ≤ 1

section
variable {α : Type} [Rp α] {w w' : World} {a : Option Addr} {cap : Nat} {xs : List α} {ob : List Nat} {fps : List (List Nat)}
theorem SeqA.nil (w : World) (a : Option Addr) {cap : Nat} (h : cap ≤ maxLen) : SeqA w a cap ([] : List α) [] [] := ⟨Nat.zero_le _, h, rfl, by simp, by simp, by simp⟩
theorem SeqA.bound (h : SeqA w a cap xs ob fps) : xs.length ≤ 9223372036854775807 := by
  have h1 := h.len; have h2 := h.cap; unfold maxLen at h2; omega
theorem SeqA.lt_all (h : SeqA w a cap xs ob fps) : ∀ b ∈ ob ++ fps.flatten, b < w.heap.size := by
  intro b hb
  rcases List.mem_append.1 hb with hb | hb
  · exact h.lt b hb
  · obtain ⟨f, hf, hb⟩ := List.mem_flatten.1 hb
    obtain ⟨k, hk, rfl⟩ := List.getElem_of_mem hf
    obtain ⟨_, _, _, _, _, _, hr⟩ := h.at_ k (by have := h.nf; omega)
    exact Rp.lt hr b hb
theorem SeqA.frame (h : SeqA w a cap xs ob fps) (hf : ∀ b ∈ ob ++ fps.flatten, w'.heap[b]? = w.heap[b]?) : SeqA w' a cap xs ob fps := by
  refine ⟨h.len, h.cap, h.nf, fun k hk => ?_, fun b hb => ?_, h.one⟩
  · obtain ⟨b, off, cs, ha, hob, hc, hr⟩ := h.at_ k hk
    refine ⟨b, off, cs, ha, hob, fun j u hu => ?_, Rp.frame hr fun b hb => hf b (List.mem_append_right _ (List.mem_flatten.2 ⟨_, List.getElem_mem _, hb⟩))⟩
    rw [World.cell?_of_block (w := w) (hf b (by simp [hob]))]
    exact hc j u hu
  · have := hf b (List.mem_append_left _ hb)
    rw [Array.getElem?_eq_getElem (h.lt b hb)] at this
    exact (Array.getElem?_eq_some_iff.1 this).1
end

instance {α : Type} [Rp α] : Rp (List α) where
  size := 1
  rep w cs xs fp := ∃ a cap ob fps, cs = [.slice a xs.length cap] ∧ fp = ob ++ fps.flatten ∧ SeqA w a cap xs ob fps
  len h := by obtain ⟨_, _, _, _, rfl, _⟩ := h; rfl
  frame h hf := by
    obtain ⟨a, cap, ob, fps, hcs, hfp, hs⟩ := h
    exact ⟨a, cap, ob, fps, hcs, hfp, hs.frame fun b hb => hf b (by rw [hfp]; exact hb)⟩
  lt h := by
    obtain ⟨a, cap, ob, fps, hcs, hfp, hs⟩ := h
    rw [hfp]; exact hs.lt_all

/-- the value v of a variable of one cell reads as x -/
abbrev Rd {α : Type} [Rp α] (w : World) (v : Value) (x : α) (fp : List Nat) : Prop := Rp.rep w [v] x fp

section
variable {α : Type} [Rp α] {w w' : World} {v : Value} {xs : List α} {fp : List Nat}
theorem Rd.open_ (h : Rd w v xs fp) : ∃ a cap ob fps, v = .slice a xs.length cap ∧ fp = ob ++ fps.flatten ∧ SeqA w a cap xs ob fps := by
  obtain ⟨a, cap, ob, fps, hcs, r⟩ := h
  exact ⟨a, cap, ob, fps, by simpa using hcs, r⟩
theorem SeqA.rd {a : Option Addr} {cap : Nat} {ob : List Nat} {fps : List (List Nat)} (h : SeqA w a cap xs ob fps) : Rd w (.slice a xs.length cap) xs (ob ++ fps.flatten) :=
  ⟨a, cap, ob, fps, rfl, rfl, h⟩
end

/-- slices of int64: the same in simpler words -/
structure IntsA (w : World) (a : Option Addr) (cap : Nat) (l : List Int) (fp : List Nat) : Prop where
  len : l.length ≤ cap
  cap : cap ≤ maxLen
  wf : ∀ x ∈ l, I64 x
  at_ : ∀ k (h : k < l.length), ∃ b off, a = some ⟨b, off, none⟩ ∧ fp = [b] ∧ w.cell? ⟨b, off + k, none⟩ = some (.int .i64 l[k])
  lt : ∀ b ∈ fp, b < w.heap.size
  one : fp.length ≤ 1

section
variable {w w' : World} {a : Option Addr} {cap : Nat} {l : List Int} {fp : List Nat}
theorem flatten_nil (n : Nat) : (List.replicate n ([] : List Nat)).flatten = [] := by
  induction n with
  | zero => rfl
  | succ n ih => simp [List.replicate_succ]
theorem SeqA.ints {ob : List Nat} {fps : List (List Nat)} (h : SeqA w a cap l ob fps) : IntsA w a cap l ob ∧ fps.flatten = [] := by
  have hE : ∀ k (hk : k < l.length), ∃ b off, a = some ⟨b, off, none⟩ ∧ ob = [b] ∧ w.cell? ⟨b, off + k, none⟩ = some (.int .i64 l[k]) ∧ I64 l[k] ∧ fps[k]'(by have := h.nf; omega) = [] := by
    intro k hk
    obtain ⟨b, off, cs, ha, hob, hc, rfl, hi, hf⟩ := h.at_ k hk
    have := hc 0 _ rfl
    exact ⟨b, off, ha, hob, by simpa [Rp.size] using this, hi, hf⟩
  refine ⟨⟨h.len, h.cap, fun x hx => ?_, fun k hk => ?_, h.lt, h.one⟩, ?_⟩
  · obtain ⟨k, hk, rfl⟩ := List.getElem_of_mem hx
    obtain ⟨_, _, _, _, _, hi, _⟩ := hE k hk
    exact hi
  · obtain ⟨b, off, ha, hob, hc, _⟩ := hE k hk
    exact ⟨b, off, ha, hob, hc⟩
  · have : fps = List.replicate fps.length [] := by
      apply List.ext_getElem (by simp)
      intro k h1 h2
      obtain ⟨_, _, _, _, _, _, hf⟩ := hE k (by have := h.nf; omega)
      simpa using hf
    rw [this]; exact flatten_nil _
theorem IntsA.seq (h : IntsA w a cap l fp) : SeqA w a cap l fp (List.replicate l.length []) := by
  refine ⟨h.len, h.cap, by simp, fun k hk => ?_, h.lt, h.one⟩
  obtain ⟨b, off, ha, hf, hc⟩ := h.at_ k hk
  refine ⟨b, off, [.int .i64 l[k]], ha, hf, fun j u hu => ?_, rfl, h.wf _ (List.getElem_mem _), by simp⟩
  cases j with
  | zero => simp at hu; subst hu; simpa [Rp.size] using hc
  | succ j => simp at hu
theorem IntsA.rd (h : IntsA w a cap l fp) : Rd w (.slice a l.length cap) l fp :=
  ⟨a, cap, fp, _, rfl, by rw [flatten_nil]; simp, h.seq⟩
theorem Rd.ints {v : Value} (h : Rd w v l fp) : ∃ a cap, v = .slice a l.length cap ∧ IntsA w a cap l fp := by
  obtain ⟨a, cap, ob, fps, rfl, rfl, hs⟩ := h.open_
  obtain ⟨h1, h2⟩ := hs.ints
  exact ⟨a, cap, rfl, by rw [h2]; simpa using h1⟩
theorem IntsA.nil (w : World) (a : Option Addr) {cap : Nat} (h : cap ≤ maxLen) : IntsA w a cap [] [] := ⟨Nat.zero_le _, h, by simp, by simp, by simp, by simp⟩
theorem IntsA.bound (h : IntsA w a cap l fp) : l.length ≤ 9223372036854775807 := by
  have h1 := h.len; have h2 := h.cap; unfold maxLen at h2; omega
theorem IntsA.frame (h : IntsA w a cap l fp) (hf : ∀ b ∈ fp, w'.heap[b]? = w.heap[b]?) : IntsA w' a cap l fp := by
  refine ⟨h.len, h.cap, h.wf, fun k hk => ?_, fun b hb => ?_, h.one⟩
  · obtain ⟨b, off, ha, hfp, hc⟩ := h.at_ k hk
    refine ⟨b, off, ha, hfp, ?_⟩
    rw [World.cell?_of_block (w := w) (hf b (by simp [hfp]))]
    exact hc
  · have := hf b hb
    rw [Array.getElem?_eq_getElem (h.lt b hb)] at this
    exact (Array.getElem?_eq_some_iff.1 this).1
theorem IntsA.only (h : IntsA w a cap l fp) {fp' : List Nat} (ho : Only fp' w w') (hd : ∀ b ∈ fp, b ∉ fp') : IntsA w' a cap l fp :=
  h.frame fun b hb => ho.block b (h.lt b hb) (hd b hb)
theorem IntsA.keep (h : IntsA w a cap l fp) (ho : Only [] w w') : IntsA w' a cap l fp := h.only ho (by simp)
theorem IntsA.nodup (h : IntsA w a cap l fp) : fp.Nodup := by
  have := h.one
  match fp, this with
  | [], _ => exact List.nodup_nil
  | [b], _ => simp
theorem IntsA.set {b off j : Nat} {x : Int} (h : IntsA w (some ⟨b, off, none⟩) cap l fp) (hx : I64 x) :
    IntsA (w.setCell ⟨b, off + j, none⟩ (.int .i64 x)) (some ⟨b, off, none⟩) cap (l.set j x) fp := by
  refine ⟨by simpa using h.len, h.cap, ?_, ?_, fun b hb => by simpa [World.setCell] using h.lt b hb, h.one⟩
  · intro y hy
    rcases List.mem_or_eq_of_mem_set hy with hy | rfl
    · exact h.wf y hy
    · exact hx
  · intro k hk
    have hk' : k < l.length := by simpa using hk
    obtain ⟨b', off', ha, hf, hc⟩ := h.at_ k hk'
    injection ha with ha; injection ha with hb ho; subst hb; subst ho
    refine ⟨b, off, rfl, hf, ?_⟩
    by_cases hkj : j = k
    · subst hkj
      rw [World.cell?_setCell_same _ _ _ hc]; simp
    · rw [World.cell?_setCell_other _ _ _ _ (by simp), hc]
      simp [hkj]
end

/-- relabelling: all the numbers of a datum, from k on, in order; how many there are -/
class Mk (α : Type) where
  mark : Int → α → α
  cnt : α → Nat

instance : Mk Int := ⟨fun k _ => k, fun _ => 1⟩
def markL {α : Type} [Mk α] : Int → List α → List α
  | _, [] => []
  | k, x :: xs => Mk.mark k x :: markL (k + (Mk.cnt x : Nat)) xs
def cntL {α : Type} [Mk α] : List α → Nat
  | [] => 0
  | x :: xs => Mk.cnt x + cntL xs
instance {α : Type} [Mk α] : Mk (List α) := ⟨markL, cntL⟩

open Classical in
/-- what the laws' 'eq' functions answer -/
noncomputable def eqV {α : Type} (x y : α) : Bool := decide (x = y)

theorem eqV_yes {α : Type} {x y : α} (h : x = y) : eqV x y = true := by unfold eqV; simp [h]
theorem eqV_no {α : Type} {x y : α} (h : x ≠ y) : eqV x y = false := by unfold eqV; simp [h]
theorem eqV_iff {α : Type} {x y : α} : eqV x y = true ↔ x = y := by unfold eqV; simp
theorem eqV_iff' {α : Type} {x y : α} : eqV x y = false ↔ x ≠ y := by unfold eqV; simp

section
variable {α : Type} [Mk α]
theorem take_succ_get {β : Type} (l : List β) (j : Nat) (h : j < l.length) : l.take (j + 1) = l.take j ++ [l[j]] := by
  rw [List.take_succ_eq_append_getElem h]
end
theorem cntL_ints (l : List Int) : cntL l = l.length := by
  induction l with
  | nil => rfl
  | cons x l ih => simp [cntL, ih, Mk.cnt]; omega

end Go.Proofs.Ytpcamkmoabhlhaa

namespace Go.Proofs.Ytpcamkmoabhlhaa
open Go.RowKit
set_option maxRecDepth 10000
theorem eqL_len {α : Type} {l l' : List α} (h : ((l.length : Int) != (l'.length : Int)) = true) : eqV l l' = false := by
  apply eqV_no; rintro rfl; simp at h
theorem eqInts_no {l l' : List Int} {j : Nat} (h1 : j < l.length) (h2 : j < l'.length) (h : (l[j] != l'[j]) = true) : eqV l l' = false := by
  apply eqV_no; rintro rfl; simp at h
theorem eqL_no {α : Type} {l l' : List α} {j : Nat} (h1 : j < l.length) (h2 : j < l'.length) (h : eqV l[j] l'[j] = false) : eqV l l' = false := by
  apply eqV_no; rintro rfl; rw [eqV_iff'] at h; exact h rfl
theorem eqL_yes {α : Type} {l l' : List α} {j : Nat} (hl : l.length = l'.length) (hj : ¬ j < l.length) (h : l.take j = l'.take j) : eqV l l' = true := by
  apply eqV_yes
  rw [List.take_of_length_le (by omega), List.take_of_length_le (by omega)] at h
  exact h
theorem eqInts_step {l l' : List Int} {j : Nat} (h1 : j < l.length) (h2 : j < l'.length) (h : (l[j] != l'[j]) = false) (hr : l.take j = l'.take j) : l.take (j + 1) = l'.take (j + 1) := by
  rw [take_succ_get l j h1, take_succ_get l' j h2, hr]
  simp at h; rw [h]
theorem eqL_step {α : Type} {l l' : List α} {j : Nat} (h1 : j < l.length) (h2 : j < l'.length) (h : eqV l[j] l'[j] = true) (hr : l.take j = l'.take j) : l.take (j + 1) = l'.take (j + 1) := by
  rw [take_succ_get l j h1, take_succ_get l' j h2, hr]
  rw [eqV_iff] at h; rw [h]

set_option maxHeartbeats 400000 in
theorem eqInt64S_any (a a' : Option Addr) (cap cap' : Nat) (l l' : List Int) (fp fp' : List Nat) (w : World) (h : IntsA w a cap l fp) (h' : IntsA w a' cap' l' fp') :
    Calls Try.prog 12 #[.slice a l.length cap, .slice a' l'.length cap'] w fun e w' => e = .returned (.bool (eqV l l')) ∧ Drew w w' := by
  have hb := h.bound
  have hb' := h'.bound
  by_cases hl : l.length = l'.length
  · have hne : ((l.length : Int) != (l'.length : Int)) = false := by simp [hl]
    have Hl := Lib.hid hl; clear hl
    go_enter Try.func12, Try.ntmps12
    go_wp2
    go_loopw [5] (fun i wr => ∃ j : Nat, j ≤ l.length ∧ i = .int .i64 j ∧ l.take j = l'.take j ∧ Drew w wr)
      (fun i _ => l.length - (intOf i).toNat)
    case atStart => exact ⟨0, Nat.zero_le _, rfl, rfl, Drew.refl _⟩
    case round =>
      obtain ⟨j, hj, rfl, hr, n, rfl⟩ := hrel
      have Hr := Lib.hid hr; clear hr
      by_cases hlt : j < l.length
      · have hlt' : j < l'.length := by have := Hl.out; omega
        obtain ⟨b, off, ha, -, hc⟩ := h.at_ j hlt
        obtain ⟨b', off', ha', -, hc'⟩ := h'.at_ j hlt'
        go_wp2
        go_quiet (fail)
        go_wp2
        · have hne : (l[j] != l'[j]) = true := by assumption
          go_ret
          exact ⟨ret_bool (eqInts_no hlt hlt' hne).symm, ((Drew.refl _).drewN _).drewN _⟩
        · have heq : (l[j] != l'[j]) = false := by assumption
          go_roundw
          case rel => exact ⟨j + 1, by omega, by go_num, eqInts_step hlt hlt' heq Hr.out, ⟨_, rfl⟩⟩
          case measure => simp [intOf]; omega
      · go_wp2
        go_ret
        exact ⟨ret_bool (eqL_yes Hl.out hlt Hr.out).symm, (Drew.refl _).drewN n⟩
  · have hne : ((l.length : Int) != (l'.length : Int)) = true := by simp; omega
    go_enter Try.func12, Try.ntmps12
    go_wp2
    go_ret
    exact ⟨ret_bool (eqL_len hne).symm, Drew.refl _⟩

theorem Try.info2 : (Try.prog.info? 2).map (fun i => (i.zero, i.size, i.bytes)) = some (some (.int .i64 0), 1, 8) := by kernel_rfl
theorem madeInts (n : Nat) : (madeCells (Value.cells (.int .i64 0)) n).toList = List.replicate n (.int .i64 0) := by
  apply List.ext_getElem (by simp [madeCells])
  intro i h1 h2
  simp [madeCells, Value.cells, Nat.mod_one]
/-- a row of the call's own that holds int64s -/
theorem own_ints {w : World} {base : Nat} {e : TypeId} {v : Value} {n : Nat} {l : List Int} (h : w.ownsRow base e 1 v n (l.map (.int .i64))) (hl : ∀ x ∈ l, I64 x) :
    ∃ a cap, v = .slice a l.length cap ∧ n = l.length ∧ IntsA w a cap l v.ownBlock.toList ∧ Fresh base w v.ownBlock.toList := by
  obtain ⟨h1, h2⟩ := h
  have hn : n = l.length := by simpa using h1.symm
  subst hn
  rcases h2 with ⟨rfl, h0⟩ | ⟨g, cap, cur, rfl, hb, hg, hnc, hcm, hcs, htake⟩
  · have : l = [] := List.eq_nil_of_length_eq_zero h0
    subst this
    exact ⟨none, 0, rfl, rfl, IntsA.nil w none (by simp [maxLen]), Fresh.nil _ _⟩
  · refine ⟨some ⟨g, 0, none⟩, cap, rfl, rfl, ⟨hnc, hcm, hl, fun k hk => ⟨g, 0, rfl, rfl, ?_⟩, ?_, by simp [Value.ownBlock]⟩, ⟨by simp [Value.ownBlock], by simpa [Value.ownBlock] using hb, ?_⟩⟩
    · have hh : (l.map (Value.int .i64))[k]? = some (.int .i64 l[k]) := by simp [hk]
      rw [← htake, List.getElem?_take] at hh
      split at hh
      · rw [cell_of_row w g _ cur e (0, 0) hg]; simpa using hh
      · cases hh
    · intro b hb'
      simp [Value.ownBlock] at hb'; subst hb'
      exact (Array.getElem?_eq_some_iff.1 hg).1
    · intro b hb'
      simp [Value.ownBlock] at hb'; subst hb'
      exact ⟨_, _, hg⟩

theorem copy_step (l : List Int) (j : Nat) (h : j < l.length) :
    ((l.take j).map (Value.int .i64) ++ List.replicate (l.length - j) (Value.int .i64 0)).set j (.int .i64 l[j]) = (l.take (j + 1)).map (Value.int .i64) ++ List.replicate (l.length - (j + 1)) (.int .i64 0) := by
  rw [take_succ_get l j h, List.set_append_right _ _ (by simp; omega)]
  have h1 : j - ((l.take j).map (Value.int .i64)).length = 0 := by simp; omega
  have h2 : l.length - j = (l.length - (j + 1)) + 1 := by omega
  rw [h1, h2, List.replicate_succ]
  simp only [List.set, List.map_append, List.map_cons, List.map_nil, List.append_assoc, List.cons_append, List.nil_append]

set_option maxHeartbeats 400000 in
theorem toInt64S_any (a : Option Addr) (cap : Nat) (l : List Int) (fp : List Nat) (w : World) (h : IntsA w a cap l fp) (hl : l.length ≤ 2097152) :
    Calls Try.prog 9 #[.slice a l.length cap] w fun e w' => ∃ v fp', e = .returned v ∧ Rd w' v l fp' ∧ Fresh w.heap.size w' fp' ∧ Only [] w w' := by
  obtain ⟨i0, hi, hz0, hz1, hz2⟩ := info_parts Try.info2
  go_enter Try.func9, Try.ntmps9
  go_wp2_with (at_make; refine wpList_make_full _ rfl _ _ 23 rfl w.heap.size 2 i0 _ 1 Try.underlying23 hi hz0 hz1 _ _ _ _ l.length rfl rfl rfl rfl (by rw [hz2]; omega) (by unfold maxLen; omega) (Nat.le_refl _) ?_; intro w1 hown hg)
  rw [madeInts, Nat.mul_one] at hown
  have hs1 := hg.size
  go_loopw [4] (fun i wr => ∃ j : Nat, j ≤ l.length ∧ i = .int .i64 j ∧
      wr.ownsRow w.heap.size 2 1 (.slice (some ⟨w.heap.size, 0, none⟩) l.length l.length) l.length ((l.take j).map (Value.int .i64) ++ List.replicate (l.length - j) (.int .i64 0)) ∧ Only [] w wr)
    (fun i _ => l.length - (intOf i).toNat)
  case atStart => exact ⟨0, Nat.zero_le _, rfl, by simpa using hown, (Only.refl _ _).grown hg (by simp)⟩
  case round =>
    obtain ⟨j, hj, rfl, hO, hK⟩ := hrel
    by_cases hlt : j < l.length
    · obtain ⟨b, off, ha, -, hc⟩ := (h.keep hK).at_ j hlt
      obtain ⟨hO2, hg2⟩ := hO.stored j (.int .i64 l[j])
      rw [copy_step l j hlt] at hO2
      have hc2 : wr.cell? ⟨w.heap.size, j, none⟩ = some (.int .i64 0) := by
        rw [hO.cellAt j (by omega), List.getElem?_append_right (by simp; omega), List.getElem?_replicate, if_pos (by simp; omega)]
      have hf2 := hO.frozenAt j
      have hK2 := hK.setCell (p := ⟨w.heap.size, j, none⟩) (by simp) (.int .i64 l[j])
      have HO := Lib.hid hO2
      clear hO hO2 hg hg2 hown
      go_wp2
      go_roundw
      case rel => exact ⟨j + 1, by omega, by go_num, HO.out, hK2⟩
      case measure => simp [intOf]; omega
    · have hjl : j = l.length := by omega
      rw [hjl] at hO
      simp only [List.take_length, Nat.sub_self, List.replicate_zero, List.append_nil] at hO
      obtain ⟨a', cap', hv, -, hI, hF⟩ := own_ints hO h.wf
      have HI := Lib.hid hI
      have Hv := Lib.hid hv
      clear hjl hO hv hown hI
      go_wp2
      go_ret
      refine ⟨_, _, rfl, ?_, hF, hK⟩
      have hr := HI.out.rd
      rw [← Hv.out] at hr; exact hr
end Go.Proofs.Ytpcamkmoabhlhaa
