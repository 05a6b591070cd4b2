/- Plain facts on permutations as lists of numbers. -/
namespace PM

section
variable {α : Type} [DecidableEq α]
theorem nodup_sub_len : ∀ {l1 l2 : List α}, l1.Nodup → l1 ⊆ l2 → l1.length ≤ l2.length := by
  intro l1
  induction l1 with
  | nil => intro l2 _ _; simp
  | cons a t ih =>
    intro l2 hn hs
    obtain ⟨ha, ht⟩ := List.nodup_cons.1 hn
    have ham : a ∈ l2 := hs (by simp)
    have h1 : t ⊆ l2.erase a := by
      intro x hx
      refine (List.mem_erase_of_ne ?_).2 (hs (by simp [hx]))
      intro e; subst e; exact ha hx
    have h2 := ih ht h1
    have h3 := List.length_erase_of_mem ham
    have h4 : 0 < l2.length := List.length_pos_of_mem ham
    simp only [List.length_cons]
    omega
/-- a list without repetitions that lies within a list no longer has all of it -/
theorem nodup_sub_all {l1 l2 : List α} (hn : l1.Nodup) (hs : l1 ⊆ l2) (hl : l2.length ≤ l1.length) : l2 ⊆ l1 := by
  intro x hx
  apply Classical.byContradiction
  intro hxn
  have h := nodup_sub_len (List.nodup_cons.2 ⟨hxn, hn⟩) (l2 := l2) (by
    intro y hy
    rcases List.mem_cons.1 hy with rfl | hy
    · exact hx
    · exact hs hy)
  simp at h
  omega
/-- a list that has all of a list without repetitions, and is no longer, has no repetition -/
theorem nodup_of_all : ∀ {l1 l2 : List α}, l1.Nodup → l1 ⊆ l2 → l2.length ≤ l1.length → l2.Nodup := by
  intro l1
  induction l1 with
  | nil =>
    intro l2 _ _ hl
    have : l2 = [] := List.eq_nil_of_length_eq_zero (by simpa using hl)
    subst this; exact List.nodup_nil
  | cons a t ih =>
    intro l2 hn hs hl
    obtain ⟨ha, ht⟩ := List.nodup_cons.1 hn
    have ham : a ∈ l2 := hs (by simp)
    have h1 : t ⊆ l2.erase a := by
      intro x hx
      refine (List.mem_erase_of_ne ?_).2 (hs (by simp [hx]))
      intro e; subst e; exact ha hx
    have h3 := List.length_erase_of_mem ham
    have h4 : 0 < l2.length := List.length_pos_of_mem ham
    simp only [List.length_cons] at hl
    have h5 := ih ht h1 (by omega)
    have h6 : a ∉ l2.erase a := by
      intro hm
      have := nodup_sub_len hn (l2 := l2.erase a) (by
        intro y hy
        rcases List.mem_cons.1 hy with rfl | hy
        · exact hm
        · exact h1 hy)
      simp at this
      omega
    exact (List.perm_cons_erase ham).nodup_iff.2 (List.nodup_cons.2 ⟨h6, h5⟩)
end

/-- the numbers 0, 1, .., n-1 -/
def pts (n : Nat) : List Int := (List.range n).map (fun k : Nat => (k : Int))
theorem pts_len (n : Nat) : (pts n).length = n := by simp [pts]
theorem mem_pts {n : Nat} {x : Int} : x ∈ pts n ↔ 0 ≤ x ∧ x < n := by
  simp only [pts, List.mem_map, List.mem_range]
  constructor
  · rintro ⟨k, hk, rfl⟩; omega
  · intro ⟨h1, h2⟩; exact ⟨x.toNat, by omega, by omega⟩
theorem pts_nodup (n : Nat) : (pts n).Nodup := by
  exact List.Pairwise.map _ (fun a b (h : a ≠ b) hab => h (by omega)) List.nodup_range
theorem pts_get (n k : Nat) (h : k < (pts n).length) : (pts n)[k] = (k : Int) := by simp [pts]

/-- p is a permutation of its indices -/
def IsP (p : List Int) : Prop := (∀ x ∈ p, 0 ≤ x ∧ x < p.length) ∧ p.Nodup
instance (p : List Int) : Decidable (IsP p) := by unfold IsP; exact inferInstance
theorem IsP.sub {p : List Int} (h : IsP p) : p ⊆ pts p.length := fun x hx => mem_pts.2 (h.1 x hx)
theorem IsP.all {p : List Int} (h : IsP p) : pts p.length ⊆ p := nodup_sub_all h.2 h.sub (by rw [pts_len]; exact Nat.le_refl _)
theorem isP_of_all {p : List Int} (h1 : ∀ x ∈ p, 0 ≤ x ∧ x < p.length) (h2 : pts p.length ⊆ p) : IsP p :=
  ⟨h1, nodup_of_all (pts_nodup _) h2 (by rw [pts_len]; exact Nat.le_refl _)⟩

/-- the numbers of a list as bits -/
def mask : List Int → Nat
  | [] => 0
  | x :: l => 2 ^ x.toNat ||| mask l
theorem mask_append (l : List Int) (x : Int) : mask (l ++ [x]) = mask l ||| 2 ^ x.toNat := by
  induction l with
  | nil => simp [mask]
  | cons y l ih => simp [mask, ih, Nat.or_assoc]
theorem mask_bit (l : List Int) (h : ∀ x ∈ l, 0 ≤ x) (k : Nat) : (mask l).testBit k = decide ((k : Int) ∈ l) := by
  induction l with
  | nil => simp [mask]
  | cons x l ih =>
    rw [mask, Nat.testBit_or, ih (fun y hy => h y (by simp [hy])), Nat.testBit_two_pow]
    have hx := h x (by simp)
    have : (x.toNat = k) ↔ ((k : Int) = x) := by omega
    simp [this]
theorem mask_lt (l : List Int) (n : Nat) (h : ∀ x ∈ l, 0 ≤ x ∧ x < n) : mask l < 2 ^ n := by
  induction l with
  | nil => simp [mask]; exact Nat.pow_pos (by decide)
  | cons x l ih =>
    have hx := h x (by simp)
    exact Nat.or_lt_two_pow (Nat.pow_lt_pow_right (by decide) (by omega)) (ih fun y hy => h y (by simp [hy]))
theorem mask_full (p : List Int) (h : ∀ x ∈ p, 0 ≤ x ∧ x < p.length) : mask p = 2 ^ p.length - 1 ↔ IsP p := by
  constructor
  · intro hm
    refine isP_of_all h fun x hx => ?_
    obtain ⟨h0, h1⟩ := mem_pts.1 hx
    have hb := mask_bit p (fun y hy => (h y hy).1) x.toNat
    rw [hm, Nat.testBit_two_pow_sub_one] at hb
    have : decide (x.toNat < p.length) = true := decide_eq_true (by omega)
    rw [this] at hb
    have := of_decide_eq_true hb.symm
    have e : (x.toNat : Int) = x := by omega
    rwa [e] at this
  · intro hp
    apply Nat.eq_of_testBit_eq
    intro k
    rw [mask_bit p (fun y hy => (h y hy).1), Nat.testBit_two_pow_sub_one]
    have : ((k : Int) ∈ p) ↔ k < p.length := by
      constructor
      · intro hk; have := h _ hk; omega
      · intro hk; exact hp.all (mem_pts.2 (by omega))
    simp [this]
end PM
