/- Plain facts on stabilizer chains. -/
import Derived.Test.YtpfmkjcngknecaaGroupMath
namespace PM

/-- the rows of a chain: at each level and point a permutation, [] where there is none -/
abbrev Rows := List (List (List Int))
def tr (T : Rows) (k : Nat) (y : Int) : List Int := if y < 0 then [] else (T.getD k []).getD y.toNat []
theorem tr_nat (T : Rows) (k m : Nat) : tr T k (m : Int) = (T.getD k []).getD m [] := by
  unfold tr; rw [if_neg (by omega)]; rfl
theorem tr_nn {T : Rows} {k : Nat} {y : Int} (h : tr T k y ≠ []) : 0 ≤ y := by
  unfold tr at h; split at h
  · exact absurd rfl h
  · omega

/-- the points below k are fixed -/
def Fix (k : Nat) (p : List Int) : Prop := ∀ x : Int, 0 ≤ x → x < k → at_ p x = x
/-- is p a product of rows' permutations, m levels from the end -/
def has (T : Rows) (n : Nat) : Nat → List Int → Bool
  | 0, _ => true
  | m + 1, p =>
    let t := tr T (n - (m + 1)) (at_ p ((n - (m + 1) : Nat) : Int))
    if t = [] then false else has T n m (comp p (inv t))
/-- more rows' permutations -/
def Ext (T T' : Rows) : Prop := ∀ k y, tr T k y ≠ [] → tr T' k y = tr T k y
theorem Ext.refl (T : Rows) : Ext T T := fun _ _ _ => rfl
theorem Ext.trans {T T' T'' : Rows} (h : Ext T T') (h' : Ext T' T'') : Ext T T'' := fun k y hn => by
  have := h k y hn
  rw [← this]; exact h' k y (by rw [this]; exact hn)
theorem has_mono {T T' : Rows} (h : Ext T T') (n : Nat) : ∀ (m : Nat) (p : List Int), has T n m p = true → has T' n m p = true := by
  intro m
  induction m with
  | zero => intro p _; rfl
  | succ m ih =>
    intro p hp
    simp only [has] at hp ⊢
    split at hp
    · cases hp
    · rename_i hn
      rw [h _ _ hn, if_neg hn]
      exact ih _ hp
theorem has_congr {T T' : Rows} {n m : Nat} (h : ∀ k y, n - m ≤ k → tr T' k y = tr T k y) : ∀ p, has T n m p = has T' n m p := by
  induction m with
  | zero => intro p; rfl
  | succ m ih =>
    intro p
    simp only [has]
    rw [h _ _ (Nat.le_refl _), ih (fun k y hk => h k y (by omega))]

/-- the rows as they should be: the k-th row has at y nothing, or a permutation that fixes what is below k and takes k to y -/
structure WF (n : Nat) (T : Rows) : Prop where
  pn : ∀ (k : Nat) (y : Int), k < n → tr T k y ≠ [] → PN n (tr T k y)
  fix : ∀ (k : Nat) (y : Int), k < n → tr T k y ≠ [] → Fix k (tr T k y)
  at_ : ∀ (k : Nat) (y : Int), k < n → tr T k y ≠ [] → at_ (tr T k y) k = y
  one : ∀ (k : Nat), k < n → tr T k k = pts n
theorem pts_ne {n : Nat} (h : 0 < n) : pts n ≠ [] := by
  intro e
  have := pts_len n
  rw [e] at this; simp at this; omega
theorem PN.ne {n : Nat} {p : List Int} (h : PN n p) (hn : 0 < n) : p ≠ [] := by
  intro e
  have := h.1
  rw [e] at this; simp at this; omega

/-- the generators of a level -/
abbrev Gens := List (List (List Int))
def lv (G : Gens) (k : Nat) : List (List Int) := G.getD k []

/-- the remainder of p at level k -/
def res (T : Rows) (k : Nat) (p : List Int) : List Int := comp p (inv (tr T k (at_ p (k : Int))))
/-- a product that the rows know -/
def Ok (T : Rows) (n k : Nat) (p : List Int) : Prop := tr T k (at_ p (k : Int)) ≠ [] ∧ has T n (n - (k + 1)) (res T k p) = true
theorem Ok.has {T : Rows} {n k : Nat} {p : List Int} (hk : k < n) : Ok T n k p ↔ has T n (n - k) p = true := by
  have h1 : n - k = (n - (k + 1)) + 1 := by omega
  have h2 : n - (n - (k + 1) + 1) = k := by omega
  rw [h1]
  simp only [PM.has, h2, Ok, res]
  constructor
  · rintro ⟨a, b⟩; rw [if_neg a]; exact b
  · intro h
    split at h
    · cases h
    · rename_i hn; exact ⟨hn, h⟩
theorem Ok.mono {T T' : Rows} (h : Ext T T') {n k : Nat} {p : List Int} (ho : Ok T n k p) : Ok T' n k p := by
  obtain ⟨a, b⟩ := ho
  have e := h _ _ a
  refine ⟨by rw [e]; exact a, ?_⟩
  have : res T' k p = res T k p := by simp only [res, e]
  rw [this]; exact has_mono h n _ _ b

/-- the chain's generators and rows, levels from k on complete -/
structure Inv (n k : Nat) (G : Gens) (T : Rows) : Prop where
  wf : WF n T
  gpn : ∀ j g, j < n → g ∈ lv G j → PN n g
  gfix : ∀ j g, j < n → g ∈ lv G j → Fix j g
  row : ∀ j y, j < n → tr T j y ≠ [] → Grp n (lv G j) (tr T j y)
  up : ∀ j g, j + 1 < n → g ∈ lv G (j + 1) → Grp n (lv G j) g
  cpl : ∀ j y g, k ≤ j → j < n → tr T j y ≠ [] → g ∈ lv G j → Ok T n j (comp (tr T j y) g)

theorem Fix.comp {n k : Nat} {p q : List Int} (hp : PN n p) (hk : k ≤ n) (h1 : Fix k p) (h2 : Fix k q) : Fix k (comp p q) := by
  intro x h0 hx
  rw [at_comp h0 (by rw [hp.1]; omega), h1 x h0 hx, h2 x h0 hx]
theorem Fix.inv {n k : Nat} {p : List Int} (hp : PN n p) (hk : k ≤ n) (h1 : Fix k p) : Fix k (inv p) := by
  intro x h0 hx
  have := at_inv hp h0 (by omega)
  rwa [h1 x h0 hx] at this
theorem Fix.all {n : Nat} {p : List Int} (hp : PN n p) (h : Fix n p) : p = pts n :=
  ext_at (by rw [hp.1, pts_len]) fun x h0 h1 => by rw [hp.1] at h1; rw [h x h0 h1, at_pts h0 h1]
theorem Fix.mono {j k : Nat} {p : List Int} (h : Fix k p) (hj : j ≤ k) : Fix j p := fun x h0 hx => h x h0 (by omega)
theorem Fix.id (n k : Nat) (hk : k ≤ n) : Fix k (pts n) := fun x h0 hx => at_pts h0 (by omega)
/-- dividing by the row's permutation fixes one point more -/
theorem Fix.res {n k : Nat} {T : Rows} (hw : WF n T) (hk : k < n) {p : List Int} (hp : PN n p) (hf : Fix k p) (hn : tr T k (at_ p (k : Int)) ≠ []) : PN n (res T k p) ∧ Fix (k + 1) (res T k p) := by
  have ht := hw.pn k _ hk hn
  refine ⟨hp.comp ht.inv, ?_⟩
  intro x h0 hx
  unfold PM.res
  rw [at_comp h0 (by rw [hp.1]; omega)]
  by_cases hxk : x < k
  · rw [hf x h0 hxk]
    exact Fix.inv ht (by omega) (hw.fix k _ hk hn) x h0 hxk
  · have : x = k := by omega
    subst this
    have h1 := hw.at_ k _ hk hn
    have h2 := at_inv ht (x := (k : Int)) (by omega) (by omega)
    rwa [h1] at h2
theorem res_mul {n k : Nat} {T : Rows} (hw : WF n T) (hk : k < n) {p : List Int} (hp : PN n p) (hn : tr T k (at_ p (k : Int)) ≠ []) : comp (res T k p) (tr T k (at_ p (k : Int))) = p := by
  have ht := hw.pn k _ hk hn
  unfold res
  rw [comp_assoc hp ht.inv, inv_comp ht, comp_id hp]

/-- p fixes what is below k, and the rows know it -/
def Sk (T : Rows) (n k : Nat) (p : List Int) : Prop := PN n p ∧ Fix k p ∧ has T n (n - k) p = true

/-- at complete levels the rows know just the group of the level's generators -/
theorem level_grp {n : Nat} {G : Gens} {T : Rows} : ∀ (m k : Nat), n - k = m → k < n → Inv n k G T → ∀ p, Sk T n k p ↔ Grp n (lv G k) p := by
  intro m
  induction m with
  | zero => intro k h1 h2; omega
  | succ m ih =>
    intro k hm hk hI
    have hG : ∀ g ∈ lv G k, PN n g := fun g hg => hI.gpn k g hk hg
    -- the next level: what it knows is a group, within this level's
    have next : (∀ p q, Sk T n (k + 1) p → Sk T n (k + 1) q → Sk T n (k + 1) (comp p q)) ∧ (∀ p, Sk T n (k + 1) p → Grp n (lv G k) p) ∧ Sk T n (k + 1) (pts n) := by
      by_cases hk1 : k + 1 < n
      · have hI1 : Inv n (k + 1) G T := ⟨hI.wf, hI.gpn, hI.gfix, hI.row, hI.up, fun j y g h1 h2 h3 h4 => hI.cpl j y g (by omega) h2 h3 h4⟩
        have hh := ih (k + 1) (by omega) hk1 hI1
        have hG1 : ∀ g ∈ lv G (k + 1), PN n g := fun g hg => hI.gpn (k + 1) g hk1 hg
        refine ⟨fun p q hp hq => (hh _).2 (Grp.comp hG1 ((hh p).1 hp) ((hh q).1 hq)), fun p hp => ?_, (hh _).2 .id⟩
        exact Grp.mono hG (fun g hg => hI.up k g hk1 hg) ((hh p).1 hp)
      · have hk2 : k + 1 = n := by omega
        have hid : ∀ p, Sk T n (k + 1) p → p = pts n := fun p hp => Fix.all hp.1 (by rw [← hk2]; exact hp.2.1)
        have h0 : Sk T n (k + 1) (pts n) := ⟨PN.id n, Fix.id n _ (by omega), by rw [hk2, Nat.sub_self]; rfl⟩
        refine ⟨fun p q hp hq => ?_, fun p hp => ?_, h0⟩
        · rw [hid p hp, hid q hq, comp_id (PN.id n)]; exact h0
        · rw [hid p hp]; exact .id
    obtain ⟨nmul, nsub, nid⟩ := next
    -- one step down
    have down : ∀ p, PN n p → Fix k p → (has T n (n - k) p = true ↔ tr T k (at_ p (k : Int)) ≠ [] ∧ Sk T n (k + 1) (res T k p)) := by
      intro p hp hf
      rw [← Ok.has hk]
      constructor
      · rintro ⟨a, b⟩
        obtain ⟨c, d⟩ := Fix.res hI.wf hk hp hf a
        exact ⟨a, c, d, b⟩
      · rintro ⟨a, b⟩; exact ⟨a, b.2.2⟩
    intro p
    constructor
    · rintro ⟨hp, hf, hh⟩
      obtain ⟨hn, hs⟩ := (down p hp hf).1 hh
      rw [← res_mul hI.wf hk hp hn]
      exact Grp.comp hG (nsub _ hs) (hI.row k _ hk hn)
    · intro hp
      refine grp_sub hG (S := Sk T n k) (fun p hp => hp.1) ?_ ?_ hp
      · refine ⟨PN.id n, Fix.id n k (by omega), ?_⟩
        refine (down _ (PN.id n) (Fix.id n k (by omega))).2 ?_
        have e : at_ (pts n) (k : Int) = k := at_pts (by omega) (by omega)
        have e2 : tr T k (at_ (pts n) (k : Int)) = pts n := by rw [e]; exact hI.wf.one k hk
        refine ⟨by rw [e2]; exact pts_ne (by omega), ?_⟩
        unfold res
        rw [e2, comp_inv (PN.id n)]; exact nid
      · rintro q g ⟨hq, hf, hh⟩ hg
        obtain ⟨hn, hs⟩ := (down q hq hf).1 hh
        have hgp := hG g hg
        have ht := hI.wf.pn k _ hk hn
        have hqg := hq.comp hgp
        have hfg : Fix k (comp q g) := Fix.comp hq (by omega) hf (hI.gfix k g hk hg)
        refine ⟨hqg, hfg, (down _ hqg hfg).2 ?_⟩
        -- the product of the row's permutation with g
        obtain ⟨o1, o2⟩ := hI.cpl k _ g (Nat.le_refl _) hk hn hg
        have e1 : at_ (comp q g) (k : Int) = at_ (comp (tr T k (at_ q (k : Int))) g) (k : Int) := by
          rw [at_comp (by omega) (by rw [hq.1]; omega), at_comp (by omega) (by rw [ht.1]; omega), hI.wf.at_ k _ hk hn]
        refine ⟨by rw [e1]; exact o1, ?_⟩
        have hft : Fix k (comp (tr T k (at_ q (k : Int))) g) := Fix.comp ht (by omega) (hI.wf.fix k _ hk hn) (hI.gfix k g hk hg)
        obtain ⟨c1, c2⟩ := Fix.res hI.wf hk (ht.comp hgp) hft o1
        have hu : Sk T n (k + 1) (res T k (comp (tr T k (at_ q (k : Int))) g)) := ⟨c1, c2, o2⟩
        have key : res T k (comp q g) = comp (res T k q) (res T k (comp (tr T k (at_ q (k : Int))) g)) := by
          have h1 := res_mul hI.wf hk hq hn
          have ht' := hI.wf.pn k _ hk o1
          have hr := (Fix.res hI.wf hk hq hf hn).1
          conv => lhs; unfold res
          rw [e1]
          conv => rhs; arg 2; unfold res
          rw [← comp_assoc hr (ht.comp hgp), ← comp_assoc hr ht, h1]
        rw [key]
        exact nmul _ _ hs hu
/-- which places of a row are filled: those to which a member that fixes the points below takes the level's point -/
theorem row_iff {n : Nat} {G : Gens} {T : Rows} (hI : Inv n 0 G T) (hn : 0 < n) {k : Nat} (hk : k < n) {y : Int} (h0 : 0 ≤ y) (hy : y < n) :
    tr T k y ≠ [] ↔ ∃ p, Grp n (lv G 0) p ∧ Fix k p ∧ at_ p (k : Int) = y := by
  have hsub : ∀ j, j < n → ∀ p, Grp n (lv G j) p → Grp n (lv G 0) p := by
    intro j
    induction j with
    | zero => intro _ p hp; exact hp
    | succ j ih =>
      intro hj p hp
      exact ih (by omega) p (Grp.mono (fun g hg => hI.gpn j g (by omega) hg) (fun g hg => hI.up j g hj hg) hp)
  constructor
  · intro h
    exact ⟨_, hsub k hk _ (hI.row k y hk h), hI.wf.fix k y hk h, hI.wf.at_ k y hk h⟩
  · rintro ⟨p, hp, hf, rfl⟩
    have hs := (level_grp n 0 (by omega) hn hI p).2 hp
    -- down to level k
    have hdown : ∀ j, j ≤ k → has T n (n - j) p = true := by
      intro j
      induction j with
      | zero => intro _; exact hs.2.2
      | succ j ih =>
        intro hj
        have h1 := ih (by omega)
        obtain ⟨a, b⟩ := (Ok.has (by omega : j < n)).2 h1
        have e : at_ p (j : Int) = j := hf j (by omega) (by omega)
        have e2 : tr T j (at_ p (j : Int)) = pts n := by rw [e]; exact hI.wf.one j (by omega)
        have e3 : res T j p = p := by unfold res; rw [e2, inv_id, comp_id hs.1]
        rwa [e3] at b
    exact ((Ok.has hk).2 (hdown k (Nat.le_refl _))).1
end PM
