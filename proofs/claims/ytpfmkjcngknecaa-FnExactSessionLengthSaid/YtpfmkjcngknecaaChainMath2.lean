/- Plain facts on the making of stabilizer chains. -/
import Derived.Test.YtpfmkjcngknecaaChainMath
namespace PM

def setT (T : Rows) (k m : Nat) (p : List Int) : Rows := T.set k ((T.getD k []).set m p)
/-- the form of a chain of n points -/
structure Shape (n : Nat) (G : Gens) (T : Rows) : Prop where
  lt : T.length = n
  lr : ∀ k, k < n → (T.getD k []).length = n
  lg : G.length = n
theorem tr_setT {T : Rows} {k m : Nat} (hk : k < T.length) (hm : m < (T.getD k []).length) (p : List Int) (j : Nat) (y : Int) :
    tr (setT T k m p) j y = if j = k ∧ y = (m : Int) then p else tr T j y := by
  unfold tr setT
  by_cases hy : y < 0
  · rw [if_pos hy, if_pos hy, if_neg (by omega)]
  · rw [if_neg hy, if_neg hy]
    by_cases hj : j = k
    · subst hj
      have e1 : (T.set j ((T.getD j []).set m p)).getD j [] = (T.getD j []).set m p := by
        rw [List.getD_eq_getElem?_getD, List.getElem?_set_self hk]; rfl
      rw [e1]
      by_cases hm2 : y = (m : Int)
      · rw [if_pos ⟨rfl, hm2⟩]
        have : y.toNat = m := by omega
        rw [this, List.getD_eq_getElem?_getD, List.getElem?_set_self hm]; rfl
      · rw [if_neg (by simp [hm2])]
        rw [List.getD_eq_getElem?_getD, List.getElem?_set_ne (by omega), ← List.getD_eq_getElem?_getD]
    · rw [if_neg (by simp [hj])]
      have e1 : (T.set k ((T.getD k []).set m p)).getD j [] = T.getD j [] := by
        rw [List.getD_eq_getElem?_getD, List.getElem?_set_ne (by omega), ← List.getD_eq_getElem?_getD]
      rw [e1]
theorem lv_set {G : Gens} {k : Nat} (hk : k < G.length) (L : List (List Int)) (j : Nat) : lv (G.set k L) j = if j = k then L else lv G j := by
  unfold lv
  by_cases hj : j = k
  · subst hj
    rw [if_pos rfl, List.getD_eq_getElem?_getD, List.getElem?_set_self hk]; rfl
  · rw [if_neg hj, List.getD_eq_getElem?_getD, List.getElem?_set_ne (by omega), ← List.getD_eq_getElem?_getD]
theorem Shape.setT {n : Nat} {G : Gens} {T : Rows} (h : Shape n G T) (k m : Nat) (p : List Int) : Shape n G (setT T k m p) := by
  refine ⟨by simp [PM.setT, h.lt], fun j hj => ?_, h.lg⟩
  unfold PM.setT
  by_cases hjk : j = k
  · subst hjk
    rw [List.getD_eq_getElem?_getD, List.getElem?_set_self (by rw [h.lt]; exact hj)]
    simp only [Option.getD_some, List.length_set]; exact h.lr j hj
  · rw [List.getD_eq_getElem?_getD, List.getElem?_set_ne (by omega), ← List.getD_eq_getElem?_getD]; exact h.lr j hj
theorem Shape.setG {n : Nat} {G : Gens} {T : Rows} (h : Shape n G T) (k : Nat) (L : List (List Int)) : Shape n (G.set k L) T := ⟨h.lt, h.lr, by simp [h.lg]⟩

/-- all but completeness -/
structure Base (n : Nat) (G : Gens) (T : Rows) : Prop where
  wf : WF n T
  gpn : ∀ j g, j < n → g ∈ lv G j → PN n g
  gfix : ∀ j g, j < n → g ∈ lv G j → Fix j g
  row : ∀ j y, j < n → tr T j y ≠ [] → Grp n (lv G j) (tr T j y)
  up : ∀ j g, j + 1 < n → g ∈ lv G (j + 1) → Grp n (lv G j) g
def Cpl (n k : Nat) (G : Gens) (T : Rows) : Prop := ∀ j y g, k ≤ j → j < n → tr T j y ≠ [] → g ∈ lv G j → Ok T n j (comp (tr T j y) g)
theorem inv_iff {n k : Nat} {G : Gens} {T : Rows} : Inv n k G T ↔ Base n G T ∧ Cpl n k G T :=
  ⟨fun h => ⟨⟨h.wf, h.gpn, h.gfix, h.row, h.up⟩, h.cpl⟩, fun ⟨h, c⟩ => ⟨h.wf, h.gpn, h.gfix, h.row, h.up, c⟩⟩

/-- G', T' are more than G, T; levels below k stand -/
structure Grew (n k : Nat) (G : Gens) (T : Rows) (G' : Gens) (T' : Rows) : Prop where
  ext : Ext T T'
  low : ∀ j, j < k → lv G' j = lv G j
  lowT : ∀ j y, j < k → tr T' j y = tr T j y
  sup : ∀ j g, g ∈ lv G j → g ∈ lv G' j
theorem Grew.refl (n k : Nat) (G : Gens) (T : Rows) : Grew n k G T G T := ⟨Ext.refl T, fun _ _ => rfl, fun _ _ _ => rfl, fun _ _ h => h⟩
theorem Grew.trans {n k : Nat} {G G' G'' : Gens} {T T' T'' : Rows} (h : Grew n k G T G' T') (h' : Grew n k G' T' G'' T'') : Grew n k G T G'' T'' :=
  ⟨h.ext.trans h'.ext, fun j hj => (h'.low j hj).trans (h.low j hj), fun j y hj => (h'.lowT j y hj).trans (h.lowT j y hj), fun j g hg => h'.sup j g (h.sup j g hg)⟩
theorem Grew.mono {n k k' : Nat} {G G' : Gens} {T T' : Rows} (h : Grew n k G T G' T') (hk : k' ≤ k) : Grew n k' G T G' T' :=
  ⟨h.ext, fun j hj => h.low j (by omega), fun j y hj => h.lowT j y (by omega), h.sup⟩

/-- what the making of a chain with one permutation more at level k leaves -/
structure Added (n k : Nat) (p : List Int) (G : Gens) (T : Rows) (G' : Gens) (T' : Rows) : Prop where
  inv : Inv n k G' T'
  grew : Grew n k G T G' T'
  has : has T' n (n - k) p = true
  gen : ∀ g ∈ lv G' k, g ∈ lv G k ∨ g = p
theorem Added.same {n k : Nat} {p : List Int} {G : Gens} {T : Rows} (h : Inv n k G T) (hh : PM.has T n (n - k) p = true) : Added n k p G T G T :=
  ⟨h, Grew.refl _ _ _ _, hh, fun _ hg => .inl hg⟩

/-- what may be added at level k -/
structure May (n k : Nat) (p : List Int) (G : Gens) : Prop where
  pn : PN n p
  fix : Fix k p
  grp : ∀ j, j + 1 = k → Grp n (lv G j) p

theorem Ok.of_above {T T' : Rows} {n j : Nat} (hj : j < n) (h : ∀ i y, j ≤ i → tr T' i y = tr T i y) {p : List Int} (ho : Ok T n j p) : Ok T' n j p := by
  obtain ⟨a, b⟩ := ho
  have e := h j (at_ p (j : Int)) (Nat.le_refl _)
  refine ⟨by rw [e]; exact a, ?_⟩
  have : res T' j p = res T j p := by simp only [res, e]
  rw [this, ← has_congr (T := T) (fun i y hi => h i y (by omega))]; exact b

/-- one generator more -/
theorem step_gen {n k : Nat} {p : List Int} {G : Gens} {T : Rows} (hs : Shape n G T) (hk : k < n) (hI : Inv n k G T) (hp : May n k p G) :
    Base n (G.set k (lv G k ++ [p])) T ∧ Cpl n (k + 1) (G.set k (lv G k ++ [p])) T ∧ Grew n k G T (G.set k (lv G k ++ [p])) T := by
  have hl := fun j => lv_set (k := k) (G := G) (by rw [hs.lg]; exact hk) (lv G k ++ [p]) j
  have hsup : ∀ j g, g ∈ lv G j → g ∈ lv (G.set k (lv G k ++ [p])) j := by
    intro j g hg
    rw [hl j]; split
    · rename_i e; subst e; simp [hg]
    · exact hg
  have hmem : ∀ j g, g ∈ lv (G.set k (lv G k ++ [p])) j → g ∈ lv G j ∨ (j = k ∧ g = p) := by
    intro j g hg
    rw [hl j] at hg
    split at hg
    · rename_i e; subst e
      rcases List.mem_append.1 hg with h | h
      · exact .inl h
      · exact .inr ⟨rfl, by simpa using h⟩
    · exact .inl hg
  have hgpn : ∀ j g, j < n → g ∈ lv (G.set k (lv G k ++ [p])) j → PN n g := fun j g hj hg => by
    rcases hmem j g hg with h | ⟨rfl, rfl⟩
    · exact hI.gpn j g hj h
    · exact hp.pn
  refine ⟨⟨hI.wf, hgpn, fun j g hj hg => ?_, fun j y hj hn => ?_, fun j g hj hg => ?_⟩, fun j y g h1 h2 h3 h4 => ?_, ⟨Ext.refl T, fun j hj => ?_, fun _ _ _ => rfl, hsup⟩⟩
  · rcases hmem j g hg with h | ⟨rfl, rfl⟩
    · exact hI.gfix j g hj h
    · exact hp.fix
  · exact Grp.mono (fun g hg => hgpn j g hj hg) (fun g hg => Grp.gen (fun g hg => hgpn j g hj hg) (hsup j g hg)) (hI.row j y hj hn)
  · have hG : ∀ g ∈ lv (G.set k (lv G k ++ [p])) j, PN n g := fun g hg => hgpn j g (by omega) hg
    have hm : ∀ q, Grp n (lv G j) q → Grp n (lv (G.set k (lv G k ++ [p])) j) q := fun q hq => Grp.mono hG (fun g hg => Grp.gen hG (hsup j g hg)) hq
    rcases hmem (j + 1) g hg with h | ⟨h, rfl⟩
    · exact hm _ (hI.up j g hj h)
    · exact hm _ (hp.grp j h)
  · rcases hmem j g h4 with h | ⟨rfl, rfl⟩
    · exact hI.cpl j y g (by omega) h2 h3 h
    · omega
  · rw [hl j, if_neg (by omega)]

/-- one place of row k more -/
theorem step_row {n k : Nat} {G : Gens} {T : Rows} {q : List Int} {m : Nat} (hs : Shape n G T) (hk : k < n) (hB : Base n G T) (hC : Cpl n (k + 1) G T) (hq : PN n q) (hf : Fix k q) (hg : Grp n (lv G k) q)
    (hm : at_ q (k : Int) = (m : Int)) (hmn : m < n) (h0 : tr T k (m : Int) = []) :
    Base n G (setT T k m q) ∧ Cpl n (k + 1) G (setT T k m q) ∧ Grew n k G T G (setT T k m q) := by
  have hl := fun j y => tr_setT (T := T) (k := k) (m := m) (by rw [hs.lt]; exact hk) (by rw [hs.lr k hk]; exact hmn) q j y
  have hne : (m : Int) ≠ k := by
    intro e
    rw [e, hB.wf.one k hk] at h0
    exact pts_ne (by omega) h0
  have hext : Ext T (setT T k m q) := by
    intro j y hn
    rw [hl j y]; split
    · rename_i e; obtain ⟨rfl, rfl⟩ := e; exact absurd h0 hn
    · rfl
  have habove : ∀ i y, k + 1 ≤ i → tr (setT T k m q) i y = tr T i y := fun i y hi => by rw [hl i y, if_neg (by omega)]
  refine ⟨⟨⟨fun j y hj hn => ?_, fun j y hj hn => ?_, fun j y hj hn => ?_, fun j hj => ?_⟩, hB.gpn, hB.gfix, fun j y hj hn => ?_, hB.up⟩, fun j y g h1 h2 h3 h4 => ?_, ⟨hext, fun _ _ => rfl, fun j y hj => ?_, fun _ _ h => h⟩⟩
  · rw [hl j y] at hn ⊢; split at hn
    · rename_i e; rw [if_pos e]; exact hq
    · rename_i e; rw [if_neg e]; exact hB.wf.pn j y hj hn
  · rw [hl j y] at hn ⊢; split at hn
    · rename_i e; rw [if_pos e, e.1]; exact hf
    · rename_i e; rw [if_neg e]; exact hB.wf.fix j y hj hn
  · rw [hl j y] at hn ⊢; split at hn
    · rename_i e; rw [if_pos e, e.1, e.2]; exact hm
    · rename_i e; rw [if_neg e]; exact hB.wf.at_ j y hj hn
  · rw [hl j j, if_neg (by rintro ⟨rfl, e⟩; exact hne e.symm)]; exact hB.wf.one j hj
  · rw [hl j y] at hn ⊢; split at hn
    · rename_i e; rw [if_pos e, e.1]; exact hg
    · rename_i e; rw [if_neg e]; exact hB.row j y hj hn
  · rw [habove j y h1] at h3 ⊢
    exact Ok.of_above h2 (fun i y hi => habove i y (by omega)) (hC j y g h1 h2 h3 h4)
  · rw [hl j y, if_neg (by omega)]

/-- what is left of a product belongs to the next level -/
theorem step_res {n k : Nat} {G : Gens} {T : Rows} {q : List Int} (hk : k < n) (hB : Base n G T) (hq : PN n q) (hf : Fix k q) (hg : Grp n (lv G k) q) (hn : tr T k (at_ q (k : Int)) ≠ []) :
    May n (k + 1) (res T k q) G := by
  obtain ⟨a, b⟩ := Fix.res hB.wf hk hq hf hn
  refine ⟨a, b, fun j hj => ?_⟩
  have : j = k := by omega
  subst this
  have hG : ∀ g ∈ lv G j, PN n g := fun g hg => hB.gpn j g hk hg
  exact Grp.comp hG hg (Grp.inv hG (hB.row j _ hk hn))
theorem row_mul {n k : Nat} {G : Gens} {T : Rows} {y : Int} {g : List Int} (hk : k < n) (hB : Base n G T) (hn : tr T k y ≠ []) (hg : g ∈ lv G k) :
    PN n (comp (tr T k y) g) ∧ Fix k (comp (tr T k y) g) ∧ Grp n (lv G k) (comp (tr T k y) g) ∧ at_ (comp (tr T k y) g) (k : Int) = at_ g y := by
  have ht := hB.wf.pn k y hk hn
  have hgp := hB.gpn k g hk hg
  refine ⟨ht.comp hgp, Fix.comp ht (by omega) (hB.wf.fix k y hk hn) (hB.gfix k g hk hg), (hB.row k y hk hn).mul hg, ?_⟩
  rw [at_comp (by omega) (by rw [ht.1]; omega), hB.wf.at_ k y hk hn]
theorem row_rng {n k : Nat} {G : Gens} {T : Rows} {y : Int} (hk : k < n) (hB : Base n G T) (hn : tr T k y ≠ []) : 0 ≤ y ∧ y < n := by
  have ht := hB.wf.pn k y hk hn
  have := ht.rng (x := (k : Int)) (by omega) (by omega)
  rwa [hB.wf.at_ k y hk hn] at this
/-- what the next level's making leaves of this level -/
theorem Added.up {n k : Nat} {q : List Int} {G G' : Gens} {T T' : Rows} (h : Added n (k + 1) (res T k q) G T G' T') (hn : tr T k (at_ q (k : Int)) ≠ []) :
    Base n G' T' ∧ Cpl n (k + 1) G' T' ∧ Grew n (k + 1) G T G' T' ∧ Ok T' n k q := by
  obtain ⟨a, b⟩ := inv_iff.1 h.inv
  refine ⟨a, b, h.grew, ?_⟩
  have e := h.grew.ext k _ hn
  refine ⟨by rw [e]; exact hn, ?_⟩
  have : res T' k q = res T k q := by simp only [res, e]
  rw [this]; exact h.has
theorem Added.level {n k : Nat} {p : List Int} {G' : Gens} {T' : Rows} {G : Gens} {T0 : Rows} (hk : k < n) (hB : Base n G' T') (hC : Cpl n (k + 1) G' T') (hg : Grew n k G T0 G' T')
    (hall : ∀ y g, tr T' k y ≠ [] → g ∈ lv G' k → Ok T' n k (comp (tr T' k y) g)) (hp : p ∈ lv G' k) (hgen : ∀ g ∈ lv G' k, g ∈ lv G k ∨ g = p) : Added n k p G T0 G' T' := by
  refine ⟨inv_iff.2 ⟨hB, fun j y g h1 h2 h3 h4 => ?_⟩, hg, ?_, hgen⟩
  · by_cases hj : j = k
    · subst hj; exact hall y g h3 h4
    · exact hC j y g (by omega) h2 h3 h4
  · have h1 := hB.wf.one k hk
    have h2 := hall k p (by rw [h1]; exact pts_ne (by omega)) hp
    rw [h1, id_comp (hB.gpn k p hk hp)] at h2
    exact (Ok.has hk).1 h2

/-- the empty chain -/
def row0 (n k : Nat) : List (List Int) := (List.replicate n []).set k (pts n)
def T0 (n : Nat) : Rows := (List.range n).map (row0 n)
def G0 (n : Nat) : Gens := List.replicate n []
theorem T0_row {n k : Nat} (hk : k < n) : (T0 n).getD k [] = row0 n k := by
  rw [List.getD_eq_getElem?_getD]; simp [T0, hk]
theorem tr_T0 {n k : Nat} (hk : k < n) (y : Int) : tr (T0 n) k y = if y = k then pts n else [] := by
  unfold tr
  rw [T0_row hk]
  by_cases hy : y < 0
  · rw [if_pos hy, if_neg (by omega)]
  · rw [if_neg hy]
    unfold row0
    by_cases e : y = k
    · rw [if_pos e]
      have : y.toNat = k := by omega
      rw [this, List.getD_eq_getElem?_getD, List.getElem?_set_self (by simp [hk])]; rfl
    · rw [if_neg e, List.getD_eq_getElem?_getD, List.getElem?_set_ne (by omega)]
      rw [List.getElem?_replicate]; split <;> rfl
theorem lv_G0 (n k : Nat) : lv (G0 n) k = [] := by
  unfold lv G0
  rw [List.getD_eq_getElem?_getD, List.getElem?_replicate]; split <;> rfl
theorem Shape.zero (n : Nat) : Shape n (G0 n) (T0 n) := ⟨by simp [T0], fun k hk => by rw [T0_row hk]; simp [row0], by simp [G0]⟩
theorem Inv.zero (n : Nat) : Inv n 0 (G0 n) (T0 n) := by
  have hy : ∀ k y, k < n → tr (T0 n) k y ≠ [] → y = k ∧ tr (T0 n) k y = pts n := by
    intro k y hk h
    rw [tr_T0 hk y] at h ⊢
    split at h
    · rename_i e; exact ⟨e, if_pos e⟩
    · exact absurd rfl h
  refine ⟨⟨fun k y hk h => ?_, fun k y hk h => ?_, fun k y hk h => ?_, fun k hk => ?_⟩, fun j g hj hg => ?_, fun j g hj hg => ?_, fun j y hj h => ?_, fun j g hj hg => ?_, fun j y g _ hj h hg => ?_⟩
  · rw [(hy k y hk h).2]; exact PN.id n
  · rw [(hy k y hk h).2]; exact Fix.id n k (by omega)
  · obtain ⟨rfl, e⟩ := hy k y hk h
    rw [e]; exact at_pts (by omega) (by omega)
  · rw [tr_T0 hk, if_pos rfl]
  · rw [lv_G0] at hg; cases hg
  · rw [lv_G0] at hg; cases hg
  · rw [(hy j y hj h).2]; exact .id
  · rw [lv_G0] at hg; cases hg
  · rw [lv_G0] at hg; cases hg

/-- a complete chain whose first level's generators generate what gens generate -/
structure Chain (n : Nat) (gens : List (List Int)) (G : Gens) (T : Rows) : Prop where
  shape : Shape n G T
  inv : Inv n 0 G T
  sub : ∀ g ∈ lv G 0, g ∈ gens
  all : ∀ g ∈ gens, has T n n g = true
theorem Chain.zero (n : Nat) : Chain n [] (G0 n) (T0 n) := ⟨Shape.zero n, Inv.zero n, fun g hg => (by rw [lv_G0] at hg; cases hg), fun g hg => (by cases hg)⟩
theorem Chain.step {n : Nat} {gens : List (List Int)} {G G' : Gens} {T T' : Rows} (h : Chain n gens G T) {p : List Int} (hs : Shape n G' T') (ha : Added n 0 p G T G' T') : Chain n (gens ++ [p]) G' T' := by
  refine ⟨hs, ha.inv, fun g hg => ?_, fun g hg => ?_⟩
  · rcases ha.gen g hg with h1 | rfl
    · exact List.mem_append_left _ (h.sub g h1)
    · simp
  · rcases List.mem_append.1 hg with h1 | h1
    · exact has_mono ha.grew.ext n n g (h.all g h1)
    · have : g = p := by simpa using h1
      subst this; exact ha.has
theorem May.zero {n : Nat} {p : List Int} (G : Gens) (h : PN n p) : May n 0 p G := ⟨h, fun x h0 hx => by omega, fun j hj => by omega⟩

section
variable {n : Nat} {gens : List (List Int)} {G : Gens} {T : Rows} (h : Chain n gens G T) (hn : 0 < n) (hp : ∀ g ∈ gens, PN n g)
include h hn hp
theorem Chain.grp (p : List Int) : Grp n (lv G 0) p ↔ Grp n gens p := by
  have hG : ∀ g ∈ lv G 0, PN n g := fun g hg => h.inv.gpn 0 g hn hg
  constructor
  · exact Grp.mono hp fun g hg => Grp.gen hp (h.sub g hg)
  · refine Grp.mono hG fun g hg => ?_
    exact (level_grp n 0 rfl hn h.inv g).1 ⟨hp g hg, fun x h0 hx => by omega, by simpa using h.all g hg⟩
/-- what the chain knows is the group -/
theorem Chain.has_iff {p : List Int} (hpn : PN n p) : has T n n p = true ↔ Grp n gens p := by
  rw [← h.grp hn hp, ← level_grp n 0 rfl hn h.inv p]
  constructor
  · intro hh; exact ⟨hpn, fun x h0 hx => by omega, by simpa using hh⟩
  · rintro ⟨_, _, hh⟩; simpa using hh
theorem Chain.row_iff {k : Nat} (hk : k < n) {y : Int} (h0 : 0 ≤ y) (hy : y < n) : tr T k y ≠ [] ↔ ∃ p, Grp n gens p ∧ Fix k p ∧ at_ p (k : Int) = y := by
  rw [PM.row_iff h.inv hn hk h0 hy]
  constructor
  · rintro ⟨p, a, b, c⟩; exact ⟨p, (h.grp hn hp p).1 a, b, c⟩
  · rintro ⟨p, a, b, c⟩; exact ⟨p, (h.grp hn hp p).2 a, b, c⟩
end
end PM
