/- Plain facts on permutations: composition, inverse, the group that a list generates. Plain facts on stabilizer chains. Plain facts on the making of stabilizer chains. A stabilizer chain in memory: rows of permutations, generators; a queue of numbers. Ranges, words: the program's and the reference's tests on them. -/
import Derived.Test.YtpkplmnpepkdaaaGreatRowAdmissibleTablesG1
namespace PM

/-- the entry of p at x -/
def at_ (p : List Int) (x : Int) : Int := p.getD x.toNat 0
/-- p first, q second -/
def comp (p q : List Int) : List Int := p.map (at_ q)
def inv (p : List Int) : List Int := (pts p.length).map fun y => (p.idxOf y : Int)

/-- a permutation of n points -/
def PN (n : Nat) (p : List Int) : Prop := p.length = n ∧ IsP p

theorem at_nat (p : List Int) (k : Nat) (h : k < p.length) : at_ p (k : Int) = p[k] := by
  simp [at_, h]
theorem at_mem {p : List Int} {x : Int} (h0 : 0 ≤ x) (h : x < p.length) : at_ p x ∈ p := by
  have hx : x.toNat < p.length := by omega
  have : at_ p x = p[x.toNat] := by simp [at_, hx]
  rw [this]; exact List.getElem_mem _
theorem comp_len (p q : List Int) : (comp p q).length = p.length := by simp [comp]
theorem inv_len (p : List Int) : (inv p).length = p.length := by simp [inv, pts_len]
theorem at_comp {p q : List Int} {x : Int} (h0 : 0 ≤ x) (h : x < p.length) : at_ (comp p q) x = at_ q (at_ p x) := by
  have hx : x.toNat < p.length := by omega
  simp [at_, comp, hx]
theorem at_pts {n : Nat} {x : Int} (h0 : 0 ≤ x) (h : x < n) : at_ (pts n) x = x := by
  have hx : x.toNat < (pts n).length := by rw [pts_len]; omega
  have : at_ (pts n) x = (pts n)[x.toNat] := by simp [at_, hx]
  rw [this, pts_get]; omega
/-- lists of one length with the same entries -/
theorem ext_at {p q : List Int} (hl : p.length = q.length) (h : ∀ x : Int, 0 ≤ x → x < p.length → at_ p x = at_ q x) : p = q := by
  apply List.ext_getElem hl
  intro k h1 h2
  have := h k (by omega) (by omega)
  rwa [at_nat p k h1, at_nat q k h2] at this

theorem PN.rng {n : Nat} {p : List Int} (h : PN n p) {x : Int} (h0 : 0 ≤ x) (h1 : x < n) : 0 ≤ at_ p x ∧ at_ p x < n := by
  have := h.2.1 _ (at_mem h0 (by rw [h.1]; exact h1))
  rw [h.1] at this; exact this
theorem nodup_inj {p : List Int} (h : p.Nodup) {i j : Nat} (hi : i < p.length) (hj : j < p.length) (e : p[i] = p[j]) : i = j := by
  have hp := List.pairwise_iff_getElem.1 h
  rcases Nat.lt_trichotomy i j with hl | hl | hl
  · exact absurd e (hp i j hi hj hl)
  · exact hl
  · exact absurd e.symm (hp j i hj hi hl)
theorem PN.inj {n : Nat} {p : List Int} (h : PN n p) {x y : Int} (hx0 : 0 ≤ x) (hx : x < n) (hy0 : 0 ≤ y) (hy : y < n) (he : at_ p x = at_ p y) : x = y := by
  have h1 : x.toNat < p.length := by rw [h.1]; omega
  have h2 : y.toNat < p.length := by rw [h.1]; omega
  have e1 : at_ p x = p[x.toNat] := by simp [at_, h1]
  have e2 : at_ p y = p[y.toNat] := by simp [at_, h2]
  rw [e1, e2] at he
  have := nodup_inj h.2.2 h1 h2 he
  omega
theorem PN.surj {n : Nat} {p : List Int} (h : PN n p) {y : Int} (hy0 : 0 ≤ y) (hy : y < n) : ∃ x : Int, 0 ≤ x ∧ x < n ∧ at_ p x = y := by
  have hm : y ∈ p := h.2.all (mem_pts.2 ⟨hy0, by rw [h.1]; exact hy⟩)
  obtain ⟨k, hk, hk2⟩ := List.getElem_of_mem hm
  refine ⟨k, by omega, by have := h.1; omega, ?_⟩
  rw [at_nat p k hk]; exact hk2
/-- what makes a list a permutation -/
theorem PN.mk' {n : Nat} {p : List Int} (hl : p.length = n) (hr : ∀ x : Int, 0 ≤ x → x < n → 0 ≤ at_ p x ∧ at_ p x < n) (hi : ∀ x y : Int, 0 ≤ x → x < n → 0 ≤ y → y < n → at_ p x = at_ p y → x = y) : PN n p := by
  refine ⟨hl, fun x hx => ?_, ?_⟩
  · obtain ⟨k, hk, rfl⟩ := List.getElem_of_mem hx
    have := hr k (by omega) (by omega)
    rw [at_nat p k hk] at this; rw [hl]; exact this
  · rw [List.nodup_iff_pairwise_ne, List.pairwise_iff_getElem]
    intro i j hi' hj' hij he
    have := hi i j (by omega) (by omega) (by omega) (by omega) (by rw [at_nat p i hi', at_nat p j hj']; exact he)
    omega
theorem PN.id (n : Nat) : PN n (pts n) := PN.mk' (pts_len n) (fun x h0 h1 => by rw [at_pts h0 h1]; exact ⟨h0, h1⟩) (fun x y a b c d e => by rwa [at_pts a b, at_pts c d] at e)
theorem PN.comp {n : Nat} {p q : List Int} (hp : PN n p) (hq : PN n q) : PN n (comp p q) := by
  refine PN.mk' (by rw [comp_len, hp.1]) (fun x h0 h1 => ?_) (fun x y a b c d e => ?_)
  · rw [at_comp h0 (by rw [hp.1]; exact h1)]
    have := hp.rng h0 h1
    exact hq.rng this.1 this.2
  · rw [at_comp a (by rw [hp.1]; exact b), at_comp c (by rw [hp.1]; exact d)] at e
    have h1 := hp.rng a b
    have h2 := hp.rng c d
    exact hp.inj a b c d (hq.inj h1.1 h1.2 h2.1 h2.2 e)
theorem at_inv {n : Nat} {p : List Int} (hp : PN n p) {x : Int} (h0 : 0 ≤ x) (h1 : x < n) : at_ (inv p) (at_ p x) = x := by
  have hr := hp.rng h0 h1
  have hk : x.toNat < p.length := by rw [hp.1]; omega
  have e1 : at_ p x = p[x.toNat] := by simp [at_, hk]
  have e2 : ∀ y : Int, 0 ≤ y → y < n → at_ (inv p) y = (p.idxOf y : Int) := by
    intro y hy0 hy1
    have hy : y.toNat < (pts p.length).length := by rw [pts_len, hp.1]; omega
    have he : (pts p.length)[y.toNat] = y := by rw [pts_get]; omega
    unfold at_ inv
    rw [List.getD_eq_getElem?_getD, List.getElem?_map, List.getElem?_eq_getElem hy, he]
    rfl
  rw [e2 _ hr.1 hr.2, e1]
  have hm : p[x.toNat] ∈ p := List.getElem_mem _
  have hi := List.idxOf_lt_length_of_mem hm
  have hg : p[p.idxOf p[x.toNat]] = p[x.toNat] := by simp
  have := nodup_inj hp.2.2 hi hk hg
  rw [this]; omega
theorem PN.inv {n : Nat} {p : List Int} (hp : PN n p) : PN n (inv p) := by
  refine PN.mk' (by rw [inv_len, hp.1]) (fun x h0 h1 => ?_) (fun x y a b c d e => ?_)
  · obtain ⟨z, hz0, hz1, rfl⟩ := hp.surj h0 h1
    rw [at_inv hp hz0 hz1]; exact ⟨hz0, hz1⟩
  · obtain ⟨z, hz0, hz1, rfl⟩ := hp.surj a b
    obtain ⟨z', hz0', hz1', rfl⟩ := hp.surj c d
    rw [at_inv hp hz0 hz1, at_inv hp hz0' hz1'] at e
    rw [e]
theorem comp_inv {n : Nat} {p : List Int} (hp : PN n p) : comp p (inv p) = pts n := by
  refine ext_at (by rw [comp_len, pts_len, hp.1]) fun x h0 h1 => ?_
  rw [comp_len, hp.1] at h1
  rw [at_comp h0 (by rw [hp.1]; exact h1), at_inv hp h0 h1, at_pts h0 h1]
theorem inv_comp {n : Nat} {p : List Int} (hp : PN n p) : comp (inv p) p = pts n := by
  refine ext_at (by rw [comp_len, pts_len, inv_len, hp.1]) fun x h0 h1 => ?_
  rw [comp_len, inv_len, hp.1] at h1
  obtain ⟨z, hz0, hz1, rfl⟩ := hp.surj h0 h1
  rw [at_comp h0 (by rw [inv_len, hp.1]; exact h1), at_inv hp hz0 hz1, at_pts h0 h1]
theorem comp_id {n : Nat} {p : List Int} (hp : PN n p) : comp p (pts n) = p := by
  refine ext_at (by rw [comp_len]) fun x h0 h1 => ?_
  rw [comp_len, hp.1] at h1
  have := hp.rng h0 h1
  rw [at_comp h0 (by rw [hp.1]; exact h1), at_pts this.1 this.2]
theorem id_comp {n : Nat} {p : List Int} (hp : PN n p) : comp (pts n) p = p := by
  refine ext_at (by rw [comp_len, pts_len, hp.1]) fun x h0 h1 => ?_
  rw [comp_len, pts_len] at h1
  rw [at_comp h0 (by rw [pts_len]; exact h1), at_pts h0 h1]
theorem comp_assoc {n : Nat} {p q r : List Int} (hp : PN n p) (hq : PN n q) : comp (comp p q) r = comp p (comp q r) := by
  refine ext_at (by simp [comp_len]) fun x h0 h1 => ?_
  rw [comp_len, comp_len, hp.1] at h1
  have := hp.rng h0 h1
  rw [at_comp h0 (by rw [comp_len, hp.1]; exact h1), at_comp h0 (by rw [hp.1]; exact h1), at_comp h0 (by rw [hp.1]; exact h1), at_comp this.1 (by rw [hq.1]; exact this.2)]
theorem comp_right_cancel {n : Nat} {p q g : List Int} (hp : PN n p) (hq : PN n q) (hg : PN n g) (h : comp p g = comp q g) : p = q := by
  have h2 : comp (comp p g) (inv g) = comp (comp q g) (inv g) := by rw [h]
  rwa [comp_assoc hp hg, comp_assoc hq hg, comp_inv hg, comp_id hp, comp_id hq] at h2

/-- the group that G generates -/
inductive Grp (n : Nat) (G : List (List Int)) : List Int → Prop
  | id : Grp n G (pts n)
  | mul {p g : List Int} : Grp n G p → g ∈ G → Grp n G (comp p g)
  | div {p g : List Int} : Grp n G p → g ∈ G → Grp n G (comp p (inv g))

section
variable {n : Nat} {G : List (List Int)} (hG : ∀ g ∈ G, PN n g)
include hG
theorem Grp.pn {p : List Int} (h : Grp n G p) : PN n p := by
  induction h with
  | id => exact PN.id n
  | mul _ hg ih => exact ih.comp (hG _ hg)
  | div _ hg ih => exact ih.comp (hG _ hg).inv
theorem Grp.comp {p q : List Int} (hp : Grp n G p) (hq : Grp n G q) : Grp n G (comp p q) := by
  have pp := hp.pn hG
  induction hq with
  | id => rw [comp_id pp]; exact hp
  | mul hq hg ih => rw [← comp_assoc pp (Grp.pn hG hq)]; exact ih.mul hg
  | div hq hg ih => rw [← comp_assoc pp (Grp.pn hG hq)]; exact ih.div hg
theorem Grp.gen {g : List Int} (h : g ∈ G) : Grp n G g := by
  have := (Grp.id (n := n) (G := G)).mul h
  rwa [id_comp (hG g h)] at this
theorem Grp.gen_inv {g : List Int} (h : g ∈ G) : Grp n G (PM.inv g) := by
  have := (Grp.id (n := n) (G := G)).div h
  rwa [id_comp (hG g h).inv] at this
end
theorem inv_of {n : Nat} {p q : List Int} (hp : PN n p) (hq : PN n q) (h : comp p q = pts n) : q = PM.inv p := by
  have : comp (PM.inv p) (comp p q) = comp (PM.inv p) (pts n) := by rw [h]
  rwa [← comp_assoc hp.inv hp, inv_comp hp, id_comp hq, comp_id hp.inv] at this
theorem inv_inv {n : Nat} {p : List Int} (hp : PN n p) : PM.inv (PM.inv p) = p := (inv_of hp.inv hp (inv_comp hp)).symm
theorem inv_comp_eq {n : Nat} {p q : List Int} (hp : PN n p) (hq : PN n q) : PM.inv (comp p q) = comp (PM.inv q) (PM.inv p) := by
  refine (inv_of (hp.comp hq) (hq.inv.comp hp.inv) ?_).symm
  rw [comp_assoc hp hq, ← comp_assoc hq hq.inv, comp_inv hq, id_comp hp.inv, comp_inv hp]
theorem inv_id (n : Nat) : PM.inv (pts n) = pts n := (inv_of (PN.id n) (PN.id n) (comp_id (PN.id n))).symm
theorem Grp.inv {n : Nat} {G : List (List Int)} (hG : ∀ g ∈ G, PN n g) {p : List Int} (hp : Grp n G p) : Grp n G (PM.inv p) := by
  induction hp with
  | id => rw [inv_id]; exact .id
  | mul hq hg ih => rw [inv_comp_eq (Grp.pn hG hq) (hG _ hg)]; exact Grp.comp hG (Grp.gen_inv hG hg) ih
  | div hq hg ih => rw [inv_comp_eq (Grp.pn hG hq) (hG _ hg).inv, inv_inv (hG _ hg)]; exact Grp.comp hG (Grp.gen hG hg) ih
theorem Grp.mono {n : Nat} {G G' : List (List Int)} (hG' : ∀ g ∈ G', PN n g) (h : ∀ g ∈ G, Grp n G' g) {p : List Int} (hp : Grp n G p) : Grp n G' p := by
  induction hp with
  | id => exact .id
  | mul _ hg ih => exact Grp.comp hG' ih (h _ hg)
  | div _ hg ih => exact Grp.comp hG' ih (Grp.inv hG' (h _ hg))

/-- all lists of k entries out of a list -/
def allL (A : List Int) : Nat → List (List Int)
  | 0 => [[]]
  | k + 1 => (allL A k).flatMap fun l => A.map fun x => x :: l
theorem mem_allL {A : List Int} : ∀ (p : List Int), (∀ x ∈ p, x ∈ A) → p ∈ allL A p.length := by
  intro p
  induction p with
  | nil => intro _; simp [allL]
  | cons x p ih =>
    intro h
    have h1 := ih fun y hy => h y (by simp [hy])
    simp only [allL, List.length_cons, List.mem_flatMap, List.mem_map]
    exact ⟨p, h1, x, h x (by simp), rfl⟩
theorem nodup_exists {α : Type} (L : List α) (S : α → Prop) : ∃ L' : List α, L'.Nodup ∧ ∀ x, x ∈ L' ↔ x ∈ L ∧ S x := by
  classical
  induction L with
  | nil => exact ⟨[], List.nodup_nil, by simp⟩
  | cons a L ih =>
    obtain ⟨L', h1, h2⟩ := ih
    by_cases h : a ∈ L' ∨ ¬ S a
    · refine ⟨L', h1, fun x => ?_⟩
      rw [h2 x]
      constructor
      · rintro ⟨a1, a2⟩; exact ⟨by simp [a1], a2⟩
      · rintro ⟨a1, a2⟩
        rcases List.mem_cons.1 a1 with rfl | a1
        · rcases h with h | h
          · exact (h2 x).1 h
          · exact absurd a2 h
        · exact ⟨a1, a2⟩
    · have h' : a ∉ L' ∧ S a := ⟨fun e => h (.inl e), Classical.byContradiction fun e => h (.inr e)⟩
      refine ⟨a :: L', List.nodup_cons.2 ⟨h'.1, h1⟩, fun x => ?_⟩
      simp only [List.mem_cons, h2 x]
      constructor
      · rintro (rfl | ⟨a1, a2⟩)
        · exact ⟨.inl rfl, h'.2⟩
        · exact ⟨.inr a1, a2⟩
      · rintro ⟨rfl | a1, a2⟩
        · exact .inl rfl
        · exact .inr ⟨a1, a2⟩
/-- a set of permutations closed under a factor is closed under its inverse -/
theorem closed_div {n : Nat} {S : List Int → Prop} (hS : ∀ p, S p → PN n p) {g : List Int} (hg : PN n g) (hc : ∀ p, S p → S (comp p g)) : ∀ p, S p → S (comp p (PM.inv g)) := by
  intro p hp
  obtain ⟨L, h1, h2⟩ := nodup_exists (allL (pts n) n) S
  have hin : ∀ q, S q → q ∈ L := fun q hq => (h2 q).2 ⟨by
    have h3 := hS q hq
    have h4 := mem_allL (A := pts n) q (fun x hx => by have := h3.2.1 x hx; rw [h3.1] at this; exact mem_pts.2 this)
    rwa [h3.1] at h4, hq⟩
  have hsub : L.map (fun q => comp q g) ⊆ L := by
    intro x hx
    obtain ⟨q, hq, rfl⟩ := List.mem_map.1 hx
    exact hin _ (hc q ((h2 q).1 hq).2)
  have hnd : (L.map fun q => comp q g).Nodup := by
    refine List.pairwise_map.2 ?_
    refine List.Pairwise.imp_of_mem (R := fun a b => a ≠ b) ?_ h1
    intro a b ha hb hab he
    exact hab (comp_right_cancel (hS a ((h2 a).1 ha).2) (hS b ((h2 b).1 hb).2) hg he)
  have hall := nodup_sub_all hnd hsub (by simp)
  obtain ⟨q, hq, hqe⟩ := List.mem_map.1 (hall (hin p hp))
  have hqS := ((h2 q).1 hq).2
  rw [← hqe, comp_assoc (hS q hqS) hg, comp_inv hg, comp_id (hS q hqS)]
  exact hqS
/-- a set that has the identity and is closed under generators has the group -/
theorem grp_sub {n : Nat} {G : List (List Int)} (hG : ∀ g ∈ G, PN n g) {S : List Int → Prop} (hS : ∀ p, S p → PN n p) (h1 : S (pts n)) (hc : ∀ p g, S p → g ∈ G → S (comp p g)) {p : List Int} (hp : Grp n G p) : S p := by
  induction hp with
  | id => exact h1
  | mul _ hg ih => exact hc _ _ ih hg
  | div _ hg ih => exact closed_div hS (hG _ hg) (fun q hq => hc q _ hq hg) _ ih
end PM

namespace PM

/-- the rows of a chain: at each level and point a permutation, [] where there is none -/
abbrev Rows := List (List (List Int))
def tr (T : Rows) (k : Nat) (y : Int) : List Int := if y < 0 then [] else (T.getD k []).getD y.toNat []
/-- the points below k are fixed -/
def Fix (k : Nat) (p : List Int) : Prop := ∀ x : Int, 0 ≤ x → x < k → at_ p x = x
/-- is p a product of rows' permutations, m levels from the end -/
def has (T : Rows) (n : Nat) : Nat → List Int → Bool
  | 0, _ => true
  | m + 1, p =>
    let t := tr T (n - (m + 1)) (at_ p ((n - (m + 1) : Nat) : Int))
    if t = [] then false else has T n m (comp p (inv t))
/-- more rows' permutations -/
def Ext (T T' : Rows) : Prop := ∀ k y, tr T k y ≠ [] → tr T' k y = tr T k y
theorem Ext.refl (T : Rows) : Ext T T := fun _ _ _ => rfl
theorem Ext.trans {T T' T'' : Rows} (h : Ext T T') (h' : Ext T' T'') : Ext T T'' := fun k y hn => by
  have := h k y hn
  rw [← this]; exact h' k y (by rw [this]; exact hn)
theorem has_mono {T T' : Rows} (h : Ext T T') (n : Nat) : ∀ (m : Nat) (p : List Int), has T n m p = true → has T' n m p = true := by
  intro m
  induction m with
  | zero => intro p _; rfl
  | succ m ih =>
    intro p hp
    simp only [has] at hp ⊢
    split at hp
    · cases hp
    · rename_i hn
      rw [h _ _ hn, if_neg hn]
      exact ih _ hp
theorem has_congr {T T' : Rows} {n m : Nat} (h : ∀ k y, n - m ≤ k → tr T' k y = tr T k y) : ∀ p, has T n m p = has T' n m p := by
  induction m with
  | zero => intro p; rfl
  | succ m ih =>
    intro p
    simp only [has]
    rw [h _ _ (Nat.le_refl _), ih (fun k y hk => h k y (by omega))]

/-- the rows as they should be: the k-th row has at y nothing, or a permutation that fixes what is below k and takes k to y -/
structure WF (n : Nat) (T : Rows) : Prop where
  pn : ∀ (k : Nat) (y : Int), k < n → tr T k y ≠ [] → PN n (tr T k y)
  fix : ∀ (k : Nat) (y : Int), k < n → tr T k y ≠ [] → Fix k (tr T k y)
  at_ : ∀ (k : Nat) (y : Int), k < n → tr T k y ≠ [] → at_ (tr T k y) k = y
  one : ∀ (k : Nat), k < n → tr T k k = pts n
theorem pts_ne {n : Nat} (h : 0 < n) : pts n ≠ [] := by
  intro e
  have := pts_len n
  rw [e] at this; simp at this; omega
theorem PN.ne {n : Nat} {p : List Int} (h : PN n p) (hn : 0 < n) : p ≠ [] := by
  intro e
  have := h.1
  rw [e] at this; simp at this; omega

/-- the generators of a level -/
abbrev Gens := List (List (List Int))
def lv (G : Gens) (k : Nat) : List (List Int) := G.getD k []

/-- the remainder of p at level k -/
def res (T : Rows) (k : Nat) (p : List Int) : List Int := comp p (inv (tr T k (at_ p (k : Int))))
/-- a product that the rows know -/
def Ok (T : Rows) (n k : Nat) (p : List Int) : Prop := tr T k (at_ p (k : Int)) ≠ [] ∧ has T n (n - (k + 1)) (res T k p) = true
theorem Ok.has {T : Rows} {n k : Nat} {p : List Int} (hk : k < n) : Ok T n k p ↔ has T n (n - k) p = true := by
  have h1 : n - k = (n - (k + 1)) + 1 := by omega
  have h2 : n - (n - (k + 1) + 1) = k := by omega
  rw [h1]
  simp only [PM.has, h2, Ok, res]
  constructor
  · rintro ⟨a, b⟩; rw [if_neg a]; exact b
  · intro h
    split at h
    · cases h
    · rename_i hn; exact ⟨hn, h⟩
theorem Ok.mono {T T' : Rows} (h : Ext T T') {n k : Nat} {p : List Int} (ho : Ok T n k p) : Ok T' n k p := by
  obtain ⟨a, b⟩ := ho
  have e := h _ _ a
  refine ⟨by rw [e]; exact a, ?_⟩
  have : res T' k p = res T k p := by simp only [res, e]
  rw [this]; exact has_mono h n _ _ b

/-- the chain's generators and rows, levels from k on complete -/
structure Inv (n k : Nat) (G : Gens) (T : Rows) : Prop where
  wf : WF n T
  gpn : ∀ j g, j < n → g ∈ lv G j → PN n g
  gfix : ∀ j g, j < n → g ∈ lv G j → Fix j g
  row : ∀ j y, j < n → tr T j y ≠ [] → Grp n (lv G j) (tr T j y)
  up : ∀ j g, j + 1 < n → g ∈ lv G (j + 1) → Grp n (lv G j) g
  cpl : ∀ j y g, k ≤ j → j < n → tr T j y ≠ [] → g ∈ lv G j → Ok T n j (comp (tr T j y) g)

theorem Fix.comp {n k : Nat} {p q : List Int} (hp : PN n p) (hk : k ≤ n) (h1 : Fix k p) (h2 : Fix k q) : Fix k (comp p q) := by
  intro x h0 hx
  rw [at_comp h0 (by rw [hp.1]; omega), h1 x h0 hx, h2 x h0 hx]
theorem Fix.inv {n k : Nat} {p : List Int} (hp : PN n p) (hk : k ≤ n) (h1 : Fix k p) : Fix k (inv p) := by
  intro x h0 hx
  have := at_inv hp h0 (by omega)
  rwa [h1 x h0 hx] at this
theorem Fix.all {n : Nat} {p : List Int} (hp : PN n p) (h : Fix n p) : p = pts n :=
  ext_at (by rw [hp.1, pts_len]) fun x h0 h1 => by rw [hp.1] at h1; rw [h x h0 h1, at_pts h0 h1]
theorem Fix.id (n k : Nat) (hk : k ≤ n) : Fix k (pts n) := fun x h0 hx => at_pts h0 (by omega)
/-- dividing by the row's permutation fixes one point more -/
theorem Fix.res {n k : Nat} {T : Rows} (hw : WF n T) (hk : k < n) {p : List Int} (hp : PN n p) (hf : Fix k p) (hn : tr T k (at_ p (k : Int)) ≠ []) : PN n (res T k p) ∧ Fix (k + 1) (res T k p) := by
  have ht := hw.pn k _ hk hn
  refine ⟨hp.comp ht.inv, ?_⟩
  intro x h0 hx
  unfold PM.res
  rw [at_comp h0 (by rw [hp.1]; omega)]
  by_cases hxk : x < k
  · rw [hf x h0 hxk]
    exact Fix.inv ht (by omega) (hw.fix k _ hk hn) x h0 hxk
  · have : x = k := by omega
    subst this
    have h1 := hw.at_ k _ hk hn
    have h2 := at_inv ht (x := (k : Int)) (by omega) (by omega)
    rwa [h1] at h2
theorem res_mul {n k : Nat} {T : Rows} (hw : WF n T) (hk : k < n) {p : List Int} (hp : PN n p) (hn : tr T k (at_ p (k : Int)) ≠ []) : comp (res T k p) (tr T k (at_ p (k : Int))) = p := by
  have ht := hw.pn k _ hk hn
  unfold res
  rw [comp_assoc hp ht.inv, inv_comp ht, comp_id hp]

/-- p fixes what is below k, and the rows know it -/
def Sk (T : Rows) (n k : Nat) (p : List Int) : Prop := PN n p ∧ Fix k p ∧ has T n (n - k) p = true

/-- at complete levels the rows know just the group of the level's generators -/
theorem level_grp {n : Nat} {G : Gens} {T : Rows} : ∀ (m k : Nat), n - k = m → k < n → Inv n k G T → ∀ p, Sk T n k p ↔ Grp n (lv G k) p := by
  intro m
  induction m with
  | zero => intro k h1 h2; omega
  | succ m ih =>
    intro k hm hk hI
    have hG : ∀ g ∈ lv G k, PN n g := fun g hg => hI.gpn k g hk hg
    -- the next level: what it knows is a group, within this level's
    have next : (∀ p q, Sk T n (k + 1) p → Sk T n (k + 1) q → Sk T n (k + 1) (comp p q)) ∧ (∀ p, Sk T n (k + 1) p → Grp n (lv G k) p) ∧ Sk T n (k + 1) (pts n) := by
      by_cases hk1 : k + 1 < n
      · have hI1 : Inv n (k + 1) G T := ⟨hI.wf, hI.gpn, hI.gfix, hI.row, hI.up, fun j y g h1 h2 h3 h4 => hI.cpl j y g (by omega) h2 h3 h4⟩
        have hh := ih (k + 1) (by omega) hk1 hI1
        have hG1 : ∀ g ∈ lv G (k + 1), PN n g := fun g hg => hI.gpn (k + 1) g hk1 hg
        refine ⟨fun p q hp hq => (hh _).2 (Grp.comp hG1 ((hh p).1 hp) ((hh q).1 hq)), fun p hp => ?_, (hh _).2 .id⟩
        exact Grp.mono hG (fun g hg => hI.up k g hk1 hg) ((hh p).1 hp)
      · have hk2 : k + 1 = n := by omega
        have hid : ∀ p, Sk T n (k + 1) p → p = pts n := fun p hp => Fix.all hp.1 (by rw [← hk2]; exact hp.2.1)
        have h0 : Sk T n (k + 1) (pts n) := ⟨PN.id n, Fix.id n _ (by omega), by rw [hk2, Nat.sub_self]; rfl⟩
        refine ⟨fun p q hp hq => ?_, fun p hp => ?_, h0⟩
        · rw [hid p hp, hid q hq, comp_id (PN.id n)]; exact h0
        · rw [hid p hp]; exact .id
    obtain ⟨nmul, nsub, nid⟩ := next
    -- one step down
    have down : ∀ p, PN n p → Fix k p → (has T n (n - k) p = true ↔ tr T k (at_ p (k : Int)) ≠ [] ∧ Sk T n (k + 1) (res T k p)) := by
      intro p hp hf
      rw [← Ok.has hk]
      constructor
      · rintro ⟨a, b⟩
        obtain ⟨c, d⟩ := Fix.res hI.wf hk hp hf a
        exact ⟨a, c, d, b⟩
      · rintro ⟨a, b⟩; exact ⟨a, b.2.2⟩
    intro p
    constructor
    · rintro ⟨hp, hf, hh⟩
      obtain ⟨hn, hs⟩ := (down p hp hf).1 hh
      rw [← res_mul hI.wf hk hp hn]
      exact Grp.comp hG (nsub _ hs) (hI.row k _ hk hn)
    · intro hp
      refine grp_sub hG (S := Sk T n k) (fun p hp => hp.1) ?_ ?_ hp
      · refine ⟨PN.id n, Fix.id n k (by omega), ?_⟩
        refine (down _ (PN.id n) (Fix.id n k (by omega))).2 ?_
        have e : at_ (pts n) (k : Int) = k := at_pts (by omega) (by omega)
        have e2 : tr T k (at_ (pts n) (k : Int)) = pts n := by rw [e]; exact hI.wf.one k hk
        refine ⟨by rw [e2]; exact pts_ne (by omega), ?_⟩
        unfold res
        rw [e2, comp_inv (PN.id n)]; exact nid
      · rintro q g ⟨hq, hf, hh⟩ hg
        obtain ⟨hn, hs⟩ := (down q hq hf).1 hh
        have hgp := hG g hg
        have ht := hI.wf.pn k _ hk hn
        have hqg := hq.comp hgp
        have hfg : Fix k (comp q g) := Fix.comp hq (by omega) hf (hI.gfix k g hk hg)
        refine ⟨hqg, hfg, (down _ hqg hfg).2 ?_⟩
        -- the product of the row's permutation with g
        obtain ⟨o1, o2⟩ := hI.cpl k _ g (Nat.le_refl _) hk hn hg
        have e1 : at_ (comp q g) (k : Int) = at_ (comp (tr T k (at_ q (k : Int))) g) (k : Int) := by
          rw [at_comp (by omega) (by rw [hq.1]; omega), at_comp (by omega) (by rw [ht.1]; omega), hI.wf.at_ k _ hk hn]
        refine ⟨by rw [e1]; exact o1, ?_⟩
        have hft : Fix k (comp (tr T k (at_ q (k : Int))) g) := Fix.comp ht (by omega) (hI.wf.fix k _ hk hn) (hI.gfix k g hk hg)
        obtain ⟨c1, c2⟩ := Fix.res hI.wf hk (ht.comp hgp) hft o1
        have hu : Sk T n (k + 1) (res T k (comp (tr T k (at_ q (k : Int))) g)) := ⟨c1, c2, o2⟩
        have key : res T k (comp q g) = comp (res T k q) (res T k (comp (tr T k (at_ q (k : Int))) g)) := by
          have h1 := res_mul hI.wf hk hq hn
          have ht' := hI.wf.pn k _ hk o1
          have hr := (Fix.res hI.wf hk hq hf hn).1
          conv => lhs; unfold res
          rw [e1]
          conv => rhs; arg 2; unfold res
          rw [← comp_assoc hr (ht.comp hgp), ← comp_assoc hr ht, h1]
        rw [key]
        exact nmul _ _ hs hu
/-- which places of a row are filled: those to which a member that fixes the points below takes the level's point -/
theorem row_iff {n : Nat} {G : Gens} {T : Rows} (hI : Inv n 0 G T) (hn : 0 < n) {k : Nat} (hk : k < n) {y : Int} (h0 : 0 ≤ y) (hy : y < n) :
    tr T k y ≠ [] ↔ ∃ p, Grp n (lv G 0) p ∧ Fix k p ∧ at_ p (k : Int) = y := by
  have hsub : ∀ j, j < n → ∀ p, Grp n (lv G j) p → Grp n (lv G 0) p := by
    intro j
    induction j with
    | zero => intro _ p hp; exact hp
    | succ j ih =>
      intro hj p hp
      exact ih (by omega) p (Grp.mono (fun g hg => hI.gpn j g (by omega) hg) (fun g hg => hI.up j g hj hg) hp)
  constructor
  · intro h
    exact ⟨_, hsub k hk _ (hI.row k y hk h), hI.wf.fix k y hk h, hI.wf.at_ k y hk h⟩
  · rintro ⟨p, hp, hf, rfl⟩
    have hs := (level_grp n 0 (by omega) hn hI p).2 hp
    -- down to level k
    have hdown : ∀ j, j ≤ k → has T n (n - j) p = true := by
      intro j
      induction j with
      | zero => intro _; exact hs.2.2
      | succ j ih =>
        intro hj
        have h1 := ih (by omega)
        obtain ⟨a, b⟩ := (Ok.has (by omega : j < n)).2 h1
        have e : at_ p (j : Int) = j := hf j (by omega) (by omega)
        have e2 : tr T j (at_ p (j : Int)) = pts n := by rw [e]; exact hI.wf.one j (by omega)
        have e3 : res T j p = p := by unfold res; rw [e2, inv_id, comp_id hs.1]
        rwa [e3] at b
    exact ((Ok.has hk).2 (hdown k (Nat.le_refl _))).1
end PM

namespace PM

def setT (T : Rows) (k m : Nat) (p : List Int) : Rows := T.set k ((T.getD k []).set m p)
/-- the form of a chain of n points -/
structure Shape (n : Nat) (G : Gens) (T : Rows) : Prop where
  lt : T.length = n
  lr : ∀ k, k < n → (T.getD k []).length = n
  lg : G.length = n
theorem tr_setT {T : Rows} {k m : Nat} (hk : k < T.length) (hm : m < (T.getD k []).length) (p : List Int) (j : Nat) (y : Int) :
    tr (setT T k m p) j y = if j = k ∧ y = (m : Int) then p else tr T j y := by
  unfold tr setT
  by_cases hy : y < 0
  · rw [if_pos hy, if_pos hy, if_neg (by omega)]
  · rw [if_neg hy, if_neg hy]
    by_cases hj : j = k
    · subst hj
      have e1 : (T.set j ((T.getD j []).set m p)).getD j [] = (T.getD j []).set m p := by
        rw [List.getD_eq_getElem?_getD, List.getElem?_set_self hk]; rfl
      rw [e1]
      by_cases hm2 : y = (m : Int)
      · rw [if_pos ⟨rfl, hm2⟩]
        have : y.toNat = m := by omega
        rw [this, List.getD_eq_getElem?_getD, List.getElem?_set_self hm]; rfl
      · rw [if_neg (by simp [hm2])]
        rw [List.getD_eq_getElem?_getD, List.getElem?_set_ne (by omega), ← List.getD_eq_getElem?_getD]
    · rw [if_neg (by simp [hj])]
      have e1 : (T.set k ((T.getD k []).set m p)).getD j [] = T.getD j [] := by
        rw [List.getD_eq_getElem?_getD, List.getElem?_set_ne (by omega), ← List.getD_eq_getElem?_getD]
      rw [e1]
theorem lv_set {G : Gens} {k : Nat} (hk : k < G.length) (L : List (List Int)) (j : Nat) : lv (G.set k L) j = if j = k then L else lv G j := by
  unfold lv
  by_cases hj : j = k
  · subst hj
    rw [if_pos rfl, List.getD_eq_getElem?_getD, List.getElem?_set_self hk]; rfl
  · rw [if_neg hj, List.getD_eq_getElem?_getD, List.getElem?_set_ne (by omega), ← List.getD_eq_getElem?_getD]
theorem Shape.setT {n : Nat} {G : Gens} {T : Rows} (h : Shape n G T) (k m : Nat) (p : List Int) : Shape n G (setT T k m p) := by
  refine ⟨by simp [PM.setT, h.lt], fun j hj => ?_, h.lg⟩
  unfold PM.setT
  by_cases hjk : j = k
  · subst hjk
    rw [List.getD_eq_getElem?_getD, List.getElem?_set_self (by rw [h.lt]; exact hj)]
    simp only [Option.getD_some, List.length_set]; exact h.lr j hj
  · rw [List.getD_eq_getElem?_getD, List.getElem?_set_ne (by omega), ← List.getD_eq_getElem?_getD]; exact h.lr j hj
theorem Shape.setG {n : Nat} {G : Gens} {T : Rows} (h : Shape n G T) (k : Nat) (L : List (List Int)) : Shape n (G.set k L) T := ⟨h.lt, h.lr, by simp [h.lg]⟩

/-- all but completeness -/
structure Base (n : Nat) (G : Gens) (T : Rows) : Prop where
  wf : WF n T
  gpn : ∀ j g, j < n → g ∈ lv G j → PN n g
  gfix : ∀ j g, j < n → g ∈ lv G j → Fix j g
  row : ∀ j y, j < n → tr T j y ≠ [] → Grp n (lv G j) (tr T j y)
  up : ∀ j g, j + 1 < n → g ∈ lv G (j + 1) → Grp n (lv G j) g
def Cpl (n k : Nat) (G : Gens) (T : Rows) : Prop := ∀ j y g, k ≤ j → j < n → tr T j y ≠ [] → g ∈ lv G j → Ok T n j (comp (tr T j y) g)
theorem inv_iff {n k : Nat} {G : Gens} {T : Rows} : Inv n k G T ↔ Base n G T ∧ Cpl n k G T :=
  ⟨fun h => ⟨⟨h.wf, h.gpn, h.gfix, h.row, h.up⟩, h.cpl⟩, fun ⟨h, c⟩ => ⟨h.wf, h.gpn, h.gfix, h.row, h.up, c⟩⟩

/-- G', T' are more than G, T; levels below k stand -/
structure Grew (n k : Nat) (G : Gens) (T : Rows) (G' : Gens) (T' : Rows) : Prop where
  ext : Ext T T'
  low : ∀ j, j < k → lv G' j = lv G j
  lowT : ∀ j y, j < k → tr T' j y = tr T j y
  sup : ∀ j g, g ∈ lv G j → g ∈ lv G' j
theorem Grew.refl (n k : Nat) (G : Gens) (T : Rows) : Grew n k G T G T := ⟨Ext.refl T, fun _ _ => rfl, fun _ _ _ => rfl, fun _ _ h => h⟩
theorem Grew.trans {n k : Nat} {G G' G'' : Gens} {T T' T'' : Rows} (h : Grew n k G T G' T') (h' : Grew n k G' T' G'' T'') : Grew n k G T G'' T'' :=
  ⟨h.ext.trans h'.ext, fun j hj => (h'.low j hj).trans (h.low j hj), fun j y hj => (h'.lowT j y hj).trans (h.lowT j y hj), fun j g hg => h'.sup j g (h.sup j g hg)⟩
theorem Grew.mono {n k k' : Nat} {G G' : Gens} {T T' : Rows} (h : Grew n k G T G' T') (hk : k' ≤ k) : Grew n k' G T G' T' :=
  ⟨h.ext, fun j hj => h.low j (by omega), fun j y hj => h.lowT j y (by omega), h.sup⟩

/-- what the making of a chain with one permutation more at level k leaves -/
structure Added (n k : Nat) (p : List Int) (G : Gens) (T : Rows) (G' : Gens) (T' : Rows) : Prop where
  inv : Inv n k G' T'
  grew : Grew n k G T G' T'
  has : has T' n (n - k) p = true
  gen : ∀ g ∈ lv G' k, g ∈ lv G k ∨ g = p
theorem Added.same {n k : Nat} {p : List Int} {G : Gens} {T : Rows} (h : Inv n k G T) (hh : PM.has T n (n - k) p = true) : Added n k p G T G T :=
  ⟨h, Grew.refl _ _ _ _, hh, fun _ hg => .inl hg⟩

/-- what may be added at level k -/
structure May (n k : Nat) (p : List Int) (G : Gens) : Prop where
  pn : PN n p
  fix : Fix k p
  grp : ∀ j, j + 1 = k → Grp n (lv G j) p

theorem Ok.of_above {T T' : Rows} {n j : Nat} (hj : j < n) (h : ∀ i y, j ≤ i → tr T' i y = tr T i y) {p : List Int} (ho : Ok T n j p) : Ok T' n j p := by
  obtain ⟨a, b⟩ := ho
  have e := h j (at_ p (j : Int)) (Nat.le_refl _)
  refine ⟨by rw [e]; exact a, ?_⟩
  have : res T' j p = res T j p := by simp only [res, e]
  rw [this, ← has_congr (T := T) (fun i y hi => h i y (by omega))]; exact b

/-- one generator more -/
theorem step_gen {n k : Nat} {p : List Int} {G : Gens} {T : Rows} (hs : Shape n G T) (hk : k < n) (hI : Inv n k G T) (hp : May n k p G) :
    Base n (G.set k (lv G k ++ [p])) T ∧ Cpl n (k + 1) (G.set k (lv G k ++ [p])) T ∧ Grew n k G T (G.set k (lv G k ++ [p])) T := by
  have hl := fun j => lv_set (k := k) (G := G) (by rw [hs.lg]; exact hk) (lv G k ++ [p]) j
  have hsup : ∀ j g, g ∈ lv G j → g ∈ lv (G.set k (lv G k ++ [p])) j := by
    intro j g hg
    rw [hl j]; split
    · rename_i e; subst e; simp [hg]
    · exact hg
  have hmem : ∀ j g, g ∈ lv (G.set k (lv G k ++ [p])) j → g ∈ lv G j ∨ (j = k ∧ g = p) := by
    intro j g hg
    rw [hl j] at hg
    split at hg
    · rename_i e; subst e
      rcases List.mem_append.1 hg with h | h
      · exact .inl h
      · exact .inr ⟨rfl, by simpa using h⟩
    · exact .inl hg
  have hgpn : ∀ j g, j < n → g ∈ lv (G.set k (lv G k ++ [p])) j → PN n g := fun j g hj hg => by
    rcases hmem j g hg with h | ⟨rfl, rfl⟩
    · exact hI.gpn j g hj h
    · exact hp.pn
  refine ⟨⟨hI.wf, hgpn, fun j g hj hg => ?_, fun j y hj hn => ?_, fun j g hj hg => ?_⟩, fun j y g h1 h2 h3 h4 => ?_, ⟨Ext.refl T, fun j hj => ?_, fun _ _ _ => rfl, hsup⟩⟩
  · rcases hmem j g hg with h | ⟨rfl, rfl⟩
    · exact hI.gfix j g hj h
    · exact hp.fix
  · exact Grp.mono (fun g hg => hgpn j g hj hg) (fun g hg => Grp.gen (fun g hg => hgpn j g hj hg) (hsup j g hg)) (hI.row j y hj hn)
  · have hG : ∀ g ∈ lv (G.set k (lv G k ++ [p])) j, PN n g := fun g hg => hgpn j g (by omega) hg
    have hm : ∀ q, Grp n (lv G j) q → Grp n (lv (G.set k (lv G k ++ [p])) j) q := fun q hq => Grp.mono hG (fun g hg => Grp.gen hG (hsup j g hg)) hq
    rcases hmem (j + 1) g hg with h | ⟨h, rfl⟩
    · exact hm _ (hI.up j g hj h)
    · exact hm _ (hp.grp j h)
  · rcases hmem j g h4 with h | ⟨rfl, rfl⟩
    · exact hI.cpl j y g (by omega) h2 h3 h
    · omega
  · rw [hl j, if_neg (by omega)]

/-- one place of row k more -/
theorem step_row {n k : Nat} {G : Gens} {T : Rows} {q : List Int} {m : Nat} (hs : Shape n G T) (hk : k < n) (hB : Base n G T) (hC : Cpl n (k + 1) G T) (hq : PN n q) (hf : Fix k q) (hg : Grp n (lv G k) q)
    (hm : at_ q (k : Int) = (m : Int)) (hmn : m < n) (h0 : tr T k (m : Int) = []) :
    Base n G (setT T k m q) ∧ Cpl n (k + 1) G (setT T k m q) ∧ Grew n k G T G (setT T k m q) := by
  have hl := fun j y => tr_setT (T := T) (k := k) (m := m) (by rw [hs.lt]; exact hk) (by rw [hs.lr k hk]; exact hmn) q j y
  have hne : (m : Int) ≠ k := by
    intro e
    rw [e, hB.wf.one k hk] at h0
    exact pts_ne (by omega) h0
  have hext : Ext T (setT T k m q) := by
    intro j y hn
    rw [hl j y]; split
    · rename_i e; obtain ⟨rfl, rfl⟩ := e; exact absurd h0 hn
    · rfl
  have habove : ∀ i y, k + 1 ≤ i → tr (setT T k m q) i y = tr T i y := fun i y hi => by rw [hl i y, if_neg (by omega)]
  refine ⟨⟨⟨fun j y hj hn => ?_, fun j y hj hn => ?_, fun j y hj hn => ?_, fun j hj => ?_⟩, hB.gpn, hB.gfix, fun j y hj hn => ?_, hB.up⟩, fun j y g h1 h2 h3 h4 => ?_, ⟨hext, fun _ _ => rfl, fun j y hj => ?_, fun _ _ h => h⟩⟩
  · rw [hl j y] at hn ⊢; split at hn
    · rename_i e; rw [if_pos e]; exact hq
    · rename_i e; rw [if_neg e]; exact hB.wf.pn j y hj hn
  · rw [hl j y] at hn ⊢; split at hn
    · rename_i e; rw [if_pos e, e.1]; exact hf
    · rename_i e; rw [if_neg e]; exact hB.wf.fix j y hj hn
  · rw [hl j y] at hn ⊢; split at hn
    · rename_i e; rw [if_pos e, e.1, e.2]; exact hm
    · rename_i e; rw [if_neg e]; exact hB.wf.at_ j y hj hn
  · rw [hl j j, if_neg (by rintro ⟨rfl, e⟩; exact hne e.symm)]; exact hB.wf.one j hj
  · rw [hl j y] at hn ⊢; split at hn
    · rename_i e; rw [if_pos e, e.1]; exact hg
    · rename_i e; rw [if_neg e]; exact hB.row j y hj hn
  · rw [habove j y h1] at h3 ⊢
    exact Ok.of_above h2 (fun i y hi => habove i y (by omega)) (hC j y g h1 h2 h3 h4)
  · rw [hl j y, if_neg (by omega)]

/-- what is left of a product belongs to the next level -/
theorem step_res {n k : Nat} {G : Gens} {T : Rows} {q : List Int} (hk : k < n) (hB : Base n G T) (hq : PN n q) (hf : Fix k q) (hg : Grp n (lv G k) q) (hn : tr T k (at_ q (k : Int)) ≠ []) :
    May n (k + 1) (res T k q) G := by
  obtain ⟨a, b⟩ := Fix.res hB.wf hk hq hf hn
  refine ⟨a, b, fun j hj => ?_⟩
  have : j = k := by omega
  subst this
  have hG : ∀ g ∈ lv G j, PN n g := fun g hg => hB.gpn j g hk hg
  exact Grp.comp hG hg (Grp.inv hG (hB.row j _ hk hn))
theorem row_mul {n k : Nat} {G : Gens} {T : Rows} {y : Int} {g : List Int} (hk : k < n) (hB : Base n G T) (hn : tr T k y ≠ []) (hg : g ∈ lv G k) :
    PN n (comp (tr T k y) g) ∧ Fix k (comp (tr T k y) g) ∧ Grp n (lv G k) (comp (tr T k y) g) ∧ at_ (comp (tr T k y) g) (k : Int) = at_ g y := by
  have ht := hB.wf.pn k y hk hn
  have hgp := hB.gpn k g hk hg
  refine ⟨ht.comp hgp, Fix.comp ht (by omega) (hB.wf.fix k y hk hn) (hB.gfix k g hk hg), (hB.row k y hk hn).mul hg, ?_⟩
  rw [at_comp (by omega) (by rw [ht.1]; omega), hB.wf.at_ k y hk hn]
theorem row_rng {n k : Nat} {G : Gens} {T : Rows} {y : Int} (hk : k < n) (hB : Base n G T) (hn : tr T k y ≠ []) : 0 ≤ y ∧ y < n := by
  have ht := hB.wf.pn k y hk hn
  have := ht.rng (x := (k : Int)) (by omega) (by omega)
  rwa [hB.wf.at_ k y hk hn] at this
/-- what the next level's making leaves of this level -/
theorem Added.up {n k : Nat} {q : List Int} {G G' : Gens} {T T' : Rows} (h : Added n (k + 1) (res T k q) G T G' T') (hn : tr T k (at_ q (k : Int)) ≠ []) :
    Base n G' T' ∧ Cpl n (k + 1) G' T' ∧ Grew n (k + 1) G T G' T' ∧ Ok T' n k q := by
  obtain ⟨a, b⟩ := inv_iff.1 h.inv
  refine ⟨a, b, h.grew, ?_⟩
  have e := h.grew.ext k _ hn
  refine ⟨by rw [e]; exact hn, ?_⟩
  have : res T' k q = res T k q := by simp only [res, e]
  rw [this]; exact h.has
theorem Added.level {n k : Nat} {p : List Int} {G' : Gens} {T' : Rows} {G : Gens} {T0 : Rows} (hk : k < n) (hB : Base n G' T') (hC : Cpl n (k + 1) G' T') (hg : Grew n k G T0 G' T')
    (hall : ∀ y g, tr T' k y ≠ [] → g ∈ lv G' k → Ok T' n k (comp (tr T' k y) g)) (hp : p ∈ lv G' k) (hgen : ∀ g ∈ lv G' k, g ∈ lv G k ∨ g = p) : Added n k p G T0 G' T' := by
  refine ⟨inv_iff.2 ⟨hB, fun j y g h1 h2 h3 h4 => ?_⟩, hg, ?_, hgen⟩
  · by_cases hj : j = k
    · subst hj; exact hall y g h3 h4
    · exact hC j y g (by omega) h2 h3 h4
  · have h1 := hB.wf.one k hk
    have h2 := hall k p (by rw [h1]; exact pts_ne (by omega)) hp
    rw [h1, id_comp (hB.gpn k p hk hp)] at h2
    exact (Ok.has hk).1 h2

/-- the empty chain -/
def row0 (n k : Nat) : List (List Int) := (List.replicate n []).set k (pts n)
def T0 (n : Nat) : Rows := (List.range n).map (row0 n)
def G0 (n : Nat) : Gens := List.replicate n []
theorem T0_row {n k : Nat} (hk : k < n) : (T0 n).getD k [] = row0 n k := by
  rw [List.getD_eq_getElem?_getD]; simp [T0, hk]
theorem tr_T0 {n k : Nat} (hk : k < n) (y : Int) : tr (T0 n) k y = if y = k then pts n else [] := by
  unfold tr
  rw [T0_row hk]
  by_cases hy : y < 0
  · rw [if_pos hy, if_neg (by omega)]
  · rw [if_neg hy]
    unfold row0
    by_cases e : y = k
    · rw [if_pos e]
      have : y.toNat = k := by omega
      rw [this, List.getD_eq_getElem?_getD, List.getElem?_set_self (by simp [hk])]; rfl
    · rw [if_neg e, List.getD_eq_getElem?_getD, List.getElem?_set_ne (by omega)]
      rw [List.getElem?_replicate]; split <;> rfl
theorem lv_G0 (n k : Nat) : lv (G0 n) k = [] := by
  unfold lv G0
  rw [List.getD_eq_getElem?_getD, List.getElem?_replicate]; split <;> rfl
theorem Shape.zero (n : Nat) : Shape n (G0 n) (T0 n) := ⟨by simp [T0], fun k hk => by rw [T0_row hk]; simp [row0], by simp [G0]⟩
theorem Inv.zero (n : Nat) : Inv n 0 (G0 n) (T0 n) := by
  have hy : ∀ k y, k < n → tr (T0 n) k y ≠ [] → y = k ∧ tr (T0 n) k y = pts n := by
    intro k y hk h
    rw [tr_T0 hk y] at h ⊢
    split at h
    · rename_i e; exact ⟨e, if_pos e⟩
    · exact absurd rfl h
  refine ⟨⟨fun k y hk h => ?_, fun k y hk h => ?_, fun k y hk h => ?_, fun k hk => ?_⟩, fun j g hj hg => ?_, fun j g hj hg => ?_, fun j y hj h => ?_, fun j g hj hg => ?_, fun j y g _ hj h hg => ?_⟩
  · rw [(hy k y hk h).2]; exact PN.id n
  · rw [(hy k y hk h).2]; exact Fix.id n k (by omega)
  · obtain ⟨rfl, e⟩ := hy k y hk h
    rw [e]; exact at_pts (by omega) (by omega)
  · rw [tr_T0 hk, if_pos rfl]
  · rw [lv_G0] at hg; cases hg
  · rw [lv_G0] at hg; cases hg
  · rw [(hy j y hj h).2]; exact .id
  · rw [lv_G0] at hg; cases hg
  · rw [lv_G0] at hg; cases hg

/-- a complete chain whose first level's generators generate what gens generate -/
structure Chain (n : Nat) (gens : List (List Int)) (G : Gens) (T : Rows) : Prop where
  shape : Shape n G T
  inv : Inv n 0 G T
  sub : ∀ g ∈ lv G 0, g ∈ gens
  all : ∀ g ∈ gens, has T n n g = true
theorem Chain.zero (n : Nat) : Chain n [] (G0 n) (T0 n) := ⟨Shape.zero n, Inv.zero n, fun g hg => (by rw [lv_G0] at hg; cases hg), fun g hg => (by cases hg)⟩
theorem Chain.step {n : Nat} {gens : List (List Int)} {G G' : Gens} {T T' : Rows} (h : Chain n gens G T) {p : List Int} (hs : Shape n G' T') (ha : Added n 0 p G T G' T') : Chain n (gens ++ [p]) G' T' := by
  refine ⟨hs, ha.inv, fun g hg => ?_, fun g hg => ?_⟩
  · rcases ha.gen g hg with h1 | rfl
    · exact List.mem_append_left _ (h.sub g h1)
    · simp
  · rcases List.mem_append.1 hg with h1 | h1
    · exact has_mono ha.grew.ext n n g (h.all g h1)
    · have : g = p := by simpa using h1
      subst this; exact ha.has
theorem May.zero {n : Nat} {p : List Int} (G : Gens) (h : PN n p) : May n 0 p G := ⟨h, fun x h0 hx => by omega, fun j hj => by omega⟩

section
variable {n : Nat} {gens : List (List Int)} {G : Gens} {T : Rows} (h : Chain n gens G T) (hn : 0 < n) (hp : ∀ g ∈ gens, PN n g)
include h hn hp
theorem Chain.grp (p : List Int) : Grp n (lv G 0) p ↔ Grp n gens p := by
  have hG : ∀ g ∈ lv G 0, PN n g := fun g hg => h.inv.gpn 0 g hn hg
  constructor
  · exact Grp.mono hp fun g hg => Grp.gen hp (h.sub g hg)
  · refine Grp.mono hG fun g hg => ?_
    exact (level_grp n 0 rfl hn h.inv g).1 ⟨hp g hg, fun x h0 hx => by omega, by simpa using h.all g hg⟩
theorem Chain.row_iff {k : Nat} (hk : k < n) {y : Int} (h0 : 0 ≤ y) (hy : y < n) : tr T k y ≠ [] ↔ ∃ p, Grp n gens p ∧ Fix k p ∧ at_ p (k : Int) = y := by
  rw [PM.row_iff h.inv hn hk h0 hy]
  constructor
  · rintro ⟨p, a, b, c⟩; exact ⟨p, (h.grp hn hp p).1 a, b, c⟩
  · rintro ⟨p, a, b, c⟩; exact ⟨p, (h.grp hn hp p).2 a, b, c⟩
end
end PM

namespace Go.Proofs.YtpkplmnpepkdaaaGreat
open Go.RowKit
set_option maxRecDepth 10000

/-- where a chain lies -/
structure Lay where
  g : Nat
  bg : Nat
  bt : Nat
  cG : Nat
  cT : Nat
  oG : Nat
  oT : Nat
  rb : Nat → Nat
/-- a chain of n points: M: the blocks that its making writes; F: blocks that it reads and never writes -/
structure Ch (e : TypeId) (B : Nat) (w : World) (L : Lay) (gv : Nat → Value) (n : Nat) (G : PM.Gens) (T : PM.Rows) (M F : List Nat) : Prop where
  shape : PM.Shape n G T
  pos : 0 < n
  le : n ≤ 20
  cn : w.cell? ⟨L.g, 0, none⟩ = some (.int .i64 n)
  cg : w.cell? ⟨L.g, L.oG, none⟩ = some (.slice (some ⟨L.bg, 0, none⟩) n L.cG)
  ct : w.cell? ⟨L.g, L.oT, none⟩ = some (.slice (some ⟨L.bt, 0, none⟩) n L.cT)
  row : ∀ k, k < n → w.cell? ⟨L.bt, k, none⟩ = some (.slice (some ⟨L.rb k, 0, none⟩) n n)
  gen : ∀ k, k < n → w.cell? ⟨L.bg, k, none⟩ = some (gv k)
  elt : ∀ k m : Nat, k < n → m < n → ∃ v f, w.cell? ⟨L.rb k, m, none⟩ = some v ∧ Rd w v (PM.tr T k m) f ∧ (PM.tr T k m = [] → v = .slice none 0 0) ∧ ∀ b ∈ f, b ∈ F
  acc : ∀ k, k < n → ∃ fs, Acc B e w (gv k) (PM.lv G k) fs ∧ ∀ b ∈ fs.flatten, b ∈ F
  mg : L.bg ∈ M
  mr : ∀ k, k < n → L.rb k ∈ M
  ma : ∀ k b, k < n → (gv k).ownBlock = some b → b ∈ M
  gF : L.g ∈ F
  btF : L.bt ∈ F
  mf : ∀ b ∈ M, b ∉ F
  own : Own w (L.bg :: (List.range n).map L.rb)
  lM : ∀ b ∈ M, b < w.heap.size
  lF : ∀ b ∈ F, b < w.heap.size
  ge : ∀ b ∈ M, B ≤ b
  rr : ∀ j k, j < n → k < n → L.rb j = L.rb k → j = k
  rg : ∀ k, k < n → L.rb k ≠ L.bg
  ag : ∀ k b, k < n → (gv k).ownBlock = some b → b ≠ L.bg ∧ ∀ j, j < n → b ≠ L.rb j
  aa : ∀ j k b, j < n → k < n → (gv j).ownBlock = some b → (gv k).ownBlock = some b → j = k

section
variable {e : TypeId} {B : Nat} {w w' : World} {L : Lay} {gv : Nat → Value} {n : Nat} {G : PM.Gens} {T : PM.Rows} {M F : List Nat}
theorem Ch.core (h : Ch e B w L gv n G T M F) : ∀ b ∈ L.bg :: (List.range n).map L.rb, b ∈ M := by
  intro b hb
  rcases List.mem_cons.1 hb with rfl | hb
  · exact h.mg
  · obtain ⟨k, hk, rfl⟩ := List.mem_map.1 hb
    exact h.mr k (List.mem_range.1 hk)
theorem Ch.only (h : Ch e B w L gv n G T M F) {fp : List Nat} (ho : Only fp w w') (hM : ∀ b ∈ fp, b ∉ M) (hF : ∀ b ∈ fp, b ∉ F) : Ch e B w' L gv n G T M F := by
  have gM : ∀ b ∈ M, b ∉ fp := fun b hb hm => hM b hm hb
  have gF : ∀ b ∈ F, b ∉ fp := fun b hb hm => hF b hm hb
  refine ⟨h.shape, h.pos, h.le, ho.cell (gF _ h.gF) h.cn, ho.cell (gF _ h.gF) h.cg, ho.cell (gF _ h.gF) h.ct, fun k hk => ho.cell (gF _ h.btF) (h.row k hk), fun k hk => ho.cell (gM _ h.mg) (h.gen k hk), ?_, ?_, h.mg, h.mr, h.ma, h.gF, h.btF, h.mf, h.own.only ho (fun b hb => gM b (h.core b hb)), fun b hb => Nat.lt_of_lt_of_le (h.lM b hb) ho.size, fun b hb => Nat.lt_of_lt_of_le (h.lF b hb) ho.size, h.ge, h.rr, h.rg, h.ag, h.aa⟩
  · intro k m hk hm
    obtain ⟨v, f, a, b, c, d⟩ := h.elt k m hk hm
    exact ⟨v, f, ho.cell (gM _ (h.mr k hk)) a, Rp.only b ho fun x hx => gF x (d x hx), c, d⟩
  · intro k hk
    obtain ⟨fs, a, b⟩ := h.acc k hk
    exact ⟨fs, a.only ho (fun x hx => gF x (b x hx)) (fun x hx => gM x (h.ma k x hk hx)), b⟩
theorem Ch.keep (h : Ch e B w L gv n G T M F) (ho : Only [] w w') : Ch e B w' L gv n G T M F := h.only ho (by simp) (by simp)
theorem Ch.frow (h : Ch e B w L gv n G T M F) {k : Nat} (hk : k < n) (i : Nat) : w.frozen? ⟨L.rb k, i, none⟩ = false := h.own.frozen (List.mem_cons_of_mem _ (List.mem_map.2 ⟨k, List.mem_range.2 hk, rfl⟩))
/-- an entry of a row -/
theorem Ch.at (h : Ch e B w L gv n G T M F) {k : Nat} (hk : k < n) {y : Int} (h0 : 0 ≤ y) (hy : y < n) :
    ∃ v f, w.cell? ⟨L.rb k, y.toNat, none⟩ = some v ∧ Rd w v (PM.tr T k y) f ∧ (PM.tr T k y = [] → v = .slice none 0 0) ∧ ∀ b ∈ f, b ∈ F := by
  have := h.elt k y.toNat hk (by omega)
  rwa [show ((y.toNat : Nat) : Int) = y by omega] at this
/-- a nil entry -/
theorem Ch.at_nil (h : Ch e B w L gv n G T M F) {k : Nat} (hk : k < n) {y : Int} (h0 : 0 ≤ y) (hy : y < n) (ht : PM.tr T k y = []) : w.cell? ⟨L.rb k, y.toNat, none⟩ = some (.slice none 0 0) := by
  obtain ⟨v, f, a, b, c, d⟩ := h.at hk h0 hy
  rw [a, c ht]
/-- another entry -/
theorem Ch.at_some (h : Ch e B w L gv n G T M F) {k : Nat} (hk : k < n) {y : Int} (h0 : 0 ≤ y) (hy : y < n) (ht : PM.tr T k y ≠ []) :
    ∃ b off cap f, w.cell? ⟨L.rb k, y.toNat, none⟩ = some (.slice (some ⟨b, off, none⟩) (PM.tr T k y).length cap) ∧ Rd w (.slice (some ⟨b, off, none⟩) (PM.tr T k y).length cap) (PM.tr T k y) f ∧ ∀ b ∈ f, b ∈ F := by
  obtain ⟨v, f, a, b, c, d⟩ := h.at hk h0 hy
  obtain ⟨ad, cap, rfl, hI⟩ := b.ints
  have hl : 0 < (PM.tr T k y).length := List.length_pos_iff.2 ht
  obtain ⟨b', off, rfl, -, -⟩ := hI.at_ 0 hl
  exact ⟨b', off, cap, f, a, b, d⟩

theorem setCell_only (w : World) (b i : Nat) (v : Value) : Only [b] w (w.setCell ⟨b, i, none⟩ v) := (Only.refl [b] w).setCell (by simp) v
/-- an entry more -/
theorem Ch.setRow (h : Ch e B w L gv n G T M F) {k m : Nat} (hk : k < n) (hm : m < n) {v : Value} {p : List Int} {f : List Nat} (hv : Rd w v p f) (hp : p ≠ []) (hf : ∀ b ∈ f, b ∉ M) :
    Ch e B (w.setCell ⟨L.rb k, m, none⟩ v) L gv n G (PM.setT T k m p) M (F ++ f) := by
  have ho := setCell_only w (L.rb k) m v
  have hrM := h.mr k hk
  have gF : ∀ b ∈ F, b ∉ [L.rb k] := fun b hb hm => by
    have e : b = L.rb k := by simpa using hm
    subst e; exact h.mf _ hrM hb
  have gf : ∀ b ∈ f, b ∉ [L.rb k] := fun b hb hm => by
    have e : b = L.rb k := by simpa using hm
    subst e; exact hf _ hb hrM
  have hl := fun j y => PM.tr_setT (T := T) (k := k) (m := m) (by rw [h.shape.lt]; exact hk) (by rw [h.shape.lr k hk]; exact hm) p j y
  refine ⟨h.shape.setT k m p, h.pos, h.le, ho.cell (gF _ h.gF) h.cn, ho.cell (gF _ h.gF) h.cg, ho.cell (gF _ h.gF) h.ct, fun j hj => ho.cell (gF _ h.btF) (h.row j hj), fun j hj => ho.cell (by simpa using (h.rg k hk).symm) (h.gen j hj), ?_, ?_, h.mg, h.mr, h.ma, List.mem_append_left _ h.gF, List.mem_append_left _ h.btF, ?_, h.own.setCell _ _, fun b hb => Nat.lt_of_lt_of_le (h.lM b hb) ho.size, ?_, h.ge, h.rr, h.rg, h.ag, h.aa⟩
  · intro j i hj hi
    rw [hl j i]
    obtain ⟨u, fu, a, b, c, d⟩ := h.elt j i hj hi
    by_cases hji : j = k ∧ (i : Int) = (m : Int)
    · obtain ⟨rfl, e2⟩ := hji
      have e2' : i = m := by omega
      subst e2'
      rw [if_pos ⟨rfl, rfl⟩]
      exact ⟨v, f, World.cell?_setCell_same _ _ _ a, Rp.only hv ho gf, fun e => absurd e hp, fun b hb => List.mem_append_right _ hb⟩
    · rw [if_neg hji]
      refine ⟨u, fu, ?_, Rp.only b ho fun x hx => gF x (d x hx), c, fun b hb => List.mem_append_left _ (d b hb)⟩
      by_cases hjk : j = k
      · subst hjk
        have : i ≠ m := fun e => hji ⟨rfl, by omega⟩
        rw [World.cell?_setCell_other _ _ _ _ (by intro e; injection e with _ e2 _; exact this e2.symm)]; exact a
      · rw [World.cell?_setCell_other _ _ _ _ (by
          intro e; injection e with e1 _ _; exact hjk (h.rr _ _ hj hk e1.symm))]; exact a
  · intro j hj
    obtain ⟨fs, a, b⟩ := h.acc j hj
    refine ⟨fs, a.only ho (fun x hx => gF x (b x hx)) (fun x hx hm => ?_), fun x hx => List.mem_append_left _ (b x hx)⟩
    have e : x = L.rb k := by simpa using hm
    exact (h.ag j x hj hx).2 k hk e
  · intro b hb hm
    rcases List.mem_append.1 hm with hm | hm
    · exact h.mf b hb hm
    · exact hf b hm hb
  · intro b hb
    rcases List.mem_append.1 hb with hb | hb
    · exact Nat.lt_of_lt_of_le (h.lF b hb) ho.size
    · exact Nat.lt_of_lt_of_le (Rp.lt hv b hb) ho.size
def upd (gv : Nat → Value) (k : Nat) (v : Value) : Nat → Value := fun j => if j = k then v else gv j
theorem upd_same (gv : Nat → Value) (k : Nat) (v : Value) : upd gv k v k = v := if_pos rfl
theorem upd_other (gv : Nat → Value) {j k : Nat} (v : Value) (h : j ≠ k) : upd gv k v j = gv j := if_neg h
/-- a generator more -/
theorem Ch.setGen (h : Ch e B w L gv n G T M F) {k : Nat} (hk : k < n) {w1 : World} (ho : Only (gv k).ownBlock.toList w w1) {v' : Value} {p : List Int} {fs : List (List Nat)}
    (hA : Acc B e w1 v' (PM.lv G k ++ [p]) fs) {f : List Nat} (hfs : ∀ b ∈ fs.flatten, b ∈ F ∨ b ∈ f) (hf : ∀ b ∈ f, b ∉ M ∧ b < w.heap.size) (hv : v'.ownBlock = (gv k).ownBlock ∨ v'.ownBlock = some w.heap.size) :
    Ch e B (w1.setCell ⟨L.bg, k, none⟩ v') L (upd gv k v') n (G.set k (PM.lv G k ++ [p])) T (v'.ownBlock.toList ++ M) (F ++ f) := by
  have ho2 := setCell_only w1 L.bg k v'
  have hobM : ∀ b ∈ (gv k).ownBlock.toList, b ∈ M := fun b hb => h.ma k b hk (by simpa using hb)
  have gF1 : ∀ b ∈ F, b ∉ (gv k).ownBlock.toList := fun b hb hm => h.mf b (hobM b hm) hb
  have gF2 : ∀ b ∈ F, b ∉ [L.bg] := fun b hb hm => by
    have e : b = L.bg := by simpa using hm
    subst e; exact h.mf _ h.mg hb
  have hsz : w.heap.size ≤ w1.heap.size := ho.size
  have hl := fun j => PM.lv_set (G := G) (k := k) (by rw [h.shape.lg]; exact hk) (PM.lv G k ++ [p]) j
  have hvM : ∀ b, v'.ownBlock = some b → b ∈ M ∧ (gv k).ownBlock = some b ∨ b = w.heap.size := by
    intro b hb
    rcases hv with e | e
    · rw [e] at hb; exact .inl ⟨h.ma k b hk hb, hb⟩
    · rw [e] at hb; injection hb with hb; exact .inr hb.symm
  have hvne : ∀ b, v'.ownBlock = some b → b ≠ L.bg ∧ ∀ j, j < n → b ≠ L.rb j := by
    intro b hb
    rcases hvM b hb with ⟨-, e⟩ | e
    · exact h.ag k b hk e
    · subst e
      refine ⟨fun e => ?_, fun j hj e => ?_⟩
      · have := h.lM _ h.mg; omega
      · have := h.lM _ (h.mr j hj); omega
  have hvo : ∀ j b, j < n → j ≠ k → v'.ownBlock = some b → (gv j).ownBlock ≠ some b := by
    intro j b hj hjk hb he
    rcases hvM b hb with ⟨-, e⟩ | e
    · exact hjk (h.aa j k b hj hk he e)
    · subst e; have := h.lM _ (h.ma j _ hj he); omega
  have hel : ∀ b, b ∈ M → b ∉ (gv k).ownBlock.toList → w1.heap[b]? = w.heap[b]? := fun b hb hn => ho.block b (h.lM b hb) hn
  have hbgk : L.bg ∉ (gv k).ownBlock.toList := fun hm => (h.ag k L.bg hk (by simpa using hm)).1 rfl
  have hrbk : ∀ j, j < n → L.rb j ∉ (gv k).ownBlock.toList := fun j hj hm => (h.ag k _ hk (by simpa using hm)).2 j hj rfl
  refine ⟨h.shape.setG k _, h.pos, h.le, ho2.cell (gF2 _ h.gF) (ho.cell (gF1 _ h.gF) h.cn), ho2.cell (gF2 _ h.gF) (ho.cell (gF1 _ h.gF) h.cg), ho2.cell (gF2 _ h.gF) (ho.cell (gF1 _ h.gF) h.ct),
    fun j hj => ho2.cell (gF2 _ h.btF) (ho.cell (gF1 _ h.btF) (h.row j hj)), ?_, ?_, ?_, List.mem_append_right _ h.mg, fun j hj => List.mem_append_right _ (h.mr j hj), ?_, List.mem_append_left _ h.gF, List.mem_append_left _ h.btF, ?_, ?_, ?_, ?_, ?_, h.rr, h.rg, ?_, ?_⟩
  · intro j hj
    have hc := ho.cell (p := ⟨L.bg, j, none⟩) hbgk (h.gen j hj)
    by_cases hjk : j = k
    · subst hjk
      rw [upd_same]; exact World.cell?_setCell_same _ _ _ hc
    · rw [upd_other _ _ hjk, World.cell?_setCell_other _ _ _ _ (by intro e; injection e with _ e2 _; exact hjk e2.symm)]; exact hc
  · intro j i hj hi
    obtain ⟨u, fu, a, b, c, d⟩ := h.elt j i hj hi
    refine ⟨u, fu, ho2.cell (by simpa using h.rg j hj) (ho.cell (hrbk j hj) a), Rp.only (Rp.only b ho fun x hx => gF1 x (d x hx)) ho2 fun x hx => gF2 x (d x hx), c, fun x hx => List.mem_append_left _ (d x hx)⟩
  · intro j hj
    rw [hl j]
    by_cases hjk : j = k
    · subst hjk
      rw [upd_same, if_pos rfl]
      refine ⟨fs, hA.only ho2 (fun x hx hm => ?_) (fun x hx hm => ?_), fun x hx => ?_⟩
      · have e : x = L.bg := by simpa using hm
        subst e
        rcases hfs _ hx with h1 | h1
        · exact h.mf _ h.mg h1
        · exact (hf _ h1).1 h.mg
      · exact (hvne x hx).1 (by simpa using hm)
      · rcases hfs x hx with h1 | h1
        · exact List.mem_append_left _ h1
        · exact List.mem_append_right _ h1
    · rw [upd_other _ _ hjk, if_neg hjk]
      obtain ⟨fs', a, b⟩ := h.acc j hj
      refine ⟨fs', (a.only ho (fun x hx => gF1 x (b x hx)) (fun x hx hm => ?_)).only ho2 (fun x hx => gF2 x (b x hx)) (fun x hx hm => ?_), fun x hx => List.mem_append_left _ (b x hx)⟩
      · exact hjk (h.aa j k x hj hk hx (by simpa using hm))
      · exact (h.ag j x hj hx).1 (by simpa using hm)
  · intro j b hj hb
    by_cases hjk : j = k
    · subst hjk
      rw [upd_same] at hb; exact List.mem_append_left _ (by simp [hb])
    · rw [upd_other _ _ hjk] at hb; exact List.mem_append_right _ (h.ma j b hj hb)
  · intro b hb hm
    have hbF : b ∈ F → False := fun hF => by
      rcases List.mem_append.1 hb with hb | hb
      · rcases hvM b (by simpa using hb) with ⟨e, -⟩ | e
        · exact h.mf b e hF
        · have := h.lF b hF; omega
      · exact h.mf b hb hF
    rcases List.mem_append.1 hm with hm | hm
    · exact hbF hm
    · obtain ⟨h1, h2⟩ := hf b hm
      rcases List.mem_append.1 hb with hb | hb
      · rcases hvM b (by simpa using hb) with ⟨e, -⟩ | e
        · exact h1 e
        · omega
      · exact h1 hb
  · refine Own.setCell (h.own.frame fun b hb => ho.block b (h.lM b (h.core b hb)) fun hm => ?_) _ _
    have hm' : (gv k).ownBlock = some b := by simpa using hm
    rcases List.mem_cons.1 hb with e | hb
    · exact (h.ag k b hk hm').1 e
    · obtain ⟨j, hj, e⟩ := List.mem_map.1 hb
      exact (h.ag k b hk hm').2 j (List.mem_range.1 hj) e.symm
  · intro b hb
    have hlt : b < w1.heap.size := by
      rcases List.mem_append.1 hb with hb | hb
      · exact (hA.ownlt b (by simpa using hb)).2
      · exact Nat.lt_of_lt_of_le (h.lM b hb) ho.size
    exact Nat.lt_of_lt_of_le hlt ho2.size
  · intro b hb
    have : b < w.heap.size := by
      rcases List.mem_append.1 hb with hb | hb
      · exact h.lF b hb
      · exact (hf b hb).2
    exact Nat.lt_of_lt_of_le (Nat.lt_of_lt_of_le this ho.size) ho2.size
  · intro b hb
    rcases List.mem_append.1 hb with hb | hb
    · exact (hA.ownlt b (by simpa using hb)).1
    · exact h.ge b hb
  · intro j b hj hb
    by_cases hjk : j = k
    · subst hjk; rw [upd_same] at hb; exact hvne b hb
    · rw [upd_other _ _ hjk] at hb; exact h.ag j b hj hb
  · intro i j b hi hj h1 h2
    by_cases hik : i = k
    · by_cases hjk : j = k
      · omega
      · subst hik; rw [upd_same] at h1; rw [upd_other _ _ hjk] at h2
        exact absurd h2 (hvo j b hj hjk h1)
    · rw [upd_other _ _ hik] at h1
      by_cases hjk : j = k
      · subst hjk; rw [upd_same] at h2; exact absurd h1 (hvo i b hi hik h2)
      · rw [upd_other _ _ hjk] at h2; exact h.aa i j b hi hj h1 h2
end
end Go.Proofs.YtpkplmnpepkdaaaGreat

namespace Go.Proofs.YtpkplmnpepkdaaaGreat
open Go.RowKit
set_option maxRecDepth 10000

def inR (x lo hi : Int) : Bool := decide (lo ≤ x) && decide (x ≤ hi)
theorem inR_iff {x lo hi : Int} : inR x lo hi = true ↔ lo ≤ x ∧ x ≤ hi := by simp [inR]
theorem inR_not {x lo hi : Int} : inR x lo hi = false ↔ ¬ (lo ≤ x ∧ x ≤ hi) := by rw [← inR_iff]; simp

theorem inRange_any (x lo hi : Int) (w : World) :
    Calls Tryz.prog 53 #[.int .i64 x, .int .i64 lo, .int .i64 hi] w fun e w' => e = .returned (.bool (inR x lo hi)) ∧ w' = w := by
  by_cases h1 : lo ≤ x
  · by_cases h2 : x ≤ hi
    · go_enter Tryz.func53, Tryz.ntmps53
      go_wp2
      go_ret
      exact ⟨ret_bool (by simp [inR, h1, h2]), rfl⟩
    · go_enter Tryz.func53, Tryz.ntmps53
      go_wp2
      go_ret
      exact ⟨ret_bool (by simp [inR, h2]), rfl⟩
  · go_enter Tryz.func53, Tryz.ntmps53
    go_wp2
    go_ret
    exact ⟨ret_bool (by simp [inR]; omega), rfl⟩
theorem within_any (x lo hi : Int) (w : World) :
    Calls Tryz.prog 47 #[.int .i64 x, .int .i64 lo, .int .i64 hi] w fun e w' => e = .returned (.bool (inR x lo hi)) ∧ w' = w := by
  by_cases h1 : lo ≤ x
  · by_cases h2 : x ≤ hi
    · go_enter Tryz.func47, Tryz.ntmps47
      go_wp2
      go_ret
      exact ⟨ret_bool (by simp [inR, h1, h2]), rfl⟩
    · go_enter Tryz.func47, Tryz.ntmps47
      go_wp2
      go_ret
      exact ⟨ret_bool (by simp [inR, h2]), rfl⟩
  · go_enter Tryz.func47, Tryz.ntmps47
    go_wp2
    go_ret
    exact ⟨ret_bool (by simp [inR]; omega), rfl⟩

def okLetter (g x : Int) : Bool := decide (x ≠ 0) && inR x (-(min g 8)) (min g 8)
/-- the valid words of g generators -/
def validW (g : Int) (l : List Int) : Bool := decide (l.length ≤ 200) && l.all (okLetter g)
theorem okLetter_iff {g x : Int} : okLetter g x = true ↔ x ≠ 0 ∧ -(min g 8) ≤ x ∧ x ≤ min g 8 := by simp [okLetter, inR_iff]
theorem okLetter_not {g x : Int} : okLetter g x = false ↔ ¬ (x ≠ 0 ∧ -(min g 8) ≤ x ∧ x ≤ min g 8) := by rw [← okLetter_iff]; simp
theorem validW_no {g : Int} {l : List Int} {j : Nat} (hj : j < l.length) (h : okLetter g l[j] = false) : validW g l = false := by
  unfold validW
  have : l.all (okLetter g) = false := by
    rw [List.all_eq_false]; exact ⟨l[j], List.getElem_mem _, by simp [h]⟩
  rw [this]; simp
theorem validW_long {g : Int} {l : List Int} (h : 200 < l.length) : validW g l = false := by
  unfold validW
  have : decide (l.length ≤ 200) = false := by simp; omega
  rw [this]; rfl
theorem validW_yes {g : Int} {l : List Int} (h : l.length ≤ 200) (h2 : ∀ x ∈ l, okLetter g x = true) : validW g l = true := by
  unfold validW
  simp only [h, decide_true, Bool.true_and, List.all_eq_true]
  exact h2
theorem all_step {pr : Int → Bool} {l : List Int} {j : Nat} (hj : j < l.length) (h : ∀ x ∈ l.take j, pr x = true) (hp : pr l[j] = true) : ∀ x ∈ l.take (j + 1), pr x = true := by
  rw [take_succ_get l j hj]; intro x hx
  rcases List.mem_append.1 hx with hx | hx
  · exact h x hx
  · simp at hx; subst hx; exact hp

set_option maxHeartbeats 1000000 in
theorem isWordOf_rd (g : Int) (v : Value) (l : List Int) (fp : List Nat) (w : World) (h : Rd w v l fp) (g0 : 0 ≤ g) (g1 : g ≤ 4611686018427387904) :
    Calls Tryz.prog 119 #[.int .i64 g, v] w fun e w' => e = .returned (.bool (validW g l)) ∧ Drew w w' := by
  obtain ⟨a, cap, rfl, hI⟩ := h.ints
  have hb := hI.bound
  by_cases hlen : 200 < l.length
  · go_enter Tryz.func119, Tryz.ntmps119
    go_wp2
    go_ret
    exact ⟨ret_bool (validW_long hlen).symm, Drew.refl _⟩
  go_enter Tryz.func119, Tryz.ntmps119
  go_wp2
  go_loopw [5] (fun i wr => ∃ j : Nat, j ≤ l.length ∧ i = .int .i64 j ∧ (∀ x ∈ l.take j, okLetter g x = true) ∧ Drew w wr)
    (fun i _ => l.length - (intOf i).toNat)
  case atStart => exact ⟨0, Nat.zero_le _, rfl, by simp, Drew.refl _⟩
  case round =>
    obtain ⟨j, hj, rfl, hr, n, rfl⟩ := hrel
    have Hr := Lib.hid hr; clear hr
    by_cases hlt : j < l.length
    · obtain ⟨b, off, rfl, -, hc⟩ := hI.at_ j hlt
      generalize hx : l[j] = x at *
      have Hx := Lib.hid hx
      clear hx
      by_cases c0 : x = 0
      · have t0 : (x == 0) = true := by simpa using c0
        have C0 := Lib.hid c0; clear c0
        go_wp2
        go_ret
        exact ⟨ret_bool (validW_no hlt (by rw [Hx.out, okLetter_not]; exact fun hh => hh.1 C0.out)).symm, ⟨_, rfl⟩⟩
      have t0 : (x == 0) = false := by simpa using c0
      have C0 := Lib.hid c0; clear c0
      rcases c1 : inR x (-8) 8
      · go_wp2_with ((go_at_call 53; (with_reducible refine (inRange_any x (-8) 8 _).mono ?_); rintro e w1 ⟨rfl, rfl⟩))
        go_ret
        exact ⟨ret_bool (validW_no hlt (by rw [Hx.out, okLetter_not]; rw [inR_not] at c1; omega)).symm, ⟨_, rfl⟩⟩
      have c2 := inR_iff.1 c1
      obtain ⟨c2, c3⟩ := c2
      by_cases c4 : g < x
      · go_wp2_with ((go_at_call 53; (with_reducible refine (inRange_any x (-8) 8 _).mono ?_); rintro e w1 ⟨rfl, rfl⟩))
        go_ret
        exact ⟨ret_bool (validW_no hlt (by rw [Hx.out, okLetter_not]; omega)).symm, ⟨_, rfl⟩⟩
      by_cases c5 : g < -x
      · go_wp2_with ((go_at_call 53; (with_reducible refine (inRange_any x (-8) 8 _).mono ?_); rintro e w1 ⟨rfl, rfl⟩))
        go_ret
        exact ⟨ret_bool (validW_no hlt (by rw [Hx.out, okLetter_not]; omega)).symm, ⟨_, rfl⟩⟩
      go_wp2_with ((go_at_call 53; (with_reducible refine (inRange_any x (-8) 8 _).mono ?_); rintro e w1 ⟨rfl, rfl⟩))
      go_roundw
      case rel => exact ⟨j + 1, by omega, by go_num, all_step hlt Hr.out (by rw [Hx.out, okLetter_iff]; exact ⟨C0.out, by omega, by omega⟩), ⟨_, rfl⟩⟩
      case measure => simp [intOf]; omega
    · go_wp2
      go_ret
      exact ⟨ret_bool (validW_yes (by omega) (by have := Hr.out; rwa [List.take_of_length_le (by omega)] at this)).symm, ⟨_, rfl⟩⟩





end Go.Proofs.YtpkplmnpepkdaaaGreat

