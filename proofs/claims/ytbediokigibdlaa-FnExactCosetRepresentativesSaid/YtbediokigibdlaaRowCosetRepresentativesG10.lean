/- Cosets of a group: the least permutation of a coset, the representatives (laws 39, 48). The reference's way down a chain: insertSorted, choicesAt, withEntry (laws 33, 47). The reference's choicesAt, withEntry, RandomMember (laws 33, 35, 47). The program's walk down to the least: below at -1, finish; the reference's cosetMinimum (laws 39, 48). The reference's search from a list on (law 16). The reference's BuildTable (law 16). The reference's BuildTable: the table (law 16). What a search of patterns has met: lengths; a table's count. Descents in plain words. What breadth-first search finds: the patterns that the letters lead to, their distances. -/
import Derived.Test.YtbediokigibdlaaRowCosetRepresentativesG9
import Derived.Test.YtbediokigibdlaaRowCosetRepresentativesG8
import Derived.Test.YtbediokigibdlaaRowCosetRepresentativesG3
import Derived.Test.YtbediokigibdlaaRowCosetRepresentativesG7
import Derived.Test.YtbediokigibdlaaRowCosetRepresentativesG6
import Derived.Deep.RegionHeld3
namespace PM

/-- q lies in the coset of p -/
def Cs (n : Nat) (gens : List (List Int)) (p q : List Int) : Prop := PN n q ∧ Grp n gens (comp q (inv p))
theorem Cs.refl {n : Nat} {gens : List (List Int)} {p : List Int} (h : PN n p) : Cs n gens p p := ⟨h, by rw [comp_inv h]; exact .id⟩
theorem Cs.right {n : Nat} {gens : List (List Int)} {p q g : List Int} (h : PN n p) (hg : PN n g) (c : Cs n gens p q) : Cs n gens (comp p g) (comp q g) := by
  refine ⟨c.1.comp hg, ?_⟩
  have e : comp (comp q g) (inv (comp p g)) = comp q (inv p) := by
    rw [inv_comp_eq h hg, comp_assoc c.1 hg, ← comp_assoc hg hg.inv, comp_inv hg, id_comp h.inv]
  rw [e]
  exact c.2
section
variable {n : Nat} {gens : List (List Int)} (hp : ∀ g ∈ gens, PN n g)
include hp
theorem Cs.symm {p q : List Int} (h : PN n p) (c : Cs n gens p q) : Cs n gens q p := by
  refine ⟨h, ?_⟩
  have h1 := c.2.inv hp
  rw [inv_comp_eq c.1 h.inv, inv_inv h] at h1
  exact h1
theorem Cs.trans {p q r : List Int} (h : PN n p) (c : Cs n gens p q) (d : Cs n gens q r) : Cs n gens p r := by
  refine ⟨d.1, ?_⟩
  have h1 := Grp.comp hp d.2 c.2
  have e : comp (comp r (inv q)) (comp q (inv p)) = comp r (inv p) := by
    rw [comp_assoc d.1 c.1.inv, ← comp_assoc c.1.inv c.1, inv_comp c.1, id_comp h.inv]
  rwa [e] at h1
theorem Cs.mul {p q g : List Int} (c : Cs n gens p q) (hg : Grp n gens g) : Cs n gens p (comp g q) := by
  have hgp := hg.pn hp
  refine ⟨hgp.comp c.1, ?_⟩
  rw [comp_assoc hgp c.1]
  exact Grp.comp hp hg c.2
variable {G : Gens} {T : Rows} (h : Chain n gens G T) (hn : 0 < n)
include h hn
theorem Chain.putV_cs {p : List Int} {i : Nat} (hi : i < n) {m : List Int} (hm : Cs n gens p m) {v : Int} (hv : v ∈ cho n T i m) : Cs n gens p (PM.putV T i m v) :=
  Cs.mul hp hm (h.row_grp hn hp hi (cho_pre hm.1 hv).2.2.2.2.1)
theorem Chain.cho_cs {p : List Int} (hpp : PN n p) {i : Nat} (hi : i < n) {m q : List Int} (hm : Cs n gens p m) (hq : Cs n gens p q) (ha : Alike i q m) : at_ q (i : Int) ∈ cho n T i m := by
  have hpn := hm.1
  have hqn := hq.1
  have hg : Grp n gens (comp q (PM.inv m)) := (Cs.trans hp hpn (Cs.symm hp hpp hm) hq).2
  have hr := hqn.rng (x := (i : Int)) (by omega) (by omega)
  have hir := (hpn.inv).rng hr.1 hr.2
  refine PM.mem_cho.2 ⟨at_ (PM.inv m) (at_ q (i : Int)), ⟨hir, ?_⟩, at_inv' hpn hr.1 hr.2⟩
  refine (h.row_iff hn hp hi hir.1 hir.2).2 ⟨_, hg, fun x x0 x1 => ?_, ?_⟩
  · rw [at_comp x0 (by rw [hqn.1]; omega), ha x x0 x1, at_inv hpn x0 (by omega)]
  · rw [at_comp (by omega) (by rw [hqn.1]; omega)]
/-- the least of a coset, from a level on -/
theorem Chain.cosmin_aux {p : List Int} (hpp : PN n p) : ∀ (k i : Nat) (m : List Int), i + k = n → Cs n gens p m →
    Cs n gens p (desc T n (fun _ _ => 0) k i m) ∧ Alike i (desc T n (fun _ _ => 0) k i m) m ∧ ∀ q, Cs n gens p q → Alike i q m → q = desc T n (fun _ _ => 0) k i m ∨ Lex n (desc T n (fun _ _ => 0) k i m) q
  | 0, i, m, hi, hm => by
    refine ⟨hm, fun _ _ _ => rfl, fun q hq ha => Or.inl ?_⟩
    show q = m
    exact ext_at (by rw [hq.1.1, hm.1.1]) fun x x0 x1 => ha x x0 (by rw [hq.1.1] at x1; omega)
  | k + 1, i, m, hi, hm => by
    have hin : i < n := by omega
    have hl := cho_len (T := T) (i := i) hm.1
    have hpos : 0 < (cho n T i m).length := by rw [hl]; exact cntR_pos h.inv.wf hin
    obtain ⟨v, hv⟩ : ∃ v, v = (cho n T i m).getD 0 0 := ⟨_, rfl⟩
    have hvm : v ∈ cho n T i m := by rw [hv, List.getD_eq_getElem?_getD, List.getElem?_eq_getElem hpos]; exact List.getElem_mem hpos
    have hmin : ∀ u ∈ cho n T i m, v ≤ u := by
      intro u hu
      obtain ⟨j, hj, rfl⟩ := List.getElem_of_mem hu
      have hasc : Asc (cho n T i m) := choO_asc _ _
      have e : v = (cho n T i m)[0] := by rw [hv, List.getD_eq_getElem?_getD, List.getElem?_eq_getElem hpos]; rfl
      rw [e]
      by_cases h0 : j = 0
      · subst h0; exact Int.le_refl _
      · exact Int.le_of_lt (List.pairwise_iff_getElem.1 hasc 0 j hpos hj (by omega))
    have hd : desc T n (fun _ _ => 0) (k + 1) i m = desc T n (fun _ _ => 0) k (i + 1) (PM.putV T i m v) := by rw [hv]; rfl
    rw [hd]
    obtain ⟨-, p2, p3⟩ := putV_pn h.inv.wf hin hm.1 hvm
    obtain ⟨a, b, c⟩ := Chain.cosmin_aux hpp k (i + 1) _ (by omega) (h.putV_cs hp hn hin hm hvm)
    refine ⟨a, fun x x0 x1 => (b x x0 (by omega)).trans (p2 x x0 x1), fun q hq ha => ?_⟩
    have hqv := h.cho_cs hp hn hpp hin hm hq ha
    by_cases e : at_ q (i : Int) = v
    · refine c q hq fun x x0 x1 => ?_
      by_cases hx : x < i
      · rw [ha x x0 hx, p2 x x0 hx]
      · have : x = (i : Int) := by omega
        subst this
        rw [e, p3]
    · refine Or.inr ⟨i, hin, fun x x0 x1 => ?_, ?_⟩
      · rw [b x x0 (by omega), p2 x x0 x1, ha x x0 x1]
      · rw [b (i : Int) (by omega) (by omega), p3]
        have := hmin _ hqv
        omega
theorem Chain.cosmin {p : List Int} (hpp : PN n p) : Cs n gens p (desc T n (fun _ _ => 0) n 0 p) ∧ ∀ q, Cs n gens p q → q = desc T n (fun _ _ => 0) n 0 p ∨ Lex n (desc T n (fun _ _ => 0) n 0 p) q := by
  obtain ⟨a, b, c⟩ := h.cosmin_aux hp hn hpp n 0 p (by omega) (Cs.refl hpp)
  exact ⟨a, fun q hq => c q hq fun x x0 x1 => by omega⟩
end
theorem Lex.asymm {n : Nat} {p q : List Int} (h : Lex n p q) (k : Lex n q p) : False := by
  obtain ⟨i, hi, ha, hl⟩ := h
  obtain ⟨j, hj, hb, hm⟩ := k
  by_cases hij : i < j
  · have := hb (i : Int) (by omega) (by omega); omega
  · by_cases hji : j < i
    · have := ha (j : Int) (by omega) (by omega); omega
    · have : i = j := by omega
      subst this; omega
open Classical in
/-- the least permutation of the coset of p -/
noncomputable def cosM (n : Nat) (gens : List (List Int)) (p : List Int) : List Int := desc (chainR n gens) n (fun _ _ => 0) n 0 p
section
variable {n : Nat} {gens : List (List Int)} {G : Gens} {T : Rows} (h : Chain n gens G T) (hn : 0 < n) (hp : ∀ g ∈ gens, PN n g)
include h hn hp
theorem Chain.cosM_ok {p : List Int} (hpp : PN n p) : Cs n gens p (cosM n gens p) ∧ ∀ q, Cs n gens p q → q = cosM n gens p ∨ Lex n (cosM n gens p) q := by
  obtain ⟨G', h'⟩ := h.chainR
  exact h'.cosmin hp hn hpp
theorem Chain.cosM_eq {p : List Int} (hpp : PN n p) : desc T n (fun _ _ => 0) n 0 p = cosM n gens p := by
  obtain ⟨a, b⟩ := h.cosmin hp hn hpp
  obtain ⟨c, d⟩ := h.cosM_ok hn hp hpp
  rcases b _ c with e | e
  · exact e.symm
  · rcases d _ a with f | f
    · exact f
    · exact absurd (Lex.asymm e f) id
/-- one coset, one least permutation -/
theorem Chain.cosM_iff {p q : List Int} (hpp : PN n p) (hq : PN n q) : cosM n gens p = cosM n gens q ↔ Cs n gens p q := by
  obtain ⟨a, b⟩ := h.cosM_ok hn hp hpp
  obtain ⟨c, d⟩ := h.cosM_ok hn hp hq
  constructor
  · intro e
    rw [e] at a
    exact Cs.trans hp hpp a (Cs.symm hp hq c)
  · intro k
    have c' := Cs.trans hp hpp k c
    have a' := Cs.trans hp hq (Cs.symm hp hpp k) a
    rcases b _ c' with e | e
    · exact e.symm
    · rcases d _ a' with f | f
      · exact f
      · exact absurd (Lex.asymm e f) id
theorem Chain.cosM_pn {p : List Int} (hpp : PN n p) : PN n (cosM n gens p) := (h.cosM_ok hn hp hpp).1.1
theorem Chain.cosM_idem {p : List Int} (hpp : PN n p) : cosM n gens (cosM n gens p) = cosM n gens p :=
  ((h.cosM_iff hn hp hpp (h.cosM_pn hn hp hpp)).2 (h.cosM_ok hn hp hpp).1).symm
end
theorem Lex.total {n : Nat} {p q : List Int} (hp : PN n p) (hq : PN n q) : p = q ∨ Lex n p q ∨ Lex n q p := by
  have key : ∀ i, i ≤ n → Alike i p q ∨ Lex n p q ∨ Lex n q p := by
    intro i
    induction i with
    | zero => intro _; exact Or.inl fun x x0 x1 => by omega
    | succ i ih =>
      intro hi
      rcases ih (by omega) with ha | hl | hl
      · by_cases e : at_ p (i : Int) = at_ q (i : Int)
        · refine Or.inl fun x x0 x1 => ?_
          by_cases hx : x < i
          · exact ha x x0 hx
          · have : x = (i : Int) := by omega
            subst this; exact e
        · by_cases l : at_ p (i : Int) < at_ q (i : Int)
          · exact Or.inr (Or.inl ⟨i, by omega, ha, l⟩)
          · exact Or.inr (Or.inr ⟨i, by omega, fun x x0 x1 => (ha x x0 x1).symm, by omega⟩)
      · exact Or.inr (Or.inl hl)
      · exact Or.inr (Or.inr hl)
  rcases key n (Nat.le_refl _) with ha | hl
  · exact Or.inl (ext_at (by rw [hp.1, hq.1]) fun x x0 x1 => ha x x0 (by rw [hp.1] at x1; exact x1))
  · exact Or.inr hl
theorem Lex.trans {n : Nat} {p q r : List Int} (h : Lex n p q) (k : Lex n q r) : Lex n p r := by
  obtain ⟨i, hi, ha, hl⟩ := h
  obtain ⟨j, hj, hb, hm⟩ := k
  by_cases hij : i ≤ j
  · refine ⟨i, hi, fun x x0 x1 => (ha x x0 x1).trans (hb x x0 (by omega)), ?_⟩
    by_cases e : i = j
    · subst e; omega
    · rw [← hb (i : Int) (by omega) (by omega)]; exact hl
  · exact ⟨j, hj, fun x x0 x1 => (ha x x0 (by omega)).trans (hb x x0 x1), by rw [ha (j : Int) (by omega) (by omega)]; exact hm⟩
/-- the identity is the least of all -/
theorem pts_least {n : Nat} {q : List Int} (hq : PN n q) : ¬ Lex n q (pts n) := by
  rintro ⟨i, hi, ha, hl⟩
  rw [at_pts (by omega) (by omega)] at hl
  have hr := hq.rng (x := (i : Int)) (by omega) (by omega)
  have h1 := ha (at_ q (i : Int)) hr.1 hl
  rw [at_pts hr.1 hr.2] at h1
  have := hq.inj hr.1 hr.2 (by omega) (by omega) h1
  omega
/-- all that lies in the cosets of a list -/
def cosAll (n : Nat) (T : Rows) (L : List (List Int)) : List (List Int) := L.flatMap fun f => (mems T n n).map fun a => comp a f
theorem cosAll_len {n : Nat} {TA : Rows} (L : List (List Int)) : (cosAll n TA L).length = L.length * ordM TA n n := by
  have hl : (mems TA n n).length = ordM TA n n := mems_len ..
  unfold cosAll
  induction L with
  | nil => simp
  | cons x L ih => rw [List.flatMap_cons, List.length_append, List.length_map, hl, ih, List.length_cons, Nat.succ_mul]; omega
section
variable {n : Nat} {A B : List (List Int)} {GA GB : Gens} {TA TB : Rows} (hA : Chain n A GA TA) (hB : Chain n B GB TB) (hn : 0 < n) (pA : ∀ g ∈ A, PN n g) (pB : ∀ g ∈ B, PN n g) (sub : ∀ g ∈ A, Grp n B g)
include hA hn pA
theorem mem_cosAll {L : List (List Int)} (hL : ∀ x ∈ L, PN n x) {q : List Int} : q ∈ cosAll n TA L ↔ ∃ x ∈ L, Cs n A x q := by
  unfold cosAll
  rw [List.mem_flatMap]
  constructor
  · rintro ⟨x, hx, hq⟩
    obtain ⟨a, ha, rfl⟩ := List.mem_map.1 hq
    have hg := (hA.mems_iff hn pA).1 ha
    exact ⟨x, hx, Cs.mul pA (Cs.refl (hL x hx)) hg⟩
  · rintro ⟨x, hx, hc⟩
    refine ⟨x, hx, List.mem_map.2 ⟨comp q (inv x), (hA.mems_iff hn pA).2 hc.2, ?_⟩⟩
    rw [comp_assoc hc.1 (hL x hx).inv, inv_comp (hL x hx), comp_id hc.1]
theorem cosAll_nodup {L : List (List Int)} (hL : ∀ x ∈ L, PN n x) (hd : L.Pairwise fun x y => ¬ Cs n A x y) : (cosAll n TA L).Nodup := by
  unfold cosAll List.Nodup
  rw [List.pairwise_flatMap]
  refine ⟨fun x hx => ?_, ?_⟩
  · rw [List.pairwise_map]
    refine List.Pairwise.imp_of_mem (R := fun a b => a ≠ b) (fun {a b} ha hb hab e => hab ?_) (mems_nodup hA.inv.wf n (Nat.le_refl _))
    have h1 := ((hA.mems_iff hn pA).1 ha).pn pA
    have h2 := ((hA.mems_iff hn pA).1 hb).pn pA
    exact comp_right_cancel h1 h2 (hL x hx) e
  · refine List.Pairwise.imp_of_mem (fun {x y} hx hy hxy p hp q hq e => hxy ?_) hd
    subst e
    obtain ⟨a, ha, rfl⟩ := List.mem_map.1 hp
    obtain ⟨b, hb, e2⟩ := List.mem_map.1 hq
    have c1 : Cs n A x (comp a x) := Cs.mul pA (Cs.refl (hL x hx)) ((hA.mems_iff hn pA).1 ha)
    have c2 : Cs n A y (comp b y) := Cs.mul pA (Cs.refl (hL y hy)) ((hA.mems_iff hn pA).1 hb)
    rw [e2] at c2
    exact Cs.trans pA (hL x hx) c1 (Cs.symm pA (hL y hy) c2)
include hB pB
theorem cos_ge {L : List (List Int)} (hL : ∀ x ∈ L, PN n x) (hc : ∀ q, Grp n B q → ∃ x ∈ L, Cs n A x q) : ordM TB n n ≤ L.length * ordM TA n n := by
  rw [← cosAll_len (TA := TA) L]
  exact hB.order_ge hn pB fun q hq => (mem_cosAll hA hn pA hL).2 (hc q hq)
include sub
theorem cos_le {L : List (List Int)} (hL : ∀ x ∈ L, Grp n B x) (hd : L.Pairwise fun x y => ¬ Cs n A x y) : L.length * ordM TA n n ≤ ordM TB n n := by
  have hpn : ∀ x ∈ L, PN n x := fun x hx => (hL x hx).pn pB
  rw [← cosAll_len (TA := TA) L]
  refine hB.order_le hn pB (cosAll_nodup hA hn pA hpn hd) fun q hq => ?_
  obtain ⟨x, hx, hc⟩ := (mem_cosAll hA hn pA hpn).1 hq
  have h1 := Grp.comp pB (Grp.mono pB sub hc.2) (hL x hx)
  rwa [comp_assoc hc.1 (hpn x hx).inv, inv_comp (hpn x hx), comp_id hc.1] at h1
end
section
variable {n : Nat} {A : List (List Int)} {GA : Gens} {TA : Rows} (hA : Chain n A GA TA) (hn : 0 < n) (pA : ∀ g ∈ A, PN n g)
include hA hn pA
theorem cosM_id : cosM n A (pts n) = pts n := by
  obtain ⟨a, b⟩ := hA.cosM_ok hn pA (PN.id n)
  rcases b _ (Cs.refl (PN.id n)) with e | e
  · exact e.symm
  · exact absurd e (pts_least a.1)
end
/-- one representative more, where its coset is new -/
def addC (p : List Int) (L : List (List Int)) : List (List Int) := if p ∈ L then L else L ++ [p]
noncomputable def stepC (n : Nat) (A : List (List Int)) (x : List Int) (bs L : List (List Int)) : List (List Int) := bs.foldl (fun L b => addC (cosM n A (comp x b)) L) L
noncomputable def bC (n : Nat) (A B : List (List Int)) : Nat → Nat → List (List Int) → List (List Int)
  | 0, _, L => L
  | f + 1, i, L => if i < L.length then bC n A B f (i + 1) (stepC n A (L.getD i []) B L) else L
/-- what holds of the representatives found so far -/
structure InC (n : Nat) (A B L : List (List Int)) : Prop where
  nd : L.Nodup
  grp : ∀ x ∈ L, Grp n B x
  min : ∀ x ∈ L, cosM n A x = x
section
variable {n : Nat} {A B : List (List Int)} {GA GB : Gens} {TA TB : Rows} (hA : Chain n A GA TA) (hB : Chain n B GB TB) (hn : 0 < n) (pA : ∀ g ∈ A, PN n g) (pB : ∀ g ∈ B, PN n g) (sub : ∀ g ∈ A, Grp n B g)
include hA hn pA
theorem InC.start : InC n A B [pts n] := ⟨by simp, fun x hx => by rw [List.mem_singleton.1 hx]; exact .id, fun x hx => by rw [List.mem_singleton.1 hx]; exact cosM_id hA hn pA⟩
include pB
theorem InC.apart {L : List (List Int)} (h : InC n A B L) : L.Pairwise fun x y => ¬ Cs n A x y := by
  refine List.Pairwise.imp_of_mem (R := fun a b => a ≠ b) (fun {x y} hx hy hxy hc => hxy ?_) h.nd
  have h1 := (h.grp x hx).pn pB
  have h2 := (h.grp y hy).pn pB
  have := (hA.cosM_iff hn pA h1 h2).2 hc
  rwa [h.min x hx, h.min y hy] at this
include sub
theorem InC.add {L : List (List Int)} (h : InC n A B L) {p : List Int} (hp : Grp n B p) : InC n A B (addC (cosM n A p) L) := by
  unfold addC
  by_cases hm : cosM n A p ∈ L
  · rw [if_pos hm]; exact h
  · rw [if_neg hm]
    have hpp := hp.pn pB
    have hc := (hA.cosM_ok hn pA hpp).1
    refine ⟨List.nodup_append.2 ⟨h.nd, by simp, fun a ha b hb e => hm ?_⟩, fun x hx => ?_, fun x hx => ?_⟩
    · rw [← List.mem_singleton.1 hb, ← e]; exact ha
    · rcases List.mem_append.1 hx with hx | hx
      · exact h.grp x hx
      · rw [List.mem_singleton.1 hx]
        have h1 := Grp.comp pB (Grp.mono pB sub hc.2) hp
        rwa [comp_assoc hc.1 hpp.inv, inv_comp hpp, comp_id hc.1] at h1
    · rcases List.mem_append.1 hx with hx | hx
      · exact h.min x hx
      · rw [List.mem_singleton.1 hx]; exact hA.cosM_idem hn pA hpp
theorem InC.step {x : List Int} (hx : Grp n B x) : ∀ (bs : List (List Int)) (L : List (List Int)), (∀ b ∈ bs, b ∈ B) → InC n A B L → InC n A B (stepC n A x bs L)
  | [], _, _, h => h
  | b :: bs, L, hb, h => by
    show InC n A B (stepC n A x bs (addC (cosM n A (comp x b)) L))
    exact InC.step hx bs _ (fun c hc => hb c (List.mem_cons_of_mem _ hc)) (h.add hA hn pA pB sub (Grp.comp pB hx (.gen pB (hb b (by simp)))))
include hB
theorem InC.len {L : List (List Int)} (h : InC n A B L) : L.length * ordM TA n n ≤ ordM TB n n := cos_le hA hB hn pA pB sub h.grp (h.apart hA hn pA pB)
end
theorem addC_pre (p : List Int) (L : List (List Int)) : ∃ l, addC p L = L ++ l := by
  unfold addC
  by_cases h : p ∈ L
  · exact ⟨[], by rw [if_pos h]; simp⟩
  · exact ⟨[p], by rw [if_neg h]⟩
theorem stepC_pre (n : Nat) (A : List (List Int)) (x : List Int) : ∀ (bs L : List (List Int)), ∃ l, stepC n A x bs L = L ++ l
  | [], L => ⟨[], by simp [stepC]⟩
  | b :: bs, L => by
    obtain ⟨l1, h1⟩ := addC_pre (cosM n A (comp x b)) L
    obtain ⟨l2, h2⟩ := stepC_pre n A x bs (addC (cosM n A (comp x b)) L)
    refine ⟨l1 ++ l2, ?_⟩
    show stepC n A x bs (addC (cosM n A (comp x b)) L) = _
    rw [h2, h1, List.append_assoc]
theorem stepC_mem (n : Nat) (A : List (List Int)) (x : List Int) : ∀ (bs L : List (List Int)), ∀ b ∈ bs, cosM n A (comp x b) ∈ stepC n A x bs L
  | b :: bs, L, c, hc => by
    show _ ∈ stepC n A x bs (addC (cosM n A (comp x b)) L)
    rcases List.mem_cons.1 hc with rfl | hc
    · obtain ⟨l, h⟩ := stepC_pre n A x bs (addC (cosM n A (comp x c)) L)
      rw [h]
      refine List.mem_append_left _ ?_
      unfold addC
      by_cases hm : cosM n A (comp x c) ∈ L
      · rw [if_pos hm]; exact hm
      · rw [if_neg hm]; simp
    · exact stepC_mem n A x bs _ c hc
section
variable {n : Nat} {A B : List (List Int)} {GA GB : Gens} {TA TB : Rows} (hA : Chain n A GA TA) (hB : Chain n B GB TB) (hn : 0 < n) (pA : ∀ g ∈ A, PN n g) (pB : ∀ g ∈ B, PN n g) (sub : ∀ g ∈ A, Grp n B g)
include hA hB hn pA pB sub
theorem InC.le {L : List (List Int)} (h : InC n A B L) : L.length ≤ ordM TB n n := by
  have h1 := h.len hA hB hn pA pB sub
  have h2 := (ordM_rng hA.inv.wf n (Nat.le_refl _)).1
  exact Nat.le_trans (Nat.le_mul_of_pos_right _ h2) h1
theorem bC_ok : ∀ (f i : Nat) (L : List (List Int)), f + i = ordM TB n n + 1 → InC n A B L → (∀ x ∈ L.take i, ∀ b ∈ B, cosM n A (comp x b) ∈ L) →
    InC n A B (bC n A B f i L) ∧ (∃ l, bC n A B f i L = L ++ l) ∧ ∀ x ∈ bC n A B f i L, ∀ b ∈ B, cosM n A (comp x b) ∈ bC n A B f i L
  | 0, i, L, hi, h, hc => by
    have hl := h.le hA hB hn pA pB sub
    rw [List.take_of_length_le (by omega)] at hc
    exact ⟨h, ⟨[], by simp [bC]⟩, hc⟩
  | f + 1, i, L, hi, h, hc => by
    by_cases hlt : i < L.length
    · have hd : bC n A B (f + 1) i L = bC n A B f (i + 1) (stepC n A (L.getD i []) B L) := by
        show (if i < L.length then _ else L) = _
        rw [if_pos hlt]
      have hg : L.getD i [] = L[i] := by rw [List.getD_eq_getElem?_getD, List.getElem?_eq_getElem hlt]; rfl
      rw [hg] at hd
      have hs := h.step hA hn pA pB sub (h.grp L[i] (List.getElem_mem hlt)) B L (fun b hb => hb)
      obtain ⟨l, hl⟩ := stepC_pre n A L[i] B L
      obtain ⟨a, ⟨l2, b⟩, c⟩ := bC_ok f (i + 1) (stepC n A L[i] B L) (by omega) hs (by
        intro x hx b hb
        have ht : (stepC n A L[i] B L).take (i + 1) = L.take (i + 1) := by rw [hl, List.take_append_of_le_length (by omega)]
        rw [ht, List.take_succ_eq_append_getElem hlt] at hx
        rcases List.mem_append.1 hx with hx | hx
        · rw [hl]; exact List.mem_append_left _ (hc x hx b hb)
        · rw [List.mem_singleton.1 hx]
          exact stepC_mem n A L[i] B L b hb)
      rw [hd]
      exact ⟨a, ⟨l ++ l2, by rw [b, hl, List.append_assoc]⟩, c⟩
    · have hd : bC n A B (f + 1) i L = L := by
        show (if i < L.length then _ else L) = _
        rw [if_neg hlt]
      rw [hd]
      rw [List.take_of_length_le (by omega)] at hc
      exact ⟨h, ⟨[], by simp⟩, hc⟩
/-- the representatives -/
theorem bC_reps : InC n A B (bC n A B (ordM TB n n + 1) 0 [pts n]) ∧ (bC n A B (ordM TB n n + 1) 0 [pts n]).length * ordM TA n n = ordM TB n n := by
  obtain ⟨a, ⟨l, b⟩, c⟩ := bC_ok hA hB hn pA pB sub (ordM TB n n + 1) 0 [pts n] (by omega) (InC.start hA hn pA) (by simp)
  obtain ⟨R, hR⟩ : ∃ R, R = bC n A B (ordM TB n n + 1) 0 [pts n] := ⟨_, rfl⟩
  rw [← hR] at a b c ⊢
  refine ⟨a, Nat.le_antisymm (a.len hA hB hn pA pB sub) (cos_ge hA hB hn pA pB (fun x hx => (a.grp x hx).pn pB) fun q hq => ?_)⟩
  have key : ∀ q, Grp n B q → PN n q ∧ cosM n A q ∈ R := by
    intro q hq
    have hmul : ∀ g ∈ B, ∀ p, (PN n p ∧ cosM n A p ∈ R) → (PN n (comp p g) ∧ cosM n A (comp p g) ∈ R) := by
      rintro g hg p ⟨hp, hm⟩
      have hgp := pB g hg
      refine ⟨hp.comp hgp, ?_⟩
      have hx := c _ hm g hg
      have hxp := hA.cosM_pn hn pA hp
      have e : cosM n A (comp (cosM n A p) g) = cosM n A (comp p g) := (hA.cosM_iff hn pA (hxp.comp hgp) (hp.comp hgp)).2 (Cs.right hxp hgp (Cs.symm pA hp (hA.cosM_ok hn pA hp).1))
      rwa [e] at hx
    induction hq with
    | id => exact ⟨PN.id n, by rw [cosM_id hA hn pA, b]; simp⟩
    | mul _ hg ih => exact hmul _ hg _ ih
    | div _ hg ih => exact closed_div (S := fun p => PN n p ∧ cosM n A p ∈ R) (fun _ h => h.1) (pB _ hg) (hmul _ hg) _ ih
  obtain ⟨k1, k2⟩ := key q hq
  exact ⟨_, k2, Cs.symm pA k1 (hA.cosM_ok hn pA k1).1⟩
end
end PM

namespace Go.Proofs.Ytbediokigibdlaa
open Go.RowKit
set_option maxRecDepth 10000

/-- how many are less -/
def below (v : Int) : List Int → Nat
  | [] => 0
  | x :: l => if x < v then below v l + 1 else 0
theorem below_le (v : Int) : ∀ l : List Int, below v l ≤ l.length
  | [] => Nat.le_refl _
  | x :: l => by unfold below; split; exact Nat.succ_le_succ (below_le v l); exact Nat.zero_le _
theorem below_lt (v : Int) : ∀ (l : List Int) (j : Nat) (h : j < l.length), j < below v l → l[j] < v
  | x :: l, j, h, hj => by
    unfold below at hj
    by_cases hx : x < v
    · rw [if_pos hx] at hj
      cases j with
      | zero => exact hx
      | succ j => exact below_lt v l j (by simpa using h) (by omega)
    · rw [if_neg hx] at hj; omega
theorem below_at (v : Int) : ∀ (l : List Int) (h : below v l < l.length), ¬ l[below v l] < v
  | x :: l, h => by
    by_cases hx : x < v
    · have e : below v (x :: l) = below v l + 1 := by show (if x < v then _ else _) = _; rw [if_pos hx]
      have h2 : below v l < l.length := by rw [e] at h; simpa using h
      have := below_at v l h2
      simp only [e, List.getElem_cons_succ]
      exact this
    · have e : below v (x :: l) = 0 := by show (if x < v then _ else _) = _; rw [if_neg hx]
      simp only [e, List.getElem_cons_zero]
      exact hx
theorem insU_there {v : Int} : ∀ {l : List Int} (h : below v l < l.length), l[below v l] = v → PM.insU v l = l
  | x :: l, h, he => by
    by_cases hx : x < v
    · have e : below v (x :: l) = below v l + 1 := by show (if x < v then _ else _) = _; rw [if_pos hx]
      have h2 : below v l < l.length := by rw [e] at h; simpa using h
      simp only [e, List.getElem_cons_succ] at he
      show (if x < v then x :: PM.insU v l else _) = _
      rw [if_pos hx, insU_there h2 he]
    · have e : below v (x :: l) = 0 := by show (if x < v then _ else _) = _; rw [if_neg hx]
      simp only [e, List.getElem_cons_zero] at he
      show (if x < v then _ else if x = v then x :: l else _) = _
      rw [if_neg hx, if_pos he]
theorem insU_new {v : Int} : ∀ {l : List Int}, (∀ h : below v l < l.length, l[below v l] ≠ v) → PM.insU v l = (l.take (below v l) ++ [v]) ++ l.drop (below v l)
  | [], _ => rfl
  | x :: l, hn => by
    by_cases hx : x < v
    · have e : below v (x :: l) = below v l + 1 := by show (if x < v then _ else _) = _; rw [if_pos hx]
      show (if x < v then x :: PM.insU v l else _) = _
      rw [if_pos hx, e, insU_new (l := l) (fun h => by
        have h1 := hn (by rw [e]; simpa using h)
        simp only [e, List.getElem_cons_succ] at h1
        exact h1)]
      simp
    · have e : below v (x :: l) = 0 := by show (if x < v then _ else _) = _; rw [if_neg hx]
      have h1 := hn (by rw [e]; simp)
      simp only [e, List.getElem_cons_zero] at h1
      show (if x < v then _ else if x = v then _ else v :: x :: l) = _
      rw [if_neg hx, if_neg h1, e]
      simp
theorem IntsA.drp {w : World} {b off cap : Nat} {l : List Int} {fp : List Nat} (h : IntsA w (some ⟨b, off, none⟩) cap l fp) {k : Nat} (hk : k ≤ l.length) : IntsA w (some ⟨b, off + k, none⟩) (cap - k) (l.drop k) fp := by
  have hl := h.len
  have hc := h.cap
  refine ⟨by rw [List.length_drop]; omega, by omega, fun x hx => h.wf x (List.mem_of_mem_drop hx), fun i hi => ?_, h.lt, h.one⟩
  rw [List.length_drop] at hi
  obtain ⟨b', off', ha, hf, hcell⟩ := h.at_ (k + i) (by omega)
  injection ha with ha; injection ha with e1 e2; subst e1; subst e2
  refine ⟨b, off + k, rfl, hf, ?_⟩
  rw [Nat.add_assoc, List.getElem_drop]
  exact hcell
theorem copyInts_aI (v : Value) (l : List Int) (fp : List Nat) (w : World) (h : Rd w v l fp) (hl : l.length ≤ 1073741824) :
    Calls Try.prog 84 #[v] w fun e w' => ∃ v, e = .returned v ∧ AccI w.heap.size 2 w' v l ∧ Only [] w w' := by
  obtain ⟨a, cap, rfl, hI⟩ := h.ints
  obtain ⟨i0, hi, hz0, hz1, hz2⟩ := info_parts Try.info2
  obtain ⟨q1, q2⟩ := ints_src (hI.keep ((Only.refl _ w).alloc (.cells #[] 2)))
  go_enter Try.func84, Try.ntmps84
  go_wp2_with (at_builtin; refine wpList_app _ rfl _ _ 36 rfl w.heap.size 2 i0 _ 1 8 Try.underlying36 hi hz0 hz1 hz2 rfl (by omega) (.slice (some ⟨w.heap.size, 0, none⟩) 0 0) 0 [] rfl (World.ownsRow_made w #[] 0 (Nat.le_refl _) (by unfold maxLen; omega) rfl) a l.length cap (l.map (Value.int .i64)) rfl (by simp) q1 q2 (ints_one l) (by unfold maxLen; omega) (by omega) (by simp) ?_; intro v1 w1 hO hg hb)
  rw [Nat.zero_add, List.nil_append] at hO
  have hK : Only [] w w1 := ((Only.refl _ _).alloc _).grown hg (by simp [Value.ownBlock])
  have hA : AccI w.heap.size 2 w1 v1 l := AccI.ofRow hO hI.wf
  have HA := Lib.hid hA
  clear hO hg hb q1 q2 hA
  go_wp2
  go_ret
  exact ⟨_, rfl, HA.out, hK⟩
set_option maxHeartbeats 4000000 in
theorem insertSorted_any (b off c : Nat) (l : List Int) (fp : List Nat) (k : Int) (w : World) (I : IntsA w (some ⟨b, off, none⟩) c l fp) (hl : l.length ≤ 1000) (hk : I64 k) :
    Calls Try.prog 109 #[.slice (some ⟨b, off, none⟩) l.length c, .int .i64 k] w fun e w' => ∃ b' o' c' fp', e = .returned (.slice (some ⟨b', o', none⟩) (PM.insU k l).length c') ∧ IntsA w' (some ⟨b', o', none⟩) c' (PM.insU k l) fp' ∧ (fp' = fp ∨ Fresh w.heap.size w' fp') ∧ Only [] w w' := by
  obtain ⟨i0, hi, hz0, hz1, hz2⟩ := info_parts Try.info2
  have hbl := below_le k l
  have hIH := Lib.hid I
  have HI := Lib.hid hk
  have hcap := I.len
  clear I hk
  obtain ⟨R, hR⟩ : ∃ R, R = PM.insU k l := ⟨_, rfl⟩
  rw [← hR]
  have HR := Lib.hid hR
  clear hR
  go_enter Try.func109, Try.ntmps109
  go_wp2
  go_loopw [5] (fun i wr => ∃ (j : Nat), j ≤ below k l ∧ i = .int .i64 j ∧ Only [] w wr)
    (fun i _ => l.length + 1 - (intOf i).toNat)
  case atStart => exact ⟨0, Nat.zero_le _, rfl, Only.refl _ _⟩
  case round =>
    obtain ⟨w3, hnew⟩ : ∃ W, W = wr := ⟨_, rfl⟩
    subst hnew
    obtain ⟨j, hj, rfl, hK⟩ := hrel
    have I3 := hIH.out.keep hK
    by_cases hlt : j < below k l
    · have hjl : j < l.length := by omega
      obtain ⟨b2, o2, e2, -, c2⟩ := I3.at_ j hjl
      injection e2 with e2; injection e2 with e3 e4; subst e3; subst e4
      have hv := below_lt k l j hjl hlt
      obtain ⟨x, hx⟩ : ∃ x, x = l[j] := ⟨_, rfl⟩
      rw [← hx] at c2 hv
      clear hx
      have hji : (j : Int) < (l.length : Int) := by omega
      go_wp2
      go_roundw
      case rel => exact ⟨j + 1, by omega, by go_num, hK⟩
      case measure => simp [intOf]; omega
    · have hje : j = below k l := by omega
      have hjl : j ≤ l.length := by omega
      have hkc : j ≤ c := by omega
      have hjl' : (j : Int) ≤ (l.length : Int) := by omega
      have hkc' : (j : Int) ≤ (c : Int) := by omega
      have hc0 : (l.length : Int) ≤ (c : Int) := by omega
      have hj0 : (0 : Int) ≤ (j : Int) := by omega
      have hsz3 := hK.size
      have hlk : (l.take j).length = j := by rw [List.length_take]; omega
      have hTk : Rd w3 (.slice (some ⟨b, off, none⟩) j c) (l.take j) fp := by
        have := (I3.take j).rd
        rwa [hlk] at this
      have hTl : (l.take j).length ≤ 1073741824 := by omega
      have HK := Lib.hid hlk
      have hnewR : (∀ h : below k l < l.length, l[below k l] ≠ k) → ∀ v6 w6, w6.ownsRow w3.heap.size 2 1 v6 (j + 1 + (l.length - j)) (((l.take j).map (Value.int .i64) ++ [.int .i64 k]) ++ (l.drop j).map (Value.int .i64)) → Only [] w3 w6 →
          ∃ b' o' c' fp', v6 = .slice (some ⟨b', o', none⟩) R.length c' ∧ IntsA w6 (some ⟨b', o', none⟩) c' R fp' ∧ Fresh w.heap.size w6 fp' ∧ Only [] w w6 := fun hn v6 w6 hO ho => by
        have hRe : R = (l.take j ++ [k]) ++ l.drop j := by rw [HR.out, insU_new hn, ← hje]
        have hcells : ((l.take j).map (Value.int .i64) ++ [Value.int .i64 k]) ++ (l.drop j).map (Value.int .i64) = R.map (Value.int .i64) := by
          rw [hRe]; simp
        have hlen : R.length = j + 1 + (l.length - j) := by rw [hRe, List.length_append, List.length_append, HK.out, List.length_drop]; rfl
        rw [hcells, ← hlen] at hO
        obtain ⟨a6, c6, hv6, -, I6, F6⟩ := own_ints hO (fun x hx => by
          rw [hRe] at hx
          rcases List.mem_append.1 hx with hx | hx
          · rcases List.mem_append.1 hx with hx | hx
            · exact hIH.out.wf x (List.mem_of_mem_take hx)
            · simp at hx; subst hx; exact HI.out
          · exact hIH.out.wf x (List.mem_of_mem_drop hx))
        obtain ⟨b6, o6, ha6, -, -⟩ := I6.at_ 0 (by rw [hlen]; omega)
        subst ha6
        exact ⟨b6, o6, c6, _, hv6, I6, F6.mono hsz3, hK.trans ho⟩
      have HN := Lib.hid hnewR
      clear hlk hnewR
      by_cases hin : j < l.length
      · obtain ⟨b2, o2, e2, -, c2⟩ := I3.at_ j hin
        injection e2 with e2; injection e2 with e3 e4; subst e3; subst e4
        have hnl : ¬ l[j] < k := by subst hje; exact below_at k l hin
        have hji : (j : Int) < (l.length : Int) := by omega
        by_cases heq : l[j] = k
        · have hRl : R = l := by rw [HR.out]; subst hje; exact insU_there hin heq
          have HRl := Lib.hid hRl
          rw [heq] at c2 hnl
          clear heq hRl hje hlt
          go_wp2
          go_ret
          rw [HRl.out]
          exact ⟨_, _, c, rfl, fp, I3, .inl rfl, hK⟩
        · have hend := HN.out (fun h => by subst hje; exact heq)
          have hcj : ¬ (c = j) := by omega
          obtain ⟨x, hx⟩ : ∃ x, x = l[j] := ⟨_, rfl⟩
          rw [← hx] at c2 hnl heq
          clear hx hje hlt
          go_wp2_with (first
            | (go_at_call 84; (with_reducible refine (copyInts_aI (.slice (some ⟨b, off, none⟩) j c) (l.take j) fp w3 hTk hTl).mono ?_); rintro en w4 ⟨v4, rfl, hA4, o4⟩; have hO4 := hA4.row.1; rw [HK.out] at hO4; obtain ⟨a4, q4, e4⟩ := hA4.form; rw [HK.out] at e4; subst e4; have m4 := lit_srcA w4 [.int .i64 k] 2 rfl)
            | (at_builtin; refine wpList_app _ rfl _ _ 36 rfl w3.heap.size 2 i0 _ 1 8 Try.underlying36 hi hz0 hz1 hz2 rfl (by omega) (.slice a4 j q4) j ((l.take j).map (Value.int .i64)) rfl (hO4.alloc _) (some ⟨w4.heap.size, 0, none⟩) 1 1 [.int .i64 k] rfl rfl m4 (by intro hh; cases hh) (by intro u hu; simp at hu; subst hu; rfl) (by unfold maxLen; omega) (by omega) (Nat.le_trans o4.size ((Only.refl [] w4).alloc _).size) ?_; intro v5 w5 hO5 hg5 hb5; have o5 : Only [] w3 w5 := (o4.alloc _).grown hg5 (by intro z hz hzl; have := (hO4.lt z hz).1; omega); have ID := (I3.keep o5).drp hjl; have s5 := ints_src ID; have hdl : ((l.drop j).map (Value.int .i64)).length = (l.length - j) * 1 := (by simp); have Hdl := Lib.hid hdl; clear hdl)
            | (at_builtin; refine wpList_app _ rfl _ _ 36 rfl w3.heap.size 2 i0 _ 1 8 Try.underlying36 hi hz0 hz1 hz2 rfl (by omega) v5 (j + 1) ((l.take j).map (Value.int .i64) ++ [.int .i64 k]) rfl hO5 (some ⟨b, off + j, none⟩) (l.length - j) (c - j) ((l.drop j).map (Value.int .i64)) rfl Hdl.out s5.1 (by intro hh; cases hh) (ints_one _) (by unfold maxLen; omega) (by omega) o5.size ?_; intro v6 w6 hO6 hg6 hb6)
            | fail "no arm")
          have hfin := hend v6 w6 hO6 (o5.grown hg6 (by intro z hz hzl; have := (hO5.lt z hz).1; omega))
          obtain ⟨b', o', c', fp', rfl, h1, h2, h3⟩ := hfin
          go_ret
          exact ⟨b', o', c', fp', rfl, h1, .inr h2, h3⟩
      · have hend := HN.out (fun h => absurd h (by omega))
        have hji : ¬ ((j : Int) < (l.length : Int)) := by omega
        by_cases hcj : c = j
        · subst hcj
          have hd0 : l.drop c = [] := List.drop_eq_nil_of_le (by omega)
          have Hd0 := Lib.hid hd0
          clear hd0 hje hlt
          go_wp2_with (first
            | (go_at_call 84; (with_reducible refine (copyInts_aI (.slice (some ⟨b, off, none⟩) c c) (l.take c) fp w3 hTk hTl).mono ?_); rintro en w4 ⟨v4, rfl, hA4, o4⟩; have hO4 := hA4.row.1; rw [HK.out] at hO4; obtain ⟨a4, q4, e4⟩ := hA4.form; rw [HK.out] at e4; subst e4; have m4 := lit_srcA w4 [.int .i64 k] 2 rfl)
            | (at_builtin; refine wpList_app _ rfl _ _ 36 rfl w3.heap.size 2 i0 _ 1 8 Try.underlying36 hi hz0 hz1 hz2 rfl (by omega) (.slice a4 c q4) c ((l.take c).map (Value.int .i64)) rfl (hO4.alloc _) (some ⟨w4.heap.size, 0, none⟩) 1 1 [.int .i64 k] rfl rfl m4 (by intro hh; cases hh) (by intro u hu; simp at hu; subst hu; rfl) (by unfold maxLen; omega) (by omega) (Nat.le_trans o4.size ((Only.refl [] w4).alloc _).size) ?_; intro v5 w5 hO5 hg5 hb5; have o5 : Only [] w3 w5 := (o4.alloc _).grown hg5 (by intro z hz hzl; have := (hO4.lt z hz).1; omega))
            | (at_builtin; refine wpList_app _ rfl _ _ 36 rfl w3.heap.size 2 i0 _ 1 8 Try.underlying36 hi hz0 hz1 hz2 rfl (by omega) v5 (c + 1) ((l.take c).map (Value.int .i64) ++ [.int .i64 k]) rfl hO5 (some ⟨b, off, none⟩) 0 0 [] rfl rfl (by intro ad hh j1 u hu; simp at hu) (by intro hh; cases hh) (by intro u hu; simp at hu) (by unfold maxLen; omega) (by omega) o5.size ?_; intro v6 w6 hO6 hg6 hb6)
            | fail "no arm")
          have hfin := hend v6 w6 (by have e : l.length - c = 0 := (by omega); rw [e, Hd0.out]; simpa using hO6) (o5.grown hg6 (by intro z hz hzl; have := (hO5.lt z hz).1; omega))
          obtain ⟨b', o', c', fp', rfl, h1, h2, h3⟩ := hfin
          go_ret
          exact ⟨b', o', c', fp', rfl, h1, .inr h2, h3⟩
        · clear hje hlt
          go_wp2_with (first
            | (go_at_call 84; (with_reducible refine (copyInts_aI (.slice (some ⟨b, off, none⟩) j c) (l.take j) fp w3 hTk hTl).mono ?_); rintro en w4 ⟨v4, rfl, hA4, o4⟩; have hO4 := hA4.row.1; rw [HK.out] at hO4; obtain ⟨a4, q4, e4⟩ := hA4.form; rw [HK.out] at e4; subst e4; have m4 := lit_srcA w4 [.int .i64 k] 2 rfl)
            | (at_builtin; refine wpList_app _ rfl _ _ 36 rfl w3.heap.size 2 i0 _ 1 8 Try.underlying36 hi hz0 hz1 hz2 rfl (by omega) (.slice a4 j q4) j ((l.take j).map (Value.int .i64)) rfl (hO4.alloc _) (some ⟨w4.heap.size, 0, none⟩) 1 1 [.int .i64 k] rfl rfl m4 (by intro hh; cases hh) (by intro u hu; simp at hu; subst hu; rfl) (by unfold maxLen; omega) (by omega) (Nat.le_trans o4.size ((Only.refl [] w4).alloc _).size) ?_; intro v5 w5 hO5 hg5 hb5; have o5 : Only [] w3 w5 := (o4.alloc _).grown hg5 (by intro z hz hzl; have := (hO4.lt z hz).1; omega); have ID := (I3.keep o5).drp hjl; have s5 := ints_src ID; have hdl : ((l.drop j).map (Value.int .i64)).length = (l.length - j) * 1 := (by simp); have Hdl := Lib.hid hdl; clear hdl)
            | (at_builtin; refine wpList_app _ rfl _ _ 36 rfl w3.heap.size 2 i0 _ 1 8 Try.underlying36 hi hz0 hz1 hz2 rfl (by omega) v5 (j + 1) ((l.take j).map (Value.int .i64) ++ [.int .i64 k]) rfl hO5 (some ⟨b, off + j, none⟩) (l.length - j) (c - j) ((l.drop j).map (Value.int .i64)) rfl Hdl.out s5.1 (by intro hh; cases hh) (ints_one _) (by unfold maxLen; omega) (by omega) o5.size ?_; intro v6 w6 hO6 hg6 hb6)
            | fail "no arm")
          have hfin := hend v6 w6 hO6 (o5.grown hg6 (by intro z hz hzl; have := (hO5.lt z hz).1; omega))
          obtain ⟨b', o', c', fp', rfl, h1, h2, h3⟩ := hfin
          go_ret
          exact ⟨b', o', c', fp', rfl, h1, .inr h2, h3⟩
end Go.Proofs.Ytbediokigibdlaa

namespace Go.Proofs.Ytbediokigibdlaa
open Go.RowKit
set_option maxRecDepth 10000

theorem choTo_succ (m : List Int) (j : Nat) (T : PM.Rows) (k : Nat) : PM.choO m (orbTo (j + 1) T k) = if PM.tr T k (j : Int) = [] then PM.choO m (orbTo j T k) else PM.insU (PM.at_ m (j : Int)) (PM.choO m (orbTo j T k)) := by
  rw [orbTo_succ]
  by_cases h : PM.tr T k (j : Int) = []
  · rw [if_pos h, if_pos h]
  · rw [if_neg h, if_neg h, PM.choO_snoc]
theorem choO_len {n : Nat} {m : List Int} (hm : PM.PN n m) {ys : List Int} (hy : ∀ y ∈ ys, 0 ≤ y ∧ y < n) : (PM.choO m ys).length ≤ n := by
  have h1 : (PM.choO m ys).length ≤ (PM.pts n).length := PM.nodup_sub_len (PM.choO_asc m ys).nodup fun v hv => by
    obtain ⟨y, hy1, rfl⟩ := PM.mem_choO.1 hv
    obtain ⟨h0, h1⟩ := hy y hy1
    exact PM.mem_pts.2 (hm.rng h0 h1)
  rwa [PM.pts_len] at h1
theorem orbTo_rng {j n : Nat} (hj : j ≤ n) {T : PM.Rows} {k : Nat} : ∀ y ∈ orbTo j T k, 0 ≤ y ∧ y < (n : Int) := fun y hy => by
  unfold orbTo at hy
  have := PM.mem_pts.1 (List.mem_filter.1 hy).1
  omega
set_option maxHeartbeats 2000000 in
theorem choicesAt_any {e : TypeId} {B : Nat} {L : Lay} {gv : Nat → Value} {n : Nat} {G : PM.Gens} {T : PM.Rows} {M F : List Nat} (w : World) (hC : Ch e B w L gv n G T M F) (hT : L.oT = 1) (i : Nat) (hi : i < n) (v : Value) (m : List Int) (fm : List Nat)
    (hv : Rd w v m fm) (hm : PM.PN n m) :
    Calls Try.prog 93 #[.pointer (some ⟨L.g, 0, none⟩), .int .i64 i, v] w fun e w' => ∃ b o c f, e = .returned (.slice (some ⟨b, o, none⟩) (PM.cho n T i m).length c) ∧ IntsA w' (some ⟨b, o, none⟩) c (PM.cho n T i m) f ∧ Fresh w.heap.size w' f ∧ Only [] w w' := by
  obtain ⟨A, C, rfl, IM⟩ := hv.ints
  have hn20 := hC.le
  have hml := hm.1
  have cn := hC.cn
  have ct := hC.ct
  rw [hT] at ct
  have cr := hC.row i hi
  obtain ⟨R, hR⟩ : ∃ R, R = PM.cho n T i m := ⟨_, rfl⟩
  rw [← hR]
  have HR := Lib.hid hR
  have HC := Lib.hid hC
  have Hm := Lib.hid hm
  have HIM := Lib.hid IM
  have Hml := Lib.hid hml
  clear hC hm IM hml hR
  go_enter Try.func93, Try.ntmps93
  go_wp2
  go_loopw [7, 8] (fun o y wr => ∃ (j : Nat) (l : List Int) (b o' c : Nat) (f : List Nat), j ≤ n ∧ y = .int .i64 j ∧ Hid (l = PM.choO m (orbTo j T i)) ∧ o = .slice (some ⟨b, o', none⟩) l.length c ∧ IntsA wr (some ⟨b, o', none⟩) c l f ∧ Fresh w.heap.size wr f ∧ Only [] w wr)
    (fun _ y _ => n - (intOf y).toNat)
  case atStart => exact ⟨0, [], w.heap.size, 0, 0, [], Nat.zero_le _, rfl, Lib.hid rfl, rfl, IntsA.nil _ _ (by simp [maxLen]), Fresh.nil _ _, (Only.refl _ _).alloc _⟩
  case round =>
    obtain ⟨W2, hnew⟩ : ∃ W, W = wr := ⟨_, rfl⟩
    subst hnew
    obtain ⟨j, l, b, o', c, f, hj, rfl, hl, rfl, hI, hF, hO⟩ := hrel
    have y0 := hO.cell (by simp) cn
    by_cases hlt : j < n
    · have yt := hO.cell (by simp) ct
      have yr := hO.cell (by simp) cr
      have hC2 := HC.out.keep hO
      have hsu := choTo_succ m j T i
      rw [← hl.out] at hsu
      have Hsu := Lib.hid hsu
      have hll : l.length ≤ 1000 := by
        rw [hl.out]
        have := choO_len Hm.out (orbTo_rng (j := j) (n := n) (by omega) (T := T) (k := i))
        omega
      have hltI : (j : Int) < (n : Int) := by omega
      clear hsu
      by_cases ht : PM.tr T i (j : Int) = []
      · have c4 := hC2.at_nil hi (y := (j : Int)) (by omega) (by omega) ht
        simp only [Int.toNat_natCast] at c4
        have Ht := Lib.hid ht
        clear ht hC2
        go_wp2
        go_roundw
        case rel => exact ⟨j + 1, l, b, o', c, f, by omega, by go_num, Lib.hid (by rw [Hsu.out, if_pos Ht.out]), rfl, hI, hF, hO⟩
        case measure => simp [intOf]; omega
      · obtain ⟨b4, off4, cap4, f4, c4, -, -⟩ := hC2.at_some hi (y := (j : Int)) (by omega) (by omega) ht
        simp only [Int.toNat_natCast] at c4
        obtain ⟨b3, o3, rfl, -, c3⟩ := (HIM.out.keep hO).at_pm (x := (j : Int)) (by omega) (by rw [Hml.out]; omega)
        simp only [Int.toNat_natCast] at c3
        have hpos : (0 : Int) < ((PM.tr T i (j : Int)).length : Int) := by have := List.length_pos_iff.2 ht; omega
        have hjm : (j : Int) < (m.length : Int) := by rw [Hml.out]; omega
        have hmr := Hm.out.rng (x := (j : Int)) (by omega) (by omega)
        have HmI := Lib.hid (show I64 (PM.at_ m (j : Int)) by unfold I64; omega)
        have Ht := Lib.hid ht
        have hsz := hO.size
        clear ht hC2 hmr
        go_wp2_with (first
          | (go_at_call 109; (with_reducible refine (insertSorted_any b o' c l f (PM.at_ m (j : Int)) W2 hI hll HmI.out).mono ?_); rintro en w3 ⟨b5, o5, c5, f5, rfl, hI5, hf5, t5⟩)
          | fail "no arm")
        have hF5 : Fresh w.heap.size w3 f5 := by
          rcases hf5 with h | h
          · rw [h]; exact hF.keep t5
          · exact h.mono hsz
        go_roundw
        case rel => exact ⟨j + 1, _, b5, o5, c5, f5, by omega, by go_num, Lib.hid (by rw [Hsu.out, if_neg Ht.out]), rfl, hI5, hF5, hO.trans t5⟩
        case measure => simp [intOf]; omega
    · obtain rfl : j = n := by omega
      have hRl : R = l := by rw [HR.out, hl.out]; rfl
      have HRl := Lib.hid hRl
      have hge : ¬ ((j : Int) < (j : Int)) := by omega
      clear hRl hl
      go_wp2
      go_ret
      rw [HRl.out]
      exact ⟨b, o', c, rfl, f, hI, hF, hO⟩
set_option maxHeartbeats 4000000 in
theorem withEntry_any {e : TypeId} {B : Nat} {L : Lay} {gv : Nat → Value} {n : Nat} {G : PM.Gens} {T : PM.Rows} {M F : List Nat} (w : World) (hC : Ch e B w L gv n G T M F) (hw : PM.WF n T) (hT : L.oT = 1) (i : Nat) (hi : i < n) (v : Value) (m : List Int) (fm : List Nat)
    (hv : Rd w v m fm) (hm : PM.PN n m) (vv : Int) (hvv : vv ∈ PM.cho n T i m) :
    Calls Try.prog 92 #[.pointer (some ⟨L.g, 0, none⟩), .int .i64 i, v, .int .i64 vv] w fun e w' => ∃ v' f', e = .returned v' ∧ Rd w' v' (PM.putV T i m vv) f' ∧ Fresh w.heap.size w' f' ∧ Only [] w w' := by
  have hn20 := hC.le
  obtain ⟨hv0, hv1, hp0, hp1, hp2, hp3⟩ := PM.cho_pre hm hvv
  obtain ⟨A, C, rfl, IM⟩ := hv.ints
  obtain ⟨y, hy⟩ : ∃ y, y = PM.at_ (PM.inv m) vv := ⟨_, rfl⟩
  rw [← hy] at hp0 hp1 hp2 hp3
  have hput : PM.putV T i m vv = PM.comp (PM.tr T i y) m := by unfold PM.putV; rw [← hy]
  have ct := hC.ct
  rw [hT] at ct
  have cr := hC.row i hi
  obtain ⟨bt, ot, capt, ft, crt, hrt, -⟩ := hC.at_some hi hp0 hp1 hp2
  have htp := hw.pn i y hi hp2
  have hil : ((PM.inv m).length : Int) = (n : Int) := by rw [hm.inv.1]
  have Hm := Lib.hid hm
  have Hp := Lib.hid hput
  have Htp := Lib.hid htp
  have Hy := Lib.hid hy
  have Hil := Lib.hid hil
  have hvl : vv < ((PM.inv m).length : Int) := by rw [hil]; exact hv1
  clear hC hm hvv hy hput hp2 hp3 htp IM hil
  go_enter Try.func92, Try.ntmps92
  go_wp2_with fail
  have kd : Only [] w w.drew := (Only.refl _ _).drew
  have dt := kd.cell (by simp) ct
  have dr := kd.cell (by simp) cr
  have dy := kd.cell (by simp) crt
  have HcI := Lib.hid (fun (W : World) (hW : Only [] w W) => specInv_rd n _ m _ W (Rp.keep hv hW) Hm.out (by omega))
  have HcC := Lib.hid (fun (W : World) (hW : Only [] w W) => specCompose_rd n _ _ (PM.tr T i y) m _ _ W (Rp.keep hrt hW) (Rp.keep hv hW) Htp.out Hm.out (by omega))
  clear kd
  go_region_law (first
    | (go_simp; go_at_call 40; (with_reducible refine (HcI.out _ (by with_reducible repeat (first | exact Only.refl _ _ | refine Only.drew ?_))).mono ?_); rintro e w3 ⟨v3, f3, rfl, r3, F3, t3⟩; have k3 : Only [] w w3 := Only.trans (by with_reducible repeat (first | exact Only.refl _ _ | refine Only.drew ?_)) t3; obtain ⟨a3, c3, rfl, I3⟩ := r3.ints; obtain ⟨b3, o3, rfl, -, x3⟩ := I3.at_pm (x := vv) hv0 hvl; rw [← Hy.out] at x3; have et := k3.cell (by simp) ct; have er := k3.cell (by simp) cr; have ey := k3.cell (by simp) crt)
    | (go_simp; go_at_call 39; (with_reducible refine (HcC.out _ (by with_reducible first | exact k3 | exact k3.drew)).mono ?_); rintro e w5 ⟨v5, f5, rfl, r5, F5, t5⟩; have k5 : Only [] w w5 := Only.trans (by with_reducible first | exact k3 | exact k3.drew) t5)
    | fail "no arm")
  all_goals have hF5 : Fresh w.heap.size w5 f5 := F5.mono (by have := k3.size; (try simp); omega)
  all_goals go_wp2
  all_goals go_ret
  all_goals exact ⟨v5, f5, rfl, by rw [Hp.out]; exact r5, hF5, k5⟩


end Go.Proofs.Ytbediokigibdlaa

namespace Go.Proofs.Ytbediokigibdlaa
open Go.RowKit
set_option maxRecDepth 10000

/-- what the program's below finds beside the count, so far: m is the least of l -/
def IsMn (l : List Int) (m : Int) : Prop := (l = [] ∧ m = -1) ∨ (m ∈ l ∧ ∀ x ∈ l, m ≤ x)
theorem IsMn.snoc_lt {l : List Int} {m x : Int} (h : IsMn l m) (hx : m < 0 ∨ x < m) (h0 : ∀ y ∈ l, 0 ≤ y) : IsMn (l ++ [x]) x := by
  refine Or.inr ⟨by simp, fun y hy => ?_⟩
  rcases List.mem_append.1 hy with hy | hy
  · rcases h with ⟨rfl, -⟩ | ⟨h1, h2⟩
    · cases hy
    · have := h2 y hy; have := h0 m h1; omega
  · rw [List.mem_singleton.1 hy]; exact Int.le_refl _
theorem IsMn.snoc_ge {l : List Int} {m x : Int} (h : IsMn l m) (hm : ¬ m < 0) (hx : ¬ x < m) : IsMn (l ++ [x]) m := by
  rcases h with ⟨rfl, h2⟩ | ⟨h1, h2⟩
  · omega
  · refine Or.inr ⟨List.mem_append_left _ h1, fun y hy => ?_⟩
    rcases List.mem_append.1 hy with hy | hy
    · exact h2 y hy
    · rw [List.mem_singleton.1 hy]; omega
theorem IsMn.end_ {l C : List Int} {m : Int} (h : IsMn l m) (hC : PM.Asc C) (hne : C ≠ []) (he : (l.mergeSort fun x y => decide (x ≤ y)) = C) : m = C.getD 0 0 := by
  have hp : l.Perm C := by rw [← he]; exact (List.mergeSort_perm _ _).symm
  rcases h with ⟨rfl, -⟩ | ⟨h1, h2⟩
  · exact absurd (List.nil_perm.1 hp) hne
  · cases C with
    | nil => exact absurd rfl hne
    | cons c C =>
      show m = c
      have h3 := h2 c (hp.mem_iff.2 (by simp))
      have h4 : c ≤ m := by
        rcases List.mem_cons.1 (hp.mem_iff.1 h1) with e | e
        · omega
        · exact Int.le_of_lt ((List.pairwise_cons.1 hC).1 m e)
      omega
set_option maxHeartbeats 4000000 in
theorem walkLeast_any {e : TypeId} {B : Nat} {L : Lay} {gv : Nat → Value} {n : Nat} {G : PM.Gens} {T : PM.Rows} {M F : List Nat} (w : World) (hC : Ch e B w L gv n G T M F) (hw : PM.WF n T) (hT : L.oT = 2) (b i : Nat) (hi : i < n) (v : Value) (m : List Int) (fm : List Nat)
    (hb : Blk w b [.pointer (some ⟨L.g, 0, none⟩), .int .i64 i, v]) (hv : Rd w v m fm) (hm : PM.PN n m) :
    Calls Try.prog 96 #[.pointer (some ⟨b, 0, none⟩), .int .i64 (-1)] w fun e w' => ∃ c : Int, e = .returned (.tuple #[.int .i64 c, .int .i64 ((PM.cho n T i m).getD 0 0)]) ∧ Only [] w w' := by
  have HcV := Lib.hid (values_any w hC hT b i hi v m fm hb hv hm)
  obtain ⟨C, hCd⟩ : ∃ C, C = PM.cho n T i m := ⟨_, rfl⟩
  have hn20 := hC.le
  have hAs : PM.Asc C := by rw [hCd]; exact PM.choO_asc _ _
  have hCb : ∀ x ∈ C, I64 x := fun x hx => by rw [hCd] at hx; have := PM.cho_pre hm hx; unfold I64; omega
  have hC0 : ∀ x ∈ C, 0 ≤ x := fun x hx => by rw [hCd] at hx; exact (PM.cho_pre hm hx).1
  have hCl : C.length ≤ 1000 := by rw [hCd, PM.cho_len hm]; have := PM.cntR_le n T i; omega
  have hCne : C ≠ [] := fun hc => by
    have h1 := PM.cho_len (T := T) (i := i) hm
    rw [← hCd, hc] at h1
    have h2 := PM.cntR_pos hw hi
    simp at h1; omega
  have hgC : ∀ x, (gV m (orb n T i) x).isSome = decide (x ∈ C) := fun x => by
    rw [hCd]
    by_cases hx : x ∈ PM.cho n T i m
    · rw [gV_yes hx]; simp [hx]
    · rw [gV_no hx]; simp [hx]
  rw [← hCd]
  have HAs := Lib.hid hAs
  have HCb := Lib.hid hCb
  have HC0 := Lib.hid hC0
  have HCne := Lib.hid hCne
  have HgC := Lib.hid hgC
  clear hC hm hb hv hw hAs hCb hCne hgC hCd hC0
  go_enter Try.func96, Try.ntmps96
  go_wp2_with (first
    | (go_at_call 110; (with_reducible refine (HcV.out).mono ?_); rintro en w1 ⟨K, rfl, hK, hM, t1⟩; obtain ⟨D, hown, hg⟩ := hM)
    | (at_range; refine wpList_range_own _ rfl _ 110 rfl 2 2 Try.lawI64 Try.underlying110 _ K 1000 D rfl hown ?_; intro w0 hrg0 hg0 hs0)
    | fail "no arm")
  go_frame
  have hKl := hown.lt
  have k01 : Only [] w1 w0 := (Only.refl _ _).grown hg0 (by intro j hj; cases hj)
  have kw0 : Only [] w w0 := t1.trans k01
  have hl0 : KL C (Go.Maps.has D) [] := ⟨List.nodup_nil, fun x hx => by
      rw [(hg x hx).1, HgC.out]
      by_cases hm : x ∈ C <;> simp [hm], by simp, fun x hx hl => by rw [(hg x hx).1, HgC.out] at hl; simpa using hl⟩
  clear hg hg0 hown t1 k01
  go_loopw [6, 7] (fun c o wr => ∃ (left : Lit → Bool) (cnt : Nat) (l : List Int) (nx cc : Int), wr.ranges Try.prog 2 (plainElem Try.prog 2) K w1.heap.size 1000 D left cnt ∧ c = .int .i64 cc ∧ o = .int .i64 nx ∧ Hid (IsMn l nx) ∧ KL C left l ∧ (-1 ≤ nx ∧ nx ≤ 9223372036854775807) ∧ Only [] w wr)
    (fun _ _ wr => wr.rangeLeft K w1.heap.size)
  case atStart => exact ⟨_, _, [], -1, 0, hrg0, rfl, rfl, Lib.hid (Or.inl ⟨rfl, rfl⟩), hl0, by omega, kw0⟩
  case round =>
    obtain ⟨W2, hnew⟩ : ∃ W, W = wr := ⟨_, rfl⟩
    subst hnew
    obtain ⟨left, cnt, l, nx, cc, hrg, rfl, rfl, hmn, hKL, hnx, hO⟩ := hrel
    obtain ⟨nx1, nx2⟩ := hnx
    have hl00 : ∀ y ∈ l, 0 ≤ y := fun y hy => HC0.out y ((hKL.iff y (hKL.big y hy)).1 hy).1
    have Hl0 := Lib.hid hl00
    clear hl00
    go_wp2_with (first
      | (at_next; refine wpList_next_ranges_ii _ rfl _ rfl 2 2 .i64 .i64 Try.lawI64 Try.underlying2 Try.underlying2 K w1.heap.size 1000 _ _ _ rfl hrg ?_ ?_)
      | fail "no arm")
    · intro _ hl0
      have hfin := hKL.end_ hl0 HAs.out HCb.out
      have hce := hmn.out.end_ HAs.out HCne.out hfin
      have Hce := Lib.hid hce
      clear hce hfin hl0
      go_wp2
      exact bodyPost_ret (v := .tuple #[.int .i64 cc, .int .i64 nx]) (by simp [results, Try.results96, go_sem]) rfl ⟨cc, by rw [← Hce.out], hO⟩
    · intro x c w2 cnt1 hwx hwc hlx hat hrg1 hlt hg1 hs1 hen
      have hxI : I64 x := by have h9 := hwx; simp [Lit.wf, IntKind.min, IntKind.max, IntKind.signed, IntKind.bits] at h9; unfold I64; omega
      have hx0 : 0 ≤ x := HC0.out x (hKL.dom x hxI hlx)
      have k2 : Only [w1.heap.size] W2 w2 := (Only.refl _ _).grown hg1 (by intro j hj _; injection hj with hj; subst hj; simp)
      have hO2 : Only [] w w2 := hO.then_ k2 (fun z hz hl => by simp at hz; have := kw0.size; omega)
      have hK2 := hKL.step hxI hlx
      have HK2 := Lib.hid hK2
      have Hs1 := Lib.hid hs1
      have hxb := hxI
      unfold I64 at hxb
      have hx1 : -1 < x := by omega
      have hx2 : ¬ x < -1 := by omega
      clear hs1 hKL hxI hat hwx hwc hlx hK2
      by_cases h1 : nx < 0
      · have Hmn := Lib.hid (hmn.out.snoc_lt (x := x) (Or.inl h1) Hl0.out)
        go_wp2_with fail
        all_goals exact ⟨⟨_, cnt1, l ++ [x], x, _, hrg1, rfl, rfl, Hmn, HK2.out, by omega, hO2⟩, by rw [hrg1.left_eq, hrg.left_eq]; exact hlt⟩
      · by_cases h2 : x < nx
        · have Hmn := Lib.hid (hmn.out.snoc_lt (x := x) (Or.inr h2) Hl0.out)
          go_wp2_with fail
          all_goals exact ⟨⟨_, cnt1, l ++ [x], x, _, hrg1, rfl, rfl, Hmn, HK2.out, by omega, hO2⟩, by rw [hrg1.left_eq, hrg.left_eq]; exact hlt⟩
        · have Hmn := Lib.hid (hmn.out.snoc_ge (x := x) h1 h2)
          go_wp2_with fail
          all_goals exact ⟨⟨_, cnt1, l ++ [x], nx, _, hrg1, rfl, rfl, Hmn, HK2.out, by omega, hO2⟩, by rw [hrg1.left_eq, hrg.left_eq]; exact hlt⟩
set_option maxHeartbeats 4000000 in
theorem finish_any {B : Nat} {L : Lay} {gv : Nat → Value} {n : Nat} {G : PM.Gens} {T : PM.Rows} {M F : List Nat} (w : World) (hC : Ch 36 B w L gv n G T M F) (hw : PM.WF n T) (hT : L.oT = 2) (b : Nat) (v : Value) (p : List Int) (fp : List Nat)
    (hb : Blk w b [.pointer (some ⟨L.g, 0, none⟩), .int .i64 (0 : Nat), v]) (hv : Rd w v p fp) (hp : PM.PN n p) (hbM0 : b ∉ M) (hbF0 : b ∉ F) (hbf : b ∉ fp) :
    Calls Try.prog 63 #[.pointer (some ⟨b, 0, none⟩)] w fun e w' => ∃ v' f', e = .returned v' ∧ Rd w' v' (PM.desc T n (fun _ _ => 0) n 0 p) f' ∧ Fresh w.heap.size w' f' ∧ Only [b] w w' := by
  have hn : 0 < n := hC.pos
  have hn20 : n ≤ 20 := hC.le
  obtain ⟨R, hR⟩ : ∃ R, R = PM.desc T n (fun _ _ => 0) n 0 p := ⟨_, rfl⟩
  rw [← hR]
  have HR0 : Hid (R = PM.desc T n (fun _ _ => 0) (n - 0) 0 p) := Lib.hid (by rw [hR, Nat.sub_zero])
  have Hwf := Lib.hid hw
  have HoT := Lib.hid hT
  have HbM := Lib.hid (show ∀ z ∈ [b], z ∉ M from fun z hz hm => by simp at hz; subst hz; exact hbM0 hm)
  have HbF := Lib.hid (show ∀ z ∈ [b], z ∉ F from fun z hz hm => by simp at hz; subst hz; exact hbF0 hm)
  have hbl := hb.lt
  clear hR hw hT
  go_enter Try.func63, Try.ntmps63
  go_wp2
  go_loopw [] (fun wr => ∃ (i : Nat) (v : Value) (m : List Int) (f : List Nat), i ≤ n ∧ Blk wr b [.pointer (some ⟨L.g, 0, none⟩), .int .i64 i, v] ∧ Rd wr v m f ∧ (0 < i → Fresh w.heap.size wr f) ∧ b ∉ f ∧ Ch 36 B wr L gv n G T M F ∧ PM.PN n m ∧ Hid (R = PM.desc T n (fun _ _ => 0) (n - i) i m) ∧ Only [b] w wr)
    (fun wr => n - (intOf ((wr.cell? ⟨b, 1, none⟩).getD undef)).toNat)
  case atStart => exact ⟨0, v, p, fp, Nat.zero_le _, hb, hv, fun h => absurd h (Nat.lt_irrefl _), hbf, hC, hp, HR0, Only.refl _ _⟩
  case round =>
    obtain ⟨W2, hnew⟩ : ∃ W, W = wr := ⟨_, rfl⟩
    subst hnew
    clear hb hv hC hp hbf
    obtain ⟨i, v, m, f, hi, hB, hr, hF, hbf, hC, hpm, hRR, hO⟩ := hrel
    have y1 := hB.cell 1 rfl
    have y0 := hB.cell 0 rfl
    have yn := hC.cn
    go_upto_region 1 with fail
    go_quiet (fail)
    obtain ⟨W3, hW3⟩ : ∃ W, W = W2.drewN nq := ⟨_, rfl⟩
    have kq : Only [] W2 W3 := by rw [hW3]; exact (Only.refl _ _).drewN _
    rw [← hW3]
    have hB3 := hB.keep kq
    have hC3 := hC.keep kq
    have hr3 := Rp.keep hr kq
    have hO3 : Only [b] w W3 := hO.keepThen kq
    have y13 := hB3.cell 1 rfl
    have hO2 := hO3.size
    clear hW3
    by_cases hlt : i < n
    · have hwf := Hwf.out
      obtain ⟨C, hCd⟩ : ∃ C, C = PM.cho n T i m := ⟨_, rfl⟩
      have hCl : 0 < C.length := by rw [hCd, PM.cho_len hpm]; exact PM.cntR_pos hwf hlt
      have hkm : C[0] ∈ PM.cho n T i m := by rw [← hCd]; exact List.getElem_mem hCl
      have hg0 : C.getD 0 0 = C[0] := by rw [List.getD_eq_getElem?_getD, List.getElem?_eq_getElem hCl]; rfl
      have hpp2 := (PM.putV_pn hwf hlt hpm hkm).1
      have hRR2 : R = PM.desc T n (fun _ _ => 0) (n - (i + 1)) (i + 1) (PM.putV T i m C[0]) := by
        subst hCd
        rw [hRR.out]
        exact PM.desc_step hlt m rfl hCl
      have HcL := Lib.hid (walkLeast_any W3 hC3 hwf HoT.out b i hlt v m f hB3 hr3 hpm)
      rw [← hCd, hg0] at HcL
      obtain ⟨x, hx⟩ : ∃ x, x = C[0] := ⟨_, rfl⟩
      rw [← hx] at HcL hkm hpp2 hRR2
      have HRR2 := Lib.hid hRR2
      have Hpp2 := Lib.hid hpp2
      have Hkm := Lib.hid hkm
      have Hpm := Lib.hid hpm
      have HC3 := Lib.hid hC3
      have HB3 := Lib.hid hB3
      have hltI : (i : Int) < (n : Int) := by omega
      clear hCd hCl hRR2 hkm hpm hpp2 hwf hC hC3 hB hB3 hRR yn kq hg0 hx hF
      go_wp2_with (first
        | (go_at_call 96; (with_reducible refine (HcL.out).mono ?_); rintro en w6 ⟨c6, rfl, t6⟩)
        | (go_at_call 97; (with_reducible refine (take_yes w6 (HC3.out.keep t6) Hwf.out HoT.out b i hlt v m f (HB3.out.keep t6) (Rp.keep hr3 t6) Hpm.out x Hkm.out).mono ?_); rintro en w9 ⟨rfl, ⟨v9, f9, B9, r9, F9⟩, O9⟩)
        | fail "no arm")
      have k29 : Only [b] w w9 := (hO3.keepThen t6).trans O9
      have HC9 := (HC3.out.keep t6).only O9 HbM.out HbF.out
      have F9' : Fresh w.heap.size w9 f9 := F9.mono (by have := t6.size; omega)
      have y9 := B9.cell 1 rfl
      have hb9 : b ∉ f9 := fun hm => by have := F9'.ge b hm; omega
      go_roundw
      case rel => exact ⟨i + 1, v9, _, f9, by omega, B9, r9, fun _ => F9', hb9, HC9, Hpp2.out, HRR2, k29⟩
      case measure => rw [y9, y1]; simp [intOf]; omega
    · obtain rfl : i = n := by omega
      have hfin : R = m := by rw [hRR.out]; exact PM.desc_end (Nat.le_refl _) m
      have hge : ¬ ((i : Int) < (i : Int)) := by omega
      have y2 := hB3.cell 2 rfl
      have Hfin := Lib.hid hfin
      have hF3 := (hF hn).keep kq
      clear hfin hRR
      go_wp2
      go_ret
      exact ⟨v, rfl, f, by rw [Hfin.out]; exact hr3, hF3, hO3⟩
set_option maxHeartbeats 4000000 in
theorem cosetMin_any {B : Nat} {L : Lay} {gv : Nat → Value} {n : Nat} {G : PM.Gens} {T : PM.Rows} {M F : List Nat} (w : World) (hC : Ch 36 B w L gv n G T M F) (hw : PM.WF n T) (hT : L.oT = 1) (v : Value) (p : List Int) (fp : List Nat)
    (hv : Rd w v p fp) (hp : PM.PN n p) :
    Calls Try.prog 56 #[.pointer (some ⟨L.g, 0, none⟩), v] w fun e w' => ∃ v' f', e = .returned v' ∧ Rd w' v' (PM.desc T n (fun _ _ => 0) n 0 p) f' ∧ Fresh w.heap.size w' f' ∧ Only [] w w' := by
  have hn : 0 < n := hC.pos
  have hn20 : n ≤ 20 := hC.le
  obtain ⟨R, hR⟩ : ∃ R, R = PM.desc T n (fun _ _ => 0) n 0 p := ⟨_, rfl⟩
  rw [← hR]
  have HR0 : Hid (R = PM.desc T n (fun _ _ => 0) (n - 0) 0 p) := Lib.hid (by rw [hR, Nat.sub_zero])
  have Hwf := Lib.hid hw
  have HoT := Lib.hid hT
  have hcn := hC.cn
  have hpl : p.length ≤ 1073741824 := by rw [hp.1]; omega
  have HC := Lib.hid hC
  have Hp := Lib.hid hp
  clear hR hw hT hC hp
  go_enter Try.func56, Try.ntmps56
  go_wp2_with (first
    | (go_at_call 84; (with_reducible refine (copyInts_rd v p fp w hv hpl).mono ?_); rintro en w1 ⟨v1, f1, rfl, r1, F1, t1⟩)
    | fail "no arm")
  go_loopw [5, 6] (fun o y wr => ∃ (i : Nat) (m : List Int) (f : List Nat), i ≤ n ∧ y = .int .i64 i ∧ Rd wr o m f ∧ Fresh w.heap.size wr f ∧ PM.PN n m ∧ Hid (R = PM.desc T n (fun _ _ => 0) (n - i) i m) ∧ Only [] w wr)
    (fun _ y _ => n - (intOf y).toNat)
  case atStart => exact ⟨0, p, f1, Nat.zero_le _, rfl, r1, F1, Hp.out, HR0, t1⟩
  case round =>
    obtain ⟨W2, hnew⟩ : ∃ W, W = wr := ⟨_, rfl⟩
    subst hnew
    clear r1 F1 t1
    obtain ⟨i, m, f, hi, rfl, hr, hF, hpm, hRR, hO⟩ := hrel
    have yn := hO.cell (by simp) hcn
    by_cases hlt : i < n
    · have hwf := Hwf.out
      have hltI : (i : Int) < (n : Int) := by omega
      obtain ⟨C, hCd⟩ : ∃ C, C = PM.cho n T i m := ⟨_, rfl⟩
      have hCl : 0 < C.length := by rw [hCd, PM.cho_len hpm]; exact PM.cntR_pos hwf hlt
      have hkm : C[0] ∈ PM.cho n T i m := by rw [← hCd]; exact List.getElem_mem hCl
      have hpp2 := (PM.putV_pn hwf hlt hpm hkm).1
      have hRR2 : R = PM.desc T n (fun _ _ => 0) (n - (i + 1)) (i + 1) (PM.putV T i m C[0]) := by
        subst hCd
        rw [hRR.out]
        exact PM.desc_step hlt m rfl hCl
      have HcS := Lib.hid (choicesAt_any W2 (HC.out.keep hO) HoT.out i hlt u5 m f hr hpm)
      rw [← hCd] at HcS
      obtain ⟨x, hx⟩ : ∃ x, x = C[0] := ⟨_, rfl⟩
      have HcW := Lib.hid (fun (W : World) (hW : Only [] W2 W) => withEntry_any W ((HC.out.keep hO).keep hW) hwf HoT.out i hlt u5 m f (Rp.keep hr hW) hpm C[0] hkm)
      rw [← hx] at HcW hpp2 hRR2
      have HRR2 := Lib.hid hRR2
      have Hpp2 := Lib.hid hpp2
      have Hx := Lib.hid hx
      have hCI : (0 : Int) < (C.length : Int) := by omega
      have hsz := hO.size
      clear hCd hRR2 hkm hpp2 hwf hRR hx hpm
      go_wp2_with (first
        | (go_at_call 93; (with_reducible refine (HcS.out).mono ?_); rintro en w6 ⟨b6, o6, c6, f6, rfl, I6, F6, t6⟩; obtain ⟨b8, o8, e8, -, c8⟩ := I6.at_ 0 hCl; injection e8 with e8; injection e8 with e81 e82; subst e81; subst e82; rw [← Hx.out, Nat.add_zero] at c8)
        | (go_at_call 92; (with_reducible refine (HcW.out w6 t6).mono ?_); rintro en w7 ⟨v7, f7, rfl, r7, F7, t7⟩)
        | fail "no arm")
      have hF7 : Fresh w.heap.size w7 f7 := F7.mono (by have := t6.size; omega)
      go_roundw
      case rel => exact ⟨i + 1, _, f7, by omega, by go_num, r7, hF7, Hpp2.out, HRR2, (hO.trans t6).trans t7⟩
      case measure => simp [intOf]; omega
    · obtain rfl : i = n := by omega
      have hfin : R = m := by rw [hRR.out]; exact PM.desc_end (Nat.le_refl _) m
      have hge : ¬ ((i : Int) < (i : Int)) := by omega
      have Hfin := Lib.hid hfin
      clear hfin hRR
      go_wp2
      go_ret
      exact ⟨u5, rfl, f, by rw [Hfin.out]; exact hr, hF, hO⟩
end Go.Proofs.Ytbediokigibdlaa

namespace Go.Proofs.Ytbediokigibdlaa
open Go.RowKit
set_option maxRecDepth 10000




end Go.Proofs.Ytbediokigibdlaa

namespace Go.Proofs.Ytbediokigibdlaa
open Go.RowKit
set_option maxRecDepth 10000

/-- the table of a tracked set -/
def bTab (x : Puzzle) (tr : List Int) : Option Table := (bfs16 x tr).map fun s => ⟨tr, s.1, s.2⟩
end Go.Proofs.Ytbediokigibdlaa

namespace Go.Proofs.Ytbediokigibdlaa
open Go.RowKit
set_option maxRecDepth 10000

def noTab : Table := ⟨[], [], []⟩
end Go.Proofs.Ytbediokigibdlaa

namespace Go.Proofs.Ytbediokigibdlaa
open Go.RowKit
set_option maxRecDepth 10000

/-- what a search has met: lists of one length, as many depths -/
def Met16.ok (m : Nat) (s : Met16) : Prop := s.1.length = s.2.length ∧ s.1.length ≤ 3000 ∧ ∀ q ∈ s.1, q.length = m
end Go.Proofs.Ytbediokigibdlaa

namespace Go.Proofs.Ytbediokigibdlaa
open Go.RowKit
set_option maxRecDepth 10000

/-- the first letter of a descent -/
def dLet (x : Puzzle) (t : Table) (p : List Int) : Int := if checkT x t = true ∧ 0 ≤ idxL t.patterns p then descL x t p (atD t (idxL t.patterns p) - 1) else 0
/-- the word of a descent of at most n letters -/
def dW (x : Puzzle) (t : Table) : Nat → List Int → Option (List Int)
  | 0, p => if p = t.tracked then some [] else none
  | n + 1, p => if p = t.tracked then some [] else if dLet x t p = 0 then none else (dW x t n (nxt x p (dLet x t p))).map (dLet x t p :: ·)
theorem dLet_yes {x : Puzzle} {t : Table} {p : List Int} (h : checkT x t = true) (h2 : 0 ≤ idxL t.patterns p) : dLet x t p = descL x t p (atD t (idxL t.patterns p) - 1) := by unfold dLet; rw [if_pos ⟨h, h2⟩]
end Go.Proofs.Ytbediokigibdlaa

namespace Go.Proofs.Ytbediokigibdlaa
open Go.RowKit
set_option maxRecDepth 10000
theorem getD_get {α : Type} {l : List α} {z : α} {k : Nat} (h : k < l.length) : l.getD k z = l[k] := by
  rw [List.getD_eq_getElem?_getD, List.getElem?_eq_getElem h]; rfl
theorem nodup_at {α : Type} {l : List α} (h : l.Nodup) {i j : Nat} (hi : i < l.length) (hj : j < l.length) (e : l[i] = l[j]) : i = j := by
  rcases Nat.lt_trichotomy i j with h1 | h1 | h1
  · exact absurd e (List.pairwise_iff_getElem.1 h i j hi hj h1)
  · exact h1
  · exact absurd e.symm (List.pairwise_iff_getElem.1 h j i hj hi h1)
theorem ltrs_neg {n : Nat} {l : Int} (h : l ∈ ltrs n) : -l ∈ ltrs n := by
  rw [mem_ltrs] at h ⊢; omega
theorem mv_opp {n : Nat} {gens : List (List Int)} (hg : ∀ g ∈ gens, PM.PN n g) {l : Int} (h : l ∈ ltrs gens.length) : mv gens (-l) = PM.inv (mv gens l) := by
  rcases letter_cases h with ⟨k, hk, rfl⟩ | ⟨k, hk, rfl⟩
  · rw [mv_pos rfl hk, mv_neg (k := k) rfl hk]
  · rw [mv_neg rfl hk, mv_pos (k := k) (by omega) hk, PM.inv_inv (hg _ (List.getElem_mem hk))]
/-- a letter and its inverse -/
theorem nxt_back {x : Puzzle} {k : Nat} {q : List Int} {l : Int} (hv : validPz x = true) (hq : patB x.points k q = true) (h : l ∈ ltrs x.moves.length) : nxt x (nxt x q l) (-l) = q := by
  have hg := validPz_pn hv
  have hm := mv_pn hg h
  have hf := validPz_facts hv
  have hr := (patB_iff.1 hq).2.1
  unfold nxt
  rw [mv_opp hg h]
  show (q.map (PM.at_ (mv x.moves l))).map (PM.at_ (PM.inv (mv x.moves l))) = q
  rw [List.map_map]
  refine (List.map_congr_left fun z hz => ?_).trans (List.map_id q)
  have := hr z hz
  exact PM.at_inv hm this.1 (by omega)
/-- a search under way: the entries ahead of k are done, of the k-th the letters of done -/
structure BI (x : Puzzle) (tr : List Int) (k : Nat) (done : List Int) (s : Met16) : Prop where
  nd : s.1.Nodup
  dl : s.2.length = s.1.length
  p0 : s.1.getD 0 [] = tr
  d0 : s.2.getD 0 0 = 0
  ne : 0 < s.1.length
  mono : ∀ i j, i ≤ j → j < s.1.length → s.2.getD i 0 ≤ s.2.getD j 0
  top : k < s.1.length → ∀ i, i < s.1.length → s.2.getD i 0 ≤ s.2.getD k 0 + 1
  par : ∀ i, 0 < i → i < s.1.length → ∃ j l, j < i ∧ l ∈ ltrs x.moves.length ∧ nxt x (s.1.getD j []) l = s.1.getD i [] ∧ s.2.getD i 0 = s.2.getD j 0 + 1
  clo : ∀ j l, l ∈ ltrs x.moves.length → (j < k ∨ (j = k ∧ l ∈ done)) → j < s.1.length → ∃ i, i < s.1.length ∧ s.1.getD i [] = nxt x (s.1.getD j []) l ∧ s.2.getD i 0 ≤ s.2.getD j 0 + 1
  kl : k ≤ s.1.length
  pat : ∀ q ∈ s.1, patB x.points tr.length q = true
section
variable {x : Puzzle} {tr : List Int} {k : Nat} {done : List Int} {s s' : Met16}
theorem BI.start (hp : patB x.points tr.length tr = true) : BI x tr 0 [] ([tr], [0]) := by
  refine ⟨by simp, rfl, rfl, rfl, by simp, fun i j h1 h2 => ?_, fun _ i hi => ?_, fun i h1 h2 => ?_, fun j l h1 h2 => ?_, by simp, by simpa using hp⟩
  · have : j = 0 := by simpa using h2
    subst this
    have : i = 0 := by omega
    subst this; exact Int.le_refl _
  · have : i = 0 := by simpa using hi
    subst this; simp
  · have : i = 0 := by simpa using h2
    omega
  · rcases h2 with h2 | ⟨-, h2⟩
    · omega
    · cases h2
theorem BI.next (h : BI x tr k done s) (hk : k < s.1.length) (ha : ∀ l ∈ ltrs x.moves.length, l ∈ done) : BI x tr (k + 1) [] s := by
  refine ⟨h.nd, h.dl, h.p0, h.d0, h.ne, h.mono, fun h1 i hi => ?_, h.par, fun j l h1 h2 h3 => ?_, hk, h.pat⟩
  · have h2 := h.top hk i hi
    have h3 := h.mono k (k + 1) (by omega) h1
    omega
  · rcases h2 with h2 | ⟨-, h2⟩
    · by_cases hj : j < k
      · exact h.clo j l h1 (.inl hj) h3
      · obtain rfl : j = k := by omega
        exact h.clo j l h1 (.inr ⟨rfl, ha l h1⟩) h3
    · cases h2
end
/-- a table that was built -/
structure Built (x : Puzzle) (t : Table) : Prop where
  v : validPz x = true
  tk : trackB x.points t.tracked = true
  bi : BI x t.tracked t.patterns.length [] (t.patterns, t.distances)
  ll : t.patterns.length ≤ 3000
section
variable {x : Puzzle} {t : Table}
theorem Built.dep (h : Built x t) : ∀ i : Nat, i < t.patterns.length → 0 ≤ t.distances.getD i 0 ∧ t.distances.getD i 0 ≤ i ∧ (0 < i → 0 < t.distances.getD i 0) := by
  intro i
  induction i using Nat.strongRecOn with
  | ind i ih =>
    intro hi
    by_cases h0 : i = 0
    · subst h0
      have : t.distances.getD 0 0 = 0 := h.bi.d0
      omega
    · obtain ⟨j, l, a1, a2, a3, a4⟩ := h.bi.par i (by omega) hi
      have h1 := ih j a1 (Nat.lt_trans a1 hi)
      simp only at a4
      omega
/-- the entry of a letter -/
theorem Built.step (h : Built x t) {j : Nat} (hj : j < t.patterns.length) {l : Int} (hl : l ∈ ltrs x.moves.length) :
    ∃ i : Nat, i < t.patterns.length ∧ t.patterns.getD i [] = nxt x (t.patterns.getD j []) l ∧ t.distances.getD i 0 ≤ t.distances.getD j 0 + 1 ∧ t.distances.getD j 0 ≤ t.distances.getD i 0 + 1 := by
  obtain ⟨i, b1, b2, b3⟩ := h.bi.clo j l hl (.inl hj) hj
  obtain ⟨j', c1, c2, c3⟩ := h.bi.clo i (-l) (ltrs_neg hl) (.inl b1) b1
  simp only at b1 b2 b3 c1 c2 c3
  rw [b2, nxt_back h.v (h.bi.pat _ (by rw [getD_get hj]; exact List.getElem_mem hj)) hl] at c2
  have : j' = j := by
    rw [getD_get c1, getD_get hj] at c2
    have hnd : t.patterns.Nodup := h.bi.nd
    exact nodup_at hnd c1 hj c2
  subst this
  exact ⟨i, b1, b2, b3, c3⟩
theorem Built.idx (h : Built x t) {i : Nat} (hi : i < t.patterns.length) : idxL t.patterns (t.patterns.getD i []) = i := by
  refine idxF_some (j := i) hi (fun q hq => ?_) ?_
  · rw [List.mem_take_iff_getElem] at hq
    obtain ⟨k, hk, rfl⟩ := hq
    refine decide_eq_false fun e => ?_
    rw [getD_get hi] at e
    have hnd : t.patterns.Nodup := h.bi.nd
    have := nodup_at hnd (by omega) hi e
    omega
  · exact decide_eq_true (getD_get hi).symm
end
end Go.Proofs.Ytbediokigibdlaa
