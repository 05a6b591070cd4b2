/- Cosets of a group: the least permutation of a coset, the representatives (laws 39, 48). All members of a chain are the members of the ranks (laws 32, 36, 44). Normal subgroups, the center, commutators: plain facts (law 37). Maps from int64 to int64 that a call makes. (Printed by mkmapv.py out of XMap.) The program's walk down a chain: values, take, from (laws 33, 47). The program's walk down a chain: sorted, from; its generator (laws 33, 47). The program's walk down a chain: how many values are less (laws 34, 35). The program's RandomMember (laws 35, 47). The program's walk down to the least: below at -1, finish; the reference's cosetMinimum (laws 39, 48). -/
import Derived.Test.YtbediokigibdlaaRowNormalityG11
import Derived.Test.YtbediokigibdlaaRowNormalityG10
import Derived.Test.YtbediokigibdlaaRowNormalityG9
import Derived.Maps.RangeWalk
import Derived.Test.YtbediokigibdlaaRowNormalityG3
import Derived.Test.YtbediokigibdlaaRowNormalityG7
import Derived.Test.YtbediokigibdlaaRowNormalityG8
import Derived.Deep.RegionLaw
import Derived.Test.YtbediokigibdlaaRowNormalityG6
namespace PM

/-- q lies in the coset of p -/
def Cs (n : Nat) (gens : List (List Int)) (p q : List Int) : Prop := PN n q ∧ Grp n gens (comp q (inv p))
theorem Cs.refl {n : Nat} {gens : List (List Int)} {p : List Int} (h : PN n p) : Cs n gens p p := ⟨h, by rw [comp_inv h]; exact .id⟩
theorem Cs.right {n : Nat} {gens : List (List Int)} {p q g : List Int} (h : PN n p) (hg : PN n g) (c : Cs n gens p q) : Cs n gens (comp p g) (comp q g) := by
  refine ⟨c.1.comp hg, ?_⟩
  have e : comp (comp q g) (inv (comp p g)) = comp q (inv p) := by
    rw [inv_comp_eq h hg, comp_assoc c.1 hg, ← comp_assoc hg hg.inv, comp_inv hg, id_comp h.inv]
  rw [e]
  exact c.2
section
variable {n : Nat} {gens : List (List Int)} (hp : ∀ g ∈ gens, PN n g)
include hp
theorem Cs.symm {p q : List Int} (h : PN n p) (c : Cs n gens p q) : Cs n gens q p := by
  refine ⟨h, ?_⟩
  have h1 := c.2.inv hp
  rw [inv_comp_eq c.1 h.inv, inv_inv h] at h1
  exact h1
theorem Cs.trans {p q r : List Int} (h : PN n p) (c : Cs n gens p q) (d : Cs n gens q r) : Cs n gens p r := by
  refine ⟨d.1, ?_⟩
  have h1 := Grp.comp hp d.2 c.2
  have e : comp (comp r (inv q)) (comp q (inv p)) = comp r (inv p) := by
    rw [comp_assoc d.1 c.1.inv, ← comp_assoc c.1.inv c.1, inv_comp c.1, id_comp h.inv]
  rwa [e] at h1
theorem Cs.mul {p q g : List Int} (c : Cs n gens p q) (hg : Grp n gens g) : Cs n gens p (comp g q) := by
  have hgp := hg.pn hp
  refine ⟨hgp.comp c.1, ?_⟩
  rw [comp_assoc hgp c.1]
  exact Grp.comp hp hg c.2
variable {G : Gens} {T : Rows} (h : Chain n gens G T) (hn : 0 < n)
include h hn
theorem Chain.putV_cs {p : List Int} {i : Nat} (hi : i < n) {m : List Int} (hm : Cs n gens p m) {v : Int} (hv : v ∈ cho n T i m) : Cs n gens p (PM.putV T i m v) :=
  Cs.mul hp hm (h.row_grp hn hp hi (cho_pre hm.1 hv).2.2.2.2.1)
theorem Chain.cho_cs {p : List Int} (hpp : PN n p) {i : Nat} (hi : i < n) {m q : List Int} (hm : Cs n gens p m) (hq : Cs n gens p q) (ha : Alike i q m) : at_ q (i : Int) ∈ cho n T i m := by
  have hpn := hm.1
  have hqn := hq.1
  have hg : Grp n gens (comp q (PM.inv m)) := (Cs.trans hp hpn (Cs.symm hp hpp hm) hq).2
  have hr := hqn.rng (x := (i : Int)) (by omega) (by omega)
  have hir := (hpn.inv).rng hr.1 hr.2
  refine PM.mem_cho.2 ⟨at_ (PM.inv m) (at_ q (i : Int)), ⟨hir, ?_⟩, at_inv' hpn hr.1 hr.2⟩
  refine (h.row_iff hn hp hi hir.1 hir.2).2 ⟨_, hg, fun x x0 x1 => ?_, ?_⟩
  · rw [at_comp x0 (by rw [hqn.1]; omega), ha x x0 x1, at_inv hpn x0 (by omega)]
  · rw [at_comp (by omega) (by rw [hqn.1]; omega)]
/-- the least of a coset, from a level on -/
theorem Chain.cosmin_aux {p : List Int} (hpp : PN n p) : ∀ (k i : Nat) (m : List Int), i + k = n → Cs n gens p m →
    Cs n gens p (desc T n (fun _ _ => 0) k i m) ∧ Alike i (desc T n (fun _ _ => 0) k i m) m ∧ ∀ q, Cs n gens p q → Alike i q m → q = desc T n (fun _ _ => 0) k i m ∨ Lex n (desc T n (fun _ _ => 0) k i m) q
  | 0, i, m, hi, hm => by
    refine ⟨hm, fun _ _ _ => rfl, fun q hq ha => Or.inl ?_⟩
    show q = m
    exact ext_at (by rw [hq.1.1, hm.1.1]) fun x x0 x1 => ha x x0 (by rw [hq.1.1] at x1; omega)
  | k + 1, i, m, hi, hm => by
    have hin : i < n := by omega
    have hl := cho_len (T := T) (i := i) hm.1
    have hpos : 0 < (cho n T i m).length := by rw [hl]; exact cntR_pos h.inv.wf hin
    obtain ⟨v, hv⟩ : ∃ v, v = (cho n T i m).getD 0 0 := ⟨_, rfl⟩
    have hvm : v ∈ cho n T i m := by rw [hv, List.getD_eq_getElem?_getD, List.getElem?_eq_getElem hpos]; exact List.getElem_mem hpos
    have hmin : ∀ u ∈ cho n T i m, v ≤ u := by
      intro u hu
      obtain ⟨j, hj, rfl⟩ := List.getElem_of_mem hu
      have hasc : Asc (cho n T i m) := choO_asc _ _
      have e : v = (cho n T i m)[0] := by rw [hv, List.getD_eq_getElem?_getD, List.getElem?_eq_getElem hpos]; rfl
      rw [e]
      by_cases h0 : j = 0
      · subst h0; exact Int.le_refl _
      · exact Int.le_of_lt (List.pairwise_iff_getElem.1 hasc 0 j hpos hj (by omega))
    have hd : desc T n (fun _ _ => 0) (k + 1) i m = desc T n (fun _ _ => 0) k (i + 1) (PM.putV T i m v) := by rw [hv]; rfl
    rw [hd]
    obtain ⟨-, p2, p3⟩ := putV_pn h.inv.wf hin hm.1 hvm
    obtain ⟨a, b, c⟩ := Chain.cosmin_aux hpp k (i + 1) _ (by omega) (h.putV_cs hp hn hin hm hvm)
    refine ⟨a, fun x x0 x1 => (b x x0 (by omega)).trans (p2 x x0 x1), fun q hq ha => ?_⟩
    have hqv := h.cho_cs hp hn hpp hin hm hq ha
    by_cases e : at_ q (i : Int) = v
    · refine c q hq fun x x0 x1 => ?_
      by_cases hx : x < i
      · rw [ha x x0 hx, p2 x x0 hx]
      · have : x = (i : Int) := by omega
        subst this
        rw [e, p3]
    · refine Or.inr ⟨i, hin, fun x x0 x1 => ?_, ?_⟩
      · rw [b x x0 (by omega), p2 x x0 x1, ha x x0 x1]
      · rw [b (i : Int) (by omega) (by omega), p3]
        have := hmin _ hqv
        omega
theorem Chain.cosmin {p : List Int} (hpp : PN n p) : Cs n gens p (desc T n (fun _ _ => 0) n 0 p) ∧ ∀ q, Cs n gens p q → q = desc T n (fun _ _ => 0) n 0 p ∨ Lex n (desc T n (fun _ _ => 0) n 0 p) q := by
  obtain ⟨a, b, c⟩ := h.cosmin_aux hp hn hpp n 0 p (by omega) (Cs.refl hpp)
  exact ⟨a, fun q hq => c q hq fun x x0 x1 => by omega⟩
end
theorem Lex.asymm {n : Nat} {p q : List Int} (h : Lex n p q) (k : Lex n q p) : False := by
  obtain ⟨i, hi, ha, hl⟩ := h
  obtain ⟨j, hj, hb, hm⟩ := k
  by_cases hij : i < j
  · have := hb (i : Int) (by omega) (by omega); omega
  · by_cases hji : j < i
    · have := ha (j : Int) (by omega) (by omega); omega
    · have : i = j := by omega
      subst this; omega
open Classical in
/-- the least permutation of the coset of p -/
noncomputable def cosM (n : Nat) (gens : List (List Int)) (p : List Int) : List Int := desc (chainR n gens) n (fun _ _ => 0) n 0 p
section
variable {n : Nat} {gens : List (List Int)} {G : Gens} {T : Rows} (h : Chain n gens G T) (hn : 0 < n) (hp : ∀ g ∈ gens, PN n g)
include h hn hp
theorem Chain.cosM_ok {p : List Int} (hpp : PN n p) : Cs n gens p (cosM n gens p) ∧ ∀ q, Cs n gens p q → q = cosM n gens p ∨ Lex n (cosM n gens p) q := by
  obtain ⟨G', h'⟩ := h.chainR
  exact h'.cosmin hp hn hpp
/-- one coset, one least permutation -/
theorem Chain.cosM_iff {p q : List Int} (hpp : PN n p) (hq : PN n q) : cosM n gens p = cosM n gens q ↔ Cs n gens p q := by
  obtain ⟨a, b⟩ := h.cosM_ok hn hp hpp
  obtain ⟨c, d⟩ := h.cosM_ok hn hp hq
  constructor
  · intro e
    rw [e] at a
    exact Cs.trans hp hpp a (Cs.symm hp hq c)
  · intro k
    have c' := Cs.trans hp hpp k c
    have a' := Cs.trans hp hq (Cs.symm hp hpp k) a
    rcases b _ c' with e | e
    · exact e.symm
    · rcases d _ a' with f | f
      · exact f
      · exact absurd (Lex.asymm e f) id
theorem Chain.cosM_pn {p : List Int} (hpp : PN n p) : PN n (cosM n gens p) := (h.cosM_ok hn hp hpp).1.1
theorem Chain.cosM_idem {p : List Int} (hpp : PN n p) : cosM n gens (cosM n gens p) = cosM n gens p :=
  ((h.cosM_iff hn hp hpp (h.cosM_pn hn hp hpp)).2 (h.cosM_ok hn hp hpp).1).symm
end
theorem Lex.trans {n : Nat} {p q r : List Int} (h : Lex n p q) (k : Lex n q r) : Lex n p r := by
  obtain ⟨i, hi, ha, hl⟩ := h
  obtain ⟨j, hj, hb, hm⟩ := k
  by_cases hij : i ≤ j
  · refine ⟨i, hi, fun x x0 x1 => (ha x x0 x1).trans (hb x x0 (by omega)), ?_⟩
    by_cases e : i = j
    · subst e; omega
    · rw [← hb (i : Int) (by omega) (by omega)]; exact hl
  · exact ⟨j, hj, fun x x0 x1 => (ha x x0 (by omega)).trans (hb x x0 x1), by rw [ha (j : Int) (by omega) (by omega)]; exact hm⟩
/-- the identity is the least of all -/
theorem pts_least {n : Nat} {q : List Int} (hq : PN n q) : ¬ Lex n q (pts n) := by
  rintro ⟨i, hi, ha, hl⟩
  rw [at_pts (by omega) (by omega)] at hl
  have hr := hq.rng (x := (i : Int)) (by omega) (by omega)
  have h1 := ha (at_ q (i : Int)) hr.1 hl
  rw [at_pts hr.1 hr.2] at h1
  have := hq.inj hr.1 hr.2 (by omega) (by omega) h1
  omega
/-- all that lies in the cosets of a list -/
def cosAll (n : Nat) (T : Rows) (L : List (List Int)) : List (List Int) := L.flatMap fun f => (mems T n n).map fun a => comp a f
theorem cosAll_len {n : Nat} {TA : Rows} (L : List (List Int)) : (cosAll n TA L).length = L.length * ordM TA n n := by
  have hl : (mems TA n n).length = ordM TA n n := mems_len ..
  unfold cosAll
  induction L with
  | nil => simp
  | cons x L ih => rw [List.flatMap_cons, List.length_append, List.length_map, hl, ih, List.length_cons, Nat.succ_mul]; omega
section
variable {n : Nat} {A B : List (List Int)} {GA GB : Gens} {TA TB : Rows} (hA : Chain n A GA TA) (hB : Chain n B GB TB) (hn : 0 < n) (pA : ∀ g ∈ A, PN n g) (pB : ∀ g ∈ B, PN n g) (sub : ∀ g ∈ A, Grp n B g)
include hA hn pA
theorem mem_cosAll {L : List (List Int)} (hL : ∀ x ∈ L, PN n x) {q : List Int} : q ∈ cosAll n TA L ↔ ∃ x ∈ L, Cs n A x q := by
  unfold cosAll
  rw [List.mem_flatMap]
  constructor
  · rintro ⟨x, hx, hq⟩
    obtain ⟨a, ha, rfl⟩ := List.mem_map.1 hq
    have hg := (hA.mems_iff hn pA).1 ha
    exact ⟨x, hx, Cs.mul pA (Cs.refl (hL x hx)) hg⟩
  · rintro ⟨x, hx, hc⟩
    refine ⟨x, hx, List.mem_map.2 ⟨comp q (inv x), (hA.mems_iff hn pA).2 hc.2, ?_⟩⟩
    rw [comp_assoc hc.1 (hL x hx).inv, inv_comp (hL x hx), comp_id hc.1]
theorem cosAll_nodup {L : List (List Int)} (hL : ∀ x ∈ L, PN n x) (hd : L.Pairwise fun x y => ¬ Cs n A x y) : (cosAll n TA L).Nodup := by
  unfold cosAll List.Nodup
  rw [List.pairwise_flatMap]
  refine ⟨fun x hx => ?_, ?_⟩
  · rw [List.pairwise_map]
    refine List.Pairwise.imp_of_mem (R := fun a b => a ≠ b) (fun {a b} ha hb hab e => hab ?_) (mems_nodup hA.inv.wf n (Nat.le_refl _))
    have h1 := ((hA.mems_iff hn pA).1 ha).pn pA
    have h2 := ((hA.mems_iff hn pA).1 hb).pn pA
    exact comp_right_cancel h1 h2 (hL x hx) e
  · refine List.Pairwise.imp_of_mem (fun {x y} hx hy hxy p hp q hq e => hxy ?_) hd
    subst e
    obtain ⟨a, ha, rfl⟩ := List.mem_map.1 hp
    obtain ⟨b, hb, e2⟩ := List.mem_map.1 hq
    have c1 : Cs n A x (comp a x) := Cs.mul pA (Cs.refl (hL x hx)) ((hA.mems_iff hn pA).1 ha)
    have c2 : Cs n A y (comp b y) := Cs.mul pA (Cs.refl (hL y hy)) ((hA.mems_iff hn pA).1 hb)
    rw [e2] at c2
    exact Cs.trans pA (hL x hx) c1 (Cs.symm pA (hL y hy) c2)
include hB pB
theorem cos_ge {L : List (List Int)} (hL : ∀ x ∈ L, PN n x) (hc : ∀ q, Grp n B q → ∃ x ∈ L, Cs n A x q) : ordM TB n n ≤ L.length * ordM TA n n := by
  rw [← cosAll_len (TA := TA) L]
  exact hB.order_ge hn pB fun q hq => (mem_cosAll hA hn pA hL).2 (hc q hq)
include sub
theorem cos_le {L : List (List Int)} (hL : ∀ x ∈ L, Grp n B x) (hd : L.Pairwise fun x y => ¬ Cs n A x y) : L.length * ordM TA n n ≤ ordM TB n n := by
  have hpn : ∀ x ∈ L, PN n x := fun x hx => (hL x hx).pn pB
  rw [← cosAll_len (TA := TA) L]
  refine hB.order_le hn pB (cosAll_nodup hA hn pA hpn hd) fun q hq => ?_
  obtain ⟨x, hx, hc⟩ := (mem_cosAll hA hn pA hpn).1 hq
  have h1 := Grp.comp pB (Grp.mono pB sub hc.2) (hL x hx)
  rwa [comp_assoc hc.1 (hpn x hx).inv, inv_comp (hpn x hx), comp_id hc.1] at h1
end
section
variable {n : Nat} {A : List (List Int)} {GA : Gens} {TA : Rows} (hA : Chain n A GA TA) (hn : 0 < n) (pA : ∀ g ∈ A, PN n g)
include hA hn pA
theorem cosM_id : cosM n A (pts n) = pts n := by
  obtain ⟨a, b⟩ := hA.cosM_ok hn pA (PN.id n)
  rcases b _ (Cs.refl (PN.id n)) with e | e
  · exact e.symm
  · exact absurd e (pts_least a.1)
end
/-- one representative more, where its coset is new -/
def addC (p : List Int) (L : List (List Int)) : List (List Int) := if p ∈ L then L else L ++ [p]
noncomputable def stepC (n : Nat) (A : List (List Int)) (x : List Int) (bs L : List (List Int)) : List (List Int) := bs.foldl (fun L b => addC (cosM n A (comp x b)) L) L
noncomputable def bC (n : Nat) (A B : List (List Int)) : Nat → Nat → List (List Int) → List (List Int)
  | 0, _, L => L
  | f + 1, i, L => if i < L.length then bC n A B f (i + 1) (stepC n A (L.getD i []) B L) else L
/-- what holds of the representatives found so far -/
structure InC (n : Nat) (A B L : List (List Int)) : Prop where
  nd : L.Nodup
  grp : ∀ x ∈ L, Grp n B x
  min : ∀ x ∈ L, cosM n A x = x
section
variable {n : Nat} {A B : List (List Int)} {GA GB : Gens} {TA TB : Rows} (hA : Chain n A GA TA) (hB : Chain n B GB TB) (hn : 0 < n) (pA : ∀ g ∈ A, PN n g) (pB : ∀ g ∈ B, PN n g) (sub : ∀ g ∈ A, Grp n B g)
include hA hn pA
theorem InC.start : InC n A B [pts n] := ⟨by simp, fun x hx => by rw [List.mem_singleton.1 hx]; exact .id, fun x hx => by rw [List.mem_singleton.1 hx]; exact cosM_id hA hn pA⟩
include pB
theorem InC.apart {L : List (List Int)} (h : InC n A B L) : L.Pairwise fun x y => ¬ Cs n A x y := by
  refine List.Pairwise.imp_of_mem (R := fun a b => a ≠ b) (fun {x y} hx hy hxy hc => hxy ?_) h.nd
  have h1 := (h.grp x hx).pn pB
  have h2 := (h.grp y hy).pn pB
  have := (hA.cosM_iff hn pA h1 h2).2 hc
  rwa [h.min x hx, h.min y hy] at this
include sub
theorem InC.add {L : List (List Int)} (h : InC n A B L) {p : List Int} (hp : Grp n B p) : InC n A B (addC (cosM n A p) L) := by
  unfold addC
  by_cases hm : cosM n A p ∈ L
  · rw [if_pos hm]; exact h
  · rw [if_neg hm]
    have hpp := hp.pn pB
    have hc := (hA.cosM_ok hn pA hpp).1
    refine ⟨List.nodup_append.2 ⟨h.nd, by simp, fun a ha b hb e => hm ?_⟩, fun x hx => ?_, fun x hx => ?_⟩
    · rw [← List.mem_singleton.1 hb, ← e]; exact ha
    · rcases List.mem_append.1 hx with hx | hx
      · exact h.grp x hx
      · rw [List.mem_singleton.1 hx]
        have h1 := Grp.comp pB (Grp.mono pB sub hc.2) hp
        rwa [comp_assoc hc.1 hpp.inv, inv_comp hpp, comp_id hc.1] at h1
    · rcases List.mem_append.1 hx with hx | hx
      · exact h.min x hx
      · rw [List.mem_singleton.1 hx]; exact hA.cosM_idem hn pA hpp
theorem InC.step {x : List Int} (hx : Grp n B x) : ∀ (bs : List (List Int)) (L : List (List Int)), (∀ b ∈ bs, b ∈ B) → InC n A B L → InC n A B (stepC n A x bs L)
  | [], _, _, h => h
  | b :: bs, L, hb, h => by
    show InC n A B (stepC n A x bs (addC (cosM n A (comp x b)) L))
    exact InC.step hx bs _ (fun c hc => hb c (List.mem_cons_of_mem _ hc)) (h.add hA hn pA pB sub (Grp.comp pB hx (.gen pB (hb b (by simp)))))
include hB
theorem InC.len {L : List (List Int)} (h : InC n A B L) : L.length * ordM TA n n ≤ ordM TB n n := cos_le hA hB hn pA pB sub h.grp (h.apart hA hn pA pB)
end
theorem addC_pre (p : List Int) (L : List (List Int)) : ∃ l, addC p L = L ++ l := by
  unfold addC
  by_cases h : p ∈ L
  · exact ⟨[], by rw [if_pos h]; simp⟩
  · exact ⟨[p], by rw [if_neg h]⟩
theorem stepC_pre (n : Nat) (A : List (List Int)) (x : List Int) : ∀ (bs L : List (List Int)), ∃ l, stepC n A x bs L = L ++ l
  | [], L => ⟨[], by simp [stepC]⟩
  | b :: bs, L => by
    obtain ⟨l1, h1⟩ := addC_pre (cosM n A (comp x b)) L
    obtain ⟨l2, h2⟩ := stepC_pre n A x bs (addC (cosM n A (comp x b)) L)
    refine ⟨l1 ++ l2, ?_⟩
    show stepC n A x bs (addC (cosM n A (comp x b)) L) = _
    rw [h2, h1, List.append_assoc]
theorem stepC_mem (n : Nat) (A : List (List Int)) (x : List Int) : ∀ (bs L : List (List Int)), ∀ b ∈ bs, cosM n A (comp x b) ∈ stepC n A x bs L
  | b :: bs, L, c, hc => by
    show _ ∈ stepC n A x bs (addC (cosM n A (comp x b)) L)
    rcases List.mem_cons.1 hc with rfl | hc
    · obtain ⟨l, h⟩ := stepC_pre n A x bs (addC (cosM n A (comp x c)) L)
      rw [h]
      refine List.mem_append_left _ ?_
      unfold addC
      by_cases hm : cosM n A (comp x c) ∈ L
      · rw [if_pos hm]; exact hm
      · rw [if_neg hm]; simp
    · exact stepC_mem n A x bs _ c hc
section
variable {n : Nat} {A B : List (List Int)} {GA GB : Gens} {TA TB : Rows} (hA : Chain n A GA TA) (hB : Chain n B GB TB) (hn : 0 < n) (pA : ∀ g ∈ A, PN n g) (pB : ∀ g ∈ B, PN n g) (sub : ∀ g ∈ A, Grp n B g)
include hA hB hn pA pB sub
theorem InC.le {L : List (List Int)} (h : InC n A B L) : L.length ≤ ordM TB n n := by
  have h1 := h.len hA hB hn pA pB sub
  have h2 := (ordM_rng hA.inv.wf n (Nat.le_refl _)).1
  exact Nat.le_trans (Nat.le_mul_of_pos_right _ h2) h1
theorem bC_ok : ∀ (f i : Nat) (L : List (List Int)), f + i = ordM TB n n + 1 → InC n A B L → (∀ x ∈ L.take i, ∀ b ∈ B, cosM n A (comp x b) ∈ L) →
    InC n A B (bC n A B f i L) ∧ (∃ l, bC n A B f i L = L ++ l) ∧ ∀ x ∈ bC n A B f i L, ∀ b ∈ B, cosM n A (comp x b) ∈ bC n A B f i L
  | 0, i, L, hi, h, hc => by
    have hl := h.le hA hB hn pA pB sub
    rw [List.take_of_length_le (by omega)] at hc
    exact ⟨h, ⟨[], by simp [bC]⟩, hc⟩
  | f + 1, i, L, hi, h, hc => by
    by_cases hlt : i < L.length
    · have hd : bC n A B (f + 1) i L = bC n A B f (i + 1) (stepC n A (L.getD i []) B L) := by
        show (if i < L.length then _ else L) = _
        rw [if_pos hlt]
      have hg : L.getD i [] = L[i] := by rw [List.getD_eq_getElem?_getD, List.getElem?_eq_getElem hlt]; rfl
      rw [hg] at hd
      have hs := h.step hA hn pA pB sub (h.grp L[i] (List.getElem_mem hlt)) B L (fun b hb => hb)
      obtain ⟨l, hl⟩ := stepC_pre n A L[i] B L
      obtain ⟨a, ⟨l2, b⟩, c⟩ := bC_ok f (i + 1) (stepC n A L[i] B L) (by omega) hs (by
        intro x hx b hb
        have ht : (stepC n A L[i] B L).take (i + 1) = L.take (i + 1) := by rw [hl, List.take_append_of_le_length (by omega)]
        rw [ht, List.take_succ_eq_append_getElem hlt] at hx
        rcases List.mem_append.1 hx with hx | hx
        · rw [hl]; exact List.mem_append_left _ (hc x hx b hb)
        · rw [List.mem_singleton.1 hx]
          exact stepC_mem n A L[i] B L b hb)
      rw [hd]
      exact ⟨a, ⟨l ++ l2, by rw [b, hl, List.append_assoc]⟩, c⟩
    · have hd : bC n A B (f + 1) i L = L := by
        show (if i < L.length then _ else L) = _
        rw [if_neg hlt]
      rw [hd]
      rw [List.take_of_length_le (by omega)] at hc
      exact ⟨h, ⟨[], by simp⟩, hc⟩
/-- the representatives -/
theorem bC_reps : InC n A B (bC n A B (ordM TB n n + 1) 0 [pts n]) ∧ (bC n A B (ordM TB n n + 1) 0 [pts n]).length * ordM TA n n = ordM TB n n := by
  obtain ⟨a, ⟨l, b⟩, c⟩ := bC_ok hA hB hn pA pB sub (ordM TB n n + 1) 0 [pts n] (by omega) (InC.start hA hn pA) (by simp)
  obtain ⟨R, hR⟩ : ∃ R, R = bC n A B (ordM TB n n + 1) 0 [pts n] := ⟨_, rfl⟩
  rw [← hR] at a b c ⊢
  refine ⟨a, Nat.le_antisymm (a.len hA hB hn pA pB sub) (cos_ge hA hB hn pA pB (fun x hx => (a.grp x hx).pn pB) fun q hq => ?_)⟩
  have key : ∀ q, Grp n B q → PN n q ∧ cosM n A q ∈ R := by
    intro q hq
    have hmul : ∀ g ∈ B, ∀ p, (PN n p ∧ cosM n A p ∈ R) → (PN n (comp p g) ∧ cosM n A (comp p g) ∈ R) := by
      rintro g hg p ⟨hp, hm⟩
      have hgp := pB g hg
      refine ⟨hp.comp hgp, ?_⟩
      have hx := c _ hm g hg
      have hxp := hA.cosM_pn hn pA hp
      have e : cosM n A (comp (cosM n A p) g) = cosM n A (comp p g) := (hA.cosM_iff hn pA (hxp.comp hgp) (hp.comp hgp)).2 (Cs.right hxp hgp (Cs.symm pA hp (hA.cosM_ok hn pA hp).1))
      rwa [e] at hx
    induction hq with
    | id => exact ⟨PN.id n, by rw [cosM_id hA hn pA, b]; simp⟩
    | mul _ hg ih => exact hmul _ hg _ ih
    | div _ hg ih => exact closed_div (S := fun p => PN n p ∧ cosM n A p ∈ R) (fun _ h => h.1) (pB _ hg) (hmul _ hg) _ ih
  obtain ⟨k1, k2⟩ := key q hq
  exact ⟨_, k2, Cs.symm pA k1 (hA.cosM_ok hn pA k1).1⟩
end
end PM

namespace Go.Proofs.Ytbediokigibdlaa
open Go.RowKit
set_option maxRecDepth 10000

theorem msel_T {n : Nat} {gens : List (List Int)} {G : PM.Gens} {T : PM.Rows} (h : PM.Chain n gens G T) (hn : 0 < n) (hp : ∀ g ∈ gens, PM.PN n g) (k : Nat) : msel n gens k = PM.mselT T n k := by
  funext i l
  unfold msel PM.mselT
  rw [ordC_eq h hn hp (by omega), ordC_eq h hn hp (by omega)]
/-- all members, in the order of their ranks -/
noncomputable def allMem (n : Nat) (gens : List (List Int)) : List (List Int) := (List.range (ordC n gens n)).map (memAt n gens)
theorem allMem_len (n : Nat) (gens : List (List Int)) : (allMem n gens).length = ordC n gens n := by unfold allMem; simp
theorem lv_allMem {n : Nat} {gens : List (List Int)} {G : PM.Gens} {T : PM.Rows} (h : PM.Chain n gens G T) (hn : 0 < n) (hp : ∀ g ∈ gens, PM.PN n g) : PM.lvA T n n = allMem n gens := by
  rw [PM.lvA_all h.inv.wf, ordC_eq h hn hp (Nat.le_refl _)]
  unfold allMem
  refine List.map_congr_left fun r _ => ?_
  rw [← msel_T h hn hp r]
  exact h.descG hn hp (msel n gens r) (msel_good h hn hp r)
theorem allMem_grp {n : Nat} {gens : List (List Int)} {G : PM.Gens} {T : PM.Rows} (h : PM.Chain n gens G T) (hn : 0 < n) (hp : ∀ g ∈ gens, PM.PN n g) : ∀ m ∈ allMem n gens, PM.Grp n gens m := by
  intro m hm
  unfold allMem at hm
  obtain ⟨r, -, rfl⟩ := List.mem_map.1 hm
  exact h.descG_grp hn hp (msel n gens r) (msel_good h hn hp r)
end Go.Proofs.Ytbediokigibdlaa

namespace PM

/-- p seen from q -/
def conj (p q : List Int) : List Int := comp (comp (inv q) p) q
def cmt (p q : List Int) : List Int := comp (comp (inv p) (inv q)) (comp p q)
theorem PN.conj {n : Nat} {p q : List Int} (hp : PN n p) (hq : PN n q) : PN n (conj p q) := (hq.inv.comp hp).comp hq
theorem PN.cmt {n : Nat} {p q : List Int} (hp : PN n p) (hq : PN n q) : PN n (cmt p q) := (hp.inv.comp hq.inv).comp (hp.comp hq)
theorem filter_parts {α : Type} (f : α → Bool) : ∀ l : List α, l.length = (l.filter f).length + (l.filter fun y => !f y).length
  | [] => rfl
  | x :: l => by
    have ih := filter_parts f l
    by_cases h : f x = true
    · simp [h]; omega
    · simp [h]; omega
/-- a list that is a group of permutations divides what it moves freely -/
theorem orb_dvd {n : Nat} {Z : List (List Int)} (hz : Z.Nodup) (hZ : ∀ a ∈ Z, PN n a) (hid : pts n ∈ Z) (hc : ∀ a b, a ∈ Z → b ∈ Z → comp a b ∈ Z) (hi : ∀ a, a ∈ Z → inv a ∈ Z) :
    ∀ (k : Nat) (M : List (List Int)), M.length ≤ k → M.Nodup → (∀ x ∈ M, PN n x) → (∀ a x, a ∈ Z → x ∈ M → comp a x ∈ M) → Z.length ∣ M.length
  | 0, M, hk, _, _, _ => by
    have : M = [] := List.eq_nil_of_length_eq_zero (by omega)
    rw [this]; exact Nat.dvd_zero _
  | k + 1, M, hk, hd, hp, hm => by
    cases hM : M with
    | nil => exact Nat.dvd_zero _
    | cons x M' =>
      have hx : x ∈ M := by rw [hM]; simp
      have hxp := hp x hx
      have hO : (Z.map fun a => comp a x).Nodup := by
        unfold List.Nodup
        rw [List.pairwise_map]
        exact List.Pairwise.imp_of_mem (R := fun a b => a ≠ b) (fun {a b} ha hb hab e => hab (comp_right_cancel (hZ a ha) (hZ b hb) hxp e)) hz
      have hxO : x ∈ Z.map fun a => comp a x := List.mem_map.2 ⟨pts n, hid, id_comp hxp⟩
      have hOM : ∀ y ∈ Z.map (fun a => comp a x), y ∈ M := fun y hy => by
        obtain ⟨a, ha, rfl⟩ := List.mem_map.1 hy
        exact hm a x ha hx
      have hs := filter_parts (fun y => decide (y ∈ Z.map fun a => comp a x)) M
      have h1 : (M.filter fun y => decide (y ∈ Z.map fun a => comp a x)).length = Z.length := by
        have e1 := nodup_sub_len hO (l2 := M.filter fun y => decide (y ∈ Z.map fun a => comp a x)) (fun y hy => List.mem_filter.2 ⟨hOM y hy, by simpa using hy⟩)
        have e2 := nodup_sub_len (hd.filter fun y => decide (y ∈ Z.map fun a => comp a x)) (l2 := Z.map fun a => comp a x) (fun y hy => by simpa using (List.mem_filter.1 hy).2)
        rw [List.length_map] at e1 e2
        omega
      have hz0 : 0 < Z.length := List.length_pos_of_mem hid
      have h2 : Z.length ∣ (M.filter fun y => !decide (y ∈ Z.map fun a => comp a x)).length := by
        refine orb_dvd hz hZ hid hc hi k _ (by omega) (hd.filter _) (fun y hy => hp y (List.mem_filter.1 hy).1) fun a y ha hy => ?_
        obtain ⟨hy1, hy2⟩ := List.mem_filter.1 hy
        refine List.mem_filter.2 ⟨hm a y ha hy1, ?_⟩
        rw [Bool.not_eq_true', decide_eq_false_iff_not] at hy2 ⊢
        intro hmem
        obtain ⟨b, hb, e⟩ := List.mem_map.1 hmem
        refine hy2 (List.mem_map.2 ⟨comp (inv a) b, hc _ _ (hi a ha) hb, ?_⟩)
        have hyp := hp y hy1
        have hap := hZ a ha
        have hbp := hZ b hb
        show comp (comp (inv a) b) x = y
        have e' : comp b x = comp a y := e
        rw [comp_assoc hap.inv hbp, e', ← comp_assoc hap.inv hap, inv_comp hap, id_comp hyp]
      rw [← hM, hs, h1]
      exact Nat.dvd_add (Nat.dvd_refl _) h2
section
variable {n : Nat} {A B : List (List Int)} {GA GB : Gens} {TA TB : Rows} (hA : Chain n A GA TA) (hB : Chain n B GB TB) (hn : 0 < n) (pA : ∀ g ∈ A, PN n g) (pB : ∀ g ∈ B, PN n g) (sub : ∀ g ∈ A, Grp n B g)
include hA hB hn pA pB sub
/-- Lagrange -/
theorem ord_dvd : ordM TA n n ∣ ordM TB n n := by
  have h := orb_dvd (n := n) (Z := mems TA n n) (mems_nodup hA.inv.wf n (Nat.le_refl _)) (fun a ha => ((hA.mems_iff hn pA).1 ha).pn pA) ((hA.mems_iff hn pA).2 .id)
    (fun a b ha hb => (hA.mems_iff hn pA).2 (Grp.comp pA ((hA.mems_iff hn pA).1 ha) ((hA.mems_iff hn pA).1 hb))) (fun a ha => (hA.mems_iff hn pA).2 (Grp.inv pA ((hA.mems_iff hn pA).1 ha)))
    _ (mems TB n n) (Nat.le_refl _) (mems_nodup hB.inv.wf n (Nat.le_refl _)) (fun a ha => ((hB.mems_iff hn pB).1 ha).pn pB)
    (fun a x ha hx => (hB.mems_iff hn pB).2 (Grp.comp pB (Grp.mono pB sub ((hA.mems_iff hn pA).1 ha)) ((hB.mems_iff hn pB).1 hx)))
  rwa [mems_len, mems_len] at h
/-- a proper subgroup has at most half the members -/
theorem ord_half {x : List Int} (hx : Grp n B x) (hxA : ¬ Grp n A x) : 2 * ordM TA n n ≤ ordM TB n n := by
  have hxp := hx.pn pB
  refine cos_le hA hB hn pA pB sub (L := [pts n, x]) (fun y hy => ?_) ?_
  · rcases List.mem_cons.1 hy with rfl | hy
    · exact .id
    · rw [List.mem_singleton.1 hy]; exact hx
  · refine List.pairwise_cons.2 ⟨fun y hy hc => hxA ?_, List.pairwise_singleton _ _⟩
    rw [List.mem_singleton.1 hy] at hc
    have := hc.2
    rwa [inv_id, comp_id hxp] at this
/-- a subgroup of index two is normal -/
theorem idx2_nrm (h2 : ordM TB n n = 2 * ordM TA n n) {p q : List Int} (hp : Grp n A p) (hq : Grp n B q) : Grp n A (conj p q) := by
  have pp := hp.pn pA
  have pq := hq.pn pB
  have po := (ordM_rng hA.inv.wf n (Nat.le_refl _)).1
  by_cases hqA : Grp n A q
  · exact Grp.comp pA (Grp.comp pA (Grp.inv pA hqA) hp) hqA
  · refine Classical.byContradiction fun hx => ?_
    have hxB : Grp n B (conj p q) := Grp.comp pB (Grp.comp pB (Grp.inv pB hq) (Grp.mono pB sub hp)) hq
    have px := hxB.pn pB
    have h3 := cos_le hA hB hn pA pB sub (L := [pts n, q, conj p q]) (fun y hy => by
      simp only [List.mem_cons, List.not_mem_nil, or_false] at hy
      rcases hy with rfl | rfl | rfl
      · exact .id
      · exact hq
      · exact hxB) (by
      refine List.pairwise_cons.2 ⟨fun y hy hc => ?_, List.pairwise_cons.2 ⟨fun y hy hc => ?_, List.pairwise_singleton _ _⟩⟩
      · have hc2 := hc.2
        rw [inv_id, comp_id hc.1] at hc2
        simp only [List.mem_cons, List.not_mem_nil, or_false] at hy
        rcases hy with rfl | rfl
        · exact hqA hc2
        · exact hx hc2
      · rw [List.mem_singleton.1 hy] at hc
        have hc2 := hc.2
        have e : comp (conj p q) (inv q) = comp (inv q) p := by
          unfold conj
          rw [comp_assoc (pq.inv.comp pp) pq, comp_inv pq, comp_id (pq.inv.comp pp)]
        rw [e] at hc2
        have h4 := Grp.comp pA hc2 (Grp.inv pA hp)
        rw [comp_assoc pq.inv pp, comp_inv pp, comp_id pq.inv] at h4
        have h5 := Grp.inv pA h4
        rw [inv_inv pq] at h5
        exact hqA h5)
    simp only [List.length_cons, List.length_nil] at h3
    omega
end
/-- who commutes with the generators commutes with all -/
theorem com_all {n : Nat} {G : List (List Int)} (hG : ∀ g ∈ G, PN n g) {p : List Int} (hp : PN n p) (h : ∀ g ∈ G, comp p g = comp g p) {x : List Int} (hx : Grp n G x) : comp p x = comp x p := by
  induction hx with
  | id => rw [comp_id hp, id_comp hp]
  | @mul y g hy hg ih =>
    have py := hy.pn hG
    have pg := hG g hg
    rw [← comp_assoc hp py, ih, comp_assoc py hp, h g hg, ← comp_assoc py pg]
  | @div y g hy hg ih =>
    have py := hy.pn hG
    have pg := hG g hg
    have e : comp p (inv g) = comp (inv g) p := by
      have h1 : comp (comp (inv g) (comp p g)) (inv g) = comp (comp (inv g) (comp g p)) (inv g) := by rw [h g hg]
      rw [comp_assoc pg.inv (hp.comp pg), comp_assoc hp pg, comp_inv pg, comp_id hp, ← comp_assoc pg.inv pg, inv_comp pg, id_comp hp] at h1
      exact h1.symm
    rw [← comp_assoc hp py, ih, comp_assoc py hp, e, ← comp_assoc py pg.inv]
theorem cmt_one {n : Nat} {p q : List Int} (hp : PN n p) (hq : PN n q) : cmt p q = pts n ↔ comp p q = comp q p := by
  unfold cmt
  constructor
  · intro h
    have h1 := inv_of (hp.inv.comp hq.inv) (hp.comp hq) h
    rw [h1, inv_comp_eq hp.inv hq.inv, inv_inv hp, inv_inv hq]
  · intro h
    rw [h, comp_assoc hp.inv hq.inv, ← comp_assoc hq.inv hq, inv_comp hq, id_comp hp, inv_comp hp]
theorem Grp.none {n : Nat} {x : List Int} (h : Grp n [] x) : x = pts n := by
  induction h with
  | id => rfl
  | mul _ hg => cases hg
  | div _ hg => cases hg
theorem grp_none {n : Nat} {G : List (List Int)} (hG : ∀ g ∈ G, g = pts n) {x : List Int} (h : Grp n G x) : x = pts n := by
  induction h with
  | id => rfl
  | mul _ hg ih => rw [ih, hG _ hg, comp_id (PN.id n)]
  | div _ hg ih => rw [ih, hG _ hg, inv_id, comp_id (PN.id n)]
end PM
namespace Go.Proofs.Ytbediokigibdlaa
open Go.RowKit
set_option maxRecDepth 10000
/-- p commutes with each of a list -/
def comA (a : List (List Int)) (p : List Int) : Bool := a.all fun q => decide (PM.comp p q = PM.comp q p)
def ablB (a : List (List Int)) : Bool := a.all (comA a)
theorem comA_iff {a : List (List Int)} {p : List Int} : comA a p = true ↔ ∀ q ∈ a, PM.comp p q = PM.comp q p := by unfold comA; simp
theorem ablB_iff {a : List (List Int)} : ablB a = true ↔ ∀ p ∈ a, ∀ q ∈ a, PM.comp p q = PM.comp q p := by
  unfold ablB
  rw [List.all_eq_true]
  exact ⟨fun h p hp => comA_iff.1 (h p hp), fun h p hp => comA_iff.2 (h p hp)⟩
section
variable {n : Nat} {a : List (List Int)} {G : PM.Gens} {T : PM.Rows} (h : PM.Chain n a G T) (hn : 0 < n) (hp : ∀ g ∈ a, PM.PN n g)
include h hn hp
theorem allMem_nd : (allMem n a).Nodup := by
  rw [← lv_allMem h hn hp]
  exact (PM.lvA_lex h.inv.wf).imp fun {x y} hl e => by subst e; exact PM.Lex.asymm hl hl
theorem mem_allMem {x : List Int} : x ∈ allMem n a ↔ PM.Grp n a x := by
  refine ⟨allMem_grp h hn hp x, fun hx => ?_⟩
  have hl : (PM.mems T n n).length ≤ (allMem n a).length := by rw [PM.mems_len, allMem_len, ordC_eq h hn hp (Nat.le_refl _)]; exact Nat.le_refl _
  exact PM.nodup_sub_all (allMem_nd h hn hp) (fun y hy => (h.mems_iff hn hp).2 (allMem_grp h hn hp y hy)) hl ((h.mems_iff hn hp).2 hx)
/-- the center divides the order -/
theorem cen_facts : ((allMem n a).filter (comA a)).length ∣ ordC n a n ∧ 1 ≤ ((allMem n a).filter (comA a)).length ∧ (((allMem n a).filter (comA a)).length = ordC n a n ↔ ablB a = true) := by
  have hM := @mem_allMem n a G T h hn hp
  have hmem : ∀ {x}, x ∈ (allMem n a).filter (comA a) ↔ PM.Grp n a x ∧ ∀ q ∈ a, PM.comp x q = PM.comp q x := fun {x} => by
    rw [List.mem_filter, comA_iff, hM]
  have hid : PM.pts n ∈ (allMem n a).filter (comA a) := hmem.2 ⟨.id, fun q hq => by rw [PM.id_comp (hp q hq), PM.comp_id (hp q hq)]⟩
  refine ⟨?_, List.length_pos_of_mem hid, ?_⟩
  · rw [← allMem_len]
    refine PM.orb_dvd (n := n) ((allMem_nd h hn hp).filter _) (fun x hx => (hmem.1 hx).1.pn hp) hid (fun x y hx hy => ?_) (fun x hx => ?_) _ _ (Nat.le_refl _) (allMem_nd h hn hp) (fun x hx => (hM.1 hx).pn hp) (fun x y hx hy => ?_)
    · obtain ⟨x1, x2⟩ := hmem.1 hx
      obtain ⟨y1, y2⟩ := hmem.1 hy
      have px := x1.pn hp
      have py := y1.pn hp
      refine hmem.2 ⟨PM.Grp.comp hp x1 y1, fun q hq => ?_⟩
      rw [PM.comp_assoc px py, y2 q hq, ← PM.comp_assoc px (hp q hq), x2 q hq, PM.comp_assoc (hp q hq) px]
    · obtain ⟨x1, x2⟩ := hmem.1 hx
      have px := x1.pn hp
      refine hmem.2 ⟨PM.Grp.inv hp x1, fun q hq => ?_⟩
      have pq := hp q hq
      have h1 : PM.comp (PM.comp (PM.inv x) (PM.comp x q)) (PM.inv x) = PM.comp (PM.comp (PM.inv x) (PM.comp q x)) (PM.inv x) := by rw [x2 q hq]
      rw [← PM.comp_assoc px.inv px, PM.inv_comp px, PM.id_comp pq, PM.comp_assoc px.inv (pq.comp px), PM.comp_assoc pq px, PM.comp_inv px, PM.comp_id pq] at h1
      exact h1.symm
    · exact hM.2 (PM.Grp.comp hp (hmem.1 hx).1 (hM.1 hy))
  · rw [← allMem_len, List.length_filter_eq_length_iff, ablB_iff]
    constructor
    · intro hall p hpa
      exact comA_iff.1 (hall p (hM.2 (.gen hp hpa)))
    · intro hab x hx
      refine comA_iff.2 fun q hq => ?_
      exact (PM.com_all hp (hp q hq) (fun g hg => hab q hq g hg) (hM.1 hx)).symm
/-- what the order of the derived group is like -/
theorem drv_facts {D : List (List Int)} {GD : PM.Gens} {TD : PM.Rows} (hD : PM.Chain n D GD TD) (sub : ∀ g ∈ D, PM.Grp n a g) (hc : ∀ p ∈ a, ∀ q ∈ a, PM.Grp n D (PM.cmt p q)) (h0 : ablB a = true → ∀ g ∈ D, g = PM.pts n) :
    ordC n D n ∣ ordC n a n ∧ 1 ≤ ordC n D n ∧ (ordC n D n = 1 ↔ ablB a = true) := by
  have pD : ∀ g ∈ D, PM.PN n g := fun g hg => (sub g hg).pn hp
  rw [← ordC_eq hD hn pD (Nat.le_refl _), ← ordC_eq h hn hp (Nat.le_refl _)]
  have hpo := (PM.ordM_rng hD.inv.wf n (Nat.le_refl _)).1
  refine ⟨PM.ord_dvd hD h hn pD hp sub, hpo, fun e => ?_, fun e => ?_⟩
  · refine ablB_iff.2 fun p hpa q hqa => ?_
    have h1 := (hD.mems_iff hn pD).2 (hc p hpa q hqa)
    have h2 := (hD.mems_iff hn pD).2 (PM.Grp.id (n := n) (G := D))
    have hl : (PM.mems TD n n).length = 1 := by rw [PM.mems_len]; exact e
    obtain ⟨z, hz⟩ := List.length_eq_one_iff.1 hl
    rw [hz] at h1 h2
    exact (PM.cmt_one (hp p hpa) (hp q hqa)).1 ((List.mem_singleton.1 h1).trans (List.mem_singleton.1 h2).symm)
  · have h1 := hD.order_ge hn pD (L := [PM.pts n]) fun x hx => List.mem_singleton.2 (PM.grp_none (h0 e) hx)
    simp only [List.length_cons, List.length_nil] at h1
    omega
end
end Go.Proofs.Ytbediokigibdlaa

namespace Go.Proofs.Ytbediokigibdlaa
open Go.RowKit
set_option maxRecDepth 10000
open Go.Maps (Keyed)

theorem Try.lawI64 : Keyed Try.prog 2 := Go.Maps.int_keyed Try.underlying2
theorem Try.zeroV64 (w : World) : (zeroValue 2).run Try.prog w = .ok (.int .i64 0) w := by kernel_rfl
/-- block M is a map of at most k entries; g: what lies at a key -/
def Mpv (w : World) (M k : Nat) (g : Int → Option Int) : Prop :=
  ∃ D : DataW Unit, w.ownsMap Try.prog 2 (plainElem Try.prog 2) M k D ∧ ∀ s : Int, I64 s →
    Go.Maps.has D (.int .i64 s) = (g s).isSome ∧ ∀ n, g s = some n → D.atKey (.int .i64 s) (.lit (.int .i64 0)) = .lit (.int .i64 n)
theorem Mpv.lt {w : World} {M k : Nat} {g : Int → Option Int} (h : Mpv w M k g) : M < w.heap.size := by
  obtain ⟨D, h1, -⟩ := h; exact h1.lt
theorem Mpv.frame {w w' : World} {M k : Nat} {g : Int → Option Int} (h : Mpv w M k g) (hf : w'.heap[M]? = w.heap[M]?) : Mpv w' M k g := by
  obtain ⟨D, ⟨es, c, h1, h2⟩, h3⟩ := h
  exact ⟨D, ⟨es, c, by rw [hf]; exact h1, h2⟩, h3⟩
theorem Mpv.only {w w' : World} {fp : List Nat} {M k : Nat} {g : Int → Option Int} (h : Mpv w M k g) (ho : Only fp w w') (hn : M ∉ fp) : Mpv w' M k g := h.frame (ho.block M h.lt hn)
theorem Mpv.keep {w w' : World} {M k : Nat} {g : Int → Option Int} (h : Mpv w M k g) (ho : Only [] w w') : Mpv w' M k g := h.only ho (by simp)
theorem Mpv.made (w : World) {M : Nat} (hM : M = w.heap.size) : Mpv (w.alloc (.map #[] 0)) M 0 (fun _ => none) := by
  subst hM
  exact ⟨.map [], World.ownsMap_made _ _ _ _, fun s _ => ⟨rfl, by simp⟩⟩
theorem Mpv.congr {w : World} {M k : Nat} {g g' : Int → Option Int} (h : Mpv w M k g) (hg : ∀ s, g s = g' s) : Mpv w M k g' := by
  have : g = g' := funext hg
  rw [← this]; exact h
section
variable {w : World} {M k : Nat} {g : Int → Option Int}
/-- v, ok := m[k], as an equation -/
theorem Mpv.run_ok (h : Mpv w M k g) {s : Int} (hs : I64 s) : (Instr.lookup 110 (.map (some M)) (.int .i64 s) true).run Try.prog w = .ok (.tuple #[.int .i64 ((g s).getD 0), .bool (g s).isSome]) w := by
  obtain ⟨D, hown, hg⟩ := h
  obtain ⟨h1, h2⟩ := hg s hs
  obtain ⟨v, ps, hrun, hv⟩ := hown.look_ok Try.lawI64 Try.underlying110 (Try.zeroV64 w) (plainElem_int Try.underlying2 (by decide)) (Go.Maps.keyOf_int_mk Try.underlying2 (WalkArith.wf_i64 hs))
  obtain ⟨c, rfl, hc, -⟩ := plainElem_int_inv Try.underlying2 hv
  have hc1 : D.atKey (.int .i64 s) (.lit (.int .i64 0)) = .lit (.int .i64 c) := congrArg Prod.fst hc
  have hcv : c = (g s).getD 0 := by
    cases hgs : g s with
    | none =>
      rw [hgs] at h1
      rw [Go.Maps.atKey_of_not_has h1] at hc1
      injection hc1 with hc1; injection hc1 with _ hc1; simp [hc1]
    | some n =>
      rw [h2 n hgs] at hc1
      injection hc1 with hc1; injection hc1 with _ hc1; simp [hc1]
  rw [hrun, hcv, h1]
theorem Mpv.run_yes (h : Mpv w M k g) {s : Int} (hs : I64 s) {n : Int} (hg : g s = some n) : (Instr.lookup 110 (.map (some M)) (.int .i64 s) true).run Try.prog w = .ok (.tuple #[.int .i64 n, .bool true]) w := by
  rw [h.run_ok hs, hg]; rfl
/-- m[k] = v -/
theorem Mpv.run_put (h : Mpv w M k g) {s : Int} (hs : I64 s) {n : Int} (hn : I64 n) (hk : k < maxLen) :
    ∃ w', (Instr.mapUpdate 110 (.map (some M)) (.int .i64 s) (.int .i64 n)).run Try.prog w = .ok () w' ∧ Mpv w' M (k + 1) (fun s' => if s' = s then some n else g s') ∧ Only [M] w w' := by
  obtain ⟨D, hown, hg⟩ := h
  have hwf : (Lit.int .i64 n).wf = true := WalkArith.wf_i64 hn
  obtain ⟨w', hrun, r1, r2⟩ := hown.store Try.lawI64 Try.underlying110 hk (Go.Maps.keyOf_int_mk Try.underlying2 (WalkArith.wf_i64 hs)) (plainElem_int Try.underlying2 hwf)
  have hmap := hown.isMap
  refine ⟨w', hrun, ⟨_, r1, fun s' hs' => ?_⟩, ?_⟩
  · by_cases he : s' = s
    · subst he
      have hkl : WideAt.IsKeyLit (Lit.int .i64 s') := trivial
      exact ⟨by rw [Go.Maps.has_put_same hmap hkl]; simp, fun m' hm' => by
        rw [Go.Maps.atKey_put_same hmap hkl]; simp at hm'; rw [hm']⟩
    · have hne : (Lit.int .i64 s') ≠ .int .i64 s := by
        intro e; injection e with _ e; exact he e
      obtain ⟨h1, h2⟩ := hg s' hs'
      exact ⟨by rw [Go.Maps.has_put_other hne, h1]; simp [he], fun m' hm' => by
        rw [Go.Maps.atKey_put_other hne]; simp [he] at hm'; exact h2 m' hm'⟩
  · exact (Only.refl _ _).grown r2.grown (by intro j hj _; injection hj with hj; subst hj; simp)
end
end Go.Proofs.Ytbediokigibdlaa

namespace Go.Proofs.Ytbediokigibdlaa
open Go.RowKit
set_option maxRecDepth 10000

/-- a value's point -/
def gV (m ys : List Int) (x : Int) : Option Int := if x ∈ PM.choO m ys then some (PM.at_ (PM.inv m) x) else none
theorem gV_nil (m : List Int) (x : Int) : gV m [] x = none := rfl
theorem gV_snoc {n : Nat} {m : List Int} (hm : PM.PN n m) {ys : List Int} {y : Int} (h0 : 0 ≤ y) (h1 : y < n) (x : Int) : (if x = PM.at_ m y then some y else gV m ys x) = gV m (ys ++ [y]) x := by
  unfold gV
  rw [PM.choO_snoc]
  by_cases hx : x = PM.at_ m y
  · rw [if_pos hx, if_pos (PM.mem_insU.2 (Or.inl hx)), hx, PM.at_inv hm h0 h1]
  · rw [if_neg hx]
    by_cases hm2 : x ∈ PM.choO m ys
    · rw [if_pos hm2, if_pos (PM.mem_insU.2 (Or.inr hm2))]
    · rw [if_neg hm2, if_neg (fun h => (PM.mem_insU.1 h).elim hx hm2)]
theorem Mpv.mono {w : World} {M k k' : Nat} {g : Int → Option Int} (h : Mpv w M k g) (hk : k ≤ k') : Mpv w M k' g := by
  obtain ⟨D, h1, h2⟩ := h
  exact ⟨D, h1.mono hk, h2⟩
set_option maxHeartbeats 2000000 in
theorem values_any {e : TypeId} {B : Nat} {L : Lay} {gv : Nat → Value} {n : Nat} {G : PM.Gens} {T : PM.Rows} {M F : List Nat} (w : World) (hC : Ch e B w L gv n G T M F) (hT : L.oT = 2) (b i : Nat) (hi : i < n) (v : Value) (m : List Int) (fm : List Nat)
    (hb : Blk w b [.pointer (some ⟨L.g, 0, none⟩), .int .i64 i, v]) (hv : Rd w v m fm) (hm : PM.PN n m) :
    Calls Try.prog 110 #[.pointer (some ⟨b, 0, none⟩)] w fun e w' => ∃ K, e = .returned (.map (some K)) ∧ w.heap.size ≤ K ∧ Mpv w' K 1000 (gV m (orb n T i)) ∧ Only [] w w' := by
  obtain ⟨A, C, rfl, IM⟩ := hv.ints
  have hn20 := hC.le
  have hml := hm.1
  have ct := hC.ct
  rw [hT] at ct
  have cr := hC.row i hi
  have kA : Only [] w (w.alloc (.map #[] 0)) := (Only.refl _ _).alloc _
  have z0 := kA.cell (by simp) (hb.cell 0 rfl)
  have z1 := kA.cell (by simp) (hb.cell 1 rfl)
  have zt := kA.cell (by simp) ct
  have zr := kA.cell (by simp) cr
  have y2 := hb.cell 2 rfl
  have hmm := @run_makeMap Try.prog
  have M0 := (Mpv.made w rfl).congr (fun x => (gV_nil m x).symm)
  obtain ⟨ys, hys⟩ : ∃ ys, ys = orb n T i := ⟨_, rfl⟩
  have hyr : ∀ y ∈ ys, 0 ≤ y ∧ y < n := fun y hy => by rw [hys] at hy; exact (mem_orb.1 hy).1
  have hyl : ys.length ≤ 20 := by
    rw [hys]
    have h1 : (orb n T i).length ≤ (PM.pts n).length := PM.nodup_sub_len (orb_nodup n T i) fun y hy => PM.mem_pts.2 (mem_orb.1 hy).1
    rw [PM.pts_len] at h1
    omega
  rw [← hys]
  have Hys := Lib.hid hys
  have HC := Lib.hid hC
  have Hm := Lib.hid hm
  have HIM := Lib.hid IM
  have HM0 := Lib.hid M0
  have Hyr := Lib.hid hyr
  have Hml := Lib.hid hml
  clear hC hm M0 hT hys hyr IM hml ct cr
  go_enter Try.func110, Try.ntmps110
  go_wp2_with fail
  go_region_held3 (fun w' => Only [] (w.alloc (.map #[] 0)) w' ∧ w'.cell? ⟨b, 0, none⟩ = some (.pointer (some ⟨L.g, 0, none⟩)) ∧ w'.cell? ⟨b, 1, none⟩ = some (.int .i64 i) ∧ w'.cell? ⟨L.g, 2, none⟩ = some (.slice (some ⟨L.bt, 0, none⟩) n L.cT) ∧ w'.cell? ⟨L.bt, i, none⟩ = some (.slice (some ⟨L.rb i, 0, none⟩) n n)) (((refine and_of ?_ (fun h__ => ⟨h__.cell (by simp) z0, h__.cell (by simp) z1, h__.cell (by simp) zt, h__.cell (by simp) zr⟩)); first | exact (Only.refl _ _).drew | exact ((Only.refl _ _).drewN _).drew | exact Only.trans (And.left (by assumption)) (by assumption) | exact Only.alloc (And.left (by assumption)) _ | assumption)) (first | (go_at_call 90; (with_reducible refine (orbitOf_any _ (HC.out.keep (kA.trans (And.left (by assumption)))) i hi).mono ?_); rintro e w1 ⟨vo, fo, rfl, A1, F1, t1⟩; rw [← Hys.out] at A1; have kX : Only [] (w.alloc (.map #[] 0)) w1 := Only.trans (And.left (by assumption)) t1; have kB := Only.trans kA kX; have r1 := A1.rd (by decide); have F2 := A1.fresh F1; obtain ⟨ao, co, rfl, IO⟩ := r1.ints) | fail "no arm")
  have hge : ∀ b ∈ ((Value.slice ao ys.length co).ownBlock.toList ++ fo.flatten), w.heap.size < b := fun b hb => by
    have := F2.ge b hb
    simp at this
    omega
  have HIO := Lib.hid IO
  have Hge := Lib.hid hge
  clear A1 F1 F2 r1 IO hge z0 z1 zt zr t1
  go_wp2_with fail
  go_loopw [22] (fun i wr => ∃ j : Nat, j ≤ ys.length ∧ i = .int .i64 j ∧ Mpv wr w.heap.size j (gV m (ys.take j)) ∧ Only [w.heap.size] w1 wr)
    (fun i _ => ys.length - (intOf i).toNat)
  case atStart => exact ⟨0, Nat.zero_le _, rfl, HM0.out.keep kX, Only.refl _ _⟩
  case round =>
    obtain ⟨W2, hnew⟩ : ∃ W, W = wr := ⟨_, rfl⟩
    subst hnew
    obtain ⟨j, hj, rfl, hM, hO⟩ := hrel
    have KO : Only [] w W2 := kB.then_ hO (fun b hb hl => by simp at hb; omega)
    by_cases hlt : j < ys.length
    · obtain ⟨y, hy⟩ : ∃ y, y = ys[j] := ⟨_, rfl⟩
      have hyr := Hyr.out y (by rw [hy]; exact List.getElem_mem hlt)
      obtain ⟨b2, o2, rfl, -, c2⟩ := (HIO.out.only hO (fun b hb hm => by have := Hge.out b hb; simp at hm; omega)).at_ j hlt
      rw [← hy] at c2
      obtain ⟨b3, o3, rfl, -, c3⟩ := (HIM.out.keep KO).at_pm (x := y) hyr.1 (by rw [Hml.out]; exact hyr.2)
      have y2' := KO.cell (by simp) y2
      have hym : y < (m.length : Int) := by rw [Hml.out]; exact hyr.2
      have hy0 := hyr.1
      have hmr := Hm.out.rng hyr.1 hyr.2
      obtain ⟨w3, hrun3, hM3, hO3⟩ := hM.run_put (s := PM.at_ m y) (by unfold I64; omega) (n := y) (by unfold I64; omega) (by unfold maxLen; omega)
      have htk : ys.take (j + 1) = ys.take j ++ [y] := by rw [take_succ_get ys j hlt, hy]
      have Htk := Lib.hid htk
      clear htk hy
      go_wp2
      go_roundw
      case rel => exact ⟨j + 1, by omega, by go_num, hM3.congr (fun x => by rw [Htk.out]; exact gV_snoc Hm.out hyr.1 hyr.2 x), hO.trans hO3⟩
      case measure => simp [intOf]; omega
    · have hfin : Mpv W2 w.heap.size 1000 (gV m ys) := by
        rw [List.take_of_length_le (by omega)] at hM
        exact hM.mono (by omega)
      go_wp2
      go_ret
      exact ⟨w.heap.size, rfl, Nat.le_refl _, hfin, KO⟩
theorem gV_yes {n : Nat} {T : PM.Rows} {i : Nat} {m : List Int} {vv : Int} (h : vv ∈ PM.cho n T i m) : gV m (orb n T i) vv = some (PM.at_ (PM.inv m) vv) := if_pos h
theorem gV_no {n : Nat} {T : PM.Rows} {i : Nat} {m : List Int} {vv : Int} (h : vv ∉ PM.cho n T i m) : gV m (orb n T i) vv = none := if_neg h
/-- the walk has taken a value: q is chosen, the level is still i -/
def TK (w : World) (L : Lay) (b i : Nat) (q : List Int) (wx : World) : Prop :=
  ∃ a c f', Blk wx b [.pointer (some ⟨L.g, 0, none⟩), .int .i64 i, .slice a q.length c] ∧ Rd wx (.slice a q.length c) q f' ∧ Fresh w.heap.size wx f' ∧ Only [b] w wx
theorem TK.of {w w1 w5 w6 : World} {L : Lay} {b i : Nat} {q : List Int} {a : Option Addr} {c : Nat} {f' : List Nat} {v : Value} (t1 : Only [] w w1) (k5 : Only [] w1 w5) (Y5 : Blk w5 b [.pointer (some ⟨L.g, 0, none⟩), .int .i64 i, v]) (hb : b < w.heap.size)
    (r5 : Rd w5 (.slice a q.length c) q f') (F5 : Fresh w1.heap.size w5 f') (h6 : w6 = w5.setCell ⟨b, 2, none⟩ (.slice a q.length c)) : TK w L b i q w6 := by
  subst h6
  have hs : Only [b] w5 (w5.setCell ⟨b, 2, none⟩ (.slice a q.length c)) := (Only.refl _ _).setCell (by simp) _
  have hsz := t1.size
  have hd : ∀ z ∈ f', z ∉ [b] := fun z hz hm => by have := F5.ge z hz; simp at hm; omega
  have hB := Y5.set 2 (.slice a q.length c)
  simp only [List.set] at hB
  exact ⟨a, c, f', hB, Rp.only r5 hs hd, (F5.mono hsz).only hs hd, ((t1.trans k5).weaken _).trans hs⟩
set_option maxHeartbeats 4000000 in
theorem take_yes {e : TypeId} {B : Nat} {L : Lay} {gv : Nat → Value} {n : Nat} {G : PM.Gens} {T : PM.Rows} {M F : List Nat} (w : World) (hC : Ch e B w L gv n G T M F) (hw : PM.WF n T) (hT : L.oT = 2) (b i : Nat) (hi : i < n) (v : Value) (m : List Int) (fm : List Nat)
    (hb : Blk w b [.pointer (some ⟨L.g, 0, none⟩), .int .i64 i, v]) (hv : Rd w v m fm) (hm : PM.PN n m) (vv : Int) (hvv : vv ∈ PM.cho n T i m) :
    Calls Try.prog 97 #[.pointer (some ⟨b, 0, none⟩), .int .i64 vv] w fun e w' => e = .returned (.bool true) ∧ (∃ v' f', Blk w' b [.pointer (some ⟨L.g, 0, none⟩), .int .i64 ((i : Int) + 1), v'] ∧ Rd w' v' (PM.putV T i m vv) f' ∧ Fresh w.heap.size w' f') ∧ Only [b] w w' := by
  have hn20 := hC.le
  obtain ⟨hv0, hv1, hp0, hp1, hp2, hp3⟩ := PM.cho_pre hm hvv
  have hI : I64 vv := by unfold I64; omega
  have HcV := Lib.hid (values_any w hC hT b i hi v m fm hb hv hm)
  have Hyes := Lib.hid (gV_yes hvv)
  obtain ⟨A, C, rfl, IM⟩ := hv.ints
  obtain ⟨y, hy⟩ : ∃ y, y = PM.at_ (PM.inv m) vv := ⟨_, rfl⟩
  rw [← hy] at Hyes hp0 hp1 hp2 hp3
  have hput : PM.putV T i m vv = PM.comp (PM.tr T i y) m := by unfold PM.putV; rw [← hy]
  have ct := hC.ct
  rw [hT] at ct
  have cr := hC.row i hi
  obtain ⟨bt, ot, capt, ft, crt, hrt, -⟩ := hC.at_some hi hp0 hp1 hp2
  have htp := hw.pn i y hi hp2
  have hlt := Lib.hid htp.1
  have HC := Lib.hid hC
  have Hm := Lib.hid hm
  have Hp := Lib.hid hput
  have Htp := Lib.hid htp
  have HI := Lib.hid hI
  have y0 := hb.cell 0 rfl
  have y1 := hb.cell 1 rfl
  have y2 := hb.cell 2 rfl
  have hblt := hb.lt
  clear hC hm hvv hI hy hput hp2 hp3 htp hv0 hv1 IM
  go_enter Try.func97, Try.ntmps97
  go_upto_region 4 with (first
    | (go_at_call 110; (with_reducible refine (HcV.out).mono ?_); rintro en w1 ⟨K, rfl, hK, hM, t1⟩; have hrun := hM.run_yes HI.out Hyes.out)
    | fail "no arm")
  have x0 := t1.cell (by simp) y0
  have x1 := t1.cell (by simp) y1
  have x2 := t1.cell (by simp) y2
  have xt := t1.cell (by simp) ct
  have xr := t1.cell (by simp) cr
  have xy := t1.cell (by simp) crt
  clear y0 y1 y2 ct cr crt hrun hM
  have kd : Only [] w1 w1.drew := (Only.refl _ _).drew
  have d0 := kd.cell (by simp) x0
  have d1 := kd.cell (by simp) x1
  have d2 := kd.cell (by simp) x2
  have dt := kd.cell (by simp) xt
  have dr := kd.cell (by simp) xr
  have dy := kd.cell (by simp) xy
  have HcC := Lib.hid (fun (W : World) (hW : Only [] w1 W) => implCompose_rd n _ _ (PM.tr T i y) m _ _ W (Rp.keep hrt (Only.trans t1 hW)) (Rp.keep hv (Only.trans t1 hW)) Htp.out Hm.out (by omega))
  have Hb := Lib.hid (fun (W : World) (hW : Only [] w1 W) => hb.keep (t1.trans hW))
  clear kd
  go_cut [] (fun wx => TK w L b i (PM.comp (PM.tr T i y) m) wx)
  case first =>
   go_region_law (first
    | (go_simp; go_at_call 50; (with_reducible refine (HcC.out _ (by with_reducible repeat (first | exact Only.refl _ _ | refine Only.drew ?_))).mono ?_); rintro e w5 ⟨v5, f5, rfl, r5, F5, t5⟩; have k5 : Only [] w1 w5 := Only.trans (by with_reducible repeat (first | exact Only.refl _ _ | refine Only.drew ?_)) t5; have Y5 := Hb.out _ k5; have x5 := Y5.cell 2 rfl; have q5 := Y5.frozen 2; have r50 := r5; obtain ⟨a5, c5, rfl, _⟩ := r5.ints)
    | fail "no arm")
   all_goals go_wp2_with fail
   all_goals go_meet
   all_goals exact TK.of t1 k5 Y5 hblt r50 (F5.mono (by simp)) rfl
  case rest =>
    obtain ⟨a6, c6, f6, B6, r6, F6, O6⟩ := hcut
    obtain ⟨W2, hnew⟩ : ∃ W, W = wc := ⟨_, rfl⟩
    subst hnew
    have z1 := B6.cell 1 rfl
    have p1 := B6.frozen 1
    have hs : Only [b] W2 (W2.setCell ⟨b, 1, none⟩ (.int .i64 ((i : Int) + 1))) := (Only.refl _ _).setCell (by simp) _
    have hd : ∀ z ∈ f6, z ∉ [b] := fun z hz hm => by have := F6.ge z hz; simp at hm; omega
    have hB := B6.set 1 (.int .i64 ((i : Int) + 1))
    simp only [List.set] at hB
    have hfin := (⟨⟨_, _, hB, Rp.only r6 hs hd, F6.only hs hd⟩, O6.trans hs⟩ : (∃ v' f', Blk (W2.setCell ⟨b, 1, none⟩ (.int .i64 ((i : Int) + 1))) b [.pointer (some ⟨L.g, 0, none⟩), .int .i64 ((i : Int) + 1), v'] ∧ Rd (W2.setCell ⟨b, 1, none⟩ (.int .i64 ((i : Int) + 1))) v' (PM.comp (PM.tr T i y) m) f' ∧ Fresh w.heap.size (W2.setCell ⟨b, 1, none⟩ (.int .i64 ((i : Int) + 1))) f') ∧ Only [b] w (W2.setCell ⟨b, 1, none⟩ (.int .i64 ((i : Int) + 1))))
    have hwi : IntKind.i64.wrap ((i : Int) + 1) = (i : Int) + 1 := by rw [IntKind.wrap_i64]; omega
    have Hfin := Lib.hid hfin
    clear hfin hB hs hd r6 F6 O6
    go_wp2
    go_ret
    rw [Hp.out]
    exact ⟨rfl, Hfin.out⟩
end Go.Proofs.Ytbediokigibdlaa

namespace Go.Proofs.Ytbediokigibdlaa
open Go.RowKit
set_option maxRecDepth 10000

theorem ranges_frame {P : Program} {k : TypeId} {R : Value → Option (DataW Unit × List MemPlace)} {b r n cnt : Nat} {D : DataW Unit} {left : Lit → Bool} {w w' : World} (h : w.ranges P k R b r n D left cnt) (hb : w'.heap[b]? = w.heap[b]?) (hr : w'.heap[r]? = w.heap[r]?) : w'.ranges P k R b r n D left cnt := by
  obtain ⟨es, clock, since, seen, c0, h1, F, hs, hD, h2, rest⟩ := h
  exact ⟨es, clock, since, seen, c0, hb.trans h1, F, hs, hD, hr.trans h2, rest⟩
theorem AccI.low {B B' : Nat} {e : TypeId} {w : World} {v : Value} {l : List Int} (h : AccI B e w v l) (hB : B' ≤ B) : AccI B' e w v l := by
  obtain ⟨h1, h2⟩ := h.row
  refine AccI.ofRow ⟨h1.1, ?_⟩ h2
  rcases h1.2 with h3 | ⟨g, cap, cur, h3, h4, h5⟩
  · exact .inl h3
  · exact .inr ⟨g, cap, cur, h3, Nat.le_trans hB h4, h5⟩
theorem same_int (a b : Int) : (Lit.int .i64 a).sameKey (.int .i64 b) = decide (a = b) := by
  show decide (IntKind.i64 = IntKind.i64 ∧ a = b) = _
  by_cases h : a = b <;> simp [h]
/-- the keys met so far: l; those to come: left -/
structure KL (C : List Int) (left : Lit → Bool) (l : List Int) : Prop where
  nd : l.Nodup
  iff : ∀ x, I64 x → (x ∈ l ↔ x ∈ C ∧ left (.int .i64 x) = false)
  big : ∀ x ∈ l, I64 x
  dom : ∀ x, I64 x → left (.int .i64 x) = true → x ∈ C
theorem KL.step {C : List Int} {left : Lit → Bool} {l : List Int} (h : KL C left l) {x : Int} (hx : I64 x) (hl : left (.int .i64 x) = true) : KL C (fun z => left z && !z.sameKey (.int .i64 x)) (l ++ [x]) := by
  have hn : x ∉ l := fun hm => by have := ((h.iff x hx).1 hm).2; rw [hl] at this; cases this
  refine ⟨?_, fun y hy => ?_, fun y hy => ?_, fun y hy hl2 => ?_⟩
  · rw [List.nodup_append]
    exact ⟨h.nd, by simp, fun a ha b hb => by simp at hb; subst hb; intro e; subst e; exact hn ha⟩
  · rw [List.mem_append, h.iff y hy]
    simp only [List.mem_singleton, same_int]
    by_cases he : y = x
    · subst he; simp [h.dom _ hx hl]
    · simp [he]
  · rcases List.mem_append.1 hy with hy | hy
    · exact h.big y hy
    · simp at hy; subst hy; exact hx
  · simp only [same_int, Bool.and_eq_true] at hl2
    exact h.dom y hy hl2.1
theorem KL.end_ {C : List Int} {left : Lit → Bool} {l : List Int} (h : KL C left l) (hl : ∀ z, left z = false) (hC : PM.Asc C) (hCb : ∀ x ∈ C, I64 x) : (l.mergeSort fun x y => decide (x ≤ y)) = C := by
  refine PM.asc_ext (sorted_asc h.nd) hC fun x => ?_
  rw [sorted_mem]
  constructor
  · intro hx; exact ((h.iff x (h.big x hx)).1 hx).1
  · intro hx; exact (h.iff x (hCb x hx)).2 ⟨hx, hl _⟩
set_option maxHeartbeats 4000000 in
theorem walkSorted_any {e : TypeId} {B : Nat} {L : Lay} {gv : Nat → Value} {n : Nat} {G : PM.Gens} {T : PM.Rows} {M F : List Nat} (w : World) (hC : Ch e B w L gv n G T M F) (hw : PM.WF n T) (hT : L.oT = 2) (b i : Nat) (hi : i < n) (v : Value) (m : List Int) (fm : List Nat)
    (hb : Blk w b [.pointer (some ⟨L.g, 0, none⟩), .int .i64 i, v]) (hv : Rd w v m fm) (hm : PM.PN n m) :
    Calls Try.prog 107 #[.pointer (some ⟨b, 0, none⟩)] w fun e w' => ∃ v', e = .returned v' ∧ AccI w.heap.size 2 w' v' (PM.cho n T i m) ∧ Only [] w w' := by
  obtain ⟨i0, hii, hz0, hz1, hz2⟩ := info_parts Try.info2
  have HcV := Lib.hid (values_any w hC hT b i hi v m fm hb hv hm)
  obtain ⟨C, hCd⟩ : ∃ C, C = PM.cho n T i m := ⟨_, rfl⟩
  have hn20 := hC.le
  have hAs : PM.Asc C := by rw [hCd]; exact PM.choO_asc _ _
  have hCb : ∀ x ∈ C, I64 x := fun x hx => by rw [hCd] at hx; have := PM.cho_pre hm hx; unfold I64; omega
  have hCl : C.length ≤ 1000 := by rw [hCd, PM.cho_len hm]; have := PM.cntR_le n T i; omega
  have hCne : C ≠ [] := fun hc => by
    have h1 := PM.cho_len (T := T) (i := i) hm
    rw [← hCd, hc] at h1
    have h2 := PM.cntR_pos hw hi
    simp at h1; omega
  have hgC : ∀ x, (gV m (orb n T i) x).isSome = decide (x ∈ C) := fun x => by
    rw [hCd]
    by_cases hx : x ∈ PM.cho n T i m
    · rw [gV_yes hx]; simp [hx]
    · rw [gV_no hx]; simp [hx]
  rw [← hCd]
  have HAs := Lib.hid hAs
  have HCb := Lib.hid hCb
  have HCne := Lib.hid hCne
  have HgC := Lib.hid hgC
  clear hC hm hb hv hw hAs hCb hCne hgC hCd
  go_enter Try.func107, Try.ntmps107
  go_wp2_with (first
    | (go_at_call 110; (with_reducible refine (HcV.out).mono ?_); rintro en w1 ⟨K, rfl, hK, hM, t1⟩; obtain ⟨D, hown, hg⟩ := hM)
    | (at_range; refine wpList_range_own _ rfl _ 110 rfl 2 2 Try.lawI64 Try.underlying110 _ K 1000 D rfl hown ?_; intro w0 hrg0 hg0 hs0)
    | fail "no arm")
  go_frame
  have hKl := hown.lt
  have k01 : Only [] w1 w0 := (Only.refl _ _).grown hg0 (by intro j hj; cases hj)
  have kw0 : Only [] w w0 := t1.trans k01
  have hl0 : KL C (Go.Maps.has D) [] := ⟨List.nodup_nil, fun x hx => by
      rw [(hg x hx).1, HgC.out]
      by_cases hm : x ∈ C <;> simp [hm], by simp, fun x hx hl => by rw [(hg x hx).1, HgC.out] at hl; simpa using hl⟩
  clear hg hg0 hown t1 k01
  go_loopw [3] (fun o wr => ∃ (left : Lit → Bool) (cnt : Nat) (l : List Int), wr.ranges Try.prog 2 (plainElem Try.prog 2) K w1.heap.size 1000 D left cnt ∧ AccI (w1.heap.size + 1) 2 wr o l ∧ KL C left l ∧ Only [] w wr ∧ w1.heap.size + 1 ≤ wr.heap.size)
    (fun _ wr => wr.rangeLeft K w1.heap.size)
  case atStart => exact ⟨_, _, [], hrg0, AccI.nil _ _ _, hl0, kw0, by omega⟩
  case round =>
    obtain ⟨W2, hnew⟩ : ∃ W, W = wr := ⟨_, rfl⟩
    subst hnew
    obtain ⟨left, cnt, l, hrg, hA, hKL, hO, hsz⟩ := hrel
    have hll : l.length ≤ 1000 := Nat.le_trans (PM.nodup_sub_len hKL.nd fun x hx => ((hKL.iff x (hKL.big x hx)).1 hx).1) hCl
    have hlow : w.heap.size ≤ w1.heap.size + 1 := by have := kw0.size; omega
    go_wp2_with (first
      | (at_next; refine wpList_next_ranges_ii _ rfl _ rfl 2 2 .i64 .i64 Try.lawI64 Try.underlying2 Try.underlying2 K w1.heap.size 1000 _ _ _ rfl hrg ?_ ?_)
      | fail "no arm")
    · intro _ hl0
      have hfin := hKL.end_ hl0 HAs.out HCb.out
      have hlne : l ≠ [] := fun hc => HCne.out (by rw [← hfin, hc]; simp)
      have Hfin := Lib.hid hfin
      obtain ⟨a, c, ho⟩ := hA.form
      subst ho
      clear hfin hl0
      go_wp2_with (first
        | (go_at_call 123; (with_reducible refine (sort_accI W2 _ l hA hlne hll).mono ?_); rintro en w3 ⟨rfl, hA3, hO3⟩; rw [Hfin.out] at hA3)
        | fail "no arm")
      go_ret
      exact ⟨_, rfl, hA3.low hlow, hO.then_ hO3 (fun z hz hl => by have := (hA.ownlt z (by simpa using hz)).1; omega)⟩
    · intro x c w2 cnt1 hwx hwc hlx hat hrg1 hlt hg1 hs1 hen
      have hxI : I64 x := by have h9 := hwx; simp [Lit.wf, IntKind.min, IntKind.max, IntKind.signed, IntKind.bits] at h9; unfold I64; omega
      have k2 : Only [w1.heap.size] W2 w2 := (Only.refl _ _).grown hg1 (by intro j hj _; injection hj with hj; subst hj; simp)
      have hA2 := hA.only k2 (fun g hg hm => by have := (hA.ownlt g hg).1; simp at hm; omega)
      have hO2 : Only [] w w2 := hO.then_ k2 (fun z hz hl => by simp at hz; have := kw0.size; omega)
      have hK2 := hKL.step hxI hlx
      have HXI := Lib.hid hxI
      have hsB : w1.heap.size + 1 ≤ w2.heap.size := by omega
      have Hs1 := Lib.hid hs1
      clear hs1
      clear hKL hxI hat hwx hwc hlx
      go_wp2_with (first
        | (at_builtin; refine wpList_pushI rfl _ _ 36 rfl (w1.heap.size + 1) 2 i0 _ Try.underlying36 hii hz0 hz1 hz2 rfl w2 u3 l rfl hA2 ((Only.refl _ _).alloc _) hsB w2.heap.size 1 x rfl (lit1 w2 _ _ rfl) HXI.out (by omega) ?_; intro v3 w3 hA3 hO3 hP3 hN3)
        | fail "no arm")
      have hsz2 : w2.heap.size = W2.heap.size := Hs1.out
      have hne : ∀ g, g ≤ w1.heap.size → w3.heap[g]? = w2.heap[g]? := fun g hg => by
        have h1 : g < w2.heap.size := by omega
        have h2 := hO3.block g (by simp; omega) (fun hm => by have := (hA2.ownlt g (by simpa using hm)).1; omega)
        have h3 := ((Only.refl [] w2).alloc (.cells #[.int .i64 x] 2)).block g h1 (by simp)
        exact h2.trans h3
      have hrg3 := ranges_frame hrg1 (hne K (by omega)) (hne _ (Nat.le_refl _))
      have hsz3 := hO3.size
      simp at hsz3
      go_roundw
      case rel => exact ⟨_, cnt1, l ++ [x], hrg3, hA3, hK2, hP3 w (hO2.alloc _) hlow, by omega⟩
      case measure => rw [hrg3.left_eq, hrg.left_eq]; exact hlt
end Go.Proofs.Ytbediokigibdlaa

namespace Go.Proofs.Ytbediokigibdlaa
open Go.RowKit
set_option maxRecDepth 10000
end Go.Proofs.Ytbediokigibdlaa

namespace Go.Proofs.Ytbediokigibdlaa
open Go.RowKit
set_option maxRecDepth 10000

theorem from_any (g : Nat) (v : Value) (m : List Int) (f : List Nat) (w : World) (hv : Rd w v m f) :
    Calls Try.prog 61 #[.pointer (some ⟨g, 0, none⟩), v] w fun e w' => e = .returned (.pointer (some ⟨w.heap.size, 0, none⟩)) ∧ Blk w' w.heap.size [.pointer (some ⟨g, 0, none⟩), .int .i64 (0 : Nat), v] ∧ Only [] w w' ∧ w'.heap.size = w.heap.size + 1 := by
  obtain ⟨A, C, rfl, -⟩ := hv.ints
  go_enter Try.func61, Try.ntmps61
  go_wp2
  go_ret
  exact ⟨rfl, Blk.new _ _ _, (Only.refl _ _).alloc _, by simp⟩


end Go.Proofs.Ytbediokigibdlaa

namespace Go.Proofs.Ytbediokigibdlaa
open Go.RowKit
set_option maxRecDepth 10000

/-- what the program's below finds beside the count, so far: m is the least of l -/
def IsMn (l : List Int) (m : Int) : Prop := (l = [] ∧ m = -1) ∨ (m ∈ l ∧ ∀ x ∈ l, m ≤ x)
theorem IsMn.end_ {l C : List Int} {m : Int} (h : IsMn l m) (hC : PM.Asc C) (hne : C ≠ []) (he : (l.mergeSort fun x y => decide (x ≤ y)) = C) : m = C.getD 0 0 := by
  have hp : l.Perm C := by rw [← he]; exact (List.mergeSort_perm _ _).symm
  rcases h with ⟨rfl, -⟩ | ⟨h1, h2⟩
  · exact absurd (List.nil_perm.1 hp) hne
  · cases C with
    | nil => exact absurd rfl hne
    | cons c C =>
      show m = c
      have h3 := h2 c (hp.mem_iff.2 (by simp))
      have h4 : c ≤ m := by
        rcases List.mem_cons.1 (hp.mem_iff.1 h1) with e | e
        · omega
        · exact Int.le_of_lt ((List.pairwise_cons.1 hC).1 m e)
      omega
end Go.Proofs.Ytbediokigibdlaa
