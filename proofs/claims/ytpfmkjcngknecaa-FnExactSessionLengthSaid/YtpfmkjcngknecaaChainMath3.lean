/- Plain facts on the making of stabilizer chains: the queue of a row, the products of a row and its generators. -/
import Derived.Test.YtpfmkjcngknecaaChainMath2
namespace PM

/-- how many places of a row are filled -/
def cntR (n : Nat) (T : Rows) (k : Nat) : Nat := ((pts n).filter fun y => decide (tr T k y ≠ [])).length
theorem cntR_le (n : Nat) (T : Rows) (k : Nat) : cntR n T k ≤ n := by
  have := List.length_filter_le (fun y => decide (tr T k y ≠ [])) (pts n)
  rwa [pts_len] at this
theorem filter_more {α : Type} [DecidableEq α] {l : List α} {p q : α → Bool} {m : α} (hn : l.Nodup) (hm : m ∈ l) (hp : p m = false) (hq : q m = true) (ho : ∀ x, x ≠ m → q x = p x) :
    (l.filter q).length = (l.filter p).length + 1 := by
  induction l with
  | nil => cases hm
  | cons x l ih =>
    obtain ⟨h1, h2⟩ := List.nodup_cons.1 hn
    by_cases hx : x = m
    · subst hx
      have : l.filter q = l.filter p := List.filter_congr fun y hy => ho y fun e => h1 (e ▸ hy)
      simp [hp, hq, this]
    · have hm' : m ∈ l := by
        rcases List.mem_cons.1 hm with e | e
        · exact absurd e.symm hx
        · exact e
      have := ih h2 hm'
      simp only [List.filter_cons, ho x hx]
      split <;> simp [this]
theorem cntR_set {n k m : Nat} {T : Rows} (hk : k < T.length) (hm : m < (T.getD k []).length) (hmn : m < n) {p : List Int} (hp : p ≠ []) (h0 : tr T k (m : Int) = []) : cntR n (setT T k m p) k = cntR n T k + 1 := by
  have hl := fun y => tr_setT hk hm p k y
  refine filter_more (m := (m : Int)) (pts_nodup n) (mem_pts.2 (by omega)) (by simp [h0]) ?_ fun x hx => ?_
  · rw [hl, if_pos ⟨rfl, rfl⟩]; simpa using hp
  · rw [hl, if_neg (by simpa using hx)]

/-- a queue of points of row k, T0 the rows at the beginning: what is known is in the queue or has been treated -/
structure QS (n k : Nat) (G : Gens) (T0 T : Rows) (qs : List Int) (cur : Int → List (List Int)) : Prop where
  shape : Shape n G T
  base : Base n G T
  cpl : Cpl n (k + 1) G T
  grew : Grew n k G T0 G T
  rows : ∀ j y, j ≠ k → tr T j y = tr T0 j y
  nd : qs.Nodup
  mem : ∀ y ∈ qs, tr T k y ≠ []
  done : ∀ y g, tr T k y ≠ [] → (y ∉ qs → g ∈ lv G k) → (y ∈ qs → g ∈ cur y) → tr T k (at_ g y) ≠ []
theorem QS.len {n k : Nat} {G : Gens} {T0 T : Rows} {qs : List Int} {cur : Int → List (List Int)} (hk : k < n) (h : QS n k G T0 T qs cur) : qs.length ≤ n := by
  have := nodup_sub_len h.nd (l2 := pts n) (fun y hy => mem_pts.2 (row_rng hk h.base (h.mem y hy)))
  rwa [pts_len] at this
/-- what has been treated of the queue's head: its first i generators -/
def curA (L : List (List Int)) (y0 : Int) (i : Nat) : Int → List (List Int) := fun y => if y = y0 then L.take i else []
def cur0 : Int → List (List Int) := fun _ => []
theorem QS.start {n k : Nat} {G : Gens} {T : Rows} (hs : Shape n G T) (hB : Base n G T) (hC : Cpl n (k + 1) G T) {qs : List Int} (hn : qs.Nodup) (hq : ∀ y, y ∈ qs ↔ tr T k y ≠ []) : QS n k G T T qs cur0 :=
  ⟨hs, hB, hC, Grew.refl _ _ _ _, fun _ _ _ => rfl, hn, fun y hy => (hq y).1 hy, fun y g hy _ h2 => absurd (h2 ((hq y).2 hy)) (by simp [cur0])⟩
theorem QS.first {n k : Nat} {G : Gens} {T0 T : Rows} {y0 : Int} {qs : List Int} (h : QS n k G T0 T (y0 :: qs) cur0) : QS n k G T0 T (y0 :: qs) (curA (lv G k) y0 0) := by
  refine ⟨h.shape, h.base, h.cpl, h.grew, h.rows, h.nd, h.mem, fun y g hy h1 h2 => h.done y g hy h1 fun hm => ?_⟩
  have := h2 hm
  unfold curA at this; split at this
  · simp at this
  · cases this
theorem QS.skip {n k : Nat} {G : Gens} {T0 T : Rows} {y0 : Int} {qs : List Int} {i : Nat} (hi : i < (lv G k).length) (h : QS n k G T0 T (y0 :: qs) (curA (lv G k) y0 i)) (ht : tr T k (at_ (lv G k)[i] y0) ≠ []) :
    QS n k G T0 T (y0 :: qs) (curA (lv G k) y0 (i + 1)) := by
  refine ⟨h.shape, h.base, h.cpl, h.grew, h.rows, h.nd, h.mem, fun y g hy h1 h2 => ?_⟩
  by_cases hm : y ∈ y0 :: qs
  · have h3 := h2 hm
    unfold curA at h3
    by_cases e : y = y0
    · rw [if_pos e, List.take_succ_eq_append_getElem hi] at h3
      rcases List.mem_append.1 h3 with h4 | h4
      · exact h.done y g hy h1 fun _ => by unfold curA; rw [if_pos e]; exact h4
      · have : g = (lv G k)[i] := by simpa using h4
        subst this; subst e; exact ht
    · rw [if_neg e] at h3; cases h3
  · exact h.done y g hy h1 fun h' => absurd h' hm
theorem QS.more {n k : Nat} {G : Gens} {T0 T : Rows} {y0 : Int} {qs : List Int} {i : Nat} (hk : k < n) (hi : i < (lv G k).length) (h : QS n k G T0 T (y0 :: qs) (curA (lv G k) y0 i)) (ht : tr T k (at_ (lv G k)[i] y0) = []) :
    QS n k G T0 (setT T k (at_ (lv G k)[i] y0).toNat (comp (tr T k y0) (lv G k)[i])) (y0 :: (qs ++ [at_ (lv G k)[i] y0])) (curA (lv G k) y0 (i + 1)) ∧
    cntR n (setT T k (at_ (lv G k)[i] y0).toNat (comp (tr T k y0) (lv G k)[i])) k = cntR n T k + 1 := by
  have hy0 := h.mem y0 (by simp)
  have hg : (lv G k)[i] ∈ lv G k := List.getElem_mem hi
  obtain ⟨a1, a2, a3, a4⟩ := row_mul hk h.base hy0 hg
  have hr := row_rng hk h.base hy0
  have hgp := h.base.gpn k _ hk hg
  have hto := hgp.rng hr.1 hr.2
  have em : (((at_ (lv G k)[i] y0).toNat : Nat) : Int) = at_ (lv G k)[i] y0 := by omega
  have hmn : (at_ (lv G k)[i] y0).toNat < n := by omega
  obtain ⟨b1, b2, b3⟩ := step_row (m := (at_ (lv G k)[i] y0).toNat) h.shape hk h.base h.cpl a1 a2 a3 (by rw [a4, em]) hmn (by rw [em]; exact ht)
  have hl := fun j y => tr_setT (T := T) (k := k) (m := (at_ (lv G k)[i] y0).toNat) (by rw [h.shape.lt]; exact hk) (by rw [h.shape.lr k hk]; exact hmn) (comp (tr T k y0) (lv G k)[i]) j y
  refine ⟨⟨h.shape.setT _ _ _, b1, b2, h.grew.trans b3, fun j y hj => ?_, ?_, fun y hy => ?_, fun y g hy h1 h2 => ?_⟩, ?_⟩
  · rw [hl j y, if_neg (by simp [hj])]; exact h.rows j y hj
  · have e : y0 :: (qs ++ [at_ (lv G k)[i] y0]) = (y0 :: qs) ++ [at_ (lv G k)[i] y0] := by simp
    rw [e]
    refine List.nodup_append.2 ⟨h.nd, by simp, fun a ha b hb e => ?_⟩
    have : b = at_ (lv G k)[i] y0 := by simpa using hb
    subst this; subst e
    exact h.mem _ ha ht
  · rw [hl k y]
    split
    · exact a1.ne (by omega)
    · rename_i hne
      have : y ∈ y0 :: qs := by
        have e : y0 :: (qs ++ [at_ (lv G k)[i] y0]) = (y0 :: qs) ++ [at_ (lv G k)[i] y0] := by simp
        rw [e] at hy
        rcases List.mem_append.1 hy with h3 | h3
        · exact h3
        · have : y = at_ (lv G k)[i] y0 := by simpa using h3
          exact absurd ⟨rfl, by rw [em]; exact this⟩ hne
      exact h.mem y this
  · rw [hl k _]
    split
    · exact a1.ne (by omega)
    · rename_i hne
      rw [hl k y] at hy
      by_cases hyt : y = at_ (lv G k)[i] y0
      · -- the new point: it is in the queue, and nothing of it has been treated
        have hin : y ∈ y0 :: (qs ++ [at_ (lv G k)[i] y0]) := by simp [hyt]
        have h3 := h2 hin
        unfold curA at h3
        by_cases e : y = y0
        · exact absurd ht (by rw [← hyt, e]; exact hy0)
        · rw [if_neg e] at h3; cases h3
      · rw [if_neg (by rw [em]; simp [hyt])] at hy
        have hmem : y ∈ y0 :: (qs ++ [at_ (lv G k)[i] y0]) ↔ y ∈ y0 :: qs := by simp [hyt]
        refine h.done y g hy (fun hn => h1 fun hm => hn (hmem.1 hm)) fun hm => ?_
        have h3 := h2 (hmem.2 hm)
        unfold curA at h3 ⊢
        by_cases e : y = y0
        · rw [if_pos e] at h3 ⊢
          rw [List.take_succ_eq_append_getElem hi] at h3
          rcases List.mem_append.1 h3 with h4 | h4
          · exact h4
          · have : g = (lv G k)[i] := by simpa using h4
            subst this; subst e
            exact absurd ⟨rfl, em.symm⟩ hne
        · rw [if_neg e] at h3; cases h3
  · exact cntR_set (by rw [h.shape.lt]; exact hk) (by rw [h.shape.lr k hk]; exact hmn) hmn (a1.ne (by omega)) (by rw [em]; exact ht)
theorem QS.pop {n k : Nat} {G : Gens} {T0 T : Rows} {y0 : Int} {qs : List Int} {i : Nat} (hi : (lv G k).length ≤ i) (h : QS n k G T0 T (y0 :: qs) (curA (lv G k) y0 i)) : QS n k G T0 T qs cur0 := by
  obtain ⟨hn1, hn2⟩ := List.nodup_cons.1 h.nd
  refine ⟨h.shape, h.base, h.cpl, h.grew, h.rows, hn2, fun y hy => h.mem y (by simp [hy]), fun y g hy h1 h2 => ?_⟩
  by_cases hm : y ∈ qs
  · exact absurd (h2 hm) (by simp [cur0])
  · refine h.done y g hy (fun _ => h1 hm) fun h3 => ?_
    have e : y = y0 := by
      rcases List.mem_cons.1 h3 with e | e
      · exact e
      · exact absurd e hm
    unfold curA; rw [if_pos e, List.take_of_length_le hi]; exact h1 hm
theorem QS.closed {n k : Nat} {G : Gens} {T0 T : Rows} (h : QS n k G T0 T [] cur0) : ∀ y g, tr T k y ≠ [] → g ∈ lv G k → tr T k (at_ g y) ≠ [] :=
  fun y g hy hg => h.done y g hy (fun _ => hg) fun h3 => by cases h3

/-- the products of row k with its generators, as far as they are known: T1 the rows at the beginning -/
structure PS (n k : Nat) (G1 : Gens) (T1 : Rows) (G : Gens) (T : Rows) (S : List Int → Prop) : Prop where
  shape : Shape n G T
  base : Base n G T
  cpl : Cpl n (k + 1) G T
  grew : Grew n (k + 1) G1 T1 G T
  ok : ∀ q, S q → Ok T n k q
theorem PS.lv {n k : Nat} {G1 : Gens} {T1 : Rows} {G : Gens} {T : Rows} {S : List Int → Prop} (h : PS n k G1 T1 G T S) : PM.lv G k = PM.lv G1 k := h.grew.low k (by omega)
theorem PS.tr {n k : Nat} {G1 : Gens} {T1 : Rows} {G : Gens} {T : Rows} {S : List Int → Prop} (h : PS n k G1 T1 G T S) (y : Int) : PM.tr T k y = PM.tr T1 k y := h.grew.lowT k y (by omega)
theorem PS.start {n k : Nat} {G : Gens} {T : Rows} (hs : Shape n G T) (hB : Base n G T) (hC : Cpl n (k + 1) G T) : PS n k G T G T (fun _ => False) :=
  ⟨hs, hB, hC, Grew.refl _ _ _ _, fun _ h => h.elim⟩
theorem PS.weak {n k : Nat} {G1 : Gens} {T1 : Rows} {G : Gens} {T : Rows} {S S' : List Int → Prop} (h : PS n k G1 T1 G T S) (hs : ∀ q, S' q → S q) : PS n k G1 T1 G T S' :=
  ⟨h.shape, h.base, h.cpl, h.grew, fun q hq => h.ok q (hs q hq)⟩
/-- one product more, by what the next level's making leaves -/
theorem PS.step {n k : Nat} {G1 : Gens} {T1 : Rows} {G G' : Gens} {T T' : Rows} {S : List Int → Prop} (h : PS n k G1 T1 G T S) {q : List Int} (hs : Shape n G' T') (hn : PM.tr T k (at_ q (k : Int)) ≠ []) (ha : Added n (k + 1) (res T k q) G T G' T') :
    PS n k G1 T1 G' T' (fun x => S x ∨ x = q) := by
  obtain ⟨a, b, c, d⟩ := ha.up hn
  refine ⟨hs, a, b, h.grew.trans c, fun x hx => ?_⟩
  rcases hx with hx | rfl
  · exact (h.ok x hx).mono c.ext
  · exact d

/-- how many places of the last m rows are filled -/
def sumM (n : Nat) (T : Rows) : Nat → Nat
  | 0 => 0
  | m + 1 => cntR n T (n - (m + 1)) + sumM n T m
theorem sumM_le (n : Nat) (T : Rows) : ∀ m, sumM n T m ≤ m * n := by
  intro m
  induction m with
  | zero => simp [sumM]
  | succ m ih =>
    have := cntR_le n T (n - (m + 1))
    simp only [sumM, Nat.succ_mul]; omega
theorem cntR_mono {n k : Nat} {T T' : Rows} (h : Ext T T') : cntR n T k ≤ cntR n T' k := by
  unfold cntR
  refine List.Sublist.length_le ?_
  have : (pts n).filter (fun y => decide (tr T k y ≠ [])) = ((pts n).filter fun y => decide (tr T' k y ≠ [])).filter fun y => decide (tr T k y ≠ []) := by
    rw [List.filter_filter]
    refine List.filter_congr fun y _ => ?_
    by_cases hy : tr T k y = []
    · simp [hy]
    · simp [h k y hy, hy]
  rw [this]; exact List.filter_sublist
theorem sumM_mono {n : Nat} {T T' : Rows} (h : Ext T T') : ∀ m, sumM n T m ≤ sumM n T' m := by
  intro m
  induction m with
  | zero => simp [sumM]
  | succ m ih => have := cntR_mono (n := n) (k := n - (m + 1)) h; simp only [sumM]; omega
theorem tr_out {n k : Nat} {G : Gens} {T : Rows} (hs : Shape n G T) (hk : k < n) {y : Int} (hy : ¬ (0 ≤ y ∧ y < n)) : tr T k y = [] := by
  unfold tr
  split
  · rfl
  · rw [List.getD_eq_getElem?_getD, List.getElem?_eq_none (by rw [hs.lr k hk]; omega)]; rfl
/-- rows of which no more places are filled are the same -/
theorem cntR_same {n k : Nat} {G G' : Gens} {T T' : Rows} (_hs : Shape n G T) (hs' : Shape n G' T') (hk : k < n) (h : Ext T T') (hc : cntR n T' k ≤ cntR n T k) : ∀ y, tr T' k y = tr T k y := by
  intro y
  by_cases hy : tr T k y = []
  · rw [hy]
    apply Classical.byContradiction
    intro hn
    have hyr : 0 ≤ y ∧ y < n := Classical.byContradiction fun hh => hn (tr_out hs' hk hh)
    have hsub : ((pts n).filter fun y => decide (tr T' k y ≠ [])) ⊆ (pts n).filter fun y => decide (tr T k y ≠ []) := by
      refine nodup_sub_all (List.Nodup.sublist List.filter_sublist (pts_nodup n)) (fun z hz => ?_) hc
      rw [List.mem_filter] at hz ⊢
      have hz2 : tr T k z ≠ [] := by simpa using hz.2
      exact ⟨hz.1, by rw [h k z hz2]; simpa using hz2⟩
    have := hsub (List.mem_filter.2 ⟨mem_pts.2 hyr, by simpa using hn⟩)
    rw [List.mem_filter] at this
    exact (by simpa using this.2 : tr T k y ≠ []) hy
  · exact h k y hy
theorem sumM_same {n : Nat} {G G' : Gens} {T T' : Rows} (hs : Shape n G T) (hs' : Shape n G' T') (h : Ext T T') : ∀ m, m ≤ n → sumM n T' m ≤ sumM n T m → ∀ j y, n - m ≤ j → j < n → tr T' j y = tr T j y := by
  intro m
  induction m with
  | zero => intro _ _ j y h1 h2; omega
  | succ m ih =>
    intro hm hc j y h1 h2
    simp only [sumM] at hc
    have c1 := cntR_mono (n := n) (k := n - (m + 1)) h
    have c2 := sumM_mono (n := n) h m
    by_cases hj : j = n - (m + 1)
    · subst hj; exact cntR_same hs hs' h2 h (by omega) y
    · exact ih (by omega) (by omega) j y (by omega) h2
theorem has_cong2 {T T' : Rows} {n m : Nat} (hm : m ≤ n) (h : ∀ j y, n - m ≤ j → j < n → tr T' j y = tr T j y) : ∀ p, has T n m p = has T' n m p := by
  induction m with
  | zero => intro p; rfl
  | succ m ih =>
    intro p
    simp only [has]
    rw [h _ _ (Nat.le_refl _) (by omega), ih (by omega) (fun j y h1 h2 => h j y (by omega) h2)]
theorem sumM_lt {n k : Nat} {G G' : Gens} {T T' : Rows} {p : List Int} (hs : Shape n G T) (hs' : Shape n G' T') (h : Ext T T') (h0 : has T n (n - k) p = false) (h1 : has T' n (n - k) p = true) : sumM n T (n - k) < sumM n T' (n - k) := by
  apply Classical.byContradiction
  intro hc
  have := has_cong2 (Nat.sub_le n k) (sumM_same hs hs' h (n - k) (Nat.sub_le n k) (by omega)) p
  rw [h0, h1] at this; cases this
/-- the levels from k on have few generators -/
def Ln (n k : Nat) (G : Gens) (T : Rows) : Prop := ∀ j, k ≤ j → j < n → (lv G j).length ≤ sumM n T (n - j)
theorem Ln.le {n k : Nat} {G : Gens} {T : Rows} (h : Ln n k G T) {j : Nat} (hj : k ≤ j) (hjn : j < n) (hn : n ≤ 20) : (lv G j).length ≤ 400 := by
  have h1 := h j hj hjn
  have h2 := sumM_le n T (n - j)
  have h3 : (n - j) * n ≤ 20 * 20 := Nat.mul_le_mul (by omega) hn
  omega
theorem Ln.mono {n k k' : Nat} {G : Gens} {T : Rows} (h : Ln n k G T) (hk : k ≤ k') : Ln n k' G T := fun j h1 h2 => h j (by omega) h2
theorem Ln.ext {n k : Nat} {G G' : Gens} {T T' : Rows} (h : Ln n k G T) (hG : ∀ j, k ≤ j → lv G' j = lv G j) (hT : Ext T T') : Ln n k G' T' := fun j h1 h2 => by
  rw [hG j h1]; exact Nat.le_trans (h j h1 h2) (sumM_mono hT _)
/-- one generator more, that was not known and is now -/
theorem Ln.more {n k : Nat} {G G' : Gens} {T T' : Rows} {p : List Int} (hs : Shape n G T) (hs' : Shape n G' T') (h : Ln n k G T) (h' : Ln n (k + 1) G' T') (he : Ext T T') (h0 : has T n (n - k) p = false) (h1 : has T' n (n - k) p = true)
    (hl : (lv G' k).length = (lv G k).length + 1) : Ln n k G' T' := fun j hj hjn => by
  by_cases e : j = k
  · subst e
    have := sumM_lt hs hs' he h0 h1
    have := h j (Nat.le_refl _) hjn
    omega
  · exact h' j (by omega) hjn
theorem Ln.zero (n : Nat) : Ln n 0 (G0 n) (T0 n) := fun j _ _ => by rw [lv_G0]; simp
end PM
