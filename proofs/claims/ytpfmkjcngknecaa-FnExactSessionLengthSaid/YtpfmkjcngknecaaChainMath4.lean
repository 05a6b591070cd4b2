/- Plain facts on the making of stabilizer chains product by product. -/
import Derived.Test.YtpfmkjcngknecaaChainMath3
namespace PM

theorem has_one {n : Nat} {T : Rows} (hw : WF n T) : ∀ m, m ≤ n → has T n m (pts n) = true := by
  intro m
  induction m with
  | zero => intro _; rfl
  | succ m ih =>
    intro hm
    have e : at_ (pts n) ((n - (m + 1) : Nat) : Int) = ((n - (m + 1) : Nat) : Int) := at_pts (by omega) (by omega)
    have e2 := hw.one (n - (m + 1)) (by omega)
    simp only [has]
    rw [e, e2, if_neg (pts_ne (by omega)), comp_inv (PN.id n)]
    exact ih (by omega)

/-- the products of the new entries of row k with the generators L are known -/
def New (n k : Nat) (L : List (List Int)) (T T' : Rows) : Prop := ∀ y g, tr T k y = [] → tr T' k y ≠ [] → g ∈ L → Ok T' n k (comp (tr T' k y) g)
theorem New.refl (n k : Nat) (L : List (List Int)) (T : Rows) : New n k L T T := fun _ _ h h' _ => absurd h h'
theorem New.trans {n k : Nat} {L : List (List Int)} {T T1 T2 : Rows} (h : New n k L T T1) (he : Ext T1 T2) (h' : New n k L T1 T2) : New n k L T T2 := fun y g h0 h2 hg => by
  by_cases h1 : tr T1 k y = []
  · exact h' y g h1 h2 hg
  · rw [he k y h1]; exact (h y g h0 h1 hg).mono he
theorem New.same {n k : Nat} {L : List (List Int)} {T T' : Rows} (h : ∀ y, tr T' k y = tr T k y) : New n k L T T' := fun y _ h0 h1 _ => absurd (by rw [h]; exact h0) h1

/-- what the treatment of a product q leaves -/
structure Prod (n k : Nat) (q : List Int) (G : Gens) (T : Rows) (G' : Gens) (T' : Rows) : Prop where
  base : Base n G' T'
  cpl : Cpl n (k + 1) G' T'
  grew : Grew n k G T G' T'
  lvk : lv G' k = lv G k
  ok : Ok T' n k q
  new : New n k (lv G k) T T'
theorem Prod.deep {n k : Nat} {q : List Int} {G G' : Gens} {T T' : Rows} (hn : tr T k (at_ q (k : Int)) ≠ []) (h : Added n (k + 1) (res T k q) G T G' T') : Prod n k q G T G' T' := by
  obtain ⟨a, b, c, d⟩ := h.up hn
  exact ⟨a, b, c.mono (Nat.le_succ k), c.low k (by omega), d, New.same fun y => c.lowT k y (by omega)⟩

/-- products Ps treated one after the other, the first j of them done -/
structure PL (n k : Nat) (G1 : Gens) (T1 : Rows) (Ps : List (List Int)) (j : Nat) (G' : Gens) (T' : Rows) : Prop where
  base : Base n G' T'
  cpl : Cpl n (k + 1) G' T'
  grew : Grew n k G1 T1 G' T'
  lvk : lv G' k = lv G1 k
  oks : ∀ q ∈ Ps.take j, Ok T' n k q
  new : New n k (lv G1 k) T1 T'
theorem PL.start {n k : Nat} {G : Gens} {T : Rows} (hB : Base n G T) (hC : Cpl n (k + 1) G T) (Ps : List (List Int)) : PL n k G T Ps 0 G T :=
  ⟨hB, hC, Grew.refl _ _ _ _, rfl, fun q hq => by simp at hq, New.refl _ _ _ _⟩
theorem PL.step {n k : Nat} {G1 G' G2 : Gens} {T1 T' T2 : Rows} {Ps : List (List Int)} {j : Nat} (h : PL n k G1 T1 Ps j G' T') (hj : j < Ps.length) (hp : Prod n k Ps[j] G' T' G2 T2) : PL n k G1 T1 Ps (j + 1) G2 T2 := by
  refine ⟨hp.base, hp.cpl, h.grew.trans hp.grew, hp.lvk.trans h.lvk, fun q hq => ?_, h.new.trans hp.grew.ext ?_⟩
  · rw [List.take_succ_eq_append_getElem hj] at hq
    rcases List.mem_append.1 hq with hq | hq
    · exact (h.oks q hq).mono hp.grew.ext
    · have : q = Ps[j] := by simpa using hq
      subst this; exact hp.ok
  · have := hp.new
    rwa [h.lvk] at this
/-- a product that is a new entry of the row: its own products have been treated -/
theorem Prod.fresh {n k : Nat} {G G' : Gens} {T T' : Rows} {q : List Int} {m : Nat} {j : Nat} (hs : Shape n G T) (hk : k < n) (hB : Base n G T) (hC : Cpl n (k + 1) G T) (hq : PN n q) (hf : Fix k q) (hg : Grp n (lv G k) q)
    (hm : at_ q (k : Int) = (m : Int)) (hmn : m < n) (h0 : tr T k (m : Int) = []) (hj : ((lv G k).map (comp q)).length ≤ j) (h : PL n k G (setT T k m q) ((lv G k).map (comp q)) j G' T') : Prod n k q G T G' T' := by
  obtain ⟨-, -, g3⟩ := step_row hs hk hB hC hq hf hg hm hmn h0
  have hl := fun j y => tr_setT (T := T) (k := k) (m := m) (by rw [hs.lt]; exact hk) (by rw [hs.lr k hk]; exact hmn) q j y
  have hne : q ≠ [] := hq.ne (by omega)
  have e1 : tr (setT T k m q) k (m : Int) = q := by rw [hl, if_pos ⟨rfl, rfl⟩]
  have e2 : tr T' k (m : Int) = q := by rw [h.grew.ext k _ (by rw [e1]; exact hne), e1]
  refine ⟨h.base, h.cpl, g3.trans h.grew, h.lvk, ⟨by rw [hm, e2]; exact hne, ?_⟩, fun y g hy hy' hgg => ?_⟩
  · unfold res
    rw [hm, e2, comp_inv hq]
    exact has_one h.base.wf _ (by omega)
  · by_cases hym : y = (m : Int)
    · subst hym
      rw [e2]
      exact h.oks _ (by rw [List.take_of_length_le hj]; exact List.mem_map_of_mem hgg)
    · exact h.new y g (by rw [hl, if_neg (by simp [hym])]; exact hy) hy' hgg
/-- a generator more, whose products with the known entries have been treated -/
theorem Added.ofPL {n k : Nat} {G G' : Gens} {T T' : Rows} {p : List Int} {Ps : List (List Int)} {j : Nat} (hs : Shape n G T) (hk : k < n) (hI : Inv n k G T) (hp : May n k p G)
    (hPs : ∀ y, tr T k y ≠ [] → comp (tr T k y) p ∈ Ps) (hj : Ps.length ≤ j) (h : PL n k (G.set k (lv G k ++ [p])) T Ps j G' T') : Added n k p G T G' T' := by
  obtain ⟨s1, s2, s3⟩ := step_gen hs hk hI hp
  have hl : lv (G.set k (lv G k ++ [p])) k = lv G k ++ [p] := by rw [lv_set (by rw [hs.lg]; exact hk), if_pos rfl]
  have hlv : lv G' k = lv G k ++ [p] := h.lvk.trans hl
  refine Added.level hk h.base h.cpl (s3.trans h.grew) (fun y g hy hg => ?_) (by rw [hlv]; simp) (fun g hg => by rw [hlv] at hg; simpa using hg)
  by_cases h0 : tr T k y = []
  · exact h.new y g h0 hy (by rw [← h.lvk]; exact hg)
  · have e := h.grew.ext k y h0
    rw [e]
    rw [hlv] at hg
    rcases List.mem_append.1 hg with hg | hg
    · exact ((inv_iff.1 hI).2 k y g (Nat.le_refl _) hk h0 hg).mono h.grew.ext
    · have : g = p := by simpa using hg
      subst this
      exact h.oks _ (by rw [List.take_of_length_le hj]; exact hPs y h0)
theorem PL.res_may {n k : Nat} {G : Gens} {T : Rows} {q : List Int} (hk : k < n) (hB : Base n G T) (hq : PN n q) (hf : Fix k q) (hg : Grp n (lv G k) q) (hn : tr T k (at_ q (k : Int)) ≠ []) : May n (k + 1) (res T k q) G := step_res hk hB hq hf hg hn
end PM
