/- A stabilizer chain in memory: rows of permutations, generators; a queue of numbers. Ranges, words: the program's and the reference's tests on them. IsPermutation: the reference's and the program's. The identity permutation: the reference's and the program's. Composition and inverse of permutations: the reference's and the program's. The program's stabilizer chain. -/
import Derived.Test.YtlcoejncdbkhcaaRowClaimHoldsG2
import Derived.Test.YtlcoejncdbkhcaaRowClaimHoldsG1
import Derived.Deep.RegionHeld3
import Derived.Deep.DeepCutAuto
import Derived.Deep.RegionLaw
import Derived.WalkSpells
namespace Go.Proofs.Ytlcoejncdbkhcaa
open Go.RowKit
set_option maxRecDepth 10000

/-- where a chain lies -/
structure Lay where
  g : Nat
  bg : Nat
  bt : Nat
  cG : Nat
  cT : Nat
  oG : Nat
  oT : Nat
  rb : Nat → Nat
/-- a chain of n points: M: the blocks that its making writes; F: blocks that it reads and never writes -/
structure Ch (e : TypeId) (B : Nat) (w : World) (L : Lay) (gv : Nat → Value) (n : Nat) (G : PM.Gens) (T : PM.Rows) (M F : List Nat) : Prop where
  shape : PM.Shape n G T
  pos : 0 < n
  le : n ≤ 20
  cn : w.cell? ⟨L.g, 0, none⟩ = some (.int .i64 n)
  cg : w.cell? ⟨L.g, L.oG, none⟩ = some (.slice (some ⟨L.bg, 0, none⟩) n L.cG)
  ct : w.cell? ⟨L.g, L.oT, none⟩ = some (.slice (some ⟨L.bt, 0, none⟩) n L.cT)
  row : ∀ k, k < n → w.cell? ⟨L.bt, k, none⟩ = some (.slice (some ⟨L.rb k, 0, none⟩) n n)
  gen : ∀ k, k < n → w.cell? ⟨L.bg, k, none⟩ = some (gv k)
  elt : ∀ k m : Nat, k < n → m < n → ∃ v f, w.cell? ⟨L.rb k, m, none⟩ = some v ∧ Rd w v (PM.tr T k m) f ∧ (PM.tr T k m = [] → v = .slice none 0 0) ∧ ∀ b ∈ f, b ∈ F
  acc : ∀ k, k < n → ∃ fs, Acc B e w (gv k) (PM.lv G k) fs ∧ ∀ b ∈ fs.flatten, b ∈ F
  mg : L.bg ∈ M
  mr : ∀ k, k < n → L.rb k ∈ M
  ma : ∀ k b, k < n → (gv k).ownBlock = some b → b ∈ M
  gF : L.g ∈ F
  btF : L.bt ∈ F
  mf : ∀ b ∈ M, b ∉ F
  own : Own w (L.bg :: (List.range n).map L.rb)
  lM : ∀ b ∈ M, b < w.heap.size
  lF : ∀ b ∈ F, b < w.heap.size
  ge : ∀ b ∈ M, B ≤ b
  rr : ∀ j k, j < n → k < n → L.rb j = L.rb k → j = k
  rg : ∀ k, k < n → L.rb k ≠ L.bg
  ag : ∀ k b, k < n → (gv k).ownBlock = some b → b ≠ L.bg ∧ ∀ j, j < n → b ≠ L.rb j
  aa : ∀ j k b, j < n → k < n → (gv j).ownBlock = some b → (gv k).ownBlock = some b → j = k

section
variable {e : TypeId} {B : Nat} {w w' : World} {L : Lay} {gv : Nat → Value} {n : Nat} {G : PM.Gens} {T : PM.Rows} {M F : List Nat}
theorem Ch.core (h : Ch e B w L gv n G T M F) : ∀ b ∈ L.bg :: (List.range n).map L.rb, b ∈ M := by
  intro b hb
  rcases List.mem_cons.1 hb with rfl | hb
  · exact h.mg
  · obtain ⟨k, hk, rfl⟩ := List.mem_map.1 hb
    exact h.mr k (List.mem_range.1 hk)
theorem Ch.only (h : Ch e B w L gv n G T M F) {fp : List Nat} (ho : Only fp w w') (hM : ∀ b ∈ fp, b ∉ M) (hF : ∀ b ∈ fp, b ∉ F) : Ch e B w' L gv n G T M F := by
  have gM : ∀ b ∈ M, b ∉ fp := fun b hb hm => hM b hm hb
  have gF : ∀ b ∈ F, b ∉ fp := fun b hb hm => hF b hm hb
  refine ⟨h.shape, h.pos, h.le, ho.cell (gF _ h.gF) h.cn, ho.cell (gF _ h.gF) h.cg, ho.cell (gF _ h.gF) h.ct, fun k hk => ho.cell (gF _ h.btF) (h.row k hk), fun k hk => ho.cell (gM _ h.mg) (h.gen k hk), ?_, ?_, h.mg, h.mr, h.ma, h.gF, h.btF, h.mf, h.own.only ho (fun b hb => gM b (h.core b hb)), fun b hb => Nat.lt_of_lt_of_le (h.lM b hb) ho.size, fun b hb => Nat.lt_of_lt_of_le (h.lF b hb) ho.size, h.ge, h.rr, h.rg, h.ag, h.aa⟩
  · intro k m hk hm
    obtain ⟨v, f, a, b, c, d⟩ := h.elt k m hk hm
    exact ⟨v, f, ho.cell (gM _ (h.mr k hk)) a, Rp.only b ho fun x hx => gF x (d x hx), c, d⟩
  · intro k hk
    obtain ⟨fs, a, b⟩ := h.acc k hk
    exact ⟨fs, a.only ho (fun x hx => gF x (b x hx)) (fun x hx => gM x (h.ma k x hk hx)), b⟩
theorem Ch.keep (h : Ch e B w L gv n G T M F) (ho : Only [] w w') : Ch e B w' L gv n G T M F := h.only ho (by simp) (by simp)
theorem Ch.frow (h : Ch e B w L gv n G T M F) {k : Nat} (hk : k < n) (i : Nat) : w.frozen? ⟨L.rb k, i, none⟩ = false := h.own.frozen (List.mem_cons_of_mem _ (List.mem_map.2 ⟨k, List.mem_range.2 hk, rfl⟩))
/-- an entry of a row -/
theorem Ch.at (h : Ch e B w L gv n G T M F) {k : Nat} (hk : k < n) {y : Int} (h0 : 0 ≤ y) (hy : y < n) :
    ∃ v f, w.cell? ⟨L.rb k, y.toNat, none⟩ = some v ∧ Rd w v (PM.tr T k y) f ∧ (PM.tr T k y = [] → v = .slice none 0 0) ∧ ∀ b ∈ f, b ∈ F := by
  have := h.elt k y.toNat hk (by omega)
  rwa [show ((y.toNat : Nat) : Int) = y by omega] at this
/-- a nil entry -/
theorem Ch.at_nil (h : Ch e B w L gv n G T M F) {k : Nat} (hk : k < n) {y : Int} (h0 : 0 ≤ y) (hy : y < n) (ht : PM.tr T k y = []) : w.cell? ⟨L.rb k, y.toNat, none⟩ = some (.slice none 0 0) := by
  obtain ⟨v, f, a, b, c, d⟩ := h.at hk h0 hy
  rw [a, c ht]
/-- another entry -/
theorem Ch.at_some (h : Ch e B w L gv n G T M F) {k : Nat} (hk : k < n) {y : Int} (h0 : 0 ≤ y) (hy : y < n) (ht : PM.tr T k y ≠ []) :
    ∃ b off cap f, w.cell? ⟨L.rb k, y.toNat, none⟩ = some (.slice (some ⟨b, off, none⟩) (PM.tr T k y).length cap) ∧ Rd w (.slice (some ⟨b, off, none⟩) (PM.tr T k y).length cap) (PM.tr T k y) f ∧ ∀ b ∈ f, b ∈ F := by
  obtain ⟨v, f, a, b, c, d⟩ := h.at hk h0 hy
  obtain ⟨ad, cap, rfl, hI⟩ := b.ints
  have hl : 0 < (PM.tr T k y).length := List.length_pos_iff.2 ht
  obtain ⟨b', off, rfl, -, -⟩ := hI.at_ 0 hl
  exact ⟨b', off, cap, f, a, b, d⟩

theorem setCell_only (w : World) (b i : Nat) (v : Value) : Only [b] w (w.setCell ⟨b, i, none⟩ v) := (Only.refl [b] w).setCell (by simp) v
/-- an entry more -/
theorem Ch.setRow (h : Ch e B w L gv n G T M F) {k m : Nat} (hk : k < n) (hm : m < n) {v : Value} {p : List Int} {f : List Nat} (hv : Rd w v p f) (hp : p ≠ []) (hf : ∀ b ∈ f, b ∉ M) :
    Ch e B (w.setCell ⟨L.rb k, m, none⟩ v) L gv n G (PM.setT T k m p) M (F ++ f) := by
  have ho := setCell_only w (L.rb k) m v
  have hrM := h.mr k hk
  have gF : ∀ b ∈ F, b ∉ [L.rb k] := fun b hb hm => by
    have e : b = L.rb k := by simpa using hm
    subst e; exact h.mf _ hrM hb
  have gf : ∀ b ∈ f, b ∉ [L.rb k] := fun b hb hm => by
    have e : b = L.rb k := by simpa using hm
    subst e; exact hf _ hb hrM
  have hl := fun j y => PM.tr_setT (T := T) (k := k) (m := m) (by rw [h.shape.lt]; exact hk) (by rw [h.shape.lr k hk]; exact hm) p j y
  refine ⟨h.shape.setT k m p, h.pos, h.le, ho.cell (gF _ h.gF) h.cn, ho.cell (gF _ h.gF) h.cg, ho.cell (gF _ h.gF) h.ct, fun j hj => ho.cell (gF _ h.btF) (h.row j hj), fun j hj => ho.cell (by simpa using (h.rg k hk).symm) (h.gen j hj), ?_, ?_, h.mg, h.mr, h.ma, List.mem_append_left _ h.gF, List.mem_append_left _ h.btF, ?_, h.own.setCell _ _, fun b hb => Nat.lt_of_lt_of_le (h.lM b hb) ho.size, ?_, h.ge, h.rr, h.rg, h.ag, h.aa⟩
  · intro j i hj hi
    rw [hl j i]
    obtain ⟨u, fu, a, b, c, d⟩ := h.elt j i hj hi
    by_cases hji : j = k ∧ (i : Int) = (m : Int)
    · obtain ⟨rfl, e2⟩ := hji
      have e2' : i = m := by omega
      subst e2'
      rw [if_pos ⟨rfl, rfl⟩]
      exact ⟨v, f, World.cell?_setCell_same _ _ _ a, Rp.only hv ho gf, fun e => absurd e hp, fun b hb => List.mem_append_right _ hb⟩
    · rw [if_neg hji]
      refine ⟨u, fu, ?_, Rp.only b ho fun x hx => gF x (d x hx), c, fun b hb => List.mem_append_left _ (d b hb)⟩
      by_cases hjk : j = k
      · subst hjk
        have : i ≠ m := fun e => hji ⟨rfl, by omega⟩
        rw [World.cell?_setCell_other _ _ _ _ (by intro e; injection e with _ e2 _; exact this e2.symm)]; exact a
      · rw [World.cell?_setCell_other _ _ _ _ (by
          intro e; injection e with e1 _ _; exact hjk (h.rr _ _ hj hk e1.symm))]; exact a
  · intro j hj
    obtain ⟨fs, a, b⟩ := h.acc j hj
    refine ⟨fs, a.only ho (fun x hx => gF x (b x hx)) (fun x hx hm => ?_), fun x hx => List.mem_append_left _ (b x hx)⟩
    have e : x = L.rb k := by simpa using hm
    exact (h.ag j x hj hx).2 k hk e
  · intro b hb hm
    rcases List.mem_append.1 hm with hm | hm
    · exact h.mf b hb hm
    · exact hf b hm hb
  · intro b hb
    rcases List.mem_append.1 hb with hb | hb
    · exact Nat.lt_of_lt_of_le (h.lF b hb) ho.size
    · exact Nat.lt_of_lt_of_le (Rp.lt hv b hb) ho.size
def upd (gv : Nat → Value) (k : Nat) (v : Value) : Nat → Value := fun j => if j = k then v else gv j
theorem upd_same (gv : Nat → Value) (k : Nat) (v : Value) : upd gv k v k = v := if_pos rfl
theorem upd_other (gv : Nat → Value) {j k : Nat} (v : Value) (h : j ≠ k) : upd gv k v j = gv j := if_neg h
/-- a generator more -/
theorem Ch.setGen (h : Ch e B w L gv n G T M F) {k : Nat} (hk : k < n) {w1 : World} (ho : Only (gv k).ownBlock.toList w w1) {v' : Value} {p : List Int} {fs : List (List Nat)}
    (hA : Acc B e w1 v' (PM.lv G k ++ [p]) fs) {f : List Nat} (hfs : ∀ b ∈ fs.flatten, b ∈ F ∨ b ∈ f) (hf : ∀ b ∈ f, b ∉ M ∧ b < w.heap.size) (hv : v'.ownBlock = (gv k).ownBlock ∨ v'.ownBlock = some w.heap.size) :
    Ch e B (w1.setCell ⟨L.bg, k, none⟩ v') L (upd gv k v') n (G.set k (PM.lv G k ++ [p])) T (v'.ownBlock.toList ++ M) (F ++ f) := by
  have ho2 := setCell_only w1 L.bg k v'
  have hobM : ∀ b ∈ (gv k).ownBlock.toList, b ∈ M := fun b hb => h.ma k b hk (by simpa using hb)
  have gF1 : ∀ b ∈ F, b ∉ (gv k).ownBlock.toList := fun b hb hm => h.mf b (hobM b hm) hb
  have gF2 : ∀ b ∈ F, b ∉ [L.bg] := fun b hb hm => by
    have e : b = L.bg := by simpa using hm
    subst e; exact h.mf _ h.mg hb
  have hsz : w.heap.size ≤ w1.heap.size := ho.size
  have hl := fun j => PM.lv_set (G := G) (k := k) (by rw [h.shape.lg]; exact hk) (PM.lv G k ++ [p]) j
  have hvM : ∀ b, v'.ownBlock = some b → b ∈ M ∧ (gv k).ownBlock = some b ∨ b = w.heap.size := by
    intro b hb
    rcases hv with e | e
    · rw [e] at hb; exact .inl ⟨h.ma k b hk hb, hb⟩
    · rw [e] at hb; injection hb with hb; exact .inr hb.symm
  have hvne : ∀ b, v'.ownBlock = some b → b ≠ L.bg ∧ ∀ j, j < n → b ≠ L.rb j := by
    intro b hb
    rcases hvM b hb with ⟨-, e⟩ | e
    · exact h.ag k b hk e
    · subst e
      refine ⟨fun e => ?_, fun j hj e => ?_⟩
      · have := h.lM _ h.mg; omega
      · have := h.lM _ (h.mr j hj); omega
  have hvo : ∀ j b, j < n → j ≠ k → v'.ownBlock = some b → (gv j).ownBlock ≠ some b := by
    intro j b hj hjk hb he
    rcases hvM b hb with ⟨-, e⟩ | e
    · exact hjk (h.aa j k b hj hk he e)
    · subst e; have := h.lM _ (h.ma j _ hj he); omega
  have hel : ∀ b, b ∈ M → b ∉ (gv k).ownBlock.toList → w1.heap[b]? = w.heap[b]? := fun b hb hn => ho.block b (h.lM b hb) hn
  have hbgk : L.bg ∉ (gv k).ownBlock.toList := fun hm => (h.ag k L.bg hk (by simpa using hm)).1 rfl
  have hrbk : ∀ j, j < n → L.rb j ∉ (gv k).ownBlock.toList := fun j hj hm => (h.ag k _ hk (by simpa using hm)).2 j hj rfl
  refine ⟨h.shape.setG k _, h.pos, h.le, ho2.cell (gF2 _ h.gF) (ho.cell (gF1 _ h.gF) h.cn), ho2.cell (gF2 _ h.gF) (ho.cell (gF1 _ h.gF) h.cg), ho2.cell (gF2 _ h.gF) (ho.cell (gF1 _ h.gF) h.ct),
    fun j hj => ho2.cell (gF2 _ h.btF) (ho.cell (gF1 _ h.btF) (h.row j hj)), ?_, ?_, ?_, List.mem_append_right _ h.mg, fun j hj => List.mem_append_right _ (h.mr j hj), ?_, List.mem_append_left _ h.gF, List.mem_append_left _ h.btF, ?_, ?_, ?_, ?_, ?_, h.rr, h.rg, ?_, ?_⟩
  · intro j hj
    have hc := ho.cell (p := ⟨L.bg, j, none⟩) hbgk (h.gen j hj)
    by_cases hjk : j = k
    · subst hjk
      rw [upd_same]; exact World.cell?_setCell_same _ _ _ hc
    · rw [upd_other _ _ hjk, World.cell?_setCell_other _ _ _ _ (by intro e; injection e with _ e2 _; exact hjk e2.symm)]; exact hc
  · intro j i hj hi
    obtain ⟨u, fu, a, b, c, d⟩ := h.elt j i hj hi
    refine ⟨u, fu, ho2.cell (by simpa using h.rg j hj) (ho.cell (hrbk j hj) a), Rp.only (Rp.only b ho fun x hx => gF1 x (d x hx)) ho2 fun x hx => gF2 x (d x hx), c, fun x hx => List.mem_append_left _ (d x hx)⟩
  · intro j hj
    rw [hl j]
    by_cases hjk : j = k
    · subst hjk
      rw [upd_same, if_pos rfl]
      refine ⟨fs, hA.only ho2 (fun x hx hm => ?_) (fun x hx hm => ?_), fun x hx => ?_⟩
      · have e : x = L.bg := by simpa using hm
        subst e
        rcases hfs _ hx with h1 | h1
        · exact h.mf _ h.mg h1
        · exact (hf _ h1).1 h.mg
      · exact (hvne x hx).1 (by simpa using hm)
      · rcases hfs x hx with h1 | h1
        · exact List.mem_append_left _ h1
        · exact List.mem_append_right _ h1
    · rw [upd_other _ _ hjk, if_neg hjk]
      obtain ⟨fs', a, b⟩ := h.acc j hj
      refine ⟨fs', (a.only ho (fun x hx => gF1 x (b x hx)) (fun x hx hm => ?_)).only ho2 (fun x hx => gF2 x (b x hx)) (fun x hx hm => ?_), fun x hx => List.mem_append_left _ (b x hx)⟩
      · exact hjk (h.aa j k x hj hk hx (by simpa using hm))
      · exact (h.ag j x hj hx).1 (by simpa using hm)
  · intro j b hj hb
    by_cases hjk : j = k
    · subst hjk
      rw [upd_same] at hb; exact List.mem_append_left _ (by simp [hb])
    · rw [upd_other _ _ hjk] at hb; exact List.mem_append_right _ (h.ma j b hj hb)
  · intro b hb hm
    have hbF : b ∈ F → False := fun hF => by
      rcases List.mem_append.1 hb with hb | hb
      · rcases hvM b (by simpa using hb) with ⟨e, -⟩ | e
        · exact h.mf b e hF
        · have := h.lF b hF; omega
      · exact h.mf b hb hF
    rcases List.mem_append.1 hm with hm | hm
    · exact hbF hm
    · obtain ⟨h1, h2⟩ := hf b hm
      rcases List.mem_append.1 hb with hb | hb
      · rcases hvM b (by simpa using hb) with ⟨e, -⟩ | e
        · exact h1 e
        · omega
      · exact h1 hb
  · refine Own.setCell (h.own.frame fun b hb => ho.block b (h.lM b (h.core b hb)) fun hm => ?_) _ _
    have hm' : (gv k).ownBlock = some b := by simpa using hm
    rcases List.mem_cons.1 hb with e | hb
    · exact (h.ag k b hk hm').1 e
    · obtain ⟨j, hj, e⟩ := List.mem_map.1 hb
      exact (h.ag k b hk hm').2 j (List.mem_range.1 hj) e.symm
  · intro b hb
    have hlt : b < w1.heap.size := by
      rcases List.mem_append.1 hb with hb | hb
      · exact (hA.ownlt b (by simpa using hb)).2
      · exact Nat.lt_of_lt_of_le (h.lM b hb) ho.size
    exact Nat.lt_of_lt_of_le hlt ho2.size
  · intro b hb
    have : b < w.heap.size := by
      rcases List.mem_append.1 hb with hb | hb
      · exact h.lF b hb
      · exact (hf b hb).2
    exact Nat.lt_of_lt_of_le (Nat.lt_of_lt_of_le this ho.size) ho2.size
  · intro b hb
    rcases List.mem_append.1 hb with hb | hb
    · exact (hA.ownlt b (by simpa using hb)).1
    · exact h.ge b hb
  · intro j b hj hb
    by_cases hjk : j = k
    · subst hjk; rw [upd_same] at hb; exact hvne b hb
    · rw [upd_other _ _ hjk] at hb; exact h.ag j b hj hb
  · intro i j b hi hj h1 h2
    by_cases hik : i = k
    · by_cases hjk : j = k
      · omega
      · subst hik; rw [upd_same] at h1; rw [upd_other _ _ hjk] at h2
        exact absurd h2 (hvo j b hj hjk h1)
    · rw [upd_other _ _ hik] at h1
      by_cases hjk : j = k
      · subst hjk; rw [upd_same] at h2; exact absurd h1 (hvo i b hi hik h2)
      · rw [upd_other _ _ hjk] at h2; exact h.aa i j b hi hj h1 h2
end
end Go.Proofs.Ytlcoejncdbkhcaa

namespace Go.Proofs.Ytlcoejncdbkhcaa
open Go.RowKit
set_option maxRecDepth 10000

def inR (x lo hi : Int) : Bool := decide (lo ≤ x) && decide (x ≤ hi)
theorem inR_iff {x lo hi : Int} : inR x lo hi = true ↔ lo ≤ x ∧ x ≤ hi := by simp [inR]
theorem inR_not {x lo hi : Int} : inR x lo hi = false ↔ ¬ (lo ≤ x ∧ x ≤ hi) := by rw [← inR_iff]; simp

theorem inRange_any (x lo hi : Int) (w : World) :
    Calls Try.prog 48 #[.int .i64 x, .int .i64 lo, .int .i64 hi] w fun e w' => e = .returned (.bool (inR x lo hi)) ∧ w' = w := by
  by_cases h1 : lo ≤ x
  · by_cases h2 : x ≤ hi
    · go_enter Try.func48, Try.ntmps48
      go_wp2
      go_ret
      exact ⟨ret_bool (by simp [inR, h1, h2]), rfl⟩
    · go_enter Try.func48, Try.ntmps48
      go_wp2
      go_ret
      exact ⟨ret_bool (by simp [inR, h2]), rfl⟩
  · go_enter Try.func48, Try.ntmps48
    go_wp2
    go_ret
    exact ⟨ret_bool (by simp [inR]; omega), rfl⟩
theorem within_any (x lo hi : Int) (w : World) :
    Calls Try.prog 57 #[.int .i64 x, .int .i64 lo, .int .i64 hi] w fun e w' => e = .returned (.bool (inR x lo hi)) ∧ w' = w := by
  by_cases h1 : lo ≤ x
  · by_cases h2 : x ≤ hi
    · go_enter Try.func57, Try.ntmps57
      go_wp2
      go_ret
      exact ⟨ret_bool (by simp [inR, h1, h2]), rfl⟩
    · go_enter Try.func57, Try.ntmps57
      go_wp2
      go_ret
      exact ⟨ret_bool (by simp [inR, h2]), rfl⟩
  · go_enter Try.func57, Try.ntmps57
    go_wp2
    go_ret
    exact ⟨ret_bool (by simp [inR]; omega), rfl⟩

end Go.Proofs.Ytlcoejncdbkhcaa


namespace Go.Proofs.Ytlcoejncdbkhcaa
open Go.RowKit
set_option maxRecDepth 10000

/-- the same as quiet_drewN at a function's beginning -/
theorem quiet_drewN0 {P : Program} {f : FuncId} {args : Array Value} {w : World} {n : Nat} {v : Value}
    (h : Calls P f args (w.drewN n) fun e w' => e = .returned v ∧ Drew (w.drewN n) w') :
    Calls P f args (w.drewN n) fun e w'' => e = .returned v ∧ ∃ m, w'' = w.drewN m :=
  h.mono fun _ _ ⟨he, m, hm⟩ => ⟨he, n + m, by rw [hm, World.drewN_drewN]⟩
theorem IntsA.take {w : World} {a : Option Addr} {cap : Nat} {l : List Int} {fp : List Nat} (h : IntsA w a cap l fp) (j : Nat) : IntsA w a cap (l.take j) fp := by
  refine ⟨Nat.le_trans (by simp; omega) h.len, h.cap, fun x hx => h.wf x (List.mem_of_mem_take hx), fun k hk => ?_, h.lt, h.one⟩
  have hk' : k < l.length := by simp at hk; omega
  obtain ⟨b, off, e1, e2, e3⟩ := h.at_ k hk'
  exact ⟨b, off, e1, e2, by rw [e3]; simp⟩
def permB (l : List Int) : Bool := inR l.length 1 20 && decide (PM.IsP l)
theorem permB_iff {l : List Int} : permB l = true ↔ (1 ≤ l.length ∧ l.length ≤ 20) ∧ PM.IsP l := by
  simp [permB, inR]; omega
theorem mem_take_step {l : List Int} {j : Nat} (h : j < l.length) {P : Int → Prop} (h1 : ∀ x ∈ l.take j, P x) (h2 : P l[j]) : ∀ x ∈ l.take (j + 1), P x := by
  rw [take_succ_get l j h]
  intro x hx
  rcases List.mem_append.1 hx with hx | hx
  · exact h1 x hx
  · simp at hx; subst hx; exact h2
theorem nodup_take_step {l : List Int} {j : Nat} (h : j < l.length) (h1 : (l.take j).Nodup) (h2 : l[j] ∉ l.take j) : (l.take (j + 1)).Nodup := by
  rw [take_succ_get l j h]
  exact List.nodup_append.2 ⟨h1, by simp, by intro a ha b hb e; simp at hb; subst hb; subst e; exact h2 ha⟩
theorem nodup_take_not {l : List Int} {j : Nat} (h : j < l.length) (h2 : l[j] ∈ l.take j) : ¬ l.Nodup := by
  intro hn
  have h3 : (l.take (j + 1)).Nodup := List.Nodup.sublist (List.take_sublist _ _) hn
  rw [take_succ_get l j h] at h3
  exact (List.nodup_append.1 h3).2.2 _ h2 _ (by simp) rfl

set_option maxHeartbeats 400000 in
theorem containsInt_any (a : Option Addr) (cap : Nat) (l : List Int) (n : Int) (fp : List Nat) (w : World) (h : IntsA w a cap l fp) :
    Calls Try.prog 49 #[.slice a l.length cap, .int .i64 n] w fun e w' => e = .returned (.bool (decide (n ∈ l))) ∧ Drew w w' := by
  have hb := h.bound
  go_enter Try.func49, Try.ntmps49
  go_wp2
  go_loopw [5] (fun i wr => ∃ j : Nat, j ≤ l.length ∧ i = .int .i64 j ∧ n ∉ l.take j ∧ Drew w wr)
    (fun i _ => l.length - (intOf i).toNat)
  case atStart => exact ⟨0, Nat.zero_le _, rfl, by simp, Drew.refl _⟩
  case round =>
    obtain ⟨j, hj, rfl, hr, k, rfl⟩ := hrel
    have Hr := Lib.hid hr; clear hr
    by_cases hlt : j < l.length
    · obtain ⟨b, off, rfl, -, hc⟩ := h.at_ j hlt
      by_cases hx : l[j] = n
      · have hq : (l[j] == n) = true := by simp [hx]
        have Hx := Lib.hid hx; clear hx
        go_wp2
        go_ret
        exact ⟨ret_bool (decide_eq_true (by rw [← Hx.out]; exact List.getElem_mem _)).symm, ⟨_, rfl⟩⟩
      · have hq : (l[j] == n) = false := by simp [hx]
        have Hx := Lib.hid hx; clear hx
        go_wp2
        go_roundw
        case rel => exact ⟨j + 1, by omega, by go_num, by
          rw [take_succ_get l j hlt]; intro hm
          rcases List.mem_append.1 hm with hm | hm
          · exact Hr.out hm
          · simp at hm; exact Hx.out hm.symm, ⟨_, rfl⟩⟩
        case measure => simp [intOf]; omega
    · go_wp2
      go_ret
      exact ⟨ret_bool (decide_eq_false (by have := Hr.out; rwa [List.take_of_length_le (by omega)] at this)).symm, ⟨_, rfl⟩⟩
theorem containsInt_pre (a : Option Addr) (cap : Nat) (l : List Int) (j : Nat) (n : Int) (fp : List Nat) (w : World) (h : IntsA w a cap l fp) (hj : j ≤ l.length) :
    Calls Try.prog 49 #[.slice a j cap, .int .i64 n] w fun e w' => e = .returned (.bool (decide (n ∈ l.take j))) ∧ Drew w w' := by
  have := containsInt_any a cap (l.take j) n fp w (h.take j)
  rwa [show (l.take j).length = j by simp; omega] at this
theorem inRange_q (x lo hi : Int) (w : World) :
    Calls Try.prog 48 #[.int .i64 x, .int .i64 lo, .int .i64 hi] w fun e w' => e = .returned (.bool (inR x lo hi)) ∧ Drew w w' :=
  (inRange_any x lo hi w).mono fun _ _ ⟨h1, h2⟩ => ⟨h1, by rw [h2]; exact Drew.refl _⟩
set_option maxHeartbeats 1000000 in
theorem specIsPerm_any (a : Option Addr) (cap : Nat) (l : List Int) (fp : List Nat) (w : World) (h : IntsA w a cap l fp) :
    Calls Try.prog 33 #[.slice a l.length cap] w fun e w' => e = .returned (.bool (permB l)) ∧ Drew w w' := by
  have hb := h.bound
  rcases hq : inR l.length 1 20
  · go_enter Try.func33, Try.ntmps33
    go_wp2_with ((go_at_call 48; (with_reducible refine (inRange_any l.length 1 20 _).mono ?_); rintro e w1 ⟨rfl, rfl⟩))
    go_ret
    exact ⟨ret_bool (by unfold permB; rw [hq]; rfl), Drew.refl _⟩
  have hfin : permB l = decide (PM.IsP l) := by unfold permB; rw [hq]; rfl
  have Hfin := Lib.hid hfin; clear hfin
  obtain ⟨g1, g2⟩ := inR_iff.1 hq
  go_enter Try.func33, Try.ntmps33
  go_wp2_with ((go_at_call 48; (with_reducible refine (inRange_any l.length 1 20 _).mono ?_); rintro e w ⟨rfl, rfl⟩))
  go_loopw [4] (fun i wr => ∃ j : Nat, j ≤ l.length ∧ i = .int .i64 j ∧ (∀ x ∈ l.take j, 0 ≤ x ∧ x < l.length) ∧ (l.take j).Nodup ∧ Drew w wr)
    (fun i _ => l.length - (intOf i).toNat)
  case atStart => exact ⟨0, Nat.zero_le _, rfl, by simp, by simp, Drew.refl _⟩
  case round =>
    obtain ⟨j, hj, rfl, hr, hn, k, rfl⟩ := hrel
    have Hr := Lib.hid hr; clear hr
    have Hn := Lib.hid hn; clear hn
    by_cases hlt : j < l.length
    · obtain ⟨b, off, rfl, -, hc⟩ := h.at_ j hlt
      have hcap := h.len
      have hi1 : (0 : Int) ≤ (j : Int) := by omega
      have hi2 : (j : Int) < (l.length : Int) := by omega
      rcases c1 : inR l[j] 0 (l.length - 1)
      · go_wp2
        go_quiet ((go_at_call 48; exact quiet_drewN (inRange_q l[j] 0 (l.length - 1) _)))
        go_wp2
        go_ret
        exact ⟨ret_bool (by rw [Hfin.out, eq_comm, decide_eq_false_iff_not]; intro hp; have := hp.1 l[j] (List.getElem_mem _); rw [inR_not] at c1; omega), ((Drew.refl _).drewN _).drewN _⟩
      have hx := inR_iff.1 c1
      have Hx := Lib.hid hx; clear hx
      rcases c2 : decide (l[j] ∈ l.take j)
      all_goals go_wp2
      all_goals go_quiet (first
        | (go_at_call 48; exact quiet_drewN (inRange_q l[j] 0 (l.length - 1) _))
        | (go_at_call 49; exact quiet_drewN (containsInt_pre (some ⟨b, off, none⟩) cap l j l[j] fp _ (h.keep (Only.ofDrewN _ _ _)) hj)))
      · have C2 := Lib.hid (of_decide_eq_false c2); clear c2
        go_wp2
        go_roundw
        case rel => exact ⟨j + 1, by omega, by go_num, mem_take_step hlt Hr.out (by have := Hx.out; omega), nodup_take_step hlt Hn.out C2.out, ⟨_, rfl⟩⟩
        case measure => simp [intOf]; omega
      · have C2 := Lib.hid (of_decide_eq_true c2); clear c2
        go_wp2
        go_ret
        exact ⟨ret_bool (by rw [Hfin.out, eq_comm, decide_eq_false_iff_not]; intro hp; exact nodup_take_not hlt C2.out hp.2), ((Drew.refl _).drewN _).drewN _⟩
    · go_wp2
      go_ret
      exact ⟨ret_bool (by rw [Hfin.out, eq_comm, decide_eq_true_iff]; have h1 := Hr.out; have h2 := Hn.out; rw [List.take_of_length_le (by omega)] at h1 h2; exact ⟨h1, h2⟩), ⟨_, rfl⟩⟩
theorem specIsPerm_rd (v : Value) (l : List Int) (fp : List Nat) (w : World) (h : Rd w v l fp) :
    Calls Try.prog 33 #[v] w fun e w' => e = .returned (.bool (permB l)) ∧ Drew w w' := by
  obtain ⟨a, cap, rfl, hI⟩ := h.ints
  exact specIsPerm_any a cap l fp w hI
theorem lengthRows_rd (v : Value) (l : List (List Int)) (fp : List Nat) (w : World) (h : Rd w v l fp) :
    Calls Try.prog 65 #[v] w fun e w' => e = .returned (.int .i64 l.length) ∧ w' = w := by
  obtain ⟨a, cap, ob, fps, rfl, -, hs⟩ := h.open_
  have hb := hs.bound
  go_enter Try.func65, Try.ntmps65
  go_wp2
  go_ret
  exact ⟨rfl, rfl⟩
theorem lengthInt_rd (v : Value) (l : List Int) (fp : List Nat) (w : World) (h : Rd w v l fp) :
    Calls Try.prog 40 #[v] w fun e w' => e = .returned (.int .i64 l.length) ∧ w' = w := by
  obtain ⟨a, cap, rfl, hI⟩ := h.ints
  have hb := hI.bound
  go_enter Try.func40, Try.ntmps40
  go_wp2
  go_ret
  exact ⟨rfl, rfl⟩
theorem wrap64_small (n : Int) (h0 : 0 ≤ n) (h1 : n < 9223372036854775808) : wrap64 n = n := by
  unfold wrap64; omega
theorem pow_small {k : Nat} (h : k ≤ 20) : (2 : Int) ^ k ≤ 1048576 ∧ 1 ≤ (2 : Int) ^ k := by
  have h1 : 2 ^ k ≤ 2 ^ 20 := Nat.pow_le_pow_right (by decide) h
  have h2 : 1 ≤ 2 ^ k := Nat.one_le_two_pow
  have e : ((2 : Int) ^ k) = ((2 ^ k : Nat) : Int) := by simp
  rw [e]
  constructor
  · have : (2 : Nat) ^ 20 = 1048576 := by decide
    omega
  · omega
theorem or_step (m : Nat) (hm : m < 2 ^ 20) (x : Int) (h0 : 0 ≤ x) (h1 : x ≤ 19) : bits BinOp.or IntKind.i64 (m : Int) (wrap64 (2 ^ x.toNat)) = ((m ||| 2 ^ x.toNat : Nat) : Int) := by
  have hp := pow_small (k := x.toNat) (by omega)
  rw [wrap64_small _ (by omega) (by omega)]
  have e : ((2 : Int) ^ x.toNat) = ((2 ^ x.toNat : Nat) : Int) := by simp
  rw [e]
  refine (bits_nat .i64 20 (by decide) ?_ m (2 ^ x.toNat) hm (Nat.pow_lt_pow_right (by decide) (by omega))).2
  intro n hn0 hn1
  have : (2 : Int) ^ 20 = 1048576 := by decide
  rw [IntKind.wrap_i64]; omega
theorem mask_end (l : List Int) (h : ∀ x ∈ l, 0 ≤ x ∧ x < l.length) (hl : l.length ≤ 20) : ((PM.mask l : Int) == wrap64 (wrap64 (2 ^ l.length) - 1)) = decide (PM.IsP l) := by
  have hp := pow_small hl
  rw [wrap64_small (2 ^ l.length) (by omega) (by omega), wrap64_small _ (by omega) (by omega)]
  have h1 : 1 ≤ 2 ^ l.length := Nat.one_le_two_pow
  have e : ((2 : Int) ^ l.length) - 1 = ((2 ^ l.length - 1 : Nat) : Int) := by
    rw [Int.natCast_sub h1]; simp
  rw [e]
  by_cases hm : PM.IsP l
  · rw [decide_eq_true hm, (PM.mask_full l h).2 hm]; simp
  · rw [decide_eq_false hm]
    have : PM.mask l ≠ 2 ^ l.length - 1 := fun he => hm ((PM.mask_full l h).1 he)
    simp only [beq_eq_false_iff_ne, ne_eq]
    omega
set_option maxHeartbeats 1000000 in
theorem implIsPerm_any (a : Option Addr) (cap : Nat) (l : List Int) (fp : List Nat) (w : World) (h : IntsA w a cap l fp) :
    Calls Try.prog 41 #[.slice a l.length cap] w fun e w' => e = .returned (.bool (permB l)) ∧ Drew w w' := by
  have hb := h.bound
  rcases hq : inR l.length 1 20
  · go_enter Try.func41, Try.ntmps41
    go_wp2_with (first | (go_at_call 40; (with_reducible refine (lengthInt_rd _ l fp _ h.rd).mono ?_); rintro e w ⟨rfl, rfl⟩) | (go_at_call 57; (with_reducible refine (within_any l.length 1 20 _).mono ?_); rintro e w ⟨rfl, rfl⟩))
    go_ret
    exact ⟨ret_bool (by unfold permB; rw [hq]; rfl), Drew.refl _⟩
  have hfin : permB l = decide (PM.IsP l) := by unfold permB; rw [hq]; rfl
  have Hfin := Lib.hid hfin; clear hfin
  obtain ⟨g1, g2⟩ := inR_iff.1 hq
  go_enter Try.func41, Try.ntmps41
  go_wp2_with (first | (go_at_call 40; (with_reducible refine (lengthInt_rd _ l fp _ h.rd).mono ?_); rintro e w ⟨rfl, rfl⟩) | (go_at_call 57; (with_reducible refine (within_any l.length 1 20 _).mono ?_); rintro e w ⟨rfl, rfl⟩))
  go_loopw [3, 12] (fun sn i wr => ∃ j : Nat, j ≤ l.length ∧ i = .int .i64 j ∧ sn = .int .i64 (PM.mask (l.take j) : Nat) ∧ (∀ x ∈ l.take j, 0 ≤ x ∧ x < l.length) ∧ Drew w wr)
    (fun _ i _ => l.length - (intOf i).toNat)
  case atStart => exact ⟨0, Nat.zero_le _, rfl, rfl, by simp, Drew.refl _⟩
  case round =>
    obtain ⟨j, hj, rfl, rfl, hr, k, rfl⟩ := hrel
    have Hr := Lib.hid hr; clear hr
    by_cases hlt : j < l.length
    · obtain ⟨b, off, ha, -, hc⟩ := h.at_ j hlt
      subst ha
      rcases c1 : inR l[j] 0 (l.length - 1)
      · go_wp2_with (first | (go_at_call 40; (with_reducible refine (lengthInt_rd _ l fp _ (Rp.keep h.rd (Only.ofDrewN _ _ _))).mono ?_); rintro e w1 ⟨rfl, rfl⟩) | (go_at_call 57; (with_reducible refine (within_any l[j] 0 (l.length - 1) _).mono ?_); rintro e w1 ⟨rfl, rfl⟩))
        go_ret
        exact ⟨ret_bool (by rw [Hfin.out, eq_comm, decide_eq_false_iff_not]; intro hp; have := hp.1 l[j] (List.getElem_mem _); rw [inR_not] at c1; omega), ⟨_, rfl⟩⟩
      have hx := inR_iff.1 c1
      have Hx := Lib.hid hx; clear hx
      have hx0 : 0 ≤ l[j] := Hx.out.1
      have hx1 : l[j] ≤ 19 := by have := Hx.out; omega
      have hm := or_step (PM.mask (l.take j)) (Nat.lt_of_lt_of_le (PM.mask_lt _ l.length Hr.out) (Nat.pow_le_pow_right (by decide) (by omega))) l[j] hx0 hx1
      have Hm := Lib.hid hm; clear hm
      go_wp2_with (first | (go_at_call 40; (with_reducible refine (lengthInt_rd _ l fp _ (Rp.keep h.rd (Only.ofDrewN _ _ _))).mono ?_); rintro e w1 ⟨rfl, rfl⟩) | (go_at_call 57; (with_reducible refine (within_any l[j] 0 (l.length - 1) _).mono ?_); rintro e w1 ⟨rfl, rfl⟩))
      refine ⟨⟨j + 1, by omega, by go_num, ?_, mem_take_step hlt Hr.out (by have := Hx.out; omega), ⟨_, rfl⟩⟩, by simp [intOf]; omega⟩
      rw [take_succ_get l j hlt, PM.mask_append, Hm.out]
    · go_wp2
      go_ret
      exact ⟨ret_bool (by have h1 := Hr.out; rw [List.take_of_length_le (by omega)] at h1 ⊢; rw [Hfin.out]; exact mask_end l h1 (by omega)), ⟨_, rfl⟩⟩
theorem implIsPerm_rd (v : Value) (l : List Int) (fp : List Nat) (w : World) (h : Rd w v l fp) :
    Calls Try.prog 41 #[v] w fun e w' => e = .returned (.bool (permB l)) ∧ Drew w w' := by
  obtain ⟨a, cap, rfl, hI⟩ := h.ints
  exact implIsPerm_any a cap l fp w hI
end Go.Proofs.Ytlcoejncdbkhcaa

namespace Go.Proofs.Ytlcoejncdbkhcaa
open Go.RowKit
set_option maxRecDepth 10000

theorem pts_succ (k : Nat) : PM.pts (k + 1) = PM.pts k ++ [(k : Int)] := by simp [PM.pts, List.range_succ]
set_option maxHeartbeats 1000000 in
theorem specIdentity_any (m : Nat) (w : World) (hm : m ≤ 1000) :
    Calls Try.prog 55 #[.int .i64 m] w fun e w' => ∃ v fp', e = .returned v ∧ Rd w' v (PM.pts m) fp' ∧ Fresh w.heap.size w' fp' ∧ Only [] w w' := by
  obtain ⟨i0, hi, hz0, hz1, hz2⟩ := info_parts Try.info2
  go_enter Try.func55, Try.ntmps55
  go_wp2
  go_loopw [3, 4] (fun o i wr => ∃ (j : Nat) (fs : List (List Nat)), j ≤ m ∧ i = .int .i64 j ∧ Acc w.heap.size 2 wr o (PM.pts j) fs ∧ Fresh w.heap.size wr fs.flatten ∧ Only [] w wr)
    (fun _ i _ => m - (intOf i).toNat)
  case atStart => exact ⟨0, [], Nat.zero_le _, rfl, Acc.made w w.heap.size _ rfl (Nat.le_refl _), Fresh.nil _ _, (Only.refl _ _).alloc _⟩
  case round =>
    obtain ⟨j, fs, hj, rfl, hA, hF, hK⟩ := hrel
    by_cases hlt : j < m
    · have hsz := hK.size
      have hlj : (PM.pts j).length + 1 ≤ 1073741824 := by rw [PM.pts_len]; omega
      have hI : I64 (j : Int) := by unfold I64; omega
      have HI := Lib.hid hI; clear hI
      go_wp2_with ((at_builtin; refine wpList_pushF rfl _ _ 25 rfl w.heap.size 2 i0 _ 8 Try.underlying25 hi hz0 hz1 hz2 rfl (by decide) (by decide) wr _ (PM.pts j) fs rfl hA hF ((Only.refl _ _).alloc _) hsz wr.heap.size 1 [.int .i64 (j : Int)] (j : Int) [] rfl (lit_src wr [.int .i64 (j : Int)] _ rfl) (by intro u hu; simp at hu; subst hu; rfl) (int_rd _ HI.out) (Fresh.nil _ _) hlj w (hK.alloc _) (Nat.le_refl _) ?_; intro v3 w3 hA3 hF3 hK3 _))
      go_roundw
      case rel => exact ⟨j + 1, _, by omega, by go_num, by rw [pts_succ]; exact hA3, hF3, hK3⟩
      case measure => simp [intOf]; omega
    · have hjl : j = m := by omega
      rw [hjl] at hA
      have HA := Lib.hid hA
      clear hjl hA
      go_wp2
      go_ret
      exact ⟨_, _, rfl, HA.out.rd (by decide), HA.out.fresh hF, hK⟩
set_option maxHeartbeats 1000000 in
theorem implIdentity_any (m : Nat) (w : World) (hm : m ≤ 1000) :
    Calls Try.prog 42 #[.int .i64 m] w fun e w' => ∃ v fp', e = .returned v ∧ Rd w' v (PM.pts m) fp' ∧ Fresh w.heap.size w' fp' ∧ Only [] w w' := by
  obtain ⟨i0, hi, hz0, hz1, hz2⟩ := info_parts Try.info2
  go_enter Try.func42, Try.ntmps42
  go_wp2_with (at_make; refine wpList_make_full _ rfl _ _ 25 rfl w.heap.size 2 i0 _ 1 Try.underlying25 hi hz0 hz1 _ _ _ _ m rfl rfl rfl rfl (by rw [hz2]; omega) (by unfold maxLen; omega) (Nat.le_refl _) ?_; intro w1 hown hg)
  rw [madeInts, Nat.mul_one] at hown
  have hs1 := hg.size
  go_loopw [9] (fun i wr => ∃ j : Nat, j ≤ m ∧ i = .int .i64 j ∧
      wr.ownsRow w.heap.size 2 1 (.slice (some ⟨w.heap.size, 0, none⟩) m m) m ((PM.pts j).map (Value.int .i64) ++ List.replicate (m - j) (.int .i64 0)) ∧ Only [] w wr)
    (fun i _ => m - (intOf i).toNat)
  case atStart => exact ⟨0, Nat.zero_le _, rfl, by simpa [PM.pts] using hown, (Only.refl _ _).grown hg (by simp)⟩
  case round =>
    obtain ⟨j, hj, rfl, hO, hK⟩ := hrel
    have hpl : ((PM.pts j).map (Value.int .i64)).length = j := by rw [List.length_map, PM.pts_len]
    by_cases hlt : j < m
    · obtain ⟨hO2, hg2⟩ := hO.stored j (.int .i64 j)
      have hstep : ((PM.pts j).map (Value.int .i64) ++ List.replicate (m - j) (Value.int .i64 0)).set j (.int .i64 j) = (PM.pts (j + 1)).map (Value.int .i64) ++ List.replicate (m - (j + 1)) (.int .i64 0) := by
        rw [show m - j = (m - (j + 1)) + 1 by omega, List.replicate_succ, List.set_append_right _ _ (by omega), hpl, Nat.sub_self, pts_succ]
        simp
      rw [hstep] at hO2
      have hc2 : wr.cell? ⟨w.heap.size, j, none⟩ = some (.int .i64 0) := by
        rw [hO.cellAt j (by omega), List.getElem?_append_right (by omega), List.getElem?_replicate, if_pos (by omega)]
      have hf2 := hO.frozenAt j
      have hK2 := hK.setCell (p := ⟨w.heap.size, j, none⟩) (by simp) (.int .i64 j)
      have HO := Lib.hid hO2
      clear hO hO2 hg hg2 hown hstep hpl
      go_wp2
      go_roundw
      case rel => exact ⟨j + 1, by omega, by go_num, HO.out, hK2⟩
      case measure => simp [intOf]; omega
    · have hjl : j = m := by omega
      rw [hjl] at hO
      simp only [Nat.sub_self, List.replicate_zero, List.append_nil] at hO
      have hw : ∀ x ∈ PM.pts m, I64 x := fun x hx => by have := PM.mem_pts.1 hx; unfold I64; omega
      have hO' : wr.ownsRow w.heap.size 2 1 (.slice (some ⟨w.heap.size, 0, none⟩) m m) (PM.pts m).length ((PM.pts m).map (Value.int .i64)) := by rw [PM.pts_len]; exact hO
      obtain ⟨a', cap', hv, -, hI, hF⟩ := own_ints hO' hw
      have HI := Lib.hid hI
      have Hv := Lib.hid hv
      clear hjl hO hO' hv hown hI hpl hw
      go_wp2
      go_ret
      refine ⟨_, _, rfl, ?_, hF, hK⟩
      have hr := HI.out.rd
      rw [← Hv.out] at hr; exact hr
theorem specIdentity_i (n : Int) (w : World) (h0 : 0 ≤ n) (h1 : n ≤ 1000) :
    Calls Try.prog 55 #[.int .i64 n] w fun e w' => ∃ v fp', e = .returned v ∧ Rd w' v (PM.pts n.toNat) fp' ∧ Fresh w.heap.size w' fp' ∧ Only [] w w' := by
  obtain ⟨m, rfl⟩ := Int.eq_ofNat_of_zero_le h0
  exact specIdentity_any m w (by omega)
theorem implIdentity_i (n : Int) (w : World) (h0 : 0 ≤ n) (h1 : n ≤ 1000) :
    Calls Try.prog 42 #[.int .i64 n] w fun e w' => ∃ v fp', e = .returned v ∧ Rd w' v (PM.pts n.toNat) fp' ∧ Fresh w.heap.size w' fp' ∧ Only [] w w' := by
  obtain ⟨m, rfl⟩ := Int.eq_ofNat_of_zero_le h0
  exact implIdentity_any m w (by omega)
end Go.Proofs.Ytlcoejncdbkhcaa

namespace Go.Proofs.Ytlcoejncdbkhcaa
open Go.RowKit
set_option maxRecDepth 10000

theorem PN_i64 {n : Nat} {p : List Int} (h : PM.PN n p) (hn : n ≤ 1000) : ∀ x ∈ p, I64 x := fun x hx => by
  have := h.2.1 x hx; rw [h.1] at this; unfold I64; omega
/-- the cell of a permutation's entry -/
theorem IntsA.at_pm {w : World} {a : Option Addr} {cap : Nat} {l : List Int} {fp : List Nat} (h : IntsA w a cap l fp) {x : Int} (h0 : 0 ≤ x) (h1 : x < l.length) :
    ∃ b off, a = some ⟨b, off, none⟩ ∧ fp = [b] ∧ w.cell? ⟨b, off + x.toNat, none⟩ = some (.int .i64 (PM.at_ l x)) := by
  obtain ⟨b, off, e1, e2, e3⟩ := h.at_ x.toNat (by omega)
  refine ⟨b, off, e1, e2, ?_⟩
  rw [e3]; simp [PM.at_, show x.toNat < l.length by omega]
theorem comp_take_succ (p q : List Int) (j : Nat) (h : j < p.length) : PM.comp (p.take (j + 1)) q = PM.comp (p.take j) q ++ [PM.at_ q p[j]] := by
  unfold PM.comp; rw [take_succ_get p j h, List.map_append]; rfl
theorem comp_i64 {n : Nat} {p q : List Int} (hp : PM.PN n p) (hq : PM.PN n q) (hn : n ≤ 1000) : ∀ x ∈ PM.comp p q, I64 x := PN_i64 (hp.comp hq) hn
/-- the inverse as far as it is laid -/
def invTo (p : List Int) (j : Nat) : List Int := (PM.pts p.length).map fun y => if y ∈ p.take j then (p.idxOf y : Int) else 0
theorem invTo_len (p : List Int) (j : Nat) : (invTo p j).length = p.length := by simp [invTo, PM.pts_len]
theorem invTo_get (p : List Int) (j k : Nat) (h : k < (invTo p j).length) : (invTo p j)[k] = if (k : Int) ∈ p.take j then (p.idxOf (k : Int) : Int) else 0 := by
  have h1 : k < (PM.pts p.length).length := by rw [invTo_len] at h; rw [PM.pts_len]; exact h
  have : (invTo p j)[k] = (fun y : Int => if y ∈ p.take j then (p.idxOf y : Int) else 0) ((PM.pts p.length)[k]) := List.getElem_map ..
  rw [this, PM.pts_get]
theorem invTo_zero (p : List Int) : invTo p 0 = List.replicate p.length 0 := by
  apply List.ext_getElem (by simp [invTo_len])
  intro k h1 h2; rw [invTo_get]; simp
theorem invTo_all {n : Nat} {p : List Int} (hp : PM.PN n p) {j : Nat} (hj : p.length ≤ j) : invTo p j = PM.inv p := by
  unfold invTo PM.inv
  rw [List.take_of_length_le hj]
  apply List.map_congr_left
  intro y hy
  rw [if_pos (hp.2.all hy)]
theorem invTo_succ {n : Nat} {p : List Int} (hp : PM.PN n p) {j : Nat} (hj : j < p.length) : invTo p (j + 1) = (invTo p j).set (p[j]).toNat (j : Int) := by
  have hx := hp.2.1 p[j] (List.getElem_mem hj)
  apply List.ext_getElem (by simp [invTo_len])
  intro k h1 h2
  rw [invTo_len] at h1
  rw [List.getElem_set]
  rw [invTo_get, invTo_get]
  by_cases hk : (p[j]).toNat = k
  · rw [if_pos hk]
    have e : (k : Int) = p[j] := by omega
    have hm : p[j] ∈ p.take (j + 1) := by rw [take_succ_get p j hj]; exact List.mem_append_right _ (List.mem_singleton.2 rfl)
    rw [e, if_pos hm]
    have hi : p.idxOf p[j] < p.length := List.idxOf_lt_length_of_mem (List.getElem_mem hj)
    have hg : p[p.idxOf p[j]] = p[j] := by simp
    have := PM.nodup_inj hp.2.2 hi hj hg
    rw [this]
  · rw [if_neg hk, take_succ_get p j hj]
    have : ((k : Int) ∈ p.take j ++ [p[j]]) ↔ (k : Int) ∈ p.take j := by
      rw [List.mem_append, List.mem_singleton]
      constructor
      · rintro (h | h)
        · exact h
        · omega
      · exact .inl
    simp only [this]
/-- the identity of the model's zeros -/
theorem map_zero (n : Nat) : (List.replicate n (0 : Int)).map (Value.int .i64) = List.replicate n (.int .i64 0) := by simp

set_option maxHeartbeats 1000000 in
theorem implCompose_rd (n : Nat) (vp vq : Value) (p q : List Int) (fp fq : List Nat) (w : World) (hp : Rd w vp p fp) (hq : Rd w vq q fq) (pp : PM.PN n p) (pq : PM.PN n q) (hn : n ≤ 1000) :
    Calls Try.prog 44 #[vp, vq] w fun e w' => ∃ v fp', e = .returned v ∧ Rd w' v (PM.comp p q) fp' ∧ Fresh w.heap.size w' fp' ∧ Only [] w w' := by
  obtain ⟨ap, cp, rfl, IP⟩ := hp.ints
  obtain ⟨aq, cq, rfl, IQ⟩ := hq.ints
  obtain ⟨i0, hi, hz0, hz1, hz2⟩ := info_parts Try.info2
  have hlp := pp.1
  have hlq := pq.1
  have hpn : p.length ≤ 1000 := by omega
  have HPP := Lib.hid pp; have HPQ := Lib.hid pq
  have HLP := Lib.hid hlp; have HLQ := Lib.hid hlq
  clear hlp hlq pp pq
  go_enter Try.func44, Try.ntmps44
  go_wp2_with (at_make; refine wpList_make_full _ rfl _ _ 25 rfl w.heap.size 2 i0 _ 1 Try.underlying25 hi hz0 hz1 _ _ _ _ p.length rfl rfl rfl rfl (by rw [hz2]; omega) (by unfold maxLen; omega) (Nat.le_refl _) ?_; intro w1 hown hg)
  rw [madeInts, Nat.mul_one] at hown
  have hs1 := hg.size
  go_loopw [13] (fun i wr => ∃ j : Nat, j ≤ p.length ∧ i = .int .i64 j ∧
      wr.ownsRow w.heap.size 2 1 (.slice (some ⟨w.heap.size, 0, none⟩) p.length p.length) p.length ((PM.comp (p.take j) q).map (Value.int .i64) ++ List.replicate (p.length - j) (.int .i64 0)) ∧ Only [] w wr)
    (fun i _ => p.length - (intOf i).toNat)
  case atStart => exact ⟨0, Nat.zero_le _, rfl, by simpa [PM.comp] using hown, (Only.refl _ _).grown hg (by simp)⟩
  case round =>
    obtain ⟨j, hj, rfl, hO, hK⟩ := hrel
    have hpl : ((PM.comp (p.take j) q).map (Value.int .i64)).length = j := by rw [List.length_map, PM.comp_len, List.length_take]; omega
    by_cases hlt : j < p.length
    · obtain ⟨bp, op, rfl, -, hcp0⟩ := IP.at_ j hlt
      have hcp := hK.cell (by simp) hcp0
      have hr := HPP.out.2.1 p[j] (List.getElem_mem hlt)
      have hx0 : 0 ≤ p[j] := hr.1
      have hx1 : p[j] < (q.length : Int) := by have := HLP.out; have := HLQ.out; omega
      obtain ⟨bq, oq, rfl, -, hcq0⟩ := IQ.at_pm hx0 hx1
      have hcq := hK.cell (by simp) hcq0
      obtain ⟨hO2, hg2⟩ := hO.stored j (.int .i64 (PM.at_ q p[j]))
      have hstep : ((PM.comp (p.take j) q).map (Value.int .i64) ++ List.replicate (p.length - j) (Value.int .i64 0)).set j (.int .i64 (PM.at_ q p[j])) = (PM.comp (p.take (j + 1)) q).map (Value.int .i64) ++ List.replicate (p.length - (j + 1)) (.int .i64 0) := by
        rw [show p.length - j = (p.length - (j + 1)) + 1 by omega, List.replicate_succ, List.set_append_right _ _ (by omega), hpl, Nat.sub_self, comp_take_succ p q j hlt]
        simp
      rw [hstep] at hO2
      have hc2 : wr.cell? ⟨w.heap.size, j, none⟩ = some (.int .i64 0) := by
        rw [hO.cellAt j (by omega), List.getElem?_append_right (by omega), List.getElem?_replicate, if_pos (by omega)]
      have hf2 := hO.frozenAt j
      have hK2 := hK.setCell (p := ⟨w.heap.size, j, none⟩) (by simp) (.int .i64 (PM.at_ q p[j]))
      have HO := Lib.hid hO2
      have hb1 := IP.bound
      have hb2 := IQ.bound
      clear hO hO2 hg hg2 hown hstep hpl hcp0 hcq0 hr
      go_wp2
      go_roundw
      case rel => exact ⟨j + 1, by omega, by go_num, HO.out, hK2⟩
      case measure => simp [intOf]; omega
    · have hjl : j = p.length := by omega
      rw [hjl] at hO
      simp only [Nat.sub_self, List.replicate_zero, List.append_nil, List.take_length] at hO
      have hw := comp_i64 HPP.out HPQ.out hn
      have hO' : wr.ownsRow w.heap.size 2 1 (.slice (some ⟨w.heap.size, 0, none⟩) p.length p.length) (PM.comp p q).length ((PM.comp p q).map (Value.int .i64)) := by rw [PM.comp_len]; exact hO
      obtain ⟨a', cap', hv, -, hI, hF⟩ := own_ints hO' hw
      have HI := Lib.hid hI
      have Hv := Lib.hid hv
      clear hjl hO hO' hv hown hI hpl hw
      go_wp2
      go_ret
      refine ⟨_, _, rfl, ?_, hF, hK⟩
      have hr := HI.out.rd
      rw [← Hv.out] at hr; exact hr
set_option maxHeartbeats 1000000 in
theorem specCompose_rd (n : Nat) (vp vq : Value) (p q : List Int) (fp fq : List Nat) (w : World) (hp : Rd w vp p fp) (hq : Rd w vq q fq) (pp : PM.PN n p) (pq : PM.PN n q) (hn : n ≤ 1000) :
    Calls Try.prog 66 #[vp, vq] w fun e w' => ∃ v fp', e = .returned v ∧ Rd w' v (PM.comp p q) fp' ∧ Fresh w.heap.size w' fp' ∧ Only [] w w' := by
  obtain ⟨ap, cp, rfl, IP⟩ := hp.ints
  obtain ⟨aq, cq, rfl, IQ⟩ := hq.ints
  obtain ⟨i0, hi, hz0, hz1, hz2⟩ := info_parts Try.info2
  have hlp := pp.1
  have hlq := pq.1
  have hpn : p.length ≤ 1000 := by omega
  have HPP := Lib.hid pp; have HPQ := Lib.hid pq
  have HLP := Lib.hid hlp; have HLQ := Lib.hid hlq
  clear hlp hlq pp pq
  have hb1 := IP.bound
  have hb2 := IQ.bound
  go_enter Try.func66, Try.ntmps66
  go_wp2
  go_loopw [5, 6] (fun o i wr => ∃ (j : Nat) (fs : List (List Nat)), j ≤ p.length ∧ i = .int .i64 j ∧ Acc w.heap.size 2 wr o (PM.comp (p.take j) q) fs ∧ Fresh w.heap.size wr fs.flatten ∧ Only [] w wr)
    (fun _ i _ => p.length - (intOf i).toNat)
  case atStart => exact ⟨0, [], Nat.zero_le _, rfl, by simpa [PM.comp] using Acc.made w w.heap.size _ rfl (Nat.le_refl _), Fresh.nil _ _, (Only.refl _ _).alloc _⟩
  case round =>
    obtain ⟨j, fs, hj, rfl, hA, hF, hK⟩ := hrel
    by_cases hlt : j < p.length
    · have hsz := hK.size
      obtain ⟨bp, op, rfl, -, hcp0⟩ := IP.at_ j hlt
      have hcp := hK.cell (by simp) hcp0
      have hr := HPP.out.2.1 p[j] (List.getElem_mem hlt)
      have hx0 : 0 ≤ p[j] := hr.1
      have hx1 : p[j] < (q.length : Int) := by have := HLP.out; have := HLQ.out; omega
      obtain ⟨bq, oq, rfl, -, hcq0⟩ := IQ.at_pm hx0 hx1
      have hcq := hK.cell (by simp) hcq0
      have hlj : (PM.comp (p.take j) q).length + 1 ≤ 1073741824 := by rw [PM.comp_len, List.length_take]; omega
      have hI : I64 (PM.at_ q p[j]) := PN_i64 HPQ.out hn _ (PM.at_mem hx0 hx1)
      have HI := Lib.hid hI
      clear hI hcp0 hcq0 hr
      go_wp2_with ((at_builtin; refine wpList_pushF rfl _ _ 25 rfl w.heap.size 2 i0 _ 8 Try.underlying25 hi hz0 hz1 hz2 rfl (by decide) (by decide) wr _ (PM.comp (p.take j) q) fs rfl hA hF ((Only.refl _ _).alloc _) hsz wr.heap.size 1 [.int .i64 (PM.at_ q p[j])] (PM.at_ q p[j]) [] rfl (lit_src wr [.int .i64 (PM.at_ q p[j])] _ rfl) (by intro u hu; simp at hu; subst hu; rfl) (int_rd _ HI.out) (Fresh.nil _ _) hlj w (hK.alloc _) (Nat.le_refl _) ?_; intro v3 w3 hA3 hF3 hK3 _))
      go_roundw
      case rel => exact ⟨j + 1, _, by omega, by go_num, by rw [comp_take_succ p q j hlt]; exact hA3, hF3, hK3⟩
      case measure => simp [intOf]; omega
    · have hjl : j = p.length := by omega
      rw [hjl, List.take_length] at hA
      have HA := Lib.hid hA
      clear hjl hA
      go_wp2
      go_ret
      exact ⟨_, _, rfl, HA.out.rd (by decide), HA.out.fresh hF, hK⟩
set_option maxHeartbeats 1000000 in
theorem implInv_rd (n : Nat) (vp : Value) (p : List Int) (fp : List Nat) (w : World) (hp : Rd w vp p fp) (pp : PM.PN n p) (hn : n ≤ 1000) :
    Calls Try.prog 45 #[vp] w fun e w' => ∃ v fp', e = .returned v ∧ Rd w' v (PM.inv p) fp' ∧ Fresh w.heap.size w' fp' ∧ Only [] w w' := by
  obtain ⟨ap, cp, rfl, IP⟩ := hp.ints
  obtain ⟨i0, hi, hz0, hz1, hz2⟩ := info_parts Try.info2
  have hlp := pp.1
  have hpn : p.length ≤ 1000 := by omega
  have HPP := Lib.hid pp
  clear hlp pp
  have hb1 := IP.bound
  go_enter Try.func45, Try.ntmps45
  go_wp2_with (at_make; refine wpList_make_full _ rfl _ _ 25 rfl w.heap.size 2 i0 _ 1 Try.underlying25 hi hz0 hz1 _ _ _ _ p.length rfl rfl rfl rfl (by rw [hz2]; omega) (by unfold maxLen; omega) (Nat.le_refl _) ?_; intro w1 hown hg)
  rw [madeInts, Nat.mul_one] at hown
  have hs1 := hg.size
  go_loopw [11] (fun i wr => ∃ j : Nat, j ≤ p.length ∧ i = .int .i64 j ∧
      wr.ownsRow w.heap.size 2 1 (.slice (some ⟨w.heap.size, 0, none⟩) p.length p.length) p.length ((invTo p j).map (Value.int .i64)) ∧ Only [] w wr)
    (fun i _ => p.length - (intOf i).toNat)
  case atStart => exact ⟨0, Nat.zero_le _, rfl, by rw [invTo_zero, map_zero]; exact hown, (Only.refl _ _).grown hg (by simp)⟩
  case round =>
    obtain ⟨j, hj, rfl, hO, hK⟩ := hrel
    by_cases hlt : j < p.length
    · obtain ⟨bp, op, rfl, -, hcp0⟩ := IP.at_ j hlt
      have hcp := hK.cell (by simp) hcp0
      have hr := HPP.out.2.1 p[j] (List.getElem_mem hlt)
      have hx0 : 0 ≤ p[j] := hr.1
      have hx1 : p[j] < (p.length : Int) := hr.2
      obtain ⟨hO2, hg2⟩ := hO.stored (p[j]).toNat (.int .i64 j)
      have hstep : ((invTo p j).map (Value.int .i64)).set (p[j]).toNat (.int .i64 (j : Int)) = (invTo p (j + 1)).map (Value.int .i64) := by
        rw [invTo_succ HPP.out hlt, List.map_set]
      rw [hstep] at hO2
      have hc2 : ∃ u, wr.cell? ⟨w.heap.size, (p[j]).toNat, none⟩ = some (.int .i64 u) := by
        rw [hO.cellAt _ (by omega)]
        have : (p[j]).toNat < (invTo p j).length := by rw [invTo_len]; omega
        exact ⟨(invTo p j)[(p[j]).toNat], by simp [this]⟩
      obtain ⟨u, hc2⟩ := hc2
      have hf2 := hO.frozenAt (p[j]).toNat
      have hK2 := hK.setCell (p := ⟨w.heap.size, (p[j]).toNat, none⟩) (by simp) (.int .i64 j)
      have HO := Lib.hid hO2
      clear hO hO2 hg hg2 hown hstep hcp0 hr
      go_wp2
      go_roundw
      case rel => exact ⟨j + 1, by omega, by go_num, HO.out, hK2⟩
      case measure => simp [intOf]; omega
    · have hjl : p.length ≤ j := by omega
      rw [invTo_all HPP.out hjl] at hO
      have hw := PN_i64 HPP.out.inv hn
      have hO' : wr.ownsRow w.heap.size 2 1 (.slice (some ⟨w.heap.size, 0, none⟩) p.length p.length) (PM.inv p).length ((PM.inv p).map (Value.int .i64)) := by rw [PM.inv_len]; exact hO
      obtain ⟨a', cap', hv, -, hI, hF⟩ := own_ints hO' hw
      have HI := Lib.hid hI
      have Hv := Lib.hid hv
      clear hO hO' hv hown hI hw
      go_wp2
      go_ret
      refine ⟨_, _, rfl, ?_, hF, hK⟩
      have hr := HI.out.rd
      rw [← Hv.out] at hr; exact hr
set_option maxHeartbeats 1000000 in
theorem specInv_rd (n : Nat) (vp : Value) (p : List Int) (fp : List Nat) (w : World) (hp : Rd w vp p fp) (pp : PM.PN n p) (hn : n ≤ 1000) :
    Calls Try.prog 67 #[vp] w fun e w' => ∃ v fp', e = .returned v ∧ Rd w' v (PM.inv p) fp' ∧ Fresh w.heap.size w' fp' ∧ Only [] w w' := by
  obtain ⟨ap, cp, rfl, IP⟩ := hp.ints
  obtain ⟨i0, hi, hz0, hz1, hz2⟩ := info_parts Try.info2
  have hlp := pp.1
  have hpn : p.length ≤ 1000 := by omega
  have HPP := Lib.hid pp
  clear hlp pp
  have hb1 := IP.bound
  go_enter Try.func67, Try.ntmps67
  go_wp2_with (at_make; refine wpList_make_full _ rfl _ _ 25 rfl w.heap.size 2 i0 _ 1 Try.underlying25 hi hz0 hz1 _ _ _ _ p.length rfl rfl rfl rfl (by rw [hz2]; omega) (by unfold maxLen; omega) (Nat.le_refl _) ?_; intro w1 hown hg)
  rw [madeInts, Nat.mul_one] at hown
  have hs1 := hg.size
  go_loopw [4] (fun i wr => ∃ j : Nat, j ≤ p.length ∧ i = .int .i64 j ∧
      wr.ownsRow w.heap.size 2 1 (.slice (some ⟨w.heap.size, 0, none⟩) p.length p.length) p.length ((invTo p j).map (Value.int .i64)) ∧ Only [] w wr)
    (fun i _ => p.length - (intOf i).toNat)
  case atStart => exact ⟨0, Nat.zero_le _, rfl, by rw [invTo_zero, map_zero]; exact hown, (Only.refl _ _).grown hg (by simp)⟩
  case round =>
    obtain ⟨j, hj, rfl, hO, hK⟩ := hrel
    by_cases hlt : j < p.length
    · obtain ⟨bp, op, rfl, -, hcp0⟩ := IP.at_ j hlt
      have hcp := hK.cell (by simp) hcp0
      have hr := HPP.out.2.1 p[j] (List.getElem_mem hlt)
      have hx0 : 0 ≤ p[j] := hr.1
      have hx1 : p[j] < (p.length : Int) := hr.2
      obtain ⟨hO2, hg2⟩ := hO.stored (p[j]).toNat (.int .i64 j)
      have hstep : ((invTo p j).map (Value.int .i64)).set (p[j]).toNat (.int .i64 (j : Int)) = (invTo p (j + 1)).map (Value.int .i64) := by
        rw [invTo_succ HPP.out hlt, List.map_set]
      rw [hstep] at hO2
      have hc2 : ∃ u, wr.cell? ⟨w.heap.size, (p[j]).toNat, none⟩ = some (.int .i64 u) := by
        rw [hO.cellAt _ (by omega)]
        have : (p[j]).toNat < (invTo p j).length := by rw [invTo_len]; omega
        exact ⟨(invTo p j)[(p[j]).toNat], by simp [this]⟩
      obtain ⟨u, hc2⟩ := hc2
      have hf2 := hO.frozenAt (p[j]).toNat
      have hK2 := hK.setCell (p := ⟨w.heap.size, (p[j]).toNat, none⟩) (by simp) (.int .i64 j)
      have HO := Lib.hid hO2
      clear hO hO2 hg hg2 hown hstep hcp0 hr
      go_wp2
      go_roundw
      case rel => exact ⟨j + 1, by omega, by go_num, HO.out, hK2⟩
      case measure => simp [intOf]; omega
    · have hjl : p.length ≤ j := by omega
      rw [invTo_all HPP.out hjl] at hO
      have hw := PN_i64 HPP.out.inv hn
      have hO' : wr.ownsRow w.heap.size 2 1 (.slice (some ⟨w.heap.size, 0, none⟩) p.length p.length) (PM.inv p).length ((PM.inv p).map (Value.int .i64)) := by rw [PM.inv_len]; exact hO
      obtain ⟨a', cap', hv, -, hI, hF⟩ := own_ints hO' hw
      have HI := Lib.hid hI
      have Hv := Lib.hid hv
      clear hO hO' hv hown hI hw
      go_wp2
      go_ret
      refine ⟨_, _, rfl, ?_, hF, hK⟩
      have hr := HI.out.rd
      rw [← Hv.out] at hr; exact hr
end Go.Proofs.Ytlcoejncdbkhcaa

namespace Go.Proofs.Ytlcoejncdbkhcaa
open Go.RowKit
set_option maxRecDepth 10000

theorem has_step {T : PM.Rows} {n j : Nat} (hj : j < n) (q : List Int) : PM.has T n (n - j) q = if PM.tr T j (PM.at_ q (j : Int)) = [] then false else PM.has T n (n - (j + 1)) (PM.comp q (PM.inv (PM.tr T j (PM.at_ q (j : Int))))) := by
  have h1 : n - j = (n - (j + 1)) + 1 := by omega
  have h2 : n - (n - (j + 1) + 1) = j := by omega
  rw [h1]; simp only [PM.has, h2]
theorem has_end {T : PM.Rows} {n j : Nat} (hj : n ≤ j) (q : List Int) : PM.has T n (n - j) q = true := by
  rw [show n - j = 0 by omega]; rfl
theorem IntsA.at_pn {w : World} {a : Option Addr} {cap : Nat} {l : List Int} {fp : List Nat} (h : IntsA w a cap l fp) {j : Nat} (hj : j < l.length) :
    ∃ b off, a = some ⟨b, off, none⟩ ∧ fp = [b] ∧ w.cell? ⟨b, off + j, none⟩ = some (.int .i64 (PM.at_ l (j : Int))) := by
  obtain ⟨b, off, e1, e2, e3⟩ := h.at_ j hj
  exact ⟨b, off, e1, e2, by rw [e3, PM.at_nat l j hj]⟩
set_option maxHeartbeats 1000000 in
theorem implHas_any {e : TypeId} {B : Nat} {L : Lay} {gv : Nat → Value} {n : Nat} {G : PM.Gens} {T : PM.Rows} {M F : List Nat} (w : World) (hC : Ch e B w L gv n G T M F) (hw : PM.WF n T) (hT : L.oT = 2)
    (k : Nat) (vp : Value) (p : List Int) (fp : List Nat) (hk : k ≤ n) (hp : Rd w vp p fp) (pp : PM.PN n p) :
    Calls Try.prog 29 #[.pointer (some ⟨L.g, 0, none⟩), .int .i64 k, vp] w fun e w' => e = .returned (.bool (PM.has T n (n - k) p)) ∧ Only [] w w' := by
  have hn20 := hC.le
  have HW := Lib.hid hw
  have HC := Lib.hid hC
  have hcT := hC.ct
  rw [hT] at hcT
  have HT := Lib.hid hT
  have Hp := Lib.hid hp
  have HPP := Lib.hid pp
  clear hT hC hw hp pp
  go_enter Try.func29, Try.ntmps29
  go_wp2
  go_loopw [2, 7] (fun s i wr => ∃ (j : Nat) (q : List Int) (f : List Nat), j ≤ n ∧ i = .int .i64 j ∧ Rd wr s q f ∧ PM.PN n q ∧ PM.has T n (n - k) p = PM.has T n (n - j) q ∧ Only [] w wr)
    (fun _ i _ => n - (intOf i).toNat)
  case atStart => exact ⟨k, p, fp, hk, rfl, Hp.out, HPP.out, rfl, Only.refl _ _⟩
  case round =>
    obtain ⟨j, q, f, hj, rfl, hq, hqn, hh, hK⟩ := hrel
    have HH := Lib.hid hh
    have HQN := Lib.hid hqn
    have HK := Lib.hid hK
    have c0 := hK.cell (by simp) HC.out.cn
    have c2 := hK.cell (by simp) hcT
    by_cases hlt : j < n
    · have hjn : (j : Int) < (n : Int) := by omega
      have hj0 : (0 : Int) ≤ (j : Int) := by omega
      have hC' := HC.out.keep hK
      obtain ⟨aq, cq, rfl, IQ⟩ := hq.ints
      have hb := IQ.bound
      have hlen : (j : Int) < (q.length : Int) := by have := hqn.1; omega
      obtain ⟨bq, oq, rfl, -, hcq⟩ := IQ.at_pn (by omega : j < q.length)
      have hr := hqn.rng (x := (j : Int)) (by omega) (by omega)
      have hy0 := hr.1
      have hy1 := hr.2
      have c3 := hC'.row j hlt
      have hst := has_step (T := T) hlt q
      have Hst := Lib.hid hst
      clear hst hh hqn hK hr
      by_cases ht : PM.tr T j (PM.at_ q (j : Int)) = []
      · have c4 := hC'.at_nil hlt hy0 hy1 ht
        have hnil := fun W => Lib.run_eql_slice_nil (P := Try.prog) W 25 2 none 0 0 0 0 Try.underlying25
        have Ht := Lib.hid ht
        clear ht hC'
        go_wp2
        go_quiet (fail)
        go_wp2
        go_ret
        exact ⟨ret_bool (by rw [HH.out, Hst.out, if_pos Ht.out]), HK.out.drewN _⟩
      · obtain ⟨b, off, cap, f4, c4, hR, -⟩ := hC'.at_some hlt hy0 hy1 ht
        have hnil := fun W => Lib.run_eql_slice_nil (P := Try.prog) W 25 2 (some ⟨b, off, none⟩) (PM.tr T j (PM.at_ q (j : Int))).length cap 0 0 Try.underlying25
        have htn := HW.out.pn j _ hlt ht
        have Htn := Lib.hid htn
        have Ht := Lib.hid ht
        clear ht hC' htn
        go_wp2
        go_quiet (fail)
        go_wp2_with (first
          | (go_at_call 45; (with_reducible refine (implInv_rd n _ _ _ _ (Rp.keep hR (by with_reducible repeat (first | exact Only.refl _ _ | assumption | refine Only.drewN ?_ _ | refine Only.drew ?_ | refine Only.alloc ?_ _ | refine Only.setCell ?_ (by intro hh; exfalso; simp at hh; try omega) _ | refine Only.trans ?_ (by assumption)))) Htn.out (by omega)).mono ?_); rintro e w1 ⟨v1, f1, rfl, r1, F1, t1⟩)
          | (go_at_call 44; (with_reducible refine (implCompose_rd n _ _ _ _ _ _ _ (Rp.keep hq (by with_reducible repeat (first | exact Only.refl _ _ | assumption | refine Only.drewN ?_ _ | refine Only.drew ?_ | refine Only.alloc ?_ _ | refine Only.setCell ?_ (by intro hh; exfalso; simp at hh; try omega) _ | refine Only.trans ?_ (by assumption)))) r1 HQN.out Htn.out.inv (by omega)).mono ?_); rintro e w2 ⟨v2, f2, rfl, r2, F2, t2⟩))
        go_roundw
        case rel => exact ⟨j + 1, _, f2, by omega, by go_num, r2, HQN.out.comp Htn.out.inv, by rw [HH.out, Hst.out, if_neg Ht.out], (HK.out.drewN _).trans (t1.trans t2)⟩
        case measure => simp [intOf]; omega
    · have hjn : ¬ (j : Int) < (n : Int) := by omega
      clear hh hqn
      go_wp2
      go_ret
      exact ⟨ret_bool (by rw [HH.out, has_end (by omega)]), HK.out⟩
/-- the points of a row -/
def orb (n : Nat) (T : PM.Rows) (k : Nat) : List Int := (PM.pts n).filter fun y => decide (PM.tr T k y ≠ [])
def orbTo (j : Nat) (T : PM.Rows) (k : Nat) : List Int := (PM.pts j).filter fun y => decide (PM.tr T k y ≠ [])
theorem orbTo_succ (j : Nat) (T : PM.Rows) (k : Nat) : orbTo (j + 1) T k = if PM.tr T k (j : Int) = [] then orbTo j T k else orbTo j T k ++ [(j : Int)] := by
  unfold orbTo
  rw [pts_succ, List.filter_append]
  by_cases h : PM.tr T k (j : Int) = []
  · rw [if_pos h]; simp [h]
  · rw [if_neg h]; simp [h]
theorem orbTo_len (j : Nat) (T : PM.Rows) (k : Nat) : (orbTo j T k).length ≤ j := by
  unfold orbTo
  have := List.length_filter_le (fun y => decide (PM.tr T k y ≠ [])) (PM.pts j)
  rwa [PM.pts_len] at this
theorem mem_orb {n : Nat} {T : PM.Rows} {k : Nat} {y : Int} : y ∈ orb n T k ↔ (0 ≤ y ∧ y < n) ∧ PM.tr T k y ≠ [] := by
  unfold orb
  rw [List.mem_filter, PM.mem_pts]; simp
theorem orb_nodup (n : Nat) (T : PM.Rows) (k : Nat) : (orb n T k).Nodup := List.Nodup.sublist List.filter_sublist (PM.pts_nodup n)
theorem orb_i64 {n : Nat} (hn : n ≤ 1000) (T : PM.Rows) (k : Nat) : ∀ x ∈ orb n T k, I64 x := fun x hx => by
  have := (mem_orb.1 hx).1; unfold I64; omega
set_option maxHeartbeats 1000000 in
theorem orbitOf_any {e : TypeId} {B : Nat} {L : Lay} {gv : Nat → Value} {n : Nat} {G : PM.Gens} {T : PM.Rows} {M F : List Nat} (w : World) (hC : Ch e B w L gv n G T M F) (k : Nat) (hk : k < n) :
    Calls Try.prog 60 #[.slice (some ⟨L.rb k, 0, none⟩) n n] w fun e w' => ∃ v fs, e = .returned v ∧ Acc w.heap.size 2 w' v (orb n T k) fs ∧ Fresh w.heap.size w' fs.flatten ∧ Only [] w w' := by
  obtain ⟨i0, hi, hz0, hz1, hz2⟩ := info_parts Try.info2
  have hn20 := hC.le
  have HC := Lib.hid hC
  clear hC
  go_enter Try.func60, Try.ntmps60
  go_wp2
  go_loopw [3, 8] (fun o i wr => ∃ (j : Nat) (fs : List (List Nat)), j ≤ n ∧ i = .int .i64 j ∧ Acc w.heap.size 2 wr o (orbTo j T k) fs ∧ Fresh w.heap.size wr fs.flatten ∧ Only [] w wr)
    (fun _ i _ => n - (intOf i).toNat)
  case atStart => exact ⟨0, [], Nat.zero_le _, rfl, by simpa [orbTo, PM.pts] using Acc.nil w w.heap.size _, Fresh.nil _ _, Only.refl _ _⟩
  case round =>
    obtain ⟨j, fs, hj, rfl, hA, hF, hK⟩ := hrel
    by_cases hlt : j < n
    · have hsz := hK.size
      have hC' := HC.out.keep hK
      have hjl := orbTo_len j T k
      have hlj : (orbTo j T k).length + 1 ≤ 1073741824 := by omega
      have hI : I64 (j : Int) := by unfold I64; omega
      have HI := Lib.hid hI
      have hsu := orbTo_succ j T k
      have Hsu := Lib.hid hsu
      clear hI hsu
      by_cases ht : PM.tr T k (j : Int) = []
      · have c4 := hC'.at_nil hk (y := (j : Int)) (by omega) (by omega) ht
        simp only [Int.toNat_natCast] at c4
        have hnil := fun W => run_neq_slice_nil_any (P := Try.prog) W 25 2 none 0 0 0 0 Try.underlying25
        have Ht := Lib.hid ht
        clear ht hC'
        go_wp2
        go_roundw
        case rel => exact ⟨j + 1, fs, by omega, by go_num, by rw [Hsu.out, if_pos Ht.out]; exact hA, hF, hK⟩
        case measure => simp [intOf]; omega
      · obtain ⟨b, off, cap, f4, c4, -, -⟩ := hC'.at_some hk (y := (j : Int)) (by omega) (by omega) ht
        simp only [Int.toNat_natCast] at c4
        have hnil := fun W => run_neq_slice_nil_any (P := Try.prog) W 25 2 (some ⟨b, off, none⟩) (PM.tr T k (j : Int)).length cap 0 0 Try.underlying25
        have Ht := Lib.hid ht
        clear ht hC'
        go_wp2_with ((at_builtin; refine wpList_pushF rfl _ _ 25 rfl w.heap.size 2 i0 _ 8 Try.underlying25 hi hz0 hz1 hz2 rfl (by decide) (by decide) wr _ (orbTo j T k) fs rfl hA hF ((Only.refl _ _).alloc _) hsz wr.heap.size 1 [.int .i64 (j : Int)] (j : Int) [] rfl (lit_src wr [.int .i64 (j : Int)] _ rfl) (by intro u hu; simp at hu; subst hu; rfl) (int_rd _ HI.out) (Fresh.nil _ _) hlj w (hK.alloc _) (Nat.le_refl _) ?_; intro v3 w3 hA3 hF3 hK3 _))
        go_roundw
        case rel => exact ⟨j + 1, _, by omega, by go_num, by rw [Hsu.out, if_neg Ht.out]; exact hA3, hF3, hK3⟩
        case measure => simp [intOf]; omega
    · have hjl : j = n := by omega
      rw [hjl] at hA
      have HA := Lib.hid hA
      clear hjl hA
      go_wp2
      go_ret
      exact ⟨_, fs, rfl, HA.out, hF, hK⟩
end Go.Proofs.Ytlcoejncdbkhcaa
