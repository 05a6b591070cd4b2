/- A stabilizer chain in memory: rows of permutations, generators; a queue of numbers. -/
import Derived.Test.YtpfmkjcngknecaaAccK
import Derived.Test.YtpfmkjcngknecaaMem
import Derived.Test.YtpfmkjcngknecaaChainMath2
namespace Go.Proofs.Ytpfmkjcngknecaa
open Go.RowKit
set_option maxRecDepth 10000

/-- where a chain lies -/
structure Lay where
  g : Nat
  bg : Nat
  bt : Nat
  cG : Nat
  cT : Nat
  oG : Nat
  oT : Nat
  rb : Nat → Nat
/-- a chain of n points: M: the blocks that its making writes; F: blocks that it reads and never writes -/
structure Ch (e : TypeId) (B : Nat) (w : World) (L : Lay) (gv : Nat → Value) (n : Nat) (G : PM.Gens) (T : PM.Rows) (M F : List Nat) : Prop where
  shape : PM.Shape n G T
  pos : 0 < n
  le : n ≤ 20
  cn : w.cell? ⟨L.g, 0, none⟩ = some (.int .i64 n)
  cg : w.cell? ⟨L.g, L.oG, none⟩ = some (.slice (some ⟨L.bg, 0, none⟩) n L.cG)
  ct : w.cell? ⟨L.g, L.oT, none⟩ = some (.slice (some ⟨L.bt, 0, none⟩) n L.cT)
  row : ∀ k, k < n → w.cell? ⟨L.bt, k, none⟩ = some (.slice (some ⟨L.rb k, 0, none⟩) n n)
  gen : ∀ k, k < n → w.cell? ⟨L.bg, k, none⟩ = some (gv k)
  elt : ∀ k m : Nat, k < n → m < n → ∃ v f, w.cell? ⟨L.rb k, m, none⟩ = some v ∧ Rd w v (PM.tr T k m) f ∧ (PM.tr T k m = [] → v = .slice none 0 0) ∧ ∀ b ∈ f, b ∈ F
  acc : ∀ k, k < n → ∃ fs, Acc B e w (gv k) (PM.lv G k) fs ∧ ∀ b ∈ fs.flatten, b ∈ F
  mg : L.bg ∈ M
  mr : ∀ k, k < n → L.rb k ∈ M
  ma : ∀ k b, k < n → (gv k).ownBlock = some b → b ∈ M
  gF : L.g ∈ F
  btF : L.bt ∈ F
  mf : ∀ b ∈ M, b ∉ F
  own : Own w (L.bg :: (List.range n).map L.rb)
  lM : ∀ b ∈ M, b < w.heap.size
  lF : ∀ b ∈ F, b < w.heap.size
  ge : ∀ b ∈ M, B ≤ b
  rr : ∀ j k, j < n → k < n → L.rb j = L.rb k → j = k
  rg : ∀ k, k < n → L.rb k ≠ L.bg
  ag : ∀ k b, k < n → (gv k).ownBlock = some b → b ≠ L.bg ∧ ∀ j, j < n → b ≠ L.rb j
  aa : ∀ j k b, j < n → k < n → (gv j).ownBlock = some b → (gv k).ownBlock = some b → j = k

section
variable {e : TypeId} {B : Nat} {w w' : World} {L : Lay} {gv : Nat → Value} {n : Nat} {G : PM.Gens} {T : PM.Rows} {M F : List Nat}
theorem Ch.core (h : Ch e B w L gv n G T M F) : ∀ b ∈ L.bg :: (List.range n).map L.rb, b ∈ M := by
  intro b hb
  rcases List.mem_cons.1 hb with rfl | hb
  · exact h.mg
  · obtain ⟨k, hk, rfl⟩ := List.mem_map.1 hb
    exact h.mr k (List.mem_range.1 hk)
theorem Ch.only (h : Ch e B w L gv n G T M F) {fp : List Nat} (ho : Only fp w w') (hM : ∀ b ∈ fp, b ∉ M) (hF : ∀ b ∈ fp, b ∉ F) : Ch e B w' L gv n G T M F := by
  have gM : ∀ b ∈ M, b ∉ fp := fun b hb hm => hM b hm hb
  have gF : ∀ b ∈ F, b ∉ fp := fun b hb hm => hF b hm hb
  refine ⟨h.shape, h.pos, h.le, ho.cell (gF _ h.gF) h.cn, ho.cell (gF _ h.gF) h.cg, ho.cell (gF _ h.gF) h.ct, fun k hk => ho.cell (gF _ h.btF) (h.row k hk), fun k hk => ho.cell (gM _ h.mg) (h.gen k hk), ?_, ?_, h.mg, h.mr, h.ma, h.gF, h.btF, h.mf, h.own.only ho (fun b hb => gM b (h.core b hb)), fun b hb => Nat.lt_of_lt_of_le (h.lM b hb) ho.size, fun b hb => Nat.lt_of_lt_of_le (h.lF b hb) ho.size, h.ge, h.rr, h.rg, h.ag, h.aa⟩
  · intro k m hk hm
    obtain ⟨v, f, a, b, c, d⟩ := h.elt k m hk hm
    exact ⟨v, f, ho.cell (gM _ (h.mr k hk)) a, Rp.only b ho fun x hx => gF x (d x hx), c, d⟩
  · intro k hk
    obtain ⟨fs, a, b⟩ := h.acc k hk
    exact ⟨fs, a.only ho (fun x hx => gF x (b x hx)) (fun x hx => gM x (h.ma k x hk hx)), b⟩
theorem Ch.keep (h : Ch e B w L gv n G T M F) (ho : Only [] w w') : Ch e B w' L gv n G T M F := h.only ho (by simp) (by simp)
theorem Ch.frow (h : Ch e B w L gv n G T M F) {k : Nat} (hk : k < n) (i : Nat) : w.frozen? ⟨L.rb k, i, none⟩ = false := h.own.frozen (List.mem_cons_of_mem _ (List.mem_map.2 ⟨k, List.mem_range.2 hk, rfl⟩))
theorem Ch.fgen (h : Ch e B w L gv n G T M F) (i : Nat) : w.frozen? ⟨L.bg, i, none⟩ = false := h.own.frozen (by simp)

/-- an entry of a row -/
theorem Ch.at (h : Ch e B w L gv n G T M F) {k : Nat} (hk : k < n) {y : Int} (h0 : 0 ≤ y) (hy : y < n) :
    ∃ v f, w.cell? ⟨L.rb k, y.toNat, none⟩ = some v ∧ Rd w v (PM.tr T k y) f ∧ (PM.tr T k y = [] → v = .slice none 0 0) ∧ ∀ b ∈ f, b ∈ F := by
  have := h.elt k y.toNat hk (by omega)
  rwa [show ((y.toNat : Nat) : Int) = y by omega] at this
/-- a nil entry -/
theorem Ch.at_nil (h : Ch e B w L gv n G T M F) {k : Nat} (hk : k < n) {y : Int} (h0 : 0 ≤ y) (hy : y < n) (ht : PM.tr T k y = []) : w.cell? ⟨L.rb k, y.toNat, none⟩ = some (.slice none 0 0) := by
  obtain ⟨v, f, a, b, c, d⟩ := h.at hk h0 hy
  rw [a, c ht]
/-- another entry -/
theorem Ch.at_some (h : Ch e B w L gv n G T M F) {k : Nat} (hk : k < n) {y : Int} (h0 : 0 ≤ y) (hy : y < n) (ht : PM.tr T k y ≠ []) :
    ∃ b off cap f, w.cell? ⟨L.rb k, y.toNat, none⟩ = some (.slice (some ⟨b, off, none⟩) (PM.tr T k y).length cap) ∧ Rd w (.slice (some ⟨b, off, none⟩) (PM.tr T k y).length cap) (PM.tr T k y) f ∧ ∀ b ∈ f, b ∈ F := by
  obtain ⟨v, f, a, b, c, d⟩ := h.at hk h0 hy
  obtain ⟨ad, cap, rfl, hI⟩ := b.ints
  have hl : 0 < (PM.tr T k y).length := List.length_pos_iff.2 ht
  obtain ⟨b', off, rfl, -, -⟩ := hI.at_ 0 hl
  exact ⟨b', off, cap, f, a, b, d⟩

theorem setCell_only (w : World) (b i : Nat) (v : Value) : Only [b] w (w.setCell ⟨b, i, none⟩ v) := (Only.refl [b] w).setCell (by simp) v
/-- an entry more -/
theorem Ch.setRow (h : Ch e B w L gv n G T M F) {k m : Nat} (hk : k < n) (hm : m < n) {v : Value} {p : List Int} {f : List Nat} (hv : Rd w v p f) (hp : p ≠ []) (hf : ∀ b ∈ f, b ∉ M) :
    Ch e B (w.setCell ⟨L.rb k, m, none⟩ v) L gv n G (PM.setT T k m p) M (F ++ f) := by
  have ho := setCell_only w (L.rb k) m v
  have hrM := h.mr k hk
  have gF : ∀ b ∈ F, b ∉ [L.rb k] := fun b hb hm => by
    have e : b = L.rb k := by simpa using hm
    subst e; exact h.mf _ hrM hb
  have gf : ∀ b ∈ f, b ∉ [L.rb k] := fun b hb hm => by
    have e : b = L.rb k := by simpa using hm
    subst e; exact hf _ hb hrM
  have hl := fun j y => PM.tr_setT (T := T) (k := k) (m := m) (by rw [h.shape.lt]; exact hk) (by rw [h.shape.lr k hk]; exact hm) p j y
  refine ⟨h.shape.setT k m p, h.pos, h.le, ho.cell (gF _ h.gF) h.cn, ho.cell (gF _ h.gF) h.cg, ho.cell (gF _ h.gF) h.ct, fun j hj => ho.cell (gF _ h.btF) (h.row j hj), fun j hj => ho.cell (by simpa using (h.rg k hk).symm) (h.gen j hj), ?_, ?_, h.mg, h.mr, h.ma, List.mem_append_left _ h.gF, List.mem_append_left _ h.btF, ?_, h.own.setCell _ _, fun b hb => Nat.lt_of_lt_of_le (h.lM b hb) ho.size, ?_, h.ge, h.rr, h.rg, h.ag, h.aa⟩
  · intro j i hj hi
    rw [hl j i]
    obtain ⟨u, fu, a, b, c, d⟩ := h.elt j i hj hi
    by_cases hji : j = k ∧ (i : Int) = (m : Int)
    · obtain ⟨rfl, e2⟩ := hji
      have e2' : i = m := by omega
      subst e2'
      rw [if_pos ⟨rfl, rfl⟩]
      exact ⟨v, f, World.cell?_setCell_same _ _ _ a, Rp.only hv ho gf, fun e => absurd e hp, fun b hb => List.mem_append_right _ hb⟩
    · rw [if_neg hji]
      refine ⟨u, fu, ?_, Rp.only b ho fun x hx => gF x (d x hx), c, fun b hb => List.mem_append_left _ (d b hb)⟩
      by_cases hjk : j = k
      · subst hjk
        have : i ≠ m := fun e => hji ⟨rfl, by omega⟩
        rw [World.cell?_setCell_other _ _ _ _ (by intro e; injection e with _ e2 _; exact this e2.symm)]; exact a
      · rw [World.cell?_setCell_other _ _ _ _ (by
          intro e; injection e with e1 _ _; exact hjk (h.rr _ _ hj hk e1.symm))]; exact a
  · intro j hj
    obtain ⟨fs, a, b⟩ := h.acc j hj
    refine ⟨fs, a.only ho (fun x hx => gF x (b x hx)) (fun x hx hm => ?_), fun x hx => List.mem_append_left _ (b x hx)⟩
    have e : x = L.rb k := by simpa using hm
    exact (h.ag j x hj hx).2 k hk e
  · intro b hb hm
    rcases List.mem_append.1 hm with hm | hm
    · exact h.mf b hb hm
    · exact hf b hm hb
  · intro b hb
    rcases List.mem_append.1 hb with hb | hb
    · exact Nat.lt_of_lt_of_le (h.lF b hb) ho.size
    · exact Nat.lt_of_lt_of_le (Rp.lt hv b hb) ho.size
def upd (gv : Nat → Value) (k : Nat) (v : Value) : Nat → Value := fun j => if j = k then v else gv j
theorem upd_same (gv : Nat → Value) (k : Nat) (v : Value) : upd gv k v k = v := if_pos rfl
theorem upd_other (gv : Nat → Value) {j k : Nat} (v : Value) (h : j ≠ k) : upd gv k v j = gv j := if_neg h
/-- a generator more -/
theorem Ch.setGen (h : Ch e B w L gv n G T M F) {k : Nat} (hk : k < n) {w1 : World} (ho : Only (gv k).ownBlock.toList w w1) {v' : Value} {p : List Int} {fs : List (List Nat)}
    (hA : Acc B e w1 v' (PM.lv G k ++ [p]) fs) {f : List Nat} (hfs : ∀ b ∈ fs.flatten, b ∈ F ∨ b ∈ f) (hf : ∀ b ∈ f, b ∉ M ∧ b < w.heap.size) (hv : v'.ownBlock = (gv k).ownBlock ∨ v'.ownBlock = some w.heap.size) :
    Ch e B (w1.setCell ⟨L.bg, k, none⟩ v') L (upd gv k v') n (G.set k (PM.lv G k ++ [p])) T (v'.ownBlock.toList ++ M) (F ++ f) := by
  have ho2 := setCell_only w1 L.bg k v'
  have hobM : ∀ b ∈ (gv k).ownBlock.toList, b ∈ M := fun b hb => h.ma k b hk (by simpa using hb)
  have gF1 : ∀ b ∈ F, b ∉ (gv k).ownBlock.toList := fun b hb hm => h.mf b (hobM b hm) hb
  have gF2 : ∀ b ∈ F, b ∉ [L.bg] := fun b hb hm => by
    have e : b = L.bg := by simpa using hm
    subst e; exact h.mf _ h.mg hb
  have hsz : w.heap.size ≤ w1.heap.size := ho.size
  have hl := fun j => PM.lv_set (G := G) (k := k) (by rw [h.shape.lg]; exact hk) (PM.lv G k ++ [p]) j
  have hvM : ∀ b, v'.ownBlock = some b → b ∈ M ∧ (gv k).ownBlock = some b ∨ b = w.heap.size := by
    intro b hb
    rcases hv with e | e
    · rw [e] at hb; exact .inl ⟨h.ma k b hk hb, hb⟩
    · rw [e] at hb; injection hb with hb; exact .inr hb.symm
  have hvne : ∀ b, v'.ownBlock = some b → b ≠ L.bg ∧ ∀ j, j < n → b ≠ L.rb j := by
    intro b hb
    rcases hvM b hb with ⟨-, e⟩ | e
    · exact h.ag k b hk e
    · subst e
      refine ⟨fun e => ?_, fun j hj e => ?_⟩
      · have := h.lM _ h.mg; omega
      · have := h.lM _ (h.mr j hj); omega
  have hvo : ∀ j b, j < n → j ≠ k → v'.ownBlock = some b → (gv j).ownBlock ≠ some b := by
    intro j b hj hjk hb he
    rcases hvM b hb with ⟨-, e⟩ | e
    · exact hjk (h.aa j k b hj hk he e)
    · subst e; have := h.lM _ (h.ma j _ hj he); omega
  have hel : ∀ b, b ∈ M → b ∉ (gv k).ownBlock.toList → w1.heap[b]? = w.heap[b]? := fun b hb hn => ho.block b (h.lM b hb) hn
  have hbgk : L.bg ∉ (gv k).ownBlock.toList := fun hm => (h.ag k L.bg hk (by simpa using hm)).1 rfl
  have hrbk : ∀ j, j < n → L.rb j ∉ (gv k).ownBlock.toList := fun j hj hm => (h.ag k _ hk (by simpa using hm)).2 j hj rfl
  refine ⟨h.shape.setG k _, h.pos, h.le, ho2.cell (gF2 _ h.gF) (ho.cell (gF1 _ h.gF) h.cn), ho2.cell (gF2 _ h.gF) (ho.cell (gF1 _ h.gF) h.cg), ho2.cell (gF2 _ h.gF) (ho.cell (gF1 _ h.gF) h.ct),
    fun j hj => ho2.cell (gF2 _ h.btF) (ho.cell (gF1 _ h.btF) (h.row j hj)), ?_, ?_, ?_, List.mem_append_right _ h.mg, fun j hj => List.mem_append_right _ (h.mr j hj), ?_, List.mem_append_left _ h.gF, List.mem_append_left _ h.btF, ?_, ?_, ?_, ?_, ?_, h.rr, h.rg, ?_, ?_⟩
  · intro j hj
    have hc := ho.cell (p := ⟨L.bg, j, none⟩) hbgk (h.gen j hj)
    by_cases hjk : j = k
    · subst hjk
      rw [upd_same]; exact World.cell?_setCell_same _ _ _ hc
    · rw [upd_other _ _ hjk, World.cell?_setCell_other _ _ _ _ (by intro e; injection e with _ e2 _; exact hjk e2.symm)]; exact hc
  · intro j i hj hi
    obtain ⟨u, fu, a, b, c, d⟩ := h.elt j i hj hi
    refine ⟨u, fu, ho2.cell (by simpa using h.rg j hj) (ho.cell (hrbk j hj) a), Rp.only (Rp.only b ho fun x hx => gF1 x (d x hx)) ho2 fun x hx => gF2 x (d x hx), c, fun x hx => List.mem_append_left _ (d x hx)⟩
  · intro j hj
    rw [hl j]
    by_cases hjk : j = k
    · subst hjk
      rw [upd_same, if_pos rfl]
      refine ⟨fs, hA.only ho2 (fun x hx hm => ?_) (fun x hx hm => ?_), fun x hx => ?_⟩
      · have e : x = L.bg := by simpa using hm
        subst e
        rcases hfs _ hx with h1 | h1
        · exact h.mf _ h.mg h1
        · exact (hf _ h1).1 h.mg
      · exact (hvne x hx).1 (by simpa using hm)
      · rcases hfs x hx with h1 | h1
        · exact List.mem_append_left _ h1
        · exact List.mem_append_right _ h1
    · rw [upd_other _ _ hjk, if_neg hjk]
      obtain ⟨fs', a, b⟩ := h.acc j hj
      refine ⟨fs', (a.only ho (fun x hx => gF1 x (b x hx)) (fun x hx hm => ?_)).only ho2 (fun x hx => gF2 x (b x hx)) (fun x hx hm => ?_), fun x hx => List.mem_append_left _ (b x hx)⟩
      · exact hjk (h.aa j k x hj hk hx (by simpa using hm))
      · exact (h.ag j x hj hx).1 (by simpa using hm)
  · intro j b hj hb
    by_cases hjk : j = k
    · subst hjk
      rw [upd_same] at hb; exact List.mem_append_left _ (by simp [hb])
    · rw [upd_other _ _ hjk] at hb; exact List.mem_append_right _ (h.ma j b hj hb)
  · intro b hb hm
    have hbF : b ∈ F → False := fun hF => by
      rcases List.mem_append.1 hb with hb | hb
      · rcases hvM b (by simpa using hb) with ⟨e, -⟩ | e
        · exact h.mf b e hF
        · have := h.lF b hF; omega
      · exact h.mf b hb hF
    rcases List.mem_append.1 hm with hm | hm
    · exact hbF hm
    · obtain ⟨h1, h2⟩ := hf b hm
      rcases List.mem_append.1 hb with hb | hb
      · rcases hvM b (by simpa using hb) with ⟨e, -⟩ | e
        · exact h1 e
        · omega
      · exact h1 hb
  · refine Own.setCell (h.own.frame fun b hb => ho.block b (h.lM b (h.core b hb)) fun hm => ?_) _ _
    have hm' : (gv k).ownBlock = some b := by simpa using hm
    rcases List.mem_cons.1 hb with e | hb
    · exact (h.ag k b hk hm').1 e
    · obtain ⟨j, hj, e⟩ := List.mem_map.1 hb
      exact (h.ag k b hk hm').2 j (List.mem_range.1 hj) e.symm
  · intro b hb
    have hlt : b < w1.heap.size := by
      rcases List.mem_append.1 hb with hb | hb
      · exact (hA.ownlt b (by simpa using hb)).2
      · exact Nat.lt_of_lt_of_le (h.lM b hb) ho.size
    exact Nat.lt_of_lt_of_le hlt ho2.size
  · intro b hb
    have : b < w.heap.size := by
      rcases List.mem_append.1 hb with hb | hb
      · exact h.lF b hb
      · exact (hf b hb).2
    exact Nat.lt_of_lt_of_le (Nat.lt_of_lt_of_le this ho.size) ho2.size
  · intro b hb
    rcases List.mem_append.1 hb with hb | hb
    · exact (hA.ownlt b (by simpa using hb)).1
    · exact h.ge b hb
  · intro j b hj hb
    by_cases hjk : j = k
    · subst hjk; rw [upd_same] at hb; exact hvne b hb
    · rw [upd_other _ _ hjk] at hb; exact h.ag j b hj hb
  · intro i j b hi hj h1 h2
    by_cases hik : i = k
    · by_cases hjk : j = k
      · omega
      · subst hik; rw [upd_same] at h1; rw [upd_other _ _ hjk] at h2
        exact absurd h2 (hvo j b hj hjk h1)
    · rw [upd_other _ _ hik] at h1
      by_cases hjk : j = k
      · subst hjk; rw [upd_same] at h2; exact absurd h1 (hvo i b hi hik h2)
      · rw [upd_other _ _ hjk] at h2; exact h.aa i j b hi hj h1 h2
end
end Go.Proofs.Ytpfmkjcngknecaa
