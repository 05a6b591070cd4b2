/- The making of chains: the program's newChain, the reference's emptyChain and buildChain. The laws' dice: bytes in memory; roll, below. The reference's source of choices: newSource, nextByte, below, oneIn, between, extremeInt, numberUpTo (laws 34, 35, ..). What it draws is left open: its bounds are told. IsGeneratorSet: the reference's and the program's. Puzzle: plain data, how it lies in memory, the laws' own helpers on it. (Printed by gen_struct.py.) IsValidPuzzle: the reference's and the program's. -/
import Derived.Test.YtbediokigibdlaaRowNormalityG6
import Derived.Test.YtbediokigibdlaaRowNormalityG1
import Derived.Deep.QuietTactic
import Derived.BigQuiet
import Derived.BigRegion
import Derived.Laws.Bits64b
import Derived.Test.YtbediokigibdlaaRowNormalityG3
namespace Go.Proofs.Ytbediokigibdlaa
open Go.RowKit
set_option maxRecDepth 10000

/-- a header as it lies in a cell -/
structure RawV where
  v : Value
instance : Rp RawV where
  size := 1
  rep _ cs x fp := cs = [x.v] ∧ fp = []
  len h := by rw [h.1]; rfl
  frame h _ := h
  lt h := by rw [h.2]; simp
theorem Acc.raw {B : Nat} {e : TypeId} {w : World} {v : Value} {l : List RawV} {fs : List (List Nat)} (h : Acc B e w v l fs) {k : Nat} (hk : k < l.length) :
    ∃ g c, v = .slice (some ⟨g, 0, none⟩) l.length c ∧ w.cell? ⟨g, k, none⟩ = some l[k].v := by
  obtain ⟨css, ho, hcl, hr⟩ := h.own
  have hfl := h.fl
  have hcss : css.flatten = l.map RawV.v := by
    have : css = l.map fun x => [x.v] := by
      apply List.ext_getElem (by simp [hcl])
      intro i h1 h2
      rw [(hr i h1 (by omega) (by omega)).1]; simp
    rw [this]
    clear this hr hcl hfl ho h hk
    induction l with
    | nil => rfl
    | cons x l ih => simp [ih]
  rcases ho.2 with ⟨-, h0⟩ | ⟨g, cap, cur, hv, -⟩
  · omega
  · refine ⟨g, cap, hv, ?_⟩
    have := ho.cells (g := g) (by rw [hv]; rfl) k l[k].v (by rw [hcss]; simp [hk])
    have hadd : (⟨g, 0, none⟩ : Addr).add k = ⟨g, k, none⟩ := by unfold Addr.add; split <;> simp_all
    rwa [hadd] at this
theorem wpList_push2d {P : Program} {α : Type} [Rp α] {ops : Array Oper} {rest : List Oper} {o : Oper} {a : Act} {w : World} {Q : Exit → Act → World → Prop} (hgd : o.guard = none) (s x : Operand) (t : TypeId)
    (ho : o.op = .call { callee := .builtin .append, args := #[s, x], argTypes := #[t, t] })
    (B : Nat) (e : TypeId) (i : TypeInfo) (z : Value) (bytes : Nat) (ht : P.underlying t = some (.slice e)) (hi : P.info? e = some i) (hz : i.zero = some z)
    (hsize : i.size = Rp.size α) (hby : i.bytes = bytes) (hzs : z.cells.size = Rp.size α) (hsz : 0 < Rp.size α) (hbb : bytes ≤ 65536)
    (w0 : World) (v : Value) (l : List α) (fs : List (List Nat)) (hs : a.eval s = v) (hA : Acc B e w0 v l fs) (hK0 : Only [] w0 w) (hB : B ≤ w0.heap.size)
    (g c : Nat) (cs : List Value) (y : α) (fp : List Nat) (hx : a.eval x = .slice (some ⟨g, 0, none⟩) 1 c) (hsrc : ∀ j u, cs[j]? = some u → w.cell? ⟨g, j, none⟩ = some u) (hcs : ∀ u ∈ cs, u.oneCell' = true)
    (hy : Rp.rep w cs y fp) (hap : ∀ b ∈ fp, v.ownBlock ≠ some b) (hlen : l.length + 1 ≤ 1073741824)
    (h : ∀ v' w', Acc B e w' v' (l ++ [y]) (fs ++ [fp]) → Only v.ownBlock.toList w w' → (v'.ownBlock = v.ownBlock ∨ v'.ownBlock = some w.heap.size) → wpList P ops Q rest (a.put o.dst v') w') : wpList P ops Q (o :: rest) a w :=
  wpList_plain hgd fun _ hK => wp_push2 s x t ho B e i z bytes ht hi hz hsize hby hzs hsz hbb w0 v l fs hs hA hK0 hB g c cs y fp hx hsrc hcs hy hap hlen fun v' w' h1 h2 _ _ h5 => hK _ _ (h v' w' h1 h2 h5)

/-- the blocks of a chain that is being made -/
inductive Key
  | g | tv | gt | row (k : Nat) | emp (k : Nat) | idn (k : Nat)
deriving DecidableEq
structure Sep (B : Nat) (w : World) (S : Key → List Nat) : Prop where
  le : B ≤ w.heap.size
  ge : ∀ a, ∀ x ∈ S a, B ≤ x
  sep : ∀ a b, a ≠ b → ∀ x ∈ S a, x ∉ S b
  lt : ∀ a, ∀ x ∈ S a, x < w.heap.size
def updS (S : Key → List Nat) (a : Key) (l : List Nat) : Key → List Nat := fun b => if b = a then l else S b
theorem updS_same (S : Key → List Nat) (a : Key) (l : List Nat) : updS S a l a = l := if_pos rfl
theorem updS_other (S : Key → List Nat) {a b : Key} (l : List Nat) (h : b ≠ a) : updS S a l b = S b := if_neg h
section
variable {B : Nat} {w w' : World} {S : Key → List Nat}
theorem Sep.keep (h : Sep B w S) (hs : w.heap.size ≤ w'.heap.size) : Sep B w' S := ⟨Nat.le_trans h.le hs, h.ge, h.sep, fun a x hx => Nat.lt_of_lt_of_le (h.lt a x hx) hs⟩
theorem Sep.upd (h : Sep B w S) {a : Key} {l : List Nat} (hl : ∀ x ∈ l, w.heap.size ≤ x ∧ x < w'.heap.size) (hs : w.heap.size ≤ w'.heap.size)   : Sep B w' (updS S a l) := by
  refine ⟨Nat.le_trans h.le hs, fun b x hx => ?_, fun b c hbc x hx hx' => ?_, fun b x hx => ?_⟩
  · unfold updS at hx
    split at hx
    · have := (hl x hx).1; have := h.le; omega
    · exact h.ge b x hx
  · unfold updS at hx hx'
    split at hx
    · rename_i e1
      split at hx'
      · rename_i e2; exact hbc (e1.trans e2.symm)
      · have := (hl x hx).1; have := h.lt c x hx'; omega
    · split at hx'
      · have := (hl x hx').1; have := h.lt b x hx; omega
      · exact h.sep b c hbc x hx hx'
  · unfold updS at hx
    split at hx
    · exact (hl x hx).2
    · exact Nat.lt_of_lt_of_le (h.lt b x hx) hs
end
def rowV (n b : Nat) : Value := .slice (some ⟨b, 0, none⟩) n n
def rowsV (n : Nat) (rb : Nat → Nat) (j : Nat) : List RawV := (List.range j).map fun k => ⟨rowV n (rb k)⟩
theorem rowsV_len (n : Nat) (rb : Nat → Nat) (j : Nat) : (rowsV n rb j).length = j := by simp [rowsV]
def updF {α : Type} (f : Nat → α) (k : Nat) (v : α) : Nat → α := fun j => if j = k then v else f j
theorem updF_same {α : Type} (f : Nat → α) (k : Nat) (v : α) : updF f k v k = v := if_pos rfl
theorem updF_other {α : Type} (f : Nat → α) {j k : Nat} (v : α) (h : j ≠ k) : updF f k v j = f j := if_neg h
theorem rowsV_succ (n : Nat) (rb : Nat → Nat) (j b : Nat) : rowsV n (updF rb j b) (j + 1) = rowsV n rb j ++ [⟨rowV n b⟩] := by
  unfold rowsV
  rw [List.range_succ, List.map_append]
  congr 1
  · refine List.map_congr_left fun k hk => ?_
    rw [updF_other _ _ (by have := List.mem_range.1 hk; omega)]
  · simp [updF_same]

/-- the rows of an empty chain, the first j of them -/
structure Em (e : TypeId) (B n j : Nat) (w : World) (S : Key → List Nat) (tv : Value) (rb : Nat → Nat) (iv : Nat → Value) : Prop where
  sep : Sep B w S
  acc : ∃ fs, Acc B e w tv (rowsV n rb j) fs ∧ fs.flatten = []
  tvS : tv.ownBlock.toList = S .tv
  cell : ∀ k i, k < j → i < n → w.cell? ⟨rb k, i, none⟩ = some (if i = k then iv k else .slice none 0 0)
  own : ∀ k, k < j → Own w [rb k]
  rS : ∀ k, k < j → S (.row k) = [rb k]
  idn : ∀ k, k < j → Rd w (iv k) (PM.pts n) (S (.idn k))
section
variable {e : TypeId} {B n j : Nat} {w w' : World} {S : Key → List Nat} {tv : Value} {rb : Nat → Nat} {iv : Nat → Value}
theorem Sep.start {B : Nat} {w : World} (g gt : List Nat) (hB : B ≤ w.heap.size) (hg : ∀ x ∈ g, x ∉ gt) (hgl : ∀ x ∈ g, B ≤ x ∧ x < w.heap.size) (hgt : ∀ x ∈ gt, B ≤ x ∧ x < w.heap.size) : Sep B w (updS (updS (fun _ => []) .g g) .gt gt) := by
  have hm : ∀ a x, x ∈ updS (updS (fun _ => []) .g g) .gt gt a → (a = .gt ∧ x ∈ gt) ∨ (a = .g ∧ x ∈ g) := by
    intro a x hx
    unfold updS at hx
    split at hx
    · rename_i e; exact .inl ⟨e, hx⟩
    · split at hx
      · rename_i e; exact .inr ⟨e, hx⟩
      · cases hx
  refine ⟨hB, fun a x hx => ?_, fun a b hab x hx hx' => ?_, fun a x hx => ?_⟩
  · rcases hm a x hx with ⟨-, h⟩ | ⟨-, h⟩
    · exact (hgt x h).1
    · exact (hgl x h).1
  · rcases hm a x hx with ⟨e, h⟩ | ⟨e, h⟩
    · rcases hm b x hx' with ⟨e', h'⟩ | ⟨e', h'⟩
      · exact hab (e.trans e'.symm)
      · exact hg x h' h
    · rcases hm b x hx' with ⟨e', h'⟩ | ⟨e', h'⟩
      · exact hg x h h'
      · exact hab (e.trans e'.symm)
  · rcases hm a x hx with ⟨-, h⟩ | ⟨-, h⟩
    · exact (hgt x h).2
    · exact (hgl x h).2
theorem Em.start {S : Key → List Nat} {w : World} (e : TypeId) {B : Nat} (n : Nat) (hs : Sep B w S) (ht : S .tv = []) (rb : Nat → Nat) (iv : Nat → Value) : Em e B n 0 w S (.slice none 0 0) rb iv :=
  ⟨hs, ⟨[], Acc.nil _ _ _, rfl⟩, by rw [ht]; rfl, by intro _ _ h; omega, by intro _ h; omega, by intro _ h; omega, by intro _ h; omega⟩
theorem Em.only (h : Em e B n j w S tv rb iv) {fp : List Nat} (ho : Only fp w w') (hd : ∀ b ∈ fp, b ∉ S .tv ∧ (∀ k, b ∉ S (.row k)) ∧ ∀ k, b ∉ S (.idn k)) : Em e B n j w' S tv rb iv := by
  have hr : ∀ k, k < j → rb k ∉ fp := fun k hk hm => (hd _ hm).2.1 k (by rw [h.rS k hk]; simp)
  obtain ⟨fs, hA, hfs⟩ := h.acc
  refine ⟨h.sep.keep ho.size, ⟨fs, hA.only ho (by rw [hfs]; simp) (fun g hg hm => (hd g hm).1 (by rw [← h.tvS]; simp [hg])), hfs⟩, h.tvS, fun k i hk hi => ho.cell (hr k hk) (h.cell k i hk hi), fun k hk => (h.own k hk).only ho (by simpa using hr k hk), h.rS, fun k hk => Rp.only (h.idn k hk) ho fun b hb hm => (hd b hm).2.2 k hb⟩
theorem Em.keep (h : Em e B n j w S tv rb iv) (ho : Only [] w w') : Em e B n j w' S tv rb iv := h.only ho (by simp)
theorem Em.reS (h : Em e B n j w S tv rb iv) {S' : Key → List Nat} (hs : Sep B w S') (h1 : S' .tv = S .tv) (h2 : ∀ k, S' (.row k) = S (.row k)) (h3 : ∀ k, S' (.idn k) = S (.idn k)) : Em e B n j w S' tv rb iv :=
  ⟨hs, h.acc, by rw [h1]; exact h.tvS, h.cell, h.own, fun k hk => by rw [h2]; exact h.rS k hk, fun k hk => by rw [h3]; exact h.idn k hk⟩
/-- a row more -/
theorem Em.step (h : Em e B n j w S tv rb iv) (hj : j < n) {eI : TypeId} {w1 w2 w4 w5 : World} (hown : w1.ownsRow w.heap.size eI 1 (.slice (some ⟨w.heap.size, 0, none⟩) n n) n (List.replicate n (.slice none 0 0))) (h1 : Only [] w w1)
    {v2 : Value} {f2 : List Nat} (r2 : Rd w2 v2 (PM.pts n) f2) (F2 : Fresh w1.heap.size w2 f2) (h2 : Only [] w1 w2) (h4 : Only [] (w2.setCell ⟨w.heap.size, j, none⟩ v2) w4)
    {tv' : Value} {fs' : List (List Nat)} (hA : Acc B e w5 tv' (rowsV n rb j ++ [⟨rowV n w.heap.size⟩]) fs') (hfs : fs'.flatten = []) (h5 : Only tv.ownBlock.toList w4 w5) (hb : tv'.ownBlock = tv.ownBlock ∨ tv'.ownBlock = some w4.heap.size) :
    ∃ S', Em e B n (j + 1) w5 S' tv' (updF rb j w.heap.size) (updF iv j v2) ∧ S' .g = S .g ∧ S' .gt = S .gt ∧ ∀ k, S' (.emp k) = S (.emp k) := by
  have hs0 : w.heap.size < w1.heap.size := (hown.lt w.heap.size rfl).2
  have hst := setCell_only w2 w.heap.size j v2
  have hsz2 := h2.size
  have hsz3 := hst.size
  have hsz4 := h4.size
  have hsz5 := h5.size
  have htv : ∀ b ∈ tv.ownBlock.toList, b ∈ S .tv ∧ b < w.heap.size := fun b hb' => by
    rw [h.tvS] at hb'; exact ⟨hb', h.sep.lt _ b hb'⟩
  -- the old rows
  have hE3 : Em e B n j (w2.setCell ⟨w.heap.size, j, none⟩ v2) S tv rb iv := ((h.keep h1).keep h2).only hst fun b hb' => by
    have e : b = w.heap.size := by simpa using hb'
    subst e
    exact ⟨fun hm => Nat.lt_irrefl _ (h.sep.lt _ _ hm), fun k hm => Nat.lt_irrefl _ (h.sep.lt _ _ hm), fun k hm => Nat.lt_irrefl _ (h.sep.lt _ _ hm)⟩
  have hE4 := hE3.keep h4
  have hf2 : ∀ b ∈ f2, w1.heap.size ≤ b ∧ b < w2.heap.size := fun b hb' => ⟨F2.ge b hb', F2.lt b hb'⟩
  -- the new row's cells
  have hown2 := owns_keep hown h2
  obtain ⟨hown3, -⟩ := hown2.stored j v2
  have hown4 := owns_keep hown3 h4
  have hown5 := owns_only hown4 h5 fun g hg hm => by
    have := (htv g hm).2
    simp [Value.ownBlock] at hg; omega
  have hr5 : Rd w5 v2 (PM.pts n) f2 := by
    refine Rp.only (Rp.keep (Rp.only r2 hst fun b hb' hm => ?_) h4) h5 fun b hb' hm => ?_
    · have e : b = w.heap.size := by simpa using hm
      have := (hf2 b hb').1; omega
    · have := (htv b hm).2; have := (hf2 b hb').1; omega
  have hE5 : ∀ k i, k < j → i < n → w5.cell? ⟨rb k, i, none⟩ = some (if i = k then iv k else .slice none 0 0) := fun k i hk hi =>
    h5.cell (fun hm => h.sep.sep .tv (.row k) (by simp) _ (htv _ hm).1 (by rw [h.rS k hk]; simp)) (hE4.cell k i hk hi)
  have hO5 : ∀ k, k < j → Own w5 [rb k] := fun k hk => (hE4.own k hk).only h5 fun b hb' hm => by
    have e : b = rb k := by simpa using hb'
    subst e
    exact h.sep.sep .tv (.row k) (by simp) _ (htv _ hm).1 (by rw [h.rS k hk]; simp)
  have hI5 : ∀ k, k < j → Rd w5 (iv k) (PM.pts n) (S (.idn k)) := fun k hk => Rp.only (hE4.idn k hk) h5 fun b hb' hm => h.sep.sep .tv (.idn k) (by simp) b (htv b hm).1 hb'
  -- the blocks
  have hS1 : Sep B w1 (updS S (.row j) [w.heap.size]) := h.sep.upd (fun x hx => by
    have e : x = w.heap.size := by simpa using hx
    omega) h1.size
  have hS2 : Sep B w2 (updS (updS S (.row j) [w.heap.size]) (.idn j) f2) := hS1.upd hf2 hsz2
  have hS4 : Sep B w4 (updS (updS S (.row j) [w.heap.size]) (.idn j) f2) := hS2.keep (by omega)
  have key : ∀ S' : Key → List Nat, Sep B w5 S' → tv'.ownBlock.toList = S' .tv → (∀ k, S' (.row k) = updS S (.row j) [w.heap.size] (.row k)) → (∀ k, S' (.idn k) = updS S (.idn j) f2 (.idn k)) → Em e B n (j + 1) w5 S' tv' (updF rb j w.heap.size) (updF iv j v2) := by
    intro S' hs ht hr hi
    refine ⟨hs, ⟨fs', by rw [rowsV_succ]; exact hA, hfs⟩, ht, fun k i hk hin => ?_, fun k hk => ?_, fun k hk => ?_, fun k hk => ?_⟩
    · by_cases e : k = j
      · subst e
        rw [updF_same, updF_same, hown5.cellAt i (by omega)]
        by_cases e2 : i = k
        · subst e2; simp [hin]
        · rw [if_neg e2, List.getElem?_set_ne (by omega), List.getElem?_replicate, if_pos hin]
      · rw [updF_other _ _ e, updF_other _ _ e]; exact hE5 k i (by omega) hin
    · by_cases e : k = j
      · subst e
        rw [updF_same]
        exact (own_fresh hown5).own
      · rw [updF_other _ _ e]; exact hO5 k (by omega)
    · rw [hr k]
      by_cases e : k = j
      · subst e; rw [updS_same, updF_same]
      · rw [updF_other _ _ e, updS_other _ _ (by simpa using e)]; exact h.rS k (by omega)
    · rw [hi k]
      by_cases e : k = j
      · subst e; rw [updS_same, updF_same]; exact hr5
      · rw [updF_other _ _ e, updS_other _ _ (by simpa using e)]; exact hI5 k (by omega)
  rcases hb with hb | hb
  · refine ⟨updS (updS S (.row j) [w.heap.size]) (.idn j) f2, key _ (hS4.keep hsz5) ?_ (fun k => ?_) (fun k => ?_), ?_, ?_, fun k => ?_⟩
    · rw [hb, h.tvS, updS_other _ _ (by simp), updS_other _ _ (by simp)]
    · rw [updS_other _ _ (by simp)]
    · unfold updS; split <;> rfl
    · rw [updS_other _ _ (by simp), updS_other _ _ (by simp)]
    · rw [updS_other _ _ (by simp), updS_other _ _ (by simp)]
    · rw [updS_other _ _ (by simp), updS_other _ _ (by simp)]
  · have hlt := (hA.ownlt _ hb).2
    refine ⟨updS (updS (updS S (.row j) [w.heap.size]) (.idn j) f2) .tv [w4.heap.size], key _ (hS4.upd (fun x hx => by
      have e : x = w4.heap.size := by simpa using hx
      omega) hsz5) ?_ (fun k => ?_) (fun k => ?_), ?_, ?_, fun k => ?_⟩
    · rw [hb, updS_same]; rfl
    · rw [updS_other _ _ (by simp), updS_other _ _ (by simp)]
    · rw [updS_other _ _ (by simp)]; unfold updS; split <;> rfl
    · rw [updS_other _ _ (by simp), updS_other _ _ (by simp), updS_other _ _ (by simp)]
    · rw [updS_other _ _ (by simp), updS_other _ _ (by simp), updS_other _ _ (by simp)]
    · rw [updS_other _ _ (by simp), updS_other _ _ (by simp), updS_other _ _ (by simp)]
/-- an empty chain -/
theorem Em.ch (h : Em e B n n w S tv rb iv) (hn : 0 < n) (hn20 : n ≤ 20) {g bg oG oT cG : Nat} {eG : TypeId} (gv : Nat → Value) (hg : S .g = [g]) (hgt : S .gt = [bg])
    (cn : w.cell? ⟨g, 0, none⟩ = some (.int .i64 n)) (cg : w.cell? ⟨g, oG, none⟩ = some (.slice (some ⟨bg, 0, none⟩) n cG)) (ct : w.cell? ⟨g, oT, none⟩ = some tv)
    (hgen : ∀ k, k < n → w.cell? ⟨bg, k, none⟩ = some (gv k)) (hacc : ∀ k, k < n → Acc B eG w (gv k) ([] : List (List Int)) []) (hgS : ∀ k, k < n → (gv k).ownBlock.toList = S (.emp k)) (hob : Own w [bg]) :
    ∃ (L : Lay) (M F : List Nat), L.g = g ∧ L.oG = oG ∧ L.oT = oT ∧ (∀ b ∈ F, B ≤ b) ∧ Ch eG B w L gv n (PM.G0 n) (PM.T0 n) M F := by
  obtain ⟨fs, hA, -⟩ := h.acc
  have hlen := rowsV_len n rb n
  obtain ⟨bt, cT, htv, -⟩ := hA.raw (k := 0) (by omega)
  rw [hlen] at htv
  have hbt : S .tv = [bt] := by rw [← h.tvS, htv]; rfl
  have hrow : ∀ k, k < n → w.cell? ⟨bt, k, none⟩ = some (.slice (some ⟨rb k, 0, none⟩) n n) := fun k hk => by
    obtain ⟨g', c', e1, e2⟩ := hA.raw (k := k) (by omega)
    have e3 := htv.symm.trans e1
    injection e3 with e4 _ _
    injection e4 with e5
    injection e5 with e6 _ _
    rw [← e6] at e2
    rw [e2]; simp [rowsV, rowV]
  have hbgm : bg ∈ S .gt := by rw [hgt]; simp
  have hgm : g ∈ S .g := by rw [hg]; simp
  have hbtm : bt ∈ S .tv := by rw [hbt]; simp
  have hrm : ∀ k, k < n → rb k ∈ S (.row k) := fun k hk => by rw [h.rS k hk]; simp
  have hem : ∀ k b, k < n → (gv k).ownBlock = some b → b ∈ S (.emp k) := fun k b hk hb => by rw [← hgS k hk]; simp [hb]
  have hM : ∀ b, b ∈ bg :: ((List.range n).map rb ++ (List.range n).flatMap fun k => S (.emp k)) → b ∈ S .gt ∨ (∃ k, k < n ∧ b ∈ S (.row k)) ∨ ∃ k, b ∈ S (.emp k) := fun b hb => by
    rcases List.mem_cons.1 hb with e | hb
    · subst e; exact .inl hbgm
    · rcases List.mem_append.1 hb with hb | hb
      · obtain ⟨k, hk, e⟩ := List.mem_map.1 hb
        subst e; exact .inr (.inl ⟨k, List.mem_range.1 hk, hrm k (List.mem_range.1 hk)⟩)
      · obtain ⟨k, -, hk⟩ := List.mem_flatMap.1 hb
        exact .inr (.inr ⟨k, hk⟩)
  have hF : ∀ b, b ∈ g :: bt :: (List.range n).flatMap (fun k => S (.idn k)) → b ∈ S .g ∨ b ∈ S .tv ∨ ∃ k, b ∈ S (.idn k) := fun b hb => by
    rcases List.mem_cons.1 hb with e | hb
    · subst e; exact .inl hgm
    · rcases List.mem_cons.1 hb with e | hb
      · subst e; exact .inr (.inl hbtm)
      · obtain ⟨k, -, hk⟩ := List.mem_flatMap.1 hb
        exact .inr (.inr ⟨k, hk⟩)
  refine ⟨⟨g, bg, bt, cG, cT, oG, oT, rb⟩, bg :: ((List.range n).map rb ++ (List.range n).flatMap fun k => S (.emp k)), g :: bt :: (List.range n).flatMap (fun k => S (.idn k)), rfl, rfl, rfl, fun b hb => (by rcases hF b hb with h1 | h1 | ⟨k, h1⟩ <;> exact h.sep.ge _ b h1),
    PM.Shape.zero n, hn, hn20, cn, cg, by rw [ct, htv], hrow, hgen, fun k m hk hm => ?_, fun k hk => ⟨[], by rw [PM.lv_G0]; exact hacc k hk, by simp⟩, by simp, fun k hk => ?_, fun k b hk hb => ?_, by simp, by simp, fun b hb hb' => ?_, ?_, fun b hb => ?_, fun b hb => ?_, fun b hb => ?_, fun i k hi hk e => ?_, fun k hk e => ?_, fun k b hk hb => ⟨fun e => ?_, fun i hi e => ?_⟩, fun i k b hi hk h1 h2 => ?_⟩
  · rw [PM.tr_T0 hk]
    have hc := h.cell k m hk hm
    by_cases e : m = k
    · subst e
      rw [if_pos rfl] at hc
      rw [if_pos rfl]
      exact ⟨_, _, hc, h.idn m hk, fun e => absurd e (PM.pts_ne hn), fun b hb => List.mem_cons_of_mem _ (List.mem_cons_of_mem _ (List.mem_flatMap.2 ⟨m, List.mem_range.2 hk, hb⟩))⟩
    · rw [if_neg e] at hc
      rw [if_neg (by omega)]
      exact ⟨_, [], hc, nil_rd w, fun _ => rfl, by simp⟩
  · exact List.mem_cons_of_mem _ (List.mem_append_left _ (List.mem_map.2 ⟨k, List.mem_range.2 hk, rfl⟩))
  · exact List.mem_cons_of_mem _ (List.mem_append_right _ (List.mem_flatMap.2 ⟨k, List.mem_range.2 hk, hem k b hk hb⟩))
  · rcases hM b hb with h1 | ⟨k, -, h1⟩ | ⟨k, h1⟩ <;> rcases hF b hb' with h2 | h2 | ⟨i, h2⟩ <;> exact h.sep.sep _ _ (by simp) b h1 h2
  · intro b hb
    rcases List.mem_cons.1 hb with e | hb
    · subst e; exact hob _ (by simp)
    · obtain ⟨k, hk, e⟩ := List.mem_map.1 hb
      subst e; exact h.own k (List.mem_range.1 hk) _ (by simp)
  · rcases hM b hb with h1 | ⟨k, -, h1⟩ | ⟨k, h1⟩ <;> exact h.sep.lt _ b h1
  · rcases hF b hb with h1 | h1 | ⟨k, h1⟩ <;> exact h.sep.lt _ b h1
  · rcases hM b hb with h1 | ⟨k, -, h1⟩ | ⟨k, h1⟩ <;> exact h.sep.ge _ b h1
  · apply Classical.byContradiction
    intro hne
    exact h.sep.sep (.row i) (.row k) (by simpa using hne) _ (hrm i hi) (by have e' : rb i = rb k := e
                                                                            rw [e']; exact hrm k hk)
  · exact h.sep.sep (.row k) .gt (by simp) _ (hrm k hk) (by have e' : rb k = bg := e
                                                            rw [e']; exact hbgm)
  · subst e; exact h.sep.sep (.emp k) .gt (by simp) _ (hem k _ hk hb) hbgm
  · subst e; exact h.sep.sep (.emp k) (.row i) (by simp) _ (hem k _ hk hb) (hrm i hi)
  · apply Classical.byContradiction
    intro hne
    exact h.sep.sep (.emp i) (.emp k) (by simpa using hne) _ (hem i b hi h1) (hem k b hk h2)
end
theorem Try.info222 : (Try.prog.info? 24).map (fun i => (i.zero, i.size, i.bytes)) = some (some (.slice none 0 0), 1, 24) := by kernel_rfl
/-- what the first loop of newChain leaves: an empty chain -/
def NC1 (eG : TypeId) (oG oT n : Nat) (w : World) (s : Value) (wx : World) : Prop :=
  ∃ (L : Lay) (gv : Nat → Value) (M F : List Nat), s = .pointer (some ⟨L.g, 0, none⟩) ∧ L.oG = oG ∧ L.oT = oT ∧ Ch eG w.heap.size wx L gv n (PM.G0 n) (PM.T0 n) M F ∧ Only [] w wx
/-- the program's rows as far as they are made -/
def NR (eR : TypeId) (n : Nat) (w : World) (g bg : Nat) (j : Nat) (wr : World) : Prop :=
  ∃ S tv rb iv, Em eR w.heap.size n j wr S tv rb iv ∧ S .g = [g] ∧ S .gt = [bg] ∧ (∀ k, S (.emp k) = []) ∧ Blk wr g [.int .i64 n, .slice (some ⟨bg, 0, none⟩) n n, tv] ∧
    wr.ownsRow bg eR 1 (.slice (some ⟨bg, 0, none⟩) n n) n (List.replicate n (.slice none 0 0)) ∧ Only [] w wr
theorem NR.fin {eR eG : TypeId} {n : Nat} {w : World} {g bg : Nat} {wr : World} (h : NR eR n w g bg n wr) (hn : 0 < n) (hn20 : n ≤ 20) : NC1 eG 1 2 n w (.pointer (some ⟨g, 0, none⟩)) wr := by
  obtain ⟨S, tv, rb, iv, hE, hg, hgt, hem, hB, hO, hK⟩ := h
  obtain ⟨L, M, F, e1, e2, e3, -, hC⟩ := hE.ch (eG := eG) (oG := 1) (oT := 2) (cG := n) hn hn20 (fun _ => .slice none 0 0) hg hgt (hB.cell 0 rfl) (hB.cell 1 rfl) (hB.cell 2 rfl)
    (fun k hk => by rw [hO.cellAt k (by omega), List.getElem?_replicate, if_pos hk]) (fun k hk => Acc.nil _ _ _) (fun k hk => by rw [hem k]; rfl) (own_fresh hO).own
  exact ⟨L, _, M, F, by rw [e1], e2, e3, hC, hK⟩
theorem NR.finF {eR eG : TypeId} {n : Nat} {w : World} {g bg : Nat} {wr : World} (h : NR eR n w g bg n wr) (hn : 0 < n) (hn20 : n ≤ 20) : ∃ (L : Lay) (gv : Nat → Value) (M F : List Nat), Value.pointer (some ⟨g, 0, none⟩) = .pointer (some ⟨L.g, 0, none⟩) ∧ L.oG = 1 ∧ L.oT = 2 ∧ (∀ b ∈ F, w.heap.size ≤ b) ∧ Ch eG w.heap.size wr L gv n (PM.G0 n) (PM.T0 n) M F ∧ Only [] w wr := by
  obtain ⟨S, tv, rb, iv, hE, hg, hgt, hem, hB, hO, hK⟩ := h
  obtain ⟨L, M, F, e1, e2, e3, hFB, hC⟩ := hE.ch (eG := eG) (oG := 1) (oT := 2) (cG := n) hn hn20 (fun _ => .slice none 0 0) hg hgt (hB.cell 0 rfl) (hB.cell 1 rfl) (hB.cell 2 rfl)
    (fun k hk => by rw [hO.cellAt k (by omega), List.getElem?_replicate, if_pos hk]) (fun k hk => Acc.nil _ _ _) (fun k hk => by rw [hem k]; rfl) (own_fresh hO).own
  exact ⟨L, _, M, F, by rw [e1], e2, e3, hFB, hC, hK⟩
theorem Blk.set {w : World} {g : Nat} {cs : List Value} (h : Blk w g cs) (i : Nat) (v : Value) : Blk (w.setCell ⟨g, i, none⟩ v) g (cs.set i v) := by
  obtain ⟨t, h⟩ := h
  refine ⟨t, ?_⟩
  simp [World.setCell, Array.getElem?_modify, h]
theorem Blk.frozen {w : World} {g : Nat} {cs : List Value} (h : Blk w g cs) (i : Nat) : w.frozen? ⟨g, i, none⟩ = false := by
  obtain ⟨t, h⟩ := h; simp [World.frozen?, h]
theorem NR.step {eR eI : TypeId} {n j : Nat} (hj : j < n) {w wr w1 w2 w4 w5 : World} {g bg : Nat} {S : Key → List Nat} {tv : Value} {rb : Nat → Nat} {iv : Nat → Value}
    (hE : Em eR w.heap.size n j wr S tv rb iv) (hg : S .g = [g]) (hgt : S .gt = [bg]) (hem : ∀ k, S (.emp k) = []) (hB : Blk wr g [.int .i64 n, .slice (some ⟨bg, 0, none⟩) n n, tv])
    (hO : wr.ownsRow bg eR 1 (.slice (some ⟨bg, 0, none⟩) n n) n (List.replicate n (.slice none 0 0))) (hK : Only [] w wr)
    (hown : w1.ownsRow wr.heap.size eI 1 (.slice (some ⟨wr.heap.size, 0, none⟩) n n) n (List.replicate n (.slice none 0 0))) (h1 : Only [] wr w1)
    {v2 : Value} {f2 : List Nat} (r2 : Rd w2 v2 (PM.pts n) f2) (F2 : Fresh w1.heap.size w2 f2) (h2 : Only [] w1 w2) (h4 : Only [] (w2.setCell ⟨wr.heap.size, j, none⟩ v2) w4)
    {tv' : Value} {fs' : List (List Nat)} (hA : Acc w.heap.size eR w5 tv' (rowsV n rb j ++ [⟨rowV n wr.heap.size⟩]) fs') (hfs : fs'.flatten = []) (h5 : Only tv.ownBlock.toList w4 w5) (hb : tv'.ownBlock = tv.ownBlock ∨ tv'.ownBlock = some w4.heap.size) :
    NR eR n w g bg (j + 1) (w5.setCell ⟨g, 2, none⟩ tv') := by
  obtain ⟨S', hE', e1, e2, e3⟩ := hE.step hj hown h1 r2 F2 h2 h4 hA hfs h5 hb
  have hst := setCell_only w5 g 2 tv'
  have hst2 := setCell_only w2 wr.heap.size j v2
  have hgS : g ∈ S .g := by rw [hg]; simp
  have hbS : bg ∈ S .gt := by rw [hgt]; simp
  have hgS' : g ∈ S' .g := by rw [e1]; exact hgS
  have hglt := hE.sep.lt _ _ hgS
  have hblt := hE.sep.lt _ _ hbS
  have hgtv : g ∉ tv.ownBlock.toList := by rw [hE.tvS]; exact hE.sep.sep _ _ (by simp) _ hgS
  have hbtv : bg ∉ tv.ownBlock.toList := by rw [hE.tvS]; exact hE.sep.sep _ _ (by simp) _ hbS
  have hgb : g ≠ bg := fun e => hE.sep.sep .g .gt (by simp) _ hgS (e ▸ hbS)
  have hwr : w.heap.size ≤ wr.heap.size := hK.size
  have hw2 : wr.heap.size ≤ w2.heap.size := Nat.le_trans h1.size h2.size
  have hw4 := h4.size
  have hw3 := hst2.size
  refine ⟨S', tv', _, _, hE'.only hst fun b hb' => ?_, by rw [e1, hg], by rw [e2, hgt], fun k => by rw [e3, hem], ?_, ?_, ?_⟩
  · have e : b = g := by simpa using hb'
    subst e
    exact ⟨hE'.sep.sep _ _ (by simp) _ hgS', fun k => hE'.sep.sep _ _ (by simp) _ hgS', fun k => hE'.sep.sep _ _ (by simp) _ hgS'⟩
  · have := (((((hB.keep h1).keep h2).only hst2 (by simp; omega)).keep h4).only h5 hgtv).set 2 tv'
    simpa using this
  · refine owns_only (owns_only (owns_keep (owns_only (owns_keep (owns_keep hO h1) h2) hst2 fun x hx => ?_) h4) h5 fun x hx => ?_) hst fun x hx => ?_
    · have e : bg = x := by simpa [Value.ownBlock] using hx
      subst e; simp; omega
    · have e : bg = x := by simpa [Value.ownBlock] using hx
      subst e; exact hbtv
    · have e : bg = x := by simpa [Value.ownBlock] using hx
      subst e; simpa using hgb.symm
  · refine ((((hK.trans h1).trans h2).setCell (fun h => by simp at h; omega) _).trans h4).then_ h5 (fun x hx hl => ?_) |>.setCell (fun h => ?_) _
    · rw [hE.tvS] at hx
      have := hE.sep.ge _ _ hx; omega
    · have := hE.sep.ge _ _ hgS
      have h' : g < w.heap.size := h
      omega
/-- the generators' loop of a chain: the first j of them are added -/
def CL (eG : TypeId) (L : Lay) (n : Nat) (gens : List (List Int)) (w : World) (j : Nat) (wr : World) : Prop :=
  ∃ (gv : Nat → Value) (G : PM.Gens) (T : PM.Rows) (M F : List Nat), Ch eG w.heap.size wr L gv n G T M F ∧ PM.Chain n (gens.take j) G T ∧ PM.Ln n 0 G T ∧ Only [] w wr
theorem CL.start {eG : TypeId} {L : Lay} {n : Nat} (gens : List (List Int)) {w wr : World} {gv : Nat → Value} {M F : List Nat} (hC : Ch eG w.heap.size wr L gv n (PM.G0 n) (PM.T0 n) M F) (hK : Only [] w wr) : CL eG L n gens w 0 wr :=
  ⟨gv, _, _, M, F, hC, by simpa using PM.Chain.zero n, PM.Ln.zero n, hK⟩
theorem CL.step {eG : TypeId} {L : Lay} {n : Nat} {gens : List (List Int)} {w wr w1 w' : World} {j : Nat} {gv : Nat → Value} {G : PM.Gens} {T : PM.Rows} {M F f : List Nat} (hC : Ch eG w.heap.size wr L gv n G T M F) (hc : PM.Chain n (gens.take j) G T) (hK : Only [] w wr)
    (t : Only [] wr w1) (hj : j < gens.length) (ha : AddP eG w.heap.size L n 0 gens[j] G T M F f gv w1 w') : CL eG L n gens w (j + 1) w' := by
  obtain ⟨gv', G', T', M', F', hC', hA, hL, hM⟩ := ha
  refine ⟨gv', G', T', M', F', hC', ?_, hL, (hK.trans t).then_ hM.only fun x hx hl => ?_⟩
  · rw [take_succ_get gens j hj]; exact hc.step hC'.shape hA
  · have := hC.ge x hx; omega
/-- the same, with what the chain reads: the generators' memory, or its own -/
def CLF (eG : TypeId) (L : Lay) (n : Nat) (gens : List (List Int)) (fpg : List Nat) (w : World) (j : Nat) (wr : World) : Prop :=
  ∃ (gv : Nat → Value) (G : PM.Gens) (T : PM.Rows) (M F : List Nat), (∀ b ∈ F, b ∈ fpg ∨ w.heap.size ≤ b) ∧ Ch eG w.heap.size wr L gv n G T M F ∧ PM.Chain n (gens.take j) G T ∧ PM.Ln n 0 G T ∧ Only [] w wr
theorem CLF.start {eG : TypeId} {L : Lay} {n : Nat} (gens : List (List Int)) (fpg : List Nat) {w wr : World} {gv : Nat → Value} {M F : List Nat} (hF : ∀ b ∈ F, w.heap.size ≤ b) (hC : Ch eG w.heap.size wr L gv n (PM.G0 n) (PM.T0 n) M F) (hK : Only [] w wr) : CLF eG L n gens fpg w 0 wr :=
  ⟨gv, _, _, M, F, fun b hb => .inr (hF b hb), hC, by simpa using PM.Chain.zero n, PM.Ln.zero n, hK⟩
theorem CLF.step {eG : TypeId} {L : Lay} {n : Nat} {gens : List (List Int)} {fpg : List Nat} {w wr w1 w' : World} {j : Nat} {gv : Nat → Value} {G : PM.Gens} {T : PM.Rows} {M F f : List Nat} (hF : ∀ b ∈ F, b ∈ fpg ∨ w.heap.size ≤ b) (hf : ∀ b ∈ f, b ∈ fpg ∨ w.heap.size ≤ b) (hC : Ch eG w.heap.size wr L gv n G T M F) (hc : PM.Chain n (gens.take j) G T) (hK : Only [] w wr)
    (t : Only [] wr w1) (hj : j < gens.length) (ha : AddP eG w.heap.size L n 0 gens[j] G T M F f gv w1 w') : CLF eG L n gens fpg w (j + 1) w' := by
  obtain ⟨gv', G', T', M', F', hC', hA, hL, hM⟩ := ha
  refine ⟨gv', G', T', M', F', fun b hb => ?_, hC', ?_, hL, (hK.trans t).then_ hM.only fun x hx hl => ?_⟩
  · rcases hM.f b hb with h1 | h1 | h1
    · exact hF b h1
    · exact hf b h1
    · have := (hK.trans t).size; exact .inr (by omega)
  · rw [take_succ_get gens j hj]; exact hc.step hC'.shape hA
  · have := hC.ge x hx; omega
theorem madeNils' (n : Nat) : (madeCells (Value.cells (.slice none 0 0)) n).toList = List.replicate n (.slice none 0 0) := madeNils n
theorem implAdd0 {n : Nat} {B : Nat} {L : Lay} {gv : Nat → Value} {G : PM.Gens} {T : PM.Rows} {M F : List Nat} {w : World} (hC : Ch 36 B w L gv n G T M F) (hoG : L.oG = 1) (hoT : L.oT = 2) (hI : PM.Inv n 0 G T) (hL : PM.Ln n 0 G T)
    {p : List Int} {vp : Value} {fp : List Nat} (hp : PM.PN n p) (hv : Rd w vp p fp) (hf : ∀ b ∈ fp, b ∉ M) (hB : B ≤ w.heap.size) :
    Calls Try.prog 49 #[.pointer (some ⟨L.g, 0, none⟩), .int .i64 0, vp] w fun en w' => en = .returned (.tuple #[]) ∧ AddP 36 B L n 0 p G T M F fp gv w w' :=
  implAdd_any n n 0 (by omega) (by omega) B L gv G T M F w hC hoG hoT hI hL p vp fp (PM.May.zero G hp) hv hf hB
set_option maxHeartbeats 2000000 in
theorem implNewChain_F (n : Nat) (hn : 0 < n) (hn20 : n ≤ 20) (vg : Value) (gens : List (List Int)) (fpg : List Nat) (w : World) (hg : Rd w vg gens fpg) (hpn : ∀ g ∈ gens, PM.PN n g) (hgl : gens.length ≤ 1000) :
    Calls Try.prog 34 #[.int .i64 n, vg] w fun e w' => ∃ (L : Lay) (gv : Nat → Value) (G : PM.Gens) (T : PM.Rows) (M F : List Nat), e = .returned (.pointer (some ⟨L.g, 0, none⟩)) ∧ L.oG = 1 ∧ L.oT = 2 ∧ (∀ b ∈ F, b ∈ fpg ∨ w.heap.size ≤ b) ∧ Ch 36 w.heap.size w' L gv n G T M F ∧ PM.Chain n gens G T ∧ Only [] w w' := by
  obtain ⟨i2, hi2, hz20, hz21, hz22⟩ := info_parts Try.info222
  obtain ⟨i1, hi, hz0, hz1, hz2⟩ := info_parts Try.info22
  obtain ⟨ag, cg, obg, fpsg, rfl, hfpg, hSg⟩ := hg.open_
  have hgb := hSg.bound
  have Hpn := Lib.hid hpn
  have HSg := Lib.hid hSg
  have Hfpg := Lib.hid (Rp.lt hg)
  have Hfpe := Lib.hid hfpg
  clear hpn hSg hg hfpg
  go_enter Try.func34, Try.ntmps34
  go_wp2_with (at_make; refine wpList_make_full _ rfl _ _ 79 rfl w.heap.size 24 i2 _ 1 Try.underlying79 hi2 hz20 hz21 _ _ _ _ n rfl rfl rfl rfl (by rw [hz22]; omega) (by unfold maxLen; omega) (Nat.le_refl _) ?_; intro w1 hown hg)
  rw [madeNils', Nat.mul_one] at hown
  have hw1 : w.heap.size < w1.heap.size := (hown.lt w.heap.size rfl).2
  have h1 : Only [] w w1 := (Only.refl _ _).grown hg (by simp)
  have HN0 : Hid (NR 24 n w w1.heap.size w.heap.size 0 (w1.alloc (.cells #[.int .i64 n, .slice (some ⟨w.heap.size, 0, none⟩) n n, .slice none 0 0] 81))) := Lib.hid (by
    have hal : Only [] w1 (w1.alloc (.cells #[.int .i64 n, .slice (some ⟨w.heap.size, 0, none⟩) n n, .slice none 0 0] 81)) := (Only.refl _ _).alloc _
    have hsz : (w1.alloc (.cells #[.int .i64 n, .slice (some ⟨w.heap.size, 0, none⟩) n n, .slice none 0 0] 81)).heap.size = w1.heap.size + 1 := by simp
    refine ⟨updS (updS (fun _ => []) .g [w1.heap.size]) .gt [w.heap.size], .slice none 0 0, fun _ => 0, fun _ => .slice none 0 0, Em.start _ n (Sep.start _ _ (by omega) (by simp; omega) (by simp; omega) (by simp; omega)) (by rw [updS_other _ _ (by simp), updS_other _ _ (by simp)]) _ _, by rw [updS_other _ _ (by simp), updS_same], updS_same _ _ _, fun k => by rw [updS_other _ _ (by simp), updS_other _ _ (by simp)], Blk.new w1 _ _, owns_keep hown hal, h1.trans hal⟩)
  clear hown hg
  go_wp2
  go_loopw [16] (fun i wr => ∃ j : Nat, j ≤ n ∧ i = .int .i64 j ∧ NR 24 n w w1.heap.size w.heap.size j wr)
    (fun i _ => n - (intOf i).toNat)
  case atStart => exact ⟨0, Nat.zero_le _, rfl, HN0.out⟩
  case round =>
    obtain ⟨W2, hnew⟩ : ∃ W, W = wr := ⟨_, rfl⟩
    subst hnew
    obtain ⟨j, hj, rfl, hN⟩ := hrel
    by_cases hlt : j < n
    · obtain ⟨S, tv, rb, iv, hE, eg, egt, hem, hB, hO, hK⟩ := hN
      have hgS : w1.heap.size ∈ S .g := by rw [eg]; simp
      have hglt := hE.sep.lt _ _ hgS
      have hgtv : w1.heap.size ∉ tv.ownBlock.toList := by rw [hE.tvS]; exact hE.sep.sep _ _ (by simp) _ hgS
      obtain ⟨fs, hA, hfs⟩ := hE.acc
      have hrl := rowsV_len n rb j
      have hne : w1.heap.size ≠ W2.heap.size := by omega
      have hBn : w.heap.size ≤ W2.heap.size := hK.size
      have HE := Lib.hid hE
      have HB := Lib.hid hB
      have HO := Lib.hid hO
      have HK := Lib.hid hK
      have Heg := Lib.hid eg
      have Hegt := Lib.hid egt
      have Hem := Lib.hid hem
      have HA := Lib.hid hA
      have Hfs := Lib.hid hfs
      have Hrl := Lib.hid hrl
      have Hgtv := Lib.hid hgtv
      have htvlt : ∀ g, tv.ownBlock = some g → g ∉ [W2.heap.size] := fun g hg hm => by
        have h5 := (hA.ownlt g hg).2
        have h6 : g = W2.heap.size := by simpa using hm
        omega
      have Htvlt := Lib.hid htvlt
      clear hE hB hO hK eg egt hem hA hfs hrl hgS hgtv htvlt
      go_wp2_with (first
        | (at_make; refine wpList_make_full _ rfl _ _ 24 rfl W2.heap.size 36 i1 _ 1 Try.underlying24 hi hz0 hz1 _ _ _ _ n rfl rfl rfl rfl (by rw [hz2]; omega) (by unfold maxLen; omega) (Nat.le_refl _) ?_; intro w3 hown hg; rw [madeNils', Nat.mul_one] at hown; have h3 : Only [] W2 w3 := (Only.refl _ _).grown hg (by simp); have Hown := Lib.hid hown; clear hown hg)
        | (go_at_call 62; (with_reducible refine (implIdentity_any n w3 (by omega)).mono ?_); rintro en w4 ⟨v4, f4, rfl, r4, F4, t4⟩; obtain ⟨a4, c4, rfl, -⟩ := r4.ints; have hO4 := owns_keep Hown.out t4; have c40 := (hO4.cellAt j (by omega)); rw [List.getElem?_replicate, if_pos hlt] at c40; have z40 := hO4.frozenAt j; have HO4 := Lib.hid hO4; clear hO4; have c41 := ((HB.out.keep h3).keep t4).cell 2 rfl)
        | (at_builtin; go_loud (refine wpList_push2d (α := RawV) rfl _ _ 79 rfl w.heap.size 24 i2 _ 24 Try.underlying79 hi2 hz20 hz21 hz22 rfl (by decide) (by decide) (w4.setCell ⟨W2.heap.size, j, none⟩ _) tv (rowsV n rb j) fs rfl (((HA.out.keep h3).keep t4).only (setCell_only w4 _ j _) (by rw [Hfs.out]; simp) Htvlt.out) ((Only.refl _ _).alloc _) (Nat.le_trans hBn (Nat.le_trans (Nat.le_trans h3.size t4.size) (setCell_only w4 _ j _).size)) _ 1 [.slice (some ⟨W2.heap.size, 0, none⟩) n n] ⟨rowV n W2.heap.size⟩ [] rfl (lit_src _ [.slice (some ⟨W2.heap.size, 0, none⟩) n n] _ (by simp only [World.size_setCell])) (by intro u hu; simp at hu; subst hu; rfl) ⟨rfl, rfl⟩ (by simp) (by rw [Hrl.out]; omega) ?_; intro v5 w5 hA5 hO5 hb5; obtain ⟨a5, n5, c5, rfl⟩ : ∃ a n c, v5 = Value.slice a n c := (let ⟨a, c, hh⟩ := hA5.form; ⟨a, _, c, hh⟩); have hB5 := ((((HB.out.keep h3).keep t4).only (setCell_only w4 W2.heap.size j _) (by simpa using hne)).keep ((Only.refl _ _).alloc _)).only hO5 Hgtv.out; have y5 := hB5.cell 2 rfl; have z5 := hB5.frozen 2; clear hB5))
        | fail "no arm")
      go_roundw
      case rel => exact ⟨j + 1, by omega, by go_num, NR.step hlt HE.out Heg.out Hegt.out Hem.out HB.out HO.out HK.out Hown.out h3 r4 F4 t4 ((Only.refl _ _).alloc _) hA5 (by rw [List.flatten_append, Hfs.out]; rfl) hO5 hb5⟩
      case measure => simp [intOf]; omega
    · obtain rfl : j = n := by omega
      obtain ⟨⟨g', bg', bt', cG', cT', oG', oT', rb'⟩, gv0, M0, F0, es, eoG, eoT, hFB, hC, hK⟩ := hN.finF (eG := 36) hn hn20
      injection es with es; injection es with es; injection es with es _ _
      have es' : w1.heap.size = g' := es
      subst es'
      have eoG' : oG' = 1 := eoG
      subst eoG'
      have eoT' : oT' = 2 := eoT
      subst eoT'
      have HL0 := Lib.hid (CLF.start gens fpg hFB hC hK)
      clear es eoG eoT hC hK hFB
      go_wp2
      go_loopw [39] (fun i wr => ∃ m : Nat, m ≤ gens.length ∧ i = .int .i64 m ∧ CLF 36 ⟨w1.heap.size, bg', bt', cG', cT', 1, 2, rb'⟩ j gens fpg w m wr)
        (fun i _ => gens.length - (intOf i).toNat)
      case atStart => exact ⟨0, Nat.zero_le _, rfl, HL0.out⟩
      case round =>
        obtain ⟨W3, hnew⟩ : ∃ W, W = wr := ⟨_, rfl⟩
        subst hnew
        obtain ⟨m, hm, rfl, hCL⟩ := hrel
        have HCL := Lib.hid hCL
        obtain ⟨gv3, G3, T3, M3, F3, hF3, hC3, hc3, hL3, hK3⟩ := hCL
        have HF3 := Lib.hid hF3
        clear hF3
        by_cases hltm : m < gens.length
        · obtain ⟨b, off, u, rfl, hob, hcu0, hru0⟩ := HSg.out.atRow m hltm
          have hcu := hK3.cell (by simp) hcu0
          have hru := Rp.keep hru0 hK3
          have hgm : gens[m] ∈ gens := List.getElem_mem _
          have hpm := Hpn.out _ hgm
          have hfm : ∀ b ∈ fpsg[m]'(by rw [HSg.out.nf]; exact hltm), b ∉ M3 := fun b hb hM => by
            have h5 := hC3.ge b hM
            have h6 := Hfpg.out b (by rw [Hfpe.out]; exact List.mem_append_right _ (mem_flatten_get (by rw [HSg.out.nf]; exact hltm) hb))
            omega
          have hfg : ∀ b ∈ fpsg[m]'(by rw [HSg.out.nf]; exact hltm), b ∈ fpg ∨ w.heap.size ≤ b := fun b hb => .inl (by rw [Hfpe.out]; exact List.mem_append_right _ (mem_flatten_get (by rw [HSg.out.nf]; exact hltm) hb))
          have Hfg := Lib.hid hfg
          clear hfg
          have HC3 := Lib.hid hC3
          have Hc3 := Lib.hid hc3
          have HL3 := Lib.hid hL3
          have HK3 := Lib.hid hK3
          have Hru := Lib.hid hru
          have Hpm := Lib.hid hpm
          have Hfm := Lib.hid hfm
          clear hcu0 hru0 hC3 hc3 hL3 hK3 hru hpm hfm hob hgm
          go_wp2_with (first
            | (go_at_call 49; (with_reducible refine (implAdd0 HC3.out rfl rfl Hc3.out.inv HL3.out Hpm.out Hru.out Hfm.out (HK3.out.size)).mono ?_); rintro en w5 ⟨rfl, ha5⟩)
            | fail "no arm")
          go_roundw
          case rel => exact ⟨m + 1, by omega, by go_num, CLF.step HF3.out Hfg.out HC3.out Hc3.out HK3.out (Only.refl _ _) hltm ha5⟩
          case measure => simp [intOf]; omega
        · obtain rfl : m = gens.length := by omega
          rw [List.take_length] at hc3
          have Hc3 := Lib.hid hc3
          have HC3 := Lib.hid hC3
          have HK3 := Lib.hid hK3
          clear hC3 hc3 hL3 hK3
          go_wp2
          go_ret
          exact ⟨_, gv3, G3, T3, M3, F3, rfl, rfl, rfl, HF3.out, HC3.out, Hc3.out, HK3.out⟩
theorem implNewChain_any (n : Nat) (hn : 0 < n) (hn20 : n ≤ 20) (vg : Value) (gens : List (List Int)) (fpg : List Nat) (w : World) (hg : Rd w vg gens fpg) (hpn : ∀ g ∈ gens, PM.PN n g) (hgl : gens.length ≤ 1000) :
    Calls Try.prog 34 #[.int .i64 n, vg] w fun e w' => ∃ (L : Lay) (gv : Nat → Value) (G : PM.Gens) (T : PM.Rows) (M F : List Nat), e = .returned (.pointer (some ⟨L.g, 0, none⟩)) ∧ L.oG = 1 ∧ L.oT = 2 ∧ Ch 36 w.heap.size w' L gv n G T M F ∧ PM.Chain n gens G T ∧ Only [] w w' := by
  refine (implNewChain_F n hn hn20 vg gens fpg w hg hpn hgl).mono ?_
  rintro e w' ⟨L, gv, G, T, M, F, h1, h2, h3, -, h4, h5, h6⟩
  exact ⟨L, gv, G, T, M, F, h1, h2, h3, h4, h5, h6⟩
end Go.Proofs.Ytbediokigibdlaa

namespace Go.Proofs.Ytbediokigibdlaa
open Go.RowKit
set_option maxRecDepth 10000

instance : Rp UInt8 where
  size := 1
  rep _ cs x fp := cs = [.int .u8 (x.toNat : Int)] ∧ fp = []
  len h := by rw [h.1]; rfl
  frame h _ := h
  lt h := by rw [h.2]; simp
/-- the dice at block g, over the bytes l -/
def Dice (w : World) (g : Nat) (fc : List Nat) (l : List UInt8) : Prop :=
  ∃ a c i h, Blk w g [.slice a l.length c, .int .i64 i, .int .u64 h] ∧ (0 ≤ i ∧ i ≤ l.length) ∧ (0 ≤ h ∧ h < 18446744073709551616) ∧ Rd w (.slice a l.length c) l fc ∧ g ∉ fc
theorem Dice.keep {w w' : World} {g : Nat} {fc : List Nat} {l : List UInt8} (h : Dice w g fc l) (ho : Only [] w w') : Dice w' g fc l := by
  obtain ⟨a, c, i, x, h1, h2, h3, h4, h5⟩ := h
  exact ⟨a, c, i, x, h1.keep ho, h2, h3, Rp.keep h4 ho, h5⟩
theorem Dice.only {w w' : World} {g : Nat} {fc fp : List Nat} {l : List UInt8} (h : Dice w g fc l) (ho : Only fp w w') (hg : g ∉ fp) (hc : ∀ b ∈ fc, b ∉ fp) : Dice w' g fc l := by
  obtain ⟨a, c, i, x, h1, h2, h3, h4, h5⟩ := h
  exact ⟨a, c, i, x, h1.only ho hg, h2, h3, Rp.only h4 ho hc, h5⟩
theorem Dice.lt {w : World} {g : Nat} {fc : List Nat} {l : List UInt8} (h : Dice w g fc l) : g < w.heap.size := by
  obtain ⟨a, c, i, x, h1, -⟩ := h; exact h1.lt
set_option maxHeartbeats 1000000 in
theorem big_any (v : Value) (l : List UInt8) (fc : List Nat) (w : World) (h : Rd w v l fc) :
    Calls Try.prog 6 #[v] w fun e w' => e = .returned (.bool (decide (4096 < l.length))) ∧ Only [] w w' := by
  obtain ⟨a, cap, ob, fps, rfl, -, hs⟩ := h.open_
  have hb := hs.bound
  have he : decide ((4096 : Int) < (l.length : Int)) = decide (4096 < l.length) := by
    by_cases h : 4096 < l.length
    · rw [decide_eq_true h, decide_eq_true (by omega)]
    · rw [decide_eq_false h, decide_eq_false (by omega)]
  have He := Lib.hid he
  clear he
  go_enter Try.func6, Try.ntmps6
  go_wp2
  go_ret
  exact ⟨ret_bool (by first | exact He.out | rfl), (by with_reducible repeat (first | exact Only.refl _ _ | assumption | refine Only.drewN ?_ _ | refine Only.drew ?_ | refine Only.alloc ?_ _ | refine Only.setCell ?_ (by intro hh; exfalso; simp at hh; try omega) _ | refine Only.trans ?_ (by assumption)))⟩


end Go.Proofs.Ytbediokigibdlaa

namespace Go.Proofs.Ytbediokigibdlaa
open Go.RowKit
set_option maxRecDepth 10000

theorem and255 (n : Int) : bits .and .i64 n 255 = n % 256 := by
  have h127 : (BitVec.ofInt 64 255).toNat = 2 ^ 8 - 1 := by decide
  have key : (BitVec.ofInt 64 n &&& BitVec.ofInt 64 255).toNat = (n % ((2 ^ 64 : Nat) : Int)).toNat % 2 ^ 8 := by
    rw [BitVec.toNat_and, BitVec.toNat_ofInt, h127, Nat.and_two_pow_sub_one_eq_mod]
  show IntKind.i64.wrap ((BitVec.ofInt 64 n &&& BitVec.ofInt 64 255).toNat : Nat) = n % 256
  rw [key, IntKind.wrap_i64]
  omega
theorem and30 (n : Int) : bits .and .i64 n 1073741823 = n % 1073741824 := by
  have h127 : (BitVec.ofInt 64 1073741823).toNat = 2 ^ 30 - 1 := by decide
  have key : (BitVec.ofInt 64 n &&& BitVec.ofInt 64 1073741823).toNat = (n % ((2 ^ 64 : Nat) : Int)).toNat % 2 ^ 30 := by
    rw [BitVec.toNat_and, BitVec.toNat_ofInt, h127, Nat.and_two_pow_sub_one_eq_mod]
  show IntKind.i64.wrap ((BitVec.ofInt 64 n &&& BitVec.ofInt 64 1073741823).toNat : Nat) = n % 1073741824
  rw [key, IntKind.wrap_i64]
  omega
/-- the source at block g, over the bytes l -/
def Src (w : World) (g : Nat) (fc : List Nat) (l : List UInt8) : Prop :=
  ∃ a c i h, Blk w g [.slice a l.length c, .int .i64 i, .int .i64 h] ∧ (0 ≤ i ∧ i ≤ l.length) ∧ I64 h ∧ Rd w (.slice a l.length c) l fc ∧ g ∉ fc
theorem Src.keep {w w' : World} {g : Nat} {fc : List Nat} {l : List UInt8} (h : Src w g fc l) (ho : Only [] w w') : Src w' g fc l := by
  obtain ⟨a, c, i, x, h1, h2, h3, h4, h5⟩ := h
  exact ⟨a, c, i, x, h1.keep ho, h2, h3, Rp.keep h4 ho, h5⟩
theorem Src.only {w w' : World} {g : Nat} {fc fp : List Nat} {l : List UInt8} (h : Src w g fc l) (ho : Only fp w w') (hg : g ∉ fp) (hc : ∀ b ∈ fc, b ∉ fp) : Src w' g fc l := by
  obtain ⟨a, c, i, x, h1, h2, h3, h4, h5⟩ := h
  exact ⟨a, c, i, x, h1.only ho hg, h2, h3, Rp.only h4 ho hc, h5⟩
theorem Src.lt {w : World} {g : Nat} {fc : List Nat} {l : List UInt8} (h : Src w g fc l) : g < w.heap.size := by
  obtain ⟨a, c, i, x, h1, -⟩ := h; exact h1.lt
set_option maxHeartbeats 4000000 in
theorem newSource_any (v : Value) (l : List UInt8) (fc : List Nat) (w : World) (h : Rd w v l fc) (hl : l.length ≤ 4096) :
    Calls Try.prog 32 #[v] w fun e w' => ∃ g, e = .returned (.pointer (some ⟨g, 0, none⟩)) ∧ Src w' g fc l ∧ w.heap.size ≤ g ∧ Only [] w w' := by
  obtain ⟨a, c, ob, fps, rfl, hfc, hS⟩ := h.open_
  have hlt := Rp.lt h
  go_enter Try.func32, Try.ntmps32
  go_wp2
  go_loopw [3, 4] (fun hv i wr => ∃ (j : Nat) (x : Int), j ≤ l.length ∧ i = .int .i64 j ∧ hv = .int .i64 x ∧ (0 ≤ x ∧ x ≤ 1073741823) ∧ Only [] w wr)
    (fun _ i _ => l.length - (intOf i).toNat)
  case atStart => exact ⟨0, 590033 + l.length, Nat.zero_le _, rfl, by first | rfl | (congr 1; rw [IntKind.wrap_i64]; omega), by omega, Only.refl _ _⟩
  case round =>
    obtain ⟨W2, hnew⟩ : ∃ W, W = wr := ⟨_, rfl⟩
    subst hnew
    obtain ⟨j, x, hj, rfl, rfl, hr, hK⟩ := hrel
    by_cases hlt2 : j < l.length
    · obtain ⟨b, off, cs, rfl, -, hc0, hrb⟩ := hS.at_ j hlt2
      obtain ⟨rfl, -⟩ := hrb
      have hcb0 : w.cell? ⟨b, off + j, none⟩ = some (.int .u8 (l[j].toNat : Int)) := by simpa [Rp.size] using hc0 0 _ rfl
      have hcb := hK.cell (by simp) hcb0
      clear hc0 hcb0
      have hi0 : (0 : Int) ≤ (j : Int) := by omega
      have hi1 : (j : Int) < (l.length : Int) := by omega
      go_wp2
      exact ⟨⟨j + 1, _, by omega, by go_num, rfl, by rw [and30]; omega, hK⟩, by simp [intOf]; omega⟩
    · obtain rfl : j = l.length := by omega
      have hW := Rp.keep h hK
      have X0 := Blk.new W2 [.slice a l.length c, .int .i64 0, .int .i64 x] 73
      go_wp2
      go_ret
      exact ⟨W2.heap.size, rfl, ⟨a, c, 0, x, X0, ⟨by omega, by omega⟩, by unfold I64; omega, Rp.keep hW ((Only.refl _ _).alloc _), fun hm => by have := hlt _ hm; have := hK.size; omega⟩, hK.size, hK.alloc _⟩
set_option maxHeartbeats 4000000 in
theorem nextByte_any (g : Nat) (fc : List Nat) (l : List UInt8) (w : World) (h : Src w g fc l) (hl : l.length ≤ 4096) :
    Calls Try.prog 104 #[.pointer (some ⟨g, 0, none⟩)] w fun e w' => ∃ r : Int, e = .returned (.int .i64 r) ∧ 0 ≤ r ∧ r ≤ 255 ∧ Src w' g fc l ∧ Only [g] w w' := by
  obtain ⟨a, c, i, x, h1, h2, h3, h4, h5⟩ := h
  have y0 := h1.cell 0 rfl
  have y1 := h1.cell 1 rfl
  have y2 := h1.cell 2 rfl
  have p1 := h1.frozen 1
  have p2 := h1.frozen 2
  go_enter Try.func104, Try.ntmps104
  go_upto_region 2 with fail
  obtain ⟨x2, hx2⟩ : ∃ x2, x2 = wrap64 (wrap64 (x * 6364136223846793005) + 1442695040888963407) := ⟨_, rfl⟩
  have hr2 : I64 x2 := by rw [hx2]; unfold wrap64 I64; omega
  rw [← hx2]
  clear hx2
  have B1 := h1.set 2 (.int .i64 x2)
  simp only [List.set] at B1
  have k1 : Only [g] w (w.setCell ⟨g, 2, none⟩ (.int .i64 x2)) := (Only.refl _ _).setCell (by simp) _
  have r1 : Rd (w.setCell ⟨g, 2, none⟩ (.int .i64 x2)) (.slice a l.length c) l fc := Rp.only h4 k1 (fun b hb hm => h5 (by simp at hm; rwa [← hm]))
  obtain ⟨w1, hw1⟩ : ∃ w1, w1 = w.setCell ⟨g, 2, none⟩ (.int .i64 x2) := ⟨_, rfl⟩
  rw [← hw1] at B1 k1 r1 ⊢
  clear hw1 y0 y1 y2 p1 p2 h1 h4 h3
  have y0 := B1.cell 0 rfl
  have y1 := B1.cell 1 rfl
  have y2 := B1.cell 2 rfl
  go_quiet (fail)
  go_wp2
  obtain ⟨v3, hv3⟩ : ∃ v3, v3 = bits BinOp.and IntKind.i64 (bits BinOp.xor IntKind.i64 (x2 / 8589934592) (x2 / 35184372088832)) 255 := ⟨_, rfl⟩
  have hr3 : 0 ≤ v3 ∧ v3 ≤ 255 := by rw [hv3, and255]; omega
  rw [← hv3]
  clear hv3
  obtain ⟨ob, fps, hfc, hS⟩ : ∃ ob fps, fc = ob ++ fps.flatten ∧ SeqA w1 a c l ob fps := by obtain ⟨a', c', ob, fps, hv, hf, hs⟩ := r1.open_; injection hv with e1 _ e2; subst e1; subst e2; exact ⟨ob, fps, hf, hs⟩
  obtain ⟨k, rfl⟩ := Int.eq_ofNat_of_zero_le h2.1
  have hwk : IntKind.i64.wrap ((k : Int) + 1) = (k : Int) + 1 := by rw [IntKind.wrap_i64]; omega
  by_cases hil : k < l.length
  · have hilb : decide ((k : Int) < (l.length : Int)) = true := decide_eq_true (by omega)
    obtain ⟨b, off, cs, rfl, -, hc0, hrb⟩ := hS.at_ k hil
    obtain ⟨rfl, -⟩ := hrb
    have hcb : w1.cell? ⟨b, off + k, none⟩ = some (.int .u8 (l[k].toNat : Int)) := by simpa [Rp.size] using hc0 0 _ rfl
    clear hc0
    have hby : l[k].toNat < 256 := UInt8.toNat_lt _
    have hw8 : wrap64 (l[k].toNat : Int) = (l[k].toNat : Int) := by unfold wrap64; omega
    have hws : IntKind.i64.wrap (v3 + (l[k].toNat : Int)) = v3 + (l[k].toNat : Int) := by rw [IntKind.wrap_i64]; omega
    have hi0 : (0 : Int) ≤ (k : Int) := by omega
    have hi1 : (k : Int) < (l.length : Int) := by omega
    have p1 := B1.frozen 1
    go_quiet (fail)
    go_wp2
    go_quiet (fail)
    go_wp2
    go_ret
    refine ⟨_, rfl, by rw [and255]; omega, by rw [and255]; omega, ⟨some ⟨b, off, none⟩, c, (k : Int) + 1, x2, ?_, ⟨by omega, by omega⟩, hr2, ?_, h5⟩, (k1.drewN _).setCell (by simp) _⟩
    · simpa [List.set] using ((B1.keep (Only.ofDrewN w1 _ [])).set 1 (.int .i64 ((k : Int) + 1)))
    · exact Rp.only r1 (fp' := [g]) ((Only.ofDrewN _ _ _).setCell (by simp) _) (fun b hb hm => h5 (by simp at hm; rwa [← hm]))
  · have hilb : decide ((k : Int) < (l.length : Int)) = false := decide_eq_false (by omega)
    go_quiet (fail)
    go_wp2
    go_ret
    exact ⟨v3, rfl, hr3.1, hr3.2, ⟨a, c, (k : Int), x2, B1.keep (by with_reducible repeat (first | exact Only.refl _ _ | assumption | refine Only.drewN ?_ _ | refine Only.drew ?_ | refine Only.alloc ?_ _ | refine Only.setCell ?_ (by intro hh; exfalso; simp at hh; try omega) _ | refine Only.trans ?_ (by assumption))), h2, hr2, Rp.keep r1 (by with_reducible repeat (first | exact Only.refl _ _ | assumption | refine Only.drewN ?_ _ | refine Only.drew ?_ | refine Only.alloc ?_ _ | refine Only.setCell ?_ (by intro hh; exfalso; simp at hh; try omega) _ | refine Only.trans ?_ (by assumption))), h5⟩, k1.trans (by with_reducible repeat (first | exact Only.refl _ _ | assumption | refine Only.drewN ?_ _ | refine Only.drew ?_))⟩
set_option maxHeartbeats 2000000 in
theorem srcBelow_any (g : Nat) (fc : List Nat) (l : List UInt8) (n : Int) (w : World) (h : Src w g fc l) (hl : l.length ≤ 4096) (hn : n ≤ 9223372036854775807) :
    Calls Try.prog 79 #[.pointer (some ⟨g, 0, none⟩), .int .i64 n] w fun e w' => ∃ r : Int, e = .returned (.int .i64 r) ∧ 0 ≤ r ∧ (r < n ∨ r = 0) ∧ Src w' g fc l ∧ Only [g] w w' := by
  by_cases h0 : n ≤ 0
  · go_enter Try.func79, Try.ntmps79
    go_wp2
    go_ret
    exact ⟨0, rfl, by omega, .inr rfl, h, Only.refl _ _⟩
  by_cases h1 : n ≤ 256
  · have hn0 : n ≠ 0 := by omega
    go_enter Try.func79, Try.ntmps79
    go_wp2_with (first
      | (go_at_call 104; (with_reducible refine (nextByte_any g fc l w h hl).mono ?_); rintro e w1 ⟨r, rfl, r0, r1, D1, K1⟩)
      | fail "no arm")
    go_ret
    exact ⟨r % n, rfl, Int.emod_nonneg _ hn0, .inl (Int.emod_lt_of_pos _ (by omega)), D1, K1⟩
  · have hn0 : n ≠ 0 := by omega
    go_enter Try.func79, Try.ntmps79
    go_wp2_with (first
      | (go_at_call 104; (with_reducible refine (nextByte_any g fc l w h hl).mono ?_); rintro e w1 ⟨r, rfl, r0, r1, D1, K1⟩)
      | (go_at_call 104; (with_reducible refine (nextByte_any g fc l w1 D1 hl).mono ?_); rintro e w2 ⟨r2, rfl, r20, r21, D2, K2⟩)
      | (go_at_call 104; (with_reducible refine (nextByte_any g fc l w2 D2 hl).mono ?_); rintro e w3 ⟨r3, rfl, r30, r31, D3, K3⟩)
      | (go_at_call 104; (with_reducible refine (nextByte_any g fc l w3 D3 hl).mono ?_); rintro e w4 ⟨r4, rfl, r40, r41, D4, K4⟩; have q1 : IntKind.i64.wrap (r * 16777216) = r * 16777216 := (by rw [IntKind.wrap_i64]; omega); have q2 : IntKind.i64.wrap (r2 * 65536) = r2 * 65536 := (by rw [IntKind.wrap_i64]; omega); have q3 : IntKind.i64.wrap (r * 16777216 + r2 * 65536) = r * 16777216 + r2 * 65536 := (by rw [IntKind.wrap_i64]; omega); have q4 : IntKind.i64.wrap (r3 * 256) = r3 * 256 := (by rw [IntKind.wrap_i64]; omega); have q5 : IntKind.i64.wrap (r * 16777216 + r2 * 65536 + r3 * 256) = r * 16777216 + r2 * 65536 + r3 * 256 := (by rw [IntKind.wrap_i64]; omega); have q6 : IntKind.i64.wrap (r * 16777216 + r2 * 65536 + r3 * 256 + r4) = r * 16777216 + r2 * 65536 + r3 * 256 + r4 := (by rw [IntKind.wrap_i64]; omega))
      | fail "no arm")
    go_ret
    exact ⟨(r * 16777216 + r2 * 65536 + r3 * 256 + r4) % n, rfl, Int.emod_nonneg _ hn0, .inl (Int.emod_lt_of_pos _ (by omega)), D4, ((K1.trans K2).trans K3).trans K4⟩
set_option maxHeartbeats 1000000 in
theorem oneIn_any (g : Nat) (fc : List Nat) (l : List UInt8) (n : Int) (w : World) (h : Src w g fc l) (hl : l.length ≤ 4096) (hn : n ≤ 9223372036854775807) :
    Calls Try.prog 80 #[.pointer (some ⟨g, 0, none⟩), .int .i64 n] w fun e w' => ∃ r : Bool, e = .returned (.bool r) ∧ Src w' g fc l ∧ Only [g] w w' := by
  go_enter Try.func80, Try.ntmps80
  go_wp2_with (first
    | (go_at_call 79; (with_reducible refine (srcBelow_any g fc l n w h hl hn).mono ?_); rintro e w1 ⟨r, rfl, r0, r1, D1, K1⟩)
    | fail "no arm")
  go_ret
  exact ⟨r == 0, rfl, D1, K1⟩
set_option maxHeartbeats 1000000 in
theorem between_rng (g : Nat) (fc : List Nat) (l : List UInt8) (lo hi : Int) (w : World) (h : Src w g fc l) (hl : l.length ≤ 4096) (h1 : lo ≤ hi) (h2 : -1000000 ≤ lo) (h3 : hi ≤ 1000000) :
    Calls Try.prog 101 #[.pointer (some ⟨g, 0, none⟩), .int .i64 lo, .int .i64 hi] w fun e w' => ∃ r : Int, e = .returned (.int .i64 r) ∧ lo ≤ r ∧ r ≤ hi ∧ Src w' g fc l ∧ Only [g] w w' := by
  have q1 : IntKind.i64.wrap (hi - lo) = hi - lo := by rw [IntKind.wrap_i64]; omega
  have q2 : IntKind.i64.wrap (hi - lo + 1) = hi - lo + 1 := by rw [IntKind.wrap_i64]; omega
  go_enter Try.func101, Try.ntmps101
  go_wp2_with (first
    | (go_at_call 79; (with_reducible refine (srcBelow_any g fc l (hi - lo + 1) w h hl (by omega)).mono ?_); rintro e w1 ⟨r, rfl, r0, r1, D1, K1⟩; have q3 : IntKind.i64.wrap (lo + r) = lo + r := (by rw [IntKind.wrap_i64]; omega))
    | fail "no arm")
  go_ret
  exact ⟨lo + r, rfl, by omega, by omega, D1, K1⟩
def extL : List Int := [-1, 0, 1, 2147483648, -2147483648, 1099511627776, 4611686018427387904, -4611686018427387904, 9223372036854775807, -9223372036854775808]
theorem extL_rng : ∀ y ∈ extL, I64 y := by intro y hy; simp [extL] at hy; unfold I64; omega
set_option maxHeartbeats 1000000 in
theorem extremeInt_any (g : Nat) (fc : List Nat) (l : List UInt8) (w : World) (h : Src w g fc l) (hl : l.length ≤ 4096) :
    Calls Try.prog 122 #[.pointer (some ⟨g, 0, none⟩)] w fun e w' => ∃ r : Int, e = .returned (.int .i64 r) ∧ I64 r ∧ Src w' g fc l ∧ Only [g] w w' := by
  have hlt := h.lt
  have hB := Blk.new w (extL.map (Value.int .i64)) 2
  have ho : Only [] w (w.alloc (.cells (extL.map (Value.int .i64)).toArray 2)) := (Only.refl _ _).alloc _
  go_enter Try.func122, Try.ntmps122
  go_wp2_with (first
    | (go_at_call 79; (with_reducible refine (srcBelow_any g fc l 10 _ (h.keep (by with_reducible repeat (first | exact Only.refl _ _ | assumption | refine Only.drewN ?_ _ | refine Only.drew ?_ | refine Only.alloc ?_ _ | refine Only.setCell ?_ (by intro hh; exfalso; simp at hh; try omega) _ | refine Only.trans ?_ (by assumption)))) hl (by omega)).mono ?_); rintro e w1 ⟨r, rfl, r0, r1, D1, K1⟩; obtain ⟨k, rfl⟩ := Int.eq_ofNat_of_zero_le r0; have hk : k < extL.length := (by show k < 10; omega); have hB1 := hB.only K1 (by simp; omega); have c1 := hB1.cell k (v := .int .i64 extL[k]) (by simp [hk]); have hk0 : (0 : Int) ≤ (k : Int) := (by omega); have hk1 : (k : Int) < 10 := (by omega))
    | fail "no arm")
  go_ret
  exact ⟨extL[k], rfl, extL_rng _ (List.getElem_mem _), D1, (ho.weaken [g]).trans K1⟩
end Go.Proofs.Ytbediokigibdlaa

namespace Go.Proofs.Ytbediokigibdlaa
open Go.RowKit
set_option maxRecDepth 10000

set_option maxHeartbeats 400000 in
theorem IndexFunc_rows (f : FuncId) (caps : Array Value) (pr : List Int → Bool) (hcf : ∀ args w, (callFunc f args).run Try.prog w = .ok (.enter f args) w)
    (v : Value) (l : List (List Int)) (fp : List Nat) (w : World) (h : Rd w v l fp)
    (hc : ∀ x ∈ l, ∀ u f' w', Only [] w w' → Rd w' u x f' → Calls Try.prog f (#[u] ++ caps) w' fun e w'' => e = .returned (.bool (pr x)) ∧ Only [] w' w'') :
    Calls Try.prog 89 #[v, .func (.func f) #[] caps] w fun e w' => e = .returned (.int .i64 (idxF pr l)) ∧ Only [] w w' := by
  obtain ⟨a, cap, ob, fps, rfl, -, hI⟩ := h.open_
  have hb := hI.bound
  have HC := Lib.hid hc
  clear hc
  go_enter Try.func89, Try.ntmps89
  go_wp2
  go_loopw [5, 8] (fun i t wr => ∃ j : Nat, j ≤ l.length ∧ t = .int .i64 j ∧ (∀ x ∈ l.take j, pr x = false) ∧ Only [] w wr)
    (fun _ t _ => l.length - (intOf t).toNat)
  case atStart => exact ⟨0, Nat.zero_le _, rfl, by simp, Only.refl _ _⟩
  case round =>
    obtain ⟨j, hj, rfl, hr, hK⟩ := hrel
    have Hr := Lib.hid hr; clear hr
    by_cases hlt : j < l.length
    · obtain ⟨b, off, u, rfl, -, hc0, hv0⟩ := hI.atRow j hlt
      have hc := hK.cell (by simp) hc0
      have hv := Rp.keep hv0 hK
      clear hc0 hv0
      rcases hp : pr l[j]
      all_goals go_wp2_with (with_reducible refine (HC.out l[j] (List.getElem_mem _) u _ wr hK hv).mono ?_; rintro e w1 ⟨rfl, hk1⟩)
      · go_roundw
        case rel => exact ⟨j + 1, by omega, by go_num, by
          rw [take_succ_get l j hlt]; intro x hx
          rcases List.mem_append.1 hx with hx | hx
          · exact Hr.out x hx
          · simp at hx; subst hx; exact hp, hK.trans hk1⟩
        case measure => simp [intOf]; omega
      · go_ret
        exact ⟨ret_int (idxF_some hlt Hr.out hp).symm, hK.trans hk1⟩
    · go_wp2
      go_ret
      exact ⟨ret_int (idxF_none (by have := Hr.out; rwa [List.take_of_length_le (by omega)] at this)).symm, hK⟩
set_option maxHeartbeats 400000 in
theorem ContainsFunc_rows (f : FuncId) (caps : Array Value) (pr : List Int → Bool) (hcf : ∀ args w, (callFunc f args).run Try.prog w = .ok (.enter f args) w)
    (v : Value) (l : List (List Int)) (fp : List Nat) (w : World) (h : Rd w v l fp)
    (hc : ∀ x ∈ l, ∀ u f' w', Only [] w w' → Rd w' u x f' → Calls Try.prog f (#[u] ++ caps) w' fun e w'' => e = .returned (.bool (pr x)) ∧ Only [] w' w'') :
    Calls Try.prog 45 #[v, .func (.func f) #[] caps] w fun e w' => e = .returned (.bool (l.any pr)) ∧ Only [] w w' := by
  have HC := Lib.hid hc
  clear hc
  go_enter Try.func45, Try.ntmps45
  go_wp2_with ((go_at_call 89; (with_reducible refine (IndexFunc_rows f caps pr hcf v l _ w h HC.out).mono ?_); rintro e w1 ⟨rfl, hk⟩))
  go_ret
  exact ⟨ret_bool idxF_ge, hk⟩

def genB (n : Int) (g : List Int) : Bool := decide ((g.length : Int) = n) && permB g
def gensB (n : Int) (gens : List (List Int)) : Bool := inR n 1 20 && decide (gens.length ≤ 8) && gens.all (genB n)
set_option maxHeartbeats 1000000 in
theorem specIsGens_any (n : Int) (a : Option Addr) (cap : Nat) (l : List (List Int)) (ob : List Nat) (fps : List (List Nat)) (w : World) (h : SeqA w a cap l ob fps) :
    Calls Try.prog 10 #[.int .i64 n, .slice a l.length cap] w fun e w' => e = .returned (.bool (gensB n l)) ∧ Drew w w' := by
  have hb := h.bound
  rcases hq : inR n 1 20
  · go_enter Try.func10, Try.ntmps10
    go_wp2_with ((go_at_call 41; (with_reducible refine (inRange_any n 1 20 _).mono ?_); rintro e w ⟨rfl, rfl⟩))
    go_ret
    exact ⟨ret_bool (by unfold gensB; rw [hq]; rfl), Drew.refl _⟩
  by_cases hl : 8 < l.length
  · go_enter Try.func10, Try.ntmps10
    go_wp2_with ((go_at_call 41; (with_reducible refine (inRange_any n 1 20 _).mono ?_); rintro e w ⟨rfl, rfl⟩))
    go_ret
    exact ⟨ret_bool (by unfold gensB; rw [hq, decide_eq_false (by omega)]; rfl), Drew.refl _⟩
  have hfin : gensB n l = l.all (genB n) := by unfold gensB; rw [hq, decide_eq_true (by omega)]; rfl
  have Hfin := Lib.hid hfin; clear hfin
  go_enter Try.func10, Try.ntmps10
  go_wp2_with ((go_at_call 41; (with_reducible refine (inRange_any n 1 20 _).mono ?_); rintro e w ⟨rfl, rfl⟩))
  go_loopw [5] (fun i wr => ∃ j : Nat, j ≤ l.length ∧ i = .int .i64 j ∧ (∀ x ∈ l.take j, genB n x = true) ∧ Drew w wr)
    (fun i _ => l.length - (intOf i).toNat)
  case atStart => exact ⟨0, Nat.zero_le _, rfl, by simp, Drew.refl _⟩
  case round =>
    obtain ⟨j, hj, rfl, hr, k, rfl⟩ := hrel
    have Hr := Lib.hid hr; clear hr
    by_cases hlt : j < l.length
    · obtain ⟨b, off, v, rfl, -, hc, hv⟩ := h.atRow j hlt
      obtain ⟨a2, c2, rfl, hI⟩ := hv.ints
      have hb2 := hI.bound
      by_cases c1 : (l[j].length : Int) = n
      · have d1 : ((l[j].length : Int) != n) = false := by simp [c1]
        have C1 := Lib.hid c1; clear c1
        rcases c2 : permB l[j]
        all_goals go_wp2_with ((go_at_call 42; (with_reducible refine (specIsPerm_rd _ l[j] _ _ (Rp.keep hv (Only.ofDrewN _ _ _))).mono ?_); rintro e w1 ⟨rfl, n1, rfl⟩))
        · go_ret
          exact ⟨ret_bool (by rw [Hfin.out, eq_comm, List.all_eq_false]; exact ⟨l[j], List.getElem_mem _, by simp [genB, c2]⟩), ⟨_, rfl⟩⟩
        · go_roundw
          case rel => exact ⟨j + 1, by omega, by go_num, by
            rw [take_succ_get l j hlt]; intro x hx
            rcases List.mem_append.1 hx with hx | hx
            · exact Hr.out x hx
            · simp at hx; subst hx; simp [genB, c2, C1.out], ⟨_, rfl⟩⟩
          case measure => simp [intOf]; omega
      · have d1 : ((l[j].length : Int) != n) = true := by simp [c1]
        have C1 := Lib.hid c1; clear c1
        go_wp2
        go_ret
        exact ⟨ret_bool (by rw [Hfin.out, eq_comm, List.all_eq_false]; exact ⟨l[j], List.getElem_mem _, by simp [genB, C1.out]⟩), ⟨_, rfl⟩⟩
    · go_wp2
      go_ret
      exact ⟨ret_bool (by rw [Hfin.out, eq_comm, List.all_eq_true]; have := Hr.out; rwa [List.take_of_length_le (by omega)] at this), ⟨_, rfl⟩⟩
theorem specIsGens_rd (n : Int) (v : Value) (l : List (List Int)) (fp : List Nat) (w : World) (h : Rd w v l fp) :
    Calls Try.prog 10 #[.int .i64 n, v] w fun e w' => e = .returned (.bool (gensB n l)) ∧ Drew w w' := by
  obtain ⟨a, cap, ob, fps, rfl, -, hs⟩ := h.open_
  exact specIsGens_any n a cap l ob fps w hs
theorem lengthInt_q (v : Value) (l : List Int) (fp : List Nat) (w : World) (h : Rd w v l fp) :
    Calls Try.prog 74 #[v] w fun e w' => e = .returned (.int .i64 l.length) ∧ Drew w w' :=
  (lengthInt_rd v l fp w h).mono fun _ _ ⟨h1, h2⟩ => ⟨h1, by rw [h2]; exact Drew.refl _⟩
set_option maxHeartbeats 1000000 in
theorem IsGens_closure (n : Int) (u : Value) (x : List Int) (fp : List Nat) (b : Nat) (w : World) (h : Rd w u x fp) (hc : w.cell? ⟨b, 0, none⟩ = some (.int .i64 n)) :
    Calls Try.prog 87 #[u, .pointer (some ⟨b, 0, none⟩)] w fun e w' => e = .returned (.bool (!genB n x)) ∧ Only [] w w' := by
  obtain ⟨a, cap, rfl, hI⟩ := h.ints
  have hb := hI.bound
  by_cases c1 : (x.length : Int) = n
  · have d1 : ((x.length : Int) != n) = false := by simp [c1]
    have hg : genB n x = permB x := by simp [genB, c1]
    have Hg := Lib.hid hg; clear hg c1
    rcases c2 : permB x
    all_goals go_enter Try.func87, Try.ntmps87
    all_goals go_wp2
    all_goals go_quiet (first
      | (go_at_call 74; exact quiet_drewN0 (lengthInt_q _ x fp _ (Rp.keep h (Only.ofDrewN _ _ _))))
      | (go_at_call 76; exact quiet_drewN0 (implIsPerm_rd _ x fp _ (Rp.keep h (Only.ofDrewN _ _ _)))))
    all_goals go_wp2
    all_goals go_ret
    all_goals exact ⟨ret_bool (by rw [Hg.out, c2]; rfl), Only.ofDrewN _ _ _⟩
  · have d1 : ((x.length : Int) != n) = true := by simp [c1]
    have hg : genB n x = false := by simp [genB, c1]
    have Hg := Lib.hid hg; clear hg c1
    go_enter Try.func87, Try.ntmps87
    go_wp2
    go_quiet (first
      | (go_at_call 74; exact quiet_drewN0 (lengthInt_q _ x fp _ (Rp.keep h (Only.ofDrewN _ _ _))))
      | (go_at_call 76; exact quiet_drewN0 (implIsPerm_rd _ x fp _ (Rp.keep h (Only.ofDrewN _ _ _)))))
    go_wp2
    go_ret
    exact ⟨ret_bool (by rw [Hg.out]; rfl), Only.ofDrewN _ _ _⟩
set_option maxHeartbeats 1000000 in
theorem implIsGens_rd (n : Int) (v : Value) (l : List (List Int)) (fp : List Nat) (w : World) (h : Rd w v l fp) :
    Calls Try.prog 43 #[.int .i64 n, v] w fun e w' => e = .returned (.bool (gensB n l)) ∧ Only [] w w' := by
  obtain ⟨a, cap, ob, fps, rfl, -, hs⟩ := h.open_
  have hb := hs.bound
  rcases hq : inR n 1 20
  · go_enter Try.func43, Try.ntmps43
    go_wp2_with ((go_at_call 60; (with_reducible refine (within_any n 1 20 _).mono ?_); rintro e w1 ⟨rfl, rfl⟩))
    go_ret
    exact ⟨ret_bool (by unfold gensB; rw [hq]; rfl), (by with_reducible repeat (first | exact Only.refl _ _ | assumption | refine Only.drewN ?_ _ | refine Only.drew ?_ | refine Only.alloc ?_ _ | refine Only.setCell ?_ (by intro hh; exfalso; simp at hh; try omega) _ | refine Only.trans ?_ (by assumption)))⟩
  by_cases hl : l.length ≤ 8
  · have hfin : gensB n l = !(l.any fun x => !genB n x) := by unfold gensB; rw [hq, decide_eq_true hl, List.not_any_eq_all_not]; simp
    have Hfin := Lib.hid hfin; clear hfin
    have Hc := Lib.hid (ContainsFunc_rows 87 #[.pointer (some ⟨w.heap.size, 0, none⟩)] (fun x => !genB n x) Try.call87 (.slice a l.length cap) l _ (w.alloc (.cells #[.int .i64 n] 2)) (Rp.keep h (by with_reducible repeat (first | exact Only.refl _ _ | assumption | refine Only.drewN ?_ _ | refine Only.drew ?_ | refine Only.alloc ?_ _ | refine Only.setCell ?_ (by intro hh; exfalso; simp at hh; try omega) _ | refine Only.trans ?_ (by assumption))))
      (fun x _ u f' w' hw hu => IsGens_closure n u x f' w.heap.size w' hu (hw.cell (by simp) (by simp))))
    rcases hany : l.any fun x => !genB n x
    all_goals go_enter Try.func43, Try.ntmps43
    all_goals go_wp2_with (first | (go_at_call 60; refine (within_any n 1 20 _).mono ?_; rintro e w1 ⟨rfl, rfl⟩) | (go_at_call 45; (with_reducible refine (Hc.out).mono ?_); rintro e w1 ⟨rfl, hk⟩))
    all_goals go_ret
    all_goals exact ⟨ret_bool (by rw [Hfin.out, hany]; rfl), (by with_reducible repeat (first | exact Only.refl _ _ | assumption | refine Only.drewN ?_ _ | refine Only.drew ?_ | refine Only.alloc ?_ _ | refine Only.setCell ?_ (by intro hh; exfalso; simp at hh; try omega) _ | refine Only.trans ?_ (by assumption)))⟩
  · go_enter Try.func43, Try.ntmps43
    go_wp2_with ((go_at_call 60; (with_reducible refine (within_any n 1 20 _).mono ?_); rintro e w1 ⟨rfl, rfl⟩))
    go_ret
    exact ⟨ret_bool (by unfold gensB; rw [hq, decide_eq_false hl]; rfl), (by with_reducible repeat (first | exact Only.refl _ _ | assumption | refine Only.drewN ?_ _ | refine Only.drew ?_ | refine Only.alloc ?_ _ | refine Only.setCell ?_ (by intro hh; exfalso; simp at hh; try omega) _ | refine Only.trans ?_ (by assumption)))⟩
end Go.Proofs.Ytbediokigibdlaa

namespace Go.Proofs.Ytbediokigibdlaa
open Go.RowKit
set_option maxRecDepth 10000

structure Puzzle where
  points : Int
  names : ByteArray
  moves : List (List Int)

instance : Rp Puzzle where
  size := 3
  rep w cs x fp := ∃ v2, cs = [Value.int .i64 x.points] ++ [Value.string x.names] ++ [v2] ∧ I64 x.points ∧ x.names.size ≤ maxLen ∧ Rd w v2 x.moves fp
  len h := by
    obtain ⟨v2, rfl, p0, p1, h2⟩ := h
    rfl
  frame h hf := by
    obtain ⟨v2, hcs, p0, p1, h2⟩ := h
    exact ⟨v2, hcs, p0, p1, Rp.frame h2 fun b hb => hf b (by simp [hb])⟩
  lt h := by
    obtain ⟨v2, hcs, p0, p1, h2⟩ := h
    intro b hb
    exact Rp.lt h2 b hb

instance : Mk Puzzle where
  mark k x := ⟨x.points, x.names, Mk.mark (k) x.moves⟩
  cnt x := Mk.cnt x.moves
instance : Sz Puzzle where
  sz x := x.names.size + Sz.sz x.moves
instance : Sm Puzzle where
  sm x := Sm.sm x.moves
instance : SzSm Puzzle := ⟨fun x h => by
  have h' : x.names.size + Sz.sz x.moves ≤ 2097152 := h
  exact SzSm.of_ x.moves (by omega)⟩
instance : CntSz Puzzle := ⟨fun x => by
  have h' : Mk.cnt x.moves ≤ x.names.size + Sz.sz x.moves := by have := CntSz.le x.moves; omega
  exact h'⟩
instance : MkL Puzzle := ⟨fun k x => by simp [Mk.mark, markL_idem], fun k x => by simp [Mk.mark, Mk.cnt, markL_cnt]⟩
end Go.Proofs.Ytbediokigibdlaa


namespace Go.Proofs.Ytbediokigibdlaa
open Go.RowKit
set_option maxRecDepth 10000

/-- the bytes of a string, as numbers -/
def bl (s : ByteArray) : List Int := s.data.toList.map fun b => (b.toNat : Int)
def namesB (s : ByteArray) : Bool := inR s.size 1 8 && ((bl s).all (fun b => inR b 65 90) && decide (bl s).Nodup)
def validPz (p : Puzzle) : Bool := gensB p.points p.moves && (namesB p.names && decide (p.names.size = p.moves.length))
end Go.Proofs.Ytbediokigibdlaa
