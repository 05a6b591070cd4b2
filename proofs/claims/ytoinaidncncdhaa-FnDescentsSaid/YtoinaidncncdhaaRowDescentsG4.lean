/- The making of chains: the program's newChain, the reference's emptyChain and buildChain. The laws' dice: bytes in memory; roll, below. IsGeneratorSet: the reference's and the program's. Puzzle: plain data, how it lies in memory, the laws' own helpers on it. (Printed by gen_struct.py.) IsValidPuzzle: the reference's and the program's. Equality of plain data: the reference's and the program's. -/
import Derived.Test.YtoinaidncncdhaaRowDescentsG3
import Derived.Test.YtoinaidncncdhaaRowDescentsG1
import Derived.Deep.QuietTactic
import Derived.BigQuiet
import Derived.BigRegion
import Derived.Laws.Bits64b
import Derived.Test.YtoinaidncncdhaaRowDescentsG2
namespace Go.Proofs.Ytoinaidncncdhaa
open Go.RowKit
set_option maxRecDepth 10000

/-- a header as it lies in a cell -/
structure RawV where
  v : Value
instance : Rp RawV where
  size := 1
  rep _ cs x fp := cs = [x.v] ∧ fp = []
  len h := by rw [h.1]; rfl
  frame h _ := h
  lt h := by rw [h.2]; simp
/-- the blocks of a chain that is being made -/
inductive Key
  | g | tv | gt | row (k : Nat) | emp (k : Nat) | idn (k : Nat)
deriving DecidableEq
structure Sep (B : Nat) (w : World) (S : Key → List Nat) : Prop where
  le : B ≤ w.heap.size
  ge : ∀ a, ∀ x ∈ S a, B ≤ x
  sep : ∀ a b, a ≠ b → ∀ x ∈ S a, x ∉ S b
  lt : ∀ a, ∀ x ∈ S a, x < w.heap.size
def updS (S : Key → List Nat) (a : Key) (l : List Nat) : Key → List Nat := fun b => if b = a then l else S b
theorem updS_same (S : Key → List Nat) (a : Key) (l : List Nat) : updS S a l a = l := if_pos rfl
theorem updS_other (S : Key → List Nat) {a b : Key} (l : List Nat) (h : b ≠ a) : updS S a l b = S b := if_neg h
section
variable {B : Nat} {w w' : World} {S : Key → List Nat}
theorem Sep.keep (h : Sep B w S) (hs : w.heap.size ≤ w'.heap.size) : Sep B w' S := ⟨Nat.le_trans h.le hs, h.ge, h.sep, fun a x hx => Nat.lt_of_lt_of_le (h.lt a x hx) hs⟩
theorem Sep.upd (h : Sep B w S) {a : Key} {l : List Nat} (hl : ∀ x ∈ l, w.heap.size ≤ x ∧ x < w'.heap.size) (hs : w.heap.size ≤ w'.heap.size)   : Sep B w' (updS S a l) := by
  refine ⟨Nat.le_trans h.le hs, fun b x hx => ?_, fun b c hbc x hx hx' => ?_, fun b x hx => ?_⟩
  · unfold updS at hx
    split at hx
    · have := (hl x hx).1; have := h.le; omega
    · exact h.ge b x hx
  · unfold updS at hx hx'
    split at hx
    · rename_i e1
      split at hx'
      · rename_i e2; exact hbc (e1.trans e2.symm)
      · have := (hl x hx).1; have := h.lt c x hx'; omega
    · split at hx'
      · have := (hl x hx').1; have := h.lt b x hx; omega
      · exact h.sep b c hbc x hx hx'
  · unfold updS at hx
    split at hx
    · exact (hl x hx).2
    · exact Nat.lt_of_lt_of_le (h.lt b x hx) hs
end
def rowV (n b : Nat) : Value := .slice (some ⟨b, 0, none⟩) n n
def rowsV (n : Nat) (rb : Nat → Nat) (j : Nat) : List RawV := (List.range j).map fun k => ⟨rowV n (rb k)⟩
def updF {α : Type} (f : Nat → α) (k : Nat) (v : α) : Nat → α := fun j => if j = k then v else f j
theorem updF_same {α : Type} (f : Nat → α) (k : Nat) (v : α) : updF f k v k = v := if_pos rfl
theorem updF_other {α : Type} (f : Nat → α) {j k : Nat} (v : α) (h : j ≠ k) : updF f k v j = f j := if_neg h
theorem rowsV_succ (n : Nat) (rb : Nat → Nat) (j b : Nat) : rowsV n (updF rb j b) (j + 1) = rowsV n rb j ++ [⟨rowV n b⟩] := by
  unfold rowsV
  rw [List.range_succ, List.map_append]
  congr 1
  · refine List.map_congr_left fun k hk => ?_
    rw [updF_other _ _ (by have := List.mem_range.1 hk; omega)]
  · simp [updF_same]

/-- the rows of an empty chain, the first j of them -/
structure Em (e : TypeId) (B n j : Nat) (w : World) (S : Key → List Nat) (tv : Value) (rb : Nat → Nat) (iv : Nat → Value) : Prop where
  sep : Sep B w S
  acc : ∃ fs, Acc B e w tv (rowsV n rb j) fs ∧ fs.flatten = []
  tvS : tv.ownBlock.toList = S .tv
  cell : ∀ k i, k < j → i < n → w.cell? ⟨rb k, i, none⟩ = some (if i = k then iv k else .slice none 0 0)
  own : ∀ k, k < j → Own w [rb k]
  rS : ∀ k, k < j → S (.row k) = [rb k]
  idn : ∀ k, k < j → Rd w (iv k) (PM.pts n) (S (.idn k))
section
variable {e : TypeId} {B n j : Nat} {w w' : World} {S : Key → List Nat} {tv : Value} {rb : Nat → Nat} {iv : Nat → Value}
theorem Sep.start {B : Nat} {w : World} (g gt : List Nat) (hB : B ≤ w.heap.size) (hg : ∀ x ∈ g, x ∉ gt) (hgl : ∀ x ∈ g, B ≤ x ∧ x < w.heap.size) (hgt : ∀ x ∈ gt, B ≤ x ∧ x < w.heap.size) : Sep B w (updS (updS (fun _ => []) .g g) .gt gt) := by
  have hm : ∀ a x, x ∈ updS (updS (fun _ => []) .g g) .gt gt a → (a = .gt ∧ x ∈ gt) ∨ (a = .g ∧ x ∈ g) := by
    intro a x hx
    unfold updS at hx
    split at hx
    · rename_i e; exact .inl ⟨e, hx⟩
    · split at hx
      · rename_i e; exact .inr ⟨e, hx⟩
      · cases hx
  refine ⟨hB, fun a x hx => ?_, fun a b hab x hx hx' => ?_, fun a x hx => ?_⟩
  · rcases hm a x hx with ⟨-, h⟩ | ⟨-, h⟩
    · exact (hgt x h).1
    · exact (hgl x h).1
  · rcases hm a x hx with ⟨e, h⟩ | ⟨e, h⟩
    · rcases hm b x hx' with ⟨e', h'⟩ | ⟨e', h'⟩
      · exact hab (e.trans e'.symm)
      · exact hg x h' h
    · rcases hm b x hx' with ⟨e', h'⟩ | ⟨e', h'⟩
      · exact hg x h h'
      · exact hab (e.trans e'.symm)
  · rcases hm a x hx with ⟨-, h⟩ | ⟨-, h⟩
    · exact (hgt x h).2
    · exact (hgl x h).2
theorem Em.start {S : Key → List Nat} {w : World} (e : TypeId) {B : Nat} (n : Nat) (hs : Sep B w S) (ht : S .tv = []) (rb : Nat → Nat) (iv : Nat → Value) : Em e B n 0 w S (.slice none 0 0) rb iv :=
  ⟨hs, ⟨[], Acc.nil _ _ _, rfl⟩, by rw [ht]; rfl, by intro _ _ h; omega, by intro _ h; omega, by intro _ h; omega, by intro _ h; omega⟩
theorem Em.only (h : Em e B n j w S tv rb iv) {fp : List Nat} (ho : Only fp w w') (hd : ∀ b ∈ fp, b ∉ S .tv ∧ (∀ k, b ∉ S (.row k)) ∧ ∀ k, b ∉ S (.idn k)) : Em e B n j w' S tv rb iv := by
  have hr : ∀ k, k < j → rb k ∉ fp := fun k hk hm => (hd _ hm).2.1 k (by rw [h.rS k hk]; simp)
  obtain ⟨fs, hA, hfs⟩ := h.acc
  refine ⟨h.sep.keep ho.size, ⟨fs, hA.only ho (by rw [hfs]; simp) (fun g hg hm => (hd g hm).1 (by rw [← h.tvS]; simp [hg])), hfs⟩, h.tvS, fun k i hk hi => ho.cell (hr k hk) (h.cell k i hk hi), fun k hk => (h.own k hk).only ho (by simpa using hr k hk), h.rS, fun k hk => Rp.only (h.idn k hk) ho fun b hb hm => (hd b hm).2.2 k hb⟩
theorem Em.keep (h : Em e B n j w S tv rb iv) (ho : Only [] w w') : Em e B n j w' S tv rb iv := h.only ho (by simp)
theorem Em.reS (h : Em e B n j w S tv rb iv) {S' : Key → List Nat} (hs : Sep B w S') (h1 : S' .tv = S .tv) (h2 : ∀ k, S' (.row k) = S (.row k)) (h3 : ∀ k, S' (.idn k) = S (.idn k)) : Em e B n j w S' tv rb iv :=
  ⟨hs, h.acc, by rw [h1]; exact h.tvS, h.cell, h.own, fun k hk => by rw [h2]; exact h.rS k hk, fun k hk => by rw [h3]; exact h.idn k hk⟩
/-- a row more -/
theorem Em.step (h : Em e B n j w S tv rb iv) (hj : j < n) {eI : TypeId} {w1 w2 w4 w5 : World} (hown : w1.ownsRow w.heap.size eI 1 (.slice (some ⟨w.heap.size, 0, none⟩) n n) n (List.replicate n (.slice none 0 0))) (h1 : Only [] w w1)
    {v2 : Value} {f2 : List Nat} (r2 : Rd w2 v2 (PM.pts n) f2) (F2 : Fresh w1.heap.size w2 f2) (h2 : Only [] w1 w2) (h4 : Only [] (w2.setCell ⟨w.heap.size, j, none⟩ v2) w4)
    {tv' : Value} {fs' : List (List Nat)} (hA : Acc B e w5 tv' (rowsV n rb j ++ [⟨rowV n w.heap.size⟩]) fs') (hfs : fs'.flatten = []) (h5 : Only tv.ownBlock.toList w4 w5) (hb : tv'.ownBlock = tv.ownBlock ∨ tv'.ownBlock = some w4.heap.size) :
    ∃ S', Em e B n (j + 1) w5 S' tv' (updF rb j w.heap.size) (updF iv j v2) ∧ S' .g = S .g ∧ S' .gt = S .gt ∧ ∀ k, S' (.emp k) = S (.emp k) := by
  have hs0 : w.heap.size < w1.heap.size := (hown.lt w.heap.size rfl).2
  have hst := setCell_only w2 w.heap.size j v2
  have hsz2 := h2.size
  have hsz3 := hst.size
  have hsz4 := h4.size
  have hsz5 := h5.size
  have htv : ∀ b ∈ tv.ownBlock.toList, b ∈ S .tv ∧ b < w.heap.size := fun b hb' => by
    rw [h.tvS] at hb'; exact ⟨hb', h.sep.lt _ b hb'⟩
  -- the old rows
  have hE3 : Em e B n j (w2.setCell ⟨w.heap.size, j, none⟩ v2) S tv rb iv := ((h.keep h1).keep h2).only hst fun b hb' => by
    have e : b = w.heap.size := by simpa using hb'
    subst e
    exact ⟨fun hm => Nat.lt_irrefl _ (h.sep.lt _ _ hm), fun k hm => Nat.lt_irrefl _ (h.sep.lt _ _ hm), fun k hm => Nat.lt_irrefl _ (h.sep.lt _ _ hm)⟩
  have hE4 := hE3.keep h4
  have hf2 : ∀ b ∈ f2, w1.heap.size ≤ b ∧ b < w2.heap.size := fun b hb' => ⟨F2.ge b hb', F2.lt b hb'⟩
  -- the new row's cells
  have hown2 := owns_keep hown h2
  obtain ⟨hown3, -⟩ := hown2.stored j v2
  have hown4 := owns_keep hown3 h4
  have hown5 := owns_only hown4 h5 fun g hg hm => by
    have := (htv g hm).2
    simp [Value.ownBlock] at hg; omega
  have hr5 : Rd w5 v2 (PM.pts n) f2 := by
    refine Rp.only (Rp.keep (Rp.only r2 hst fun b hb' hm => ?_) h4) h5 fun b hb' hm => ?_
    · have e : b = w.heap.size := by simpa using hm
      have := (hf2 b hb').1; omega
    · have := (htv b hm).2; have := (hf2 b hb').1; omega
  have hE5 : ∀ k i, k < j → i < n → w5.cell? ⟨rb k, i, none⟩ = some (if i = k then iv k else .slice none 0 0) := fun k i hk hi =>
    h5.cell (fun hm => h.sep.sep .tv (.row k) (by simp) _ (htv _ hm).1 (by rw [h.rS k hk]; simp)) (hE4.cell k i hk hi)
  have hO5 : ∀ k, k < j → Own w5 [rb k] := fun k hk => (hE4.own k hk).only h5 fun b hb' hm => by
    have e : b = rb k := by simpa using hb'
    subst e
    exact h.sep.sep .tv (.row k) (by simp) _ (htv _ hm).1 (by rw [h.rS k hk]; simp)
  have hI5 : ∀ k, k < j → Rd w5 (iv k) (PM.pts n) (S (.idn k)) := fun k hk => Rp.only (hE4.idn k hk) h5 fun b hb' hm => h.sep.sep .tv (.idn k) (by simp) b (htv b hm).1 hb'
  -- the blocks
  have hS1 : Sep B w1 (updS S (.row j) [w.heap.size]) := h.sep.upd (fun x hx => by
    have e : x = w.heap.size := by simpa using hx
    omega) h1.size
  have hS2 : Sep B w2 (updS (updS S (.row j) [w.heap.size]) (.idn j) f2) := hS1.upd hf2 hsz2
  have hS4 : Sep B w4 (updS (updS S (.row j) [w.heap.size]) (.idn j) f2) := hS2.keep (by omega)
  have key : ∀ S' : Key → List Nat, Sep B w5 S' → tv'.ownBlock.toList = S' .tv → (∀ k, S' (.row k) = updS S (.row j) [w.heap.size] (.row k)) → (∀ k, S' (.idn k) = updS S (.idn j) f2 (.idn k)) → Em e B n (j + 1) w5 S' tv' (updF rb j w.heap.size) (updF iv j v2) := by
    intro S' hs ht hr hi
    refine ⟨hs, ⟨fs', by rw [rowsV_succ]; exact hA, hfs⟩, ht, fun k i hk hin => ?_, fun k hk => ?_, fun k hk => ?_, fun k hk => ?_⟩
    · by_cases e : k = j
      · subst e
        rw [updF_same, updF_same, hown5.cellAt i (by omega)]
        by_cases e2 : i = k
        · subst e2; simp [hin]
        · rw [if_neg e2, List.getElem?_set_ne (by omega), List.getElem?_replicate, if_pos hin]
      · rw [updF_other _ _ e, updF_other _ _ e]; exact hE5 k i (by omega) hin
    · by_cases e : k = j
      · subst e
        rw [updF_same]
        exact (own_fresh hown5).own
      · rw [updF_other _ _ e]; exact hO5 k (by omega)
    · rw [hr k]
      by_cases e : k = j
      · subst e; rw [updS_same, updF_same]
      · rw [updF_other _ _ e, updS_other _ _ (by simpa using e)]; exact h.rS k (by omega)
    · rw [hi k]
      by_cases e : k = j
      · subst e; rw [updS_same, updF_same]; exact hr5
      · rw [updF_other _ _ e, updS_other _ _ (by simpa using e)]; exact hI5 k (by omega)
  rcases hb with hb | hb
  · refine ⟨updS (updS S (.row j) [w.heap.size]) (.idn j) f2, key _ (hS4.keep hsz5) ?_ (fun k => ?_) (fun k => ?_), ?_, ?_, fun k => ?_⟩
    · rw [hb, h.tvS, updS_other _ _ (by simp), updS_other _ _ (by simp)]
    · rw [updS_other _ _ (by simp)]
    · unfold updS; split <;> rfl
    · rw [updS_other _ _ (by simp), updS_other _ _ (by simp)]
    · rw [updS_other _ _ (by simp), updS_other _ _ (by simp)]
    · rw [updS_other _ _ (by simp), updS_other _ _ (by simp)]
  · have hlt := (hA.ownlt _ hb).2
    refine ⟨updS (updS (updS S (.row j) [w.heap.size]) (.idn j) f2) .tv [w4.heap.size], key _ (hS4.upd (fun x hx => by
      have e : x = w4.heap.size := by simpa using hx
      omega) hsz5) ?_ (fun k => ?_) (fun k => ?_), ?_, ?_, fun k => ?_⟩
    · rw [hb, updS_same]; rfl
    · rw [updS_other _ _ (by simp), updS_other _ _ (by simp)]
    · rw [updS_other _ _ (by simp)]; unfold updS; split <;> rfl
    · rw [updS_other _ _ (by simp), updS_other _ _ (by simp), updS_other _ _ (by simp)]
    · rw [updS_other _ _ (by simp), updS_other _ _ (by simp), updS_other _ _ (by simp)]
    · rw [updS_other _ _ (by simp), updS_other _ _ (by simp), updS_other _ _ (by simp)]
end
/-- the program's rows as far as they are made -/
def NR (eR : TypeId) (n : Nat) (w : World) (g bg : Nat) (j : Nat) (wr : World) : Prop :=
  ∃ S tv rb iv, Em eR w.heap.size n j wr S tv rb iv ∧ S .g = [g] ∧ S .gt = [bg] ∧ (∀ k, S (.emp k) = []) ∧ Blk wr g [.int .i64 n, .slice (some ⟨bg, 0, none⟩) n n, tv] ∧
    wr.ownsRow bg eR 1 (.slice (some ⟨bg, 0, none⟩) n n) n (List.replicate n (.slice none 0 0)) ∧ Only [] w wr
theorem Blk.set {w : World} {g : Nat} {cs : List Value} (h : Blk w g cs) (i : Nat) (v : Value) : Blk (w.setCell ⟨g, i, none⟩ v) g (cs.set i v) := by
  obtain ⟨t, h⟩ := h
  refine ⟨t, ?_⟩
  simp [World.setCell, Array.getElem?_modify, h]
theorem Blk.frozen {w : World} {g : Nat} {cs : List Value} (h : Blk w g cs) (i : Nat) : w.frozen? ⟨g, i, none⟩ = false := by
  obtain ⟨t, h⟩ := h; simp [World.frozen?, h]
theorem NR.step {eR eI : TypeId} {n j : Nat} (hj : j < n) {w wr w1 w2 w4 w5 : World} {g bg : Nat} {S : Key → List Nat} {tv : Value} {rb : Nat → Nat} {iv : Nat → Value}
    (hE : Em eR w.heap.size n j wr S tv rb iv) (hg : S .g = [g]) (hgt : S .gt = [bg]) (hem : ∀ k, S (.emp k) = []) (hB : Blk wr g [.int .i64 n, .slice (some ⟨bg, 0, none⟩) n n, tv])
    (hO : wr.ownsRow bg eR 1 (.slice (some ⟨bg, 0, none⟩) n n) n (List.replicate n (.slice none 0 0))) (hK : Only [] w wr)
    (hown : w1.ownsRow wr.heap.size eI 1 (.slice (some ⟨wr.heap.size, 0, none⟩) n n) n (List.replicate n (.slice none 0 0))) (h1 : Only [] wr w1)
    {v2 : Value} {f2 : List Nat} (r2 : Rd w2 v2 (PM.pts n) f2) (F2 : Fresh w1.heap.size w2 f2) (h2 : Only [] w1 w2) (h4 : Only [] (w2.setCell ⟨wr.heap.size, j, none⟩ v2) w4)
    {tv' : Value} {fs' : List (List Nat)} (hA : Acc w.heap.size eR w5 tv' (rowsV n rb j ++ [⟨rowV n wr.heap.size⟩]) fs') (hfs : fs'.flatten = []) (h5 : Only tv.ownBlock.toList w4 w5) (hb : tv'.ownBlock = tv.ownBlock ∨ tv'.ownBlock = some w4.heap.size) :
    NR eR n w g bg (j + 1) (w5.setCell ⟨g, 2, none⟩ tv') := by
  obtain ⟨S', hE', e1, e2, e3⟩ := hE.step hj hown h1 r2 F2 h2 h4 hA hfs h5 hb
  have hst := setCell_only w5 g 2 tv'
  have hst2 := setCell_only w2 wr.heap.size j v2
  have hgS : g ∈ S .g := by rw [hg]; simp
  have hbS : bg ∈ S .gt := by rw [hgt]; simp
  have hgS' : g ∈ S' .g := by rw [e1]; exact hgS
  have hglt := hE.sep.lt _ _ hgS
  have hblt := hE.sep.lt _ _ hbS
  have hgtv : g ∉ tv.ownBlock.toList := by rw [hE.tvS]; exact hE.sep.sep _ _ (by simp) _ hgS
  have hbtv : bg ∉ tv.ownBlock.toList := by rw [hE.tvS]; exact hE.sep.sep _ _ (by simp) _ hbS
  have hgb : g ≠ bg := fun e => hE.sep.sep .g .gt (by simp) _ hgS (e ▸ hbS)
  have hwr : w.heap.size ≤ wr.heap.size := hK.size
  have hw2 : wr.heap.size ≤ w2.heap.size := Nat.le_trans h1.size h2.size
  have hw4 := h4.size
  have hw3 := hst2.size
  refine ⟨S', tv', _, _, hE'.only hst fun b hb' => ?_, by rw [e1, hg], by rw [e2, hgt], fun k => by rw [e3, hem], ?_, ?_, ?_⟩
  · have e : b = g := by simpa using hb'
    subst e
    exact ⟨hE'.sep.sep _ _ (by simp) _ hgS', fun k => hE'.sep.sep _ _ (by simp) _ hgS', fun k => hE'.sep.sep _ _ (by simp) _ hgS'⟩
  · have := (((((hB.keep h1).keep h2).only hst2 (by simp; omega)).keep h4).only h5 hgtv).set 2 tv'
    simpa using this
  · refine owns_only (owns_only (owns_keep (owns_only (owns_keep (owns_keep hO h1) h2) hst2 fun x hx => ?_) h4) h5 fun x hx => ?_) hst fun x hx => ?_
    · have e : bg = x := by simpa [Value.ownBlock] using hx
      subst e; simp; omega
    · have e : bg = x := by simpa [Value.ownBlock] using hx
      subst e; exact hbtv
    · have e : bg = x := by simpa [Value.ownBlock] using hx
      subst e; simpa using hgb.symm
  · refine ((((hK.trans h1).trans h2).setCell (fun h => by simp at h; omega) _).trans h4).then_ h5 (fun x hx hl => ?_) |>.setCell (fun h => ?_) _
    · rw [hE.tvS] at hx
      have := hE.sep.ge _ _ hx; omega
    · have := hE.sep.ge _ _ hgS
      have h' : g < w.heap.size := h
      omega
/-- the generators' loop of a chain: the first j of them are added -/
def CL (eG : TypeId) (L : Lay) (n : Nat) (gens : List (List Int)) (w : World) (j : Nat) (wr : World) : Prop :=
  ∃ (gv : Nat → Value) (G : PM.Gens) (T : PM.Rows) (M F : List Nat), Ch eG w.heap.size wr L gv n G T M F ∧ PM.Chain n (gens.take j) G T ∧ PM.Ln n 0 G T ∧ Only [] w wr
theorem CL.start {eG : TypeId} {L : Lay} {n : Nat} (gens : List (List Int)) {w wr : World} {gv : Nat → Value} {M F : List Nat} (hC : Ch eG w.heap.size wr L gv n (PM.G0 n) (PM.T0 n) M F) (hK : Only [] w wr) : CL eG L n gens w 0 wr :=
  ⟨gv, _, _, M, F, hC, by simpa using PM.Chain.zero n, PM.Ln.zero n, hK⟩
theorem CL.step {eG : TypeId} {L : Lay} {n : Nat} {gens : List (List Int)} {w wr w1 w' : World} {j : Nat} {gv : Nat → Value} {G : PM.Gens} {T : PM.Rows} {M F f : List Nat} (hC : Ch eG w.heap.size wr L gv n G T M F) (hc : PM.Chain n (gens.take j) G T) (hK : Only [] w wr)
    (t : Only [] wr w1) (hj : j < gens.length) (ha : AddP eG w.heap.size L n 0 gens[j] G T M F f gv w1 w') : CL eG L n gens w (j + 1) w' := by
  obtain ⟨gv', G', T', M', F', hC', hA, hL, hM⟩ := ha
  refine ⟨gv', G', T', M', F', hC', ?_, hL, (hK.trans t).then_ hM.only fun x hx hl => ?_⟩
  · rw [take_succ_get gens j hj]; exact hc.step hC'.shape hA
  · have := hC.ge x hx; omega
end Go.Proofs.Ytoinaidncncdhaa

namespace Go.Proofs.Ytoinaidncncdhaa
open Go.RowKit
set_option maxRecDepth 10000

instance : Rp UInt8 where
  size := 1
  rep _ cs x fp := cs = [.int .u8 (x.toNat : Int)] ∧ fp = []
  len h := by rw [h.1]; rfl
  frame h _ := h
  lt h := by rw [h.2]; simp
theorem wrapu64_rng (y : Int) : 0 ≤ IntKind.u64.wrap y ∧ IntKind.u64.wrap y < 18446744073709551616 := by
  have e : IntKind.u64.wrap y = y % 18446744073709551616 := by rfl
  rw [e]; omega
theorem low24 {y : Int} (h0 : 0 ≤ y) (h1 : y < 18446744073709551616) : 0 ≤ wrap64 (bits BinOp.and IntKind.u64 y 16777215) ∧ wrap64 (bits BinOp.and IntKind.u64 y 16777215) ≤ 16777215 := by
  obtain ⟨m, rfl⟩ := Int.eq_ofNat_of_zero_le h0
  have e : bits BinOp.and IntKind.u64 (m : Int) 16777215 = ((m &&& 16777215 : Nat) : Int) := bits_and_u64_nat m 16777215 (by omega) (by omega)
  have hle : m &&& 16777215 ≤ 16777215 := Nat.and_le_right
  rw [e]
  unfold wrap64
  omega
/-- the dice at block g, over the bytes l -/
def Dice (w : World) (g : Nat) (fc : List Nat) (l : List UInt8) : Prop :=
  ∃ a c i h, Blk w g [.slice a l.length c, .int .i64 i, .int .u64 h] ∧ (0 ≤ i ∧ i ≤ l.length) ∧ (0 ≤ h ∧ h < 18446744073709551616) ∧ Rd w (.slice a l.length c) l fc ∧ g ∉ fc
theorem Dice.keep {w w' : World} {g : Nat} {fc : List Nat} {l : List UInt8} (h : Dice w g fc l) (ho : Only [] w w') : Dice w' g fc l := by
  obtain ⟨a, c, i, x, h1, h2, h3, h4, h5⟩ := h
  exact ⟨a, c, i, x, h1.keep ho, h2, h3, Rp.keep h4 ho, h5⟩
theorem Dice.only {w w' : World} {g : Nat} {fc fp : List Nat} {l : List UInt8} (h : Dice w g fc l) (ho : Only fp w w') (hg : g ∉ fp) (hc : ∀ b ∈ fc, b ∉ fp) : Dice w' g fc l := by
  obtain ⟨a, c, i, x, h1, h2, h3, h4, h5⟩ := h
  exact ⟨a, c, i, x, h1.only ho hg, h2, h3, Rp.only h4 ho hc, h5⟩
theorem Dice.lt {w : World} {g : Nat} {fc : List Nat} {l : List UInt8} (h : Dice w g fc l) : g < w.heap.size := by
  obtain ⟨a, c, i, x, h1, -⟩ := h; exact h1.lt
set_option maxHeartbeats 1000000 in
theorem big_any (v : Value) (l : List UInt8) (fc : List Nat) (w : World) (h : Rd w v l fc) :
    Calls Try.prog 7 #[v] w fun e w' => e = .returned (.bool (decide (4096 < l.length))) ∧ Only [] w w' := by
  obtain ⟨a, cap, ob, fps, rfl, -, hs⟩ := h.open_
  have hb := hs.bound
  have he : decide ((4096 : Int) < (l.length : Int)) = decide (4096 < l.length) := by
    by_cases h : 4096 < l.length
    · rw [decide_eq_true h, decide_eq_true (by omega)]
    · rw [decide_eq_false h, decide_eq_false (by omega)]
  have He := Lib.hid he
  clear he
  go_enter Try.func7, Try.ntmps7
  go_wp2
  go_ret
  exact ⟨ret_bool (by first | exact He.out | rfl), (by with_reducible repeat (first | exact Only.refl _ _ | assumption | refine Only.drewN ?_ _ | refine Only.drew ?_ | refine Only.alloc ?_ _ | refine Only.setCell ?_ (by intro hh; exfalso; simp at hh; try omega) _ | refine Only.trans ?_ (by assumption)))⟩
set_option maxHeartbeats 4000000 in
theorem below_any (g : Nat) (fc : List Nat) (l : List UInt8) (n : Int) (w : World) (h : Dice w g fc l) (hn : 1 ≤ n) (hn2 : n ≤ 1000000) (hl : l.length ≤ 4096) :
    Calls Try.prog 15 #[.pointer (some ⟨g, 0, none⟩), .int .i64 n] w fun e w' => ∃ r : Int, e = .returned (.int .i64 r) ∧ 0 ≤ r ∧ r < n ∧ Dice w' g fc l ∧ Only [g] w w' := by
  obtain ⟨a, c, i, x, h1, h2, h3, h4, h5⟩ := h
  have y0 := h1.cell 0 rfl
  have y1 := h1.cell 1 rfl
  have y2 := h1.cell 2 rfl
  have p1 := h1.frozen 1
  have p2 := h1.frozen 2
  go_enter Try.func15, Try.ntmps15
  go_upto_region 2 with fail
  obtain ⟨x2, hx2⟩ : ∃ x2, x2 = IntKind.u64.wrap (IntKind.u64.wrap (x * 6364136223846793005) + 1442695040888963407) := ⟨_, rfl⟩
  have hr2 : 0 ≤ x2 ∧ x2 < 18446744073709551616 := by rw [hx2]; exact wrapu64_rng _
  rw [← hx2]
  clear hx2
  have B1 := h1.set 2 (.int .u64 x2)
  simp only [List.set] at B1
  have k1 : Only [g] w (w.setCell ⟨g, 2, none⟩ (.int .u64 x2)) := (Only.refl _ _).setCell (by simp) _
  have r1 : Rd (w.setCell ⟨g, 2, none⟩ (.int .u64 x2)) (.slice a l.length c) l fc := Rp.only h4 k1 (fun b hb hm => h5 (by simp at hm; rwa [← hm]))
  obtain ⟨w1, hw1⟩ : ∃ w1, w1 = w.setCell ⟨g, 2, none⟩ (.int .u64 x2) := ⟨_, rfl⟩
  rw [← hw1] at B1 k1 r1 ⊢
  clear hw1 y0 y1 y2 p1 p2 h1 h4 h3
  have y0 := B1.cell 0 rfl
  have y1 := B1.cell 1 rfl
  have y2 := B1.cell 2 rfl
  go_upto_region 3 with fail
  obtain ⟨v5, hv5⟩ : ∃ v5, v5 = wrap64 (bits BinOp.and IntKind.u64 (x2 / 8589934592) 16777215) := ⟨_, rfl⟩
  have hr5 : 0 ≤ v5 ∧ v5 ≤ 16777215 := by rw [hv5]; exact low24 (by omega) (by omega)
  rw [← hv5]
  clear hv5
  obtain ⟨ob, fps, hfc, hS⟩ : ∃ ob fps, fc = ob ++ fps.flatten ∧ SeqA w1 a c l ob fps := by obtain ⟨a', c', ob, fps, hv, hf, hs⟩ := r1.open_; injection hv with e1 _ e2; subst e1; subst e2; exact ⟨ob, fps, hf, hs⟩
  obtain ⟨k, rfl⟩ := Int.eq_ofNat_of_zero_le h2.1
  have hwk : IntKind.i64.wrap ((k : Int) + 1) = (k : Int) + 1 := by rw [IntKind.wrap_i64]; omega
  by_cases hil : k < l.length
  · have hilb : decide ((k : Int) < (l.length : Int)) = true := decide_eq_true (by omega)
    obtain ⟨b, off, cs, rfl, -, hc0, hrb⟩ := hS.at_ k hil
    obtain ⟨rfl, -⟩ := hrb
    have hcb : w1.cell? ⟨b, off + k, none⟩ = some (.int .u8 (l[k].toNat : Int)) := by simpa [Rp.size] using hc0 0 _ rfl
    clear hc0
    have hby : l[k].toNat < 256 := UInt8.toNat_lt _
    have hw8 : wrap64 (l[k].toNat : Int) = (l[k].toNat : Int) := by unfold wrap64; omega
    have hws : IntKind.i64.wrap (v5 + (l[k].toNat : Int)) = v5 + (l[k].toNat : Int) := by rw [IntKind.wrap_i64]; omega
    have hi0 : (0 : Int) ≤ (k : Int) := by omega
    have hi1 : (k : Int) < (l.length : Int) := by omega
    have p1 := B1.frozen 1
    have hn0 : n ≠ 0 := by omega
    have hnb : (n == 0) = false := by simp; omega
    obtain ⟨v6, hv6⟩ : ∃ v6, v6 = v5 + (l[k].toNat : Int) := ⟨_, rfl⟩
    have hr6 : 0 ≤ v6 ∧ v6 ≤ 16777470 := by omega
    rw [← hv6] at hws
    clear hv6
    go_quiet (fail)
    go_wp2
    go_quiet (fail)
    go_wp2
    go_ret
    refine ⟨_, rfl, Int.emod_nonneg _ hn0, Int.emod_lt_of_pos _ (by omega), ⟨some ⟨b, off, none⟩, c, (k : Int) + 1, x2, ?_, ⟨by omega, by omega⟩, hr2, ?_, h5⟩, (k1.drewN _).setCell (by simp) _⟩
    · simpa [List.set] using ((B1.keep (Only.ofDrewN w1 _ [])).set 1 (.int .i64 ((k : Int) + 1)))
    · exact Rp.only r1 (fp' := [g]) ((Only.ofDrewN _ _ _).setCell (by simp) _) (fun b hb hm => h5 (by simp at hm; rwa [← hm]))
  · have hilb : decide ((k : Int) < (l.length : Int)) = false := decide_eq_false (by omega)
    have hn0 : n ≠ 0 := by omega
    have hnb : (n == 0) = false := by simp; omega
    go_quiet (fail)
    go_wp2
    go_ret
    exact ⟨_, rfl, Int.emod_nonneg _ hn0, Int.emod_lt_of_pos _ (by omega), ⟨a, c, (k : Int), x2, B1.keep (Only.ofDrewN w1 _ []), h2, hr2, Rp.keep r1 (Only.ofDrewN w1 _ []), h5⟩, k1.drewN _⟩
set_option maxHeartbeats 4000000 in
theorem roll_any (v : Value) (l : List UInt8) (fc : List Nat) (seed : Int) (w : World) (h : Rd w v l fc) (hl : l.length ≤ 4096) :
    Calls Try.prog 8 #[v, .int .u64 seed] w fun e w' => ∃ g, e = .returned (.pointer (some ⟨g, 0, none⟩)) ∧ Dice w' g fc l ∧ w.heap.size ≤ g ∧ Only [] w w' := by
  obtain ⟨a, c, ob, fps, rfl, hfc, hS⟩ := h.open_
  have hlt := Rp.lt h
  go_enter Try.func8, Try.ntmps8
  go_upto_region 3 with fail
  obtain ⟨x0, hx0⟩ : ∃ x0, x0 = IntKind.u64.wrap (IntKind.u64.wrap (seed * 7919) + (l.length : Int)) := ⟨_, rfl⟩
  have hr0 : 0 ≤ x0 ∧ x0 < 18446744073709551616 := by rw [hx0]; exact wrapu64_rng _
  rw [← hx0]
  clear hx0
  have X0 := Blk.new w [.slice a l.length c, .int .i64 0, .int .u64 x0] 60
  simp only [List.toArray] at X0
  go_loopw [6] (fun i wr => ∃ (j : Nat) (x : Int), j ≤ l.length ∧ i = .int .i64 j ∧ Blk wr w.heap.size [.slice a l.length c, .int .i64 0, .int .u64 x] ∧ (0 ≤ x ∧ x < 18446744073709551616) ∧ Only [] w wr)
    (fun i _ => l.length - (intOf i).toNat)
  case atStart => exact ⟨0, x0, Nat.zero_le _, rfl, X0, hr0, (Only.refl _ _).alloc _⟩
  case round =>
    obtain ⟨W2, hnew⟩ : ∃ W, W = wr := ⟨_, rfl⟩
    subst hnew
    obtain ⟨j, x, hj, rfl, hX, hr, hK⟩ := hrel
    by_cases hlt2 : j < l.length
    · obtain ⟨b, off, cs, rfl, -, hc0, hrb⟩ := hS.at_ j hlt2
      obtain ⟨rfl, -⟩ := hrb
      have hcb0 : w.cell? ⟨b, off + j, none⟩ = some (.int .u8 (l[j].toNat : Int)) := by simpa [Rp.size] using hc0 0 _ rfl
      have hcb := hK.cell (by simp) hcb0
      clear hc0 hcb0
      have y2 := hX.cell 2 rfl
      have p2 := hX.frozen 2
      have hi0 : (0 : Int) ≤ (j : Int) := by omega
      have hi1 : (j : Int) < (l.length : Int) := by omega
      go_wp2
      go_region
      all_goals go_wp2
      have hX2 := (hX.set 2 (.int .u64 (IntKind.u64.wrap (IntKind.u64.wrap (IntKind.u64.wrap (x * 1099511628211) + IntKind.u64.wrap (l[j].toNat : Int)) + 3)))).keep ((Only.refl [] _).drew)
      simp only [List.set] at hX2
      exact ⟨⟨j + 1, _, by omega, by go_num, hX2, wrapu64_rng _, (hK.setCell (by simp) _).drew⟩, by simp [intOf]; omega⟩
    · obtain rfl : j = l.length := by omega
      have hW := Rp.keep h hK
      have HX := Lib.hid hX
      clear hX
      go_wp2
      go_ret
      exact ⟨w.heap.size, rfl, ⟨a, c, 0, x, HX.out, ⟨by omega, by omega⟩, hr, hW, fun hm => by have := hlt _ hm; omega⟩, Nat.le_refl _, hK⟩
end Go.Proofs.Ytoinaidncncdhaa

namespace Go.Proofs.Ytoinaidncncdhaa
open Go.RowKit
set_option maxRecDepth 10000

set_option maxHeartbeats 400000 in
theorem IndexFunc_rows (f : FuncId) (caps : Array Value) (pr : List Int → Bool) (hcf : ∀ args w, (callFunc f args).run Try.prog w = .ok (.enter f args) w)
    (v : Value) (l : List (List Int)) (fp : List Nat) (w : World) (h : Rd w v l fp)
    (hc : ∀ x ∈ l, ∀ u f' w', Only [] w w' → Rd w' u x f' → Calls Try.prog f (#[u] ++ caps) w' fun e w'' => e = .returned (.bool (pr x)) ∧ Only [] w' w'') :
    Calls Try.prog 131 #[v, .func (.func f) #[] caps] w fun e w' => e = .returned (.int .i64 (idxF pr l)) ∧ Only [] w w' := by
  obtain ⟨a, cap, ob, fps, rfl, -, hI⟩ := h.open_
  have hb := hI.bound
  have HC := Lib.hid hc
  clear hc
  go_enter Try.func131, Try.ntmps131
  go_wp2
  go_loopw [5, 8] (fun i t wr => ∃ j : Nat, j ≤ l.length ∧ t = .int .i64 j ∧ (∀ x ∈ l.take j, pr x = false) ∧ Only [] w wr)
    (fun _ t _ => l.length - (intOf t).toNat)
  case atStart => exact ⟨0, Nat.zero_le _, rfl, by simp, Only.refl _ _⟩
  case round =>
    obtain ⟨j, hj, rfl, hr, hK⟩ := hrel
    have Hr := Lib.hid hr; clear hr
    by_cases hlt : j < l.length
    · obtain ⟨b, off, u, rfl, -, hc0, hv0⟩ := hI.atRow j hlt
      have hc := hK.cell (by simp) hc0
      have hv := Rp.keep hv0 hK
      clear hc0 hv0
      rcases hp : pr l[j]
      all_goals go_wp2_with (with_reducible refine (HC.out l[j] (List.getElem_mem _) u _ wr hK hv).mono ?_; rintro e w1 ⟨rfl, hk1⟩)
      · go_roundw
        case rel => exact ⟨j + 1, by omega, by go_num, by
          rw [take_succ_get l j hlt]; intro x hx
          rcases List.mem_append.1 hx with hx | hx
          · exact Hr.out x hx
          · simp at hx; subst hx; exact hp, hK.trans hk1⟩
        case measure => simp [intOf]; omega
      · go_ret
        exact ⟨ret_int (idxF_some hlt Hr.out hp).symm, hK.trans hk1⟩
    · go_wp2
      go_ret
      exact ⟨ret_int (idxF_none (by have := Hr.out; rwa [List.take_of_length_le (by omega)] at this)).symm, hK⟩
set_option maxHeartbeats 400000 in
theorem ContainsFunc_rows (f : FuncId) (caps : Array Value) (pr : List Int → Bool) (hcf : ∀ args w, (callFunc f args).run Try.prog w = .ok (.enter f args) w)
    (v : Value) (l : List (List Int)) (fp : List Nat) (w : World) (h : Rd w v l fp)
    (hc : ∀ x ∈ l, ∀ u f' w', Only [] w w' → Rd w' u x f' → Calls Try.prog f (#[u] ++ caps) w' fun e w'' => e = .returned (.bool (pr x)) ∧ Only [] w' w'') :
    Calls Try.prog 117 #[v, .func (.func f) #[] caps] w fun e w' => e = .returned (.bool (l.any pr)) ∧ Only [] w w' := by
  have HC := Lib.hid hc
  clear hc
  go_enter Try.func117, Try.ntmps117
  go_wp2_with ((go_at_call 131; (with_reducible refine (IndexFunc_rows f caps pr hcf v l _ w h HC.out).mono ?_); rintro e w1 ⟨rfl, hk⟩))
  go_ret
  exact ⟨ret_bool idxF_ge, hk⟩

def genB (n : Int) (g : List Int) : Bool := decide ((g.length : Int) = n) && permB g
def gensB (n : Int) (gens : List (List Int)) : Bool := inR n 1 20 && decide (gens.length ≤ 8) && gens.all (genB n)
set_option maxHeartbeats 1000000 in
theorem specIsGens_any (n : Int) (a : Option Addr) (cap : Nat) (l : List (List Int)) (ob : List Nat) (fps : List (List Nat)) (w : World) (h : SeqA w a cap l ob fps) :
    Calls Try.prog 114 #[.int .i64 n, .slice a l.length cap] w fun e w' => e = .returned (.bool (gensB n l)) ∧ Drew w w' := by
  have hb := h.bound
  rcases hq : inR n 1 20
  · go_enter Try.func114, Try.ntmps114
    go_wp2_with ((go_at_call 48; (with_reducible refine (inRange_any n 1 20 _).mono ?_); rintro e w ⟨rfl, rfl⟩))
    go_ret
    exact ⟨ret_bool (by unfold gensB; rw [hq]; rfl), Drew.refl _⟩
  by_cases hl : 8 < l.length
  · go_enter Try.func114, Try.ntmps114
    go_wp2_with ((go_at_call 48; (with_reducible refine (inRange_any n 1 20 _).mono ?_); rintro e w ⟨rfl, rfl⟩))
    go_ret
    exact ⟨ret_bool (by unfold gensB; rw [hq, decide_eq_false (by omega)]; rfl), Drew.refl _⟩
  have hfin : gensB n l = l.all (genB n) := by unfold gensB; rw [hq, decide_eq_true (by omega)]; rfl
  have Hfin := Lib.hid hfin; clear hfin
  go_enter Try.func114, Try.ntmps114
  go_wp2_with ((go_at_call 48; (with_reducible refine (inRange_any n 1 20 _).mono ?_); rintro e w ⟨rfl, rfl⟩))
  go_loopw [5] (fun i wr => ∃ j : Nat, j ≤ l.length ∧ i = .int .i64 j ∧ (∀ x ∈ l.take j, genB n x = true) ∧ Drew w wr)
    (fun i _ => l.length - (intOf i).toNat)
  case atStart => exact ⟨0, Nat.zero_le _, rfl, by simp, Drew.refl _⟩
  case round =>
    obtain ⟨j, hj, rfl, hr, k, rfl⟩ := hrel
    have Hr := Lib.hid hr; clear hr
    by_cases hlt : j < l.length
    · obtain ⟨b, off, v, rfl, -, hc, hv⟩ := h.atRow j hlt
      obtain ⟨a2, c2, rfl, hI⟩ := hv.ints
      have hb2 := hI.bound
      by_cases c1 : (l[j].length : Int) = n
      · have d1 : ((l[j].length : Int) != n) = false := by simp [c1]
        have C1 := Lib.hid c1; clear c1
        rcases c2 : permB l[j]
        all_goals go_wp2_with ((go_at_call 121; (with_reducible refine (specIsPerm_rd _ l[j] _ _ (Rp.keep hv (Only.ofDrewN _ _ _))).mono ?_); rintro e w1 ⟨rfl, n1, rfl⟩))
        · go_ret
          exact ⟨ret_bool (by rw [Hfin.out, eq_comm, List.all_eq_false]; exact ⟨l[j], List.getElem_mem _, by simp [genB, c2]⟩), ⟨_, rfl⟩⟩
        · go_roundw
          case rel => exact ⟨j + 1, by omega, by go_num, by
            rw [take_succ_get l j hlt]; intro x hx
            rcases List.mem_append.1 hx with hx | hx
            · exact Hr.out x hx
            · simp at hx; subst hx; simp [genB, c2, C1.out], ⟨_, rfl⟩⟩
          case measure => simp [intOf]; omega
      · have d1 : ((l[j].length : Int) != n) = true := by simp [c1]
        have C1 := Lib.hid c1; clear c1
        go_wp2
        go_ret
        exact ⟨ret_bool (by rw [Hfin.out, eq_comm, List.all_eq_false]; exact ⟨l[j], List.getElem_mem _, by simp [genB, C1.out]⟩), ⟨_, rfl⟩⟩
    · go_wp2
      go_ret
      exact ⟨ret_bool (by rw [Hfin.out, eq_comm, List.all_eq_true]; have := Hr.out; rwa [List.take_of_length_le (by omega)] at this), ⟨_, rfl⟩⟩
theorem specIsGens_rd (n : Int) (v : Value) (l : List (List Int)) (fp : List Nat) (w : World) (h : Rd w v l fp) :
    Calls Try.prog 114 #[.int .i64 n, v] w fun e w' => e = .returned (.bool (gensB n l)) ∧ Drew w w' := by
  obtain ⟨a, cap, ob, fps, rfl, -, hs⟩ := h.open_
  exact specIsGens_any n a cap l ob fps w hs
theorem lengthInt_q (v : Value) (l : List Int) (fp : List Nat) (w : World) (h : Rd w v l fp) :
    Calls Try.prog 56 #[v] w fun e w' => e = .returned (.int .i64 l.length) ∧ Drew w w' :=
  (lengthInt_rd v l fp w h).mono fun _ _ ⟨h1, h2⟩ => ⟨h1, by rw [h2]; exact Drew.refl _⟩
set_option maxHeartbeats 1000000 in
theorem IsGens_closure (n : Int) (u : Value) (x : List Int) (fp : List Nat) (b : Nat) (w : World) (h : Rd w u x fp) (hc : w.cell? ⟨b, 0, none⟩ = some (.int .i64 n)) :
    Calls Try.prog 118 #[u, .pointer (some ⟨b, 0, none⟩)] w fun e w' => e = .returned (.bool (!genB n x)) ∧ Only [] w w' := by
  obtain ⟨a, cap, rfl, hI⟩ := h.ints
  have hb := hI.bound
  by_cases c1 : (x.length : Int) = n
  · have d1 : ((x.length : Int) != n) = false := by simp [c1]
    have hg : genB n x = permB x := by simp [genB, c1]
    have Hg := Lib.hid hg; clear hg c1
    rcases c2 : permB x
    all_goals go_enter Try.func118, Try.ntmps118
    all_goals go_wp2
    all_goals go_quiet (first
      | (go_at_call 56; exact quiet_drewN0 (lengthInt_q _ x fp _ (Rp.keep h (Only.ofDrewN _ _ _))))
      | (go_at_call 119; exact quiet_drewN0 (implIsPerm_rd _ x fp _ (Rp.keep h (Only.ofDrewN _ _ _)))))
    all_goals go_wp2
    all_goals go_ret
    all_goals exact ⟨ret_bool (by rw [Hg.out, c2]; rfl), Only.ofDrewN _ _ _⟩
  · have d1 : ((x.length : Int) != n) = true := by simp [c1]
    have hg : genB n x = false := by simp [genB, c1]
    have Hg := Lib.hid hg; clear hg c1
    go_enter Try.func118, Try.ntmps118
    go_wp2
    go_quiet (first
      | (go_at_call 56; exact quiet_drewN0 (lengthInt_q _ x fp _ (Rp.keep h (Only.ofDrewN _ _ _))))
      | (go_at_call 119; exact quiet_drewN0 (implIsPerm_rd _ x fp _ (Rp.keep h (Only.ofDrewN _ _ _)))))
    go_wp2
    go_ret
    exact ⟨ret_bool (by rw [Hg.out]; rfl), Only.ofDrewN _ _ _⟩
set_option maxHeartbeats 1000000 in
theorem implIsGens_rd (n : Int) (v : Value) (l : List (List Int)) (fp : List Nat) (w : World) (h : Rd w v l fp) :
    Calls Try.prog 101 #[.int .i64 n, v] w fun e w' => e = .returned (.bool (gensB n l)) ∧ Only [] w w' := by
  obtain ⟨a, cap, ob, fps, rfl, -, hs⟩ := h.open_
  have hb := hs.bound
  rcases hq : inR n 1 20
  · go_enter Try.func101, Try.ntmps101
    go_wp2_with ((go_at_call 83; (with_reducible refine (within_any n 1 20 _).mono ?_); rintro e w1 ⟨rfl, rfl⟩))
    go_ret
    exact ⟨ret_bool (by unfold gensB; rw [hq]; rfl), (by with_reducible repeat (first | exact Only.refl _ _ | assumption | refine Only.drewN ?_ _ | refine Only.drew ?_ | refine Only.alloc ?_ _ | refine Only.setCell ?_ (by intro hh; exfalso; simp at hh; try omega) _ | refine Only.trans ?_ (by assumption)))⟩
  by_cases hl : l.length ≤ 8
  · have hfin : gensB n l = !(l.any fun x => !genB n x) := by unfold gensB; rw [hq, decide_eq_true hl, List.not_any_eq_all_not]; simp
    have Hfin := Lib.hid hfin; clear hfin
    have Hc := Lib.hid (ContainsFunc_rows 118 #[.pointer (some ⟨w.heap.size, 0, none⟩)] (fun x => !genB n x) Try.call118 (.slice a l.length cap) l _ (w.alloc (.cells #[.int .i64 n] 2)) (Rp.keep h (by with_reducible repeat (first | exact Only.refl _ _ | assumption | refine Only.drewN ?_ _ | refine Only.drew ?_ | refine Only.alloc ?_ _ | refine Only.setCell ?_ (by intro hh; exfalso; simp at hh; try omega) _ | refine Only.trans ?_ (by assumption))))
      (fun x _ u f' w' hw hu => IsGens_closure n u x f' w.heap.size w' hu (hw.cell (by simp) (by simp))))
    rcases hany : l.any fun x => !genB n x
    all_goals go_enter Try.func101, Try.ntmps101
    all_goals go_wp2_with (first | (go_at_call 83; refine (within_any n 1 20 _).mono ?_; rintro e w1 ⟨rfl, rfl⟩) | (go_at_call 117; (with_reducible refine (Hc.out).mono ?_); rintro e w1 ⟨rfl, hk⟩))
    all_goals go_ret
    all_goals exact ⟨ret_bool (by rw [Hfin.out, hany]; rfl), (by with_reducible repeat (first | exact Only.refl _ _ | assumption | refine Only.drewN ?_ _ | refine Only.drew ?_ | refine Only.alloc ?_ _ | refine Only.setCell ?_ (by intro hh; exfalso; simp at hh; try omega) _ | refine Only.trans ?_ (by assumption)))⟩
  · go_enter Try.func101, Try.ntmps101
    go_wp2_with ((go_at_call 83; (with_reducible refine (within_any n 1 20 _).mono ?_); rintro e w1 ⟨rfl, rfl⟩))
    go_ret
    exact ⟨ret_bool (by unfold gensB; rw [hq, decide_eq_false hl]; rfl), (by with_reducible repeat (first | exact Only.refl _ _ | assumption | refine Only.drewN ?_ _ | refine Only.drew ?_ | refine Only.alloc ?_ _ | refine Only.setCell ?_ (by intro hh; exfalso; simp at hh; try omega) _ | refine Only.trans ?_ (by assumption)))⟩
end Go.Proofs.Ytoinaidncncdhaa

namespace Go.Proofs.Ytoinaidncncdhaa
open Go.RowKit
set_option maxRecDepth 10000

structure Puzzle where
  points : Int
  names : ByteArray
  moves : List (List Int)

instance : Rp Puzzle where
  size := 3
  rep w cs x fp := ∃ v2, cs = [Value.int .i64 x.points] ++ [Value.string x.names] ++ [v2] ∧ I64 x.points ∧ x.names.size ≤ maxLen ∧ Rd w v2 x.moves fp
  len h := by
    obtain ⟨v2, rfl, p0, p1, h2⟩ := h
    rfl
  frame h hf := by
    obtain ⟨v2, hcs, p0, p1, h2⟩ := h
    exact ⟨v2, hcs, p0, p1, Rp.frame h2 fun b hb => hf b (by simp [hb])⟩
  lt h := by
    obtain ⟨v2, hcs, p0, p1, h2⟩ := h
    intro b hb
    exact Rp.lt h2 b hb

instance : Mk Puzzle where
  mark k x := ⟨x.points, x.names, Mk.mark (k) x.moves⟩
  cnt x := Mk.cnt x.moves
instance : Sz Puzzle where
  sz x := x.names.size + Sz.sz x.moves
instance : Sm Puzzle where
  sm x := Sm.sm x.moves
instance : SzSm Puzzle := ⟨fun x h => by
  have h' : x.names.size + Sz.sz x.moves ≤ 2097152 := h
  exact SzSm.of_ x.moves (by omega)⟩
instance : CntSz Puzzle := ⟨fun x => by
  have h' : Mk.cnt x.moves ≤ x.names.size + Sz.sz x.moves := by have := CntSz.le x.moves; omega
  exact h'⟩
instance : MkL Puzzle := ⟨fun k x => by simp [Mk.mark, markL_idem], fun k x => by simp [Mk.mark, Mk.cnt, markL_cnt]⟩
end Go.Proofs.Ytoinaidncncdhaa


namespace Go.Proofs.Ytoinaidncncdhaa
open Go.RowKit
set_option maxRecDepth 10000

/-- the bytes of a string, as numbers -/
def bl (s : ByteArray) : List Int := s.data.toList.map fun b => (b.toNat : Int)
theorem bl_len (s : ByteArray) : (bl s).length = s.size := by
  unfold bl; rw [List.length_map, Array.length_toList]; rfl
theorem bl_get (s : ByteArray) (i : Nat) (h : i < s.size) (h' : i < (bl s).length) : (bl s)[i] = (s[i].toNat : Int) := by
  simp [bl]; rfl
def moveNameB (L : List Int) (i : Nat) : Bool := match L[i]? with
  | some b => inR b 65 90 && decide (b ∉ L.take i)
  | none => false
theorem moveNameB_of {L : List Int} {i : Nat} (h : i < L.length) : moveNameB L i = (inR L[i] 65 90 && decide (L[i] ∉ L.take i)) := by
  simp [moveNameB, h]
def namesB (s : ByteArray) : Bool := inR s.size 1 8 && ((bl s).all (fun b => inR b 65 90) && decide (bl s).Nodup)
def validPz (p : Puzzle) : Bool := gensB p.points p.moves && (namesB p.names && decide (p.names.size = p.moves.length))
theorem names_of {L : List Int} : (L.all (fun b => inR b 65 90) && decide L.Nodup) = true ↔ (∀ x ∈ L, inR x 65 90 = true) ∧ L.Nodup := by simp

set_option maxHeartbeats 1000000 in
theorem isMoveName_any (s : ByteArray) (i : Nat) (w : World) (hs : s.size ≤ maxLen) (hi : i < s.size) :
    Calls Try.prog 115 #[.string s, .int .i64 i] w fun e w' => e = .returned (.bool (moveNameB (bl s) i)) ∧ Drew w w' := by
  unfold maxLen at hs
  have hi1 : (0 : Int) ≤ (i : Int) := by omega
  have hi2 : (i : Int) < (s.size : Int) := by omega
  have hL : i < (bl s).length := by rw [bl_len]; exact hi
  have hfin : moveNameB (bl s) i = (inR (s[i].toNat : Int) 65 90 && decide ((s[i].toNat : Int) ∉ (bl s).take i)) := by rw [moveNameB_of hL, bl_get s i hi hL]
  have Hfin := Lib.hid hfin; clear hfin
  by_cases c1 : (s[i].toNat : Int) < 65
  · go_enter Try.func115, Try.ntmps115
    go_wp2
    go_ret
    exact ⟨ret_bool (by rw [Hfin.out, show inR (s[i].toNat : Int) 65 90 = false by rw [inR_not]; omega]; rfl), ⟨0, rfl⟩⟩
  by_cases c2 : 90 < (s[i].toNat : Int)
  · go_enter Try.func115, Try.ntmps115
    go_wp2
    go_ret
    exact ⟨ret_bool (by rw [Hfin.out, show inR (s[i].toNat : Int) 65 90 = false by rw [inR_not]; omega]; rfl), ⟨0, rfl⟩⟩
  have hR : moveNameB (bl s) i = decide ((s[i].toNat : Int) ∉ (bl s).take i) := by rw [Hfin.out, show inR (s[i].toNat : Int) 65 90 = true by rw [inR_iff]; omega]; rfl
  have HR := Lib.hid hR; clear hR Hfin
  go_enter Try.func115, Try.ntmps115
  go_wp2
  go_loopw [5] (fun t wr => ∃ j : Nat, j ≤ i ∧ t = .int .i64 j ∧ (s[i].toNat : Int) ∉ (bl s).take j ∧ Drew w wr)
    (fun t _ => i - (intOf t).toNat)
  case atStart => exact ⟨0, Nat.zero_le _, rfl, by simp, Drew.refl _⟩
  case round =>
    obtain ⟨j, hj, rfl, hr, k, rfl⟩ := hrel
    have Hr := Lib.hid hr; clear hr
    by_cases hlt : j < i
    · have hjs : j < s.size := by omega
      have hj1 : (0 : Int) ≤ (j : Int) := by omega
      have hj2 : (j : Int) < (s.size : Int) := by omega
      have hbj : (bl s)[j]'(by rw [bl_len]; exact hjs) = (s[j].toNat : Int) := bl_get s j hjs _
      have Hbj := Lib.hid hbj; clear hbj
      by_cases hx : (s[j].toNat : Int) = (s[i].toNat : Int)
      · have hq : ((s[j].toNat : Int) == (s[i].toNat : Int)) = true := by simp [hx]
        have Hx := Lib.hid hx; clear hx
        go_wp2
        go_quiet (fail)
        go_wp2
        go_ret
        exact ⟨ret_bool (by rw [HR.out, eq_comm, decide_eq_false_iff_not, Classical.not_not, ← Hx.out, ← Hbj.out]; exact List.mem_take_iff_getElem.2 ⟨j, by rw [bl_len]; omega, rfl⟩), ((Drew.refl _).drewN _).drewN _⟩
      · have hq : ((s[j].toNat : Int) == (s[i].toNat : Int)) = false := by simpa using hx
        have Hx := Lib.hid hx; clear hx
        go_wp2
        go_quiet (fail)
        go_wp2
        go_roundw
        case rel => exact ⟨j + 1, by omega, by go_num, by
          rw [take_succ_get (bl s) j (by rw [bl_len]; exact hjs)]; intro hm
          rcases List.mem_append.1 hm with hm | hm
          · exact Hr.out hm
          · simp at hm; rw [Hbj.out] at hm; exact Hx.out hm.symm, ⟨_, rfl⟩⟩
        case measure => simp [intOf]; omega
    · go_wp2
      go_ret
      exact ⟨ret_bool (by rw [HR.out, eq_comm, decide_eq_true_iff]; have := Hr.out; have e : j = i := (by omega); rwa [e] at this), ⟨_, rfl⟩⟩
theorem namesB_yes {L : List Int} (h : ∀ k, k < L.length → moveNameB L k = true) : (L.all (fun b => inR b 65 90) && decide L.Nodup) = true := by
  rw [names_of]
  have hk : ∀ k (hk : k < L.length), inR L[k] 65 90 = true ∧ L[k] ∉ L.take k := by
    intro k hk
    have := h k hk
    rw [moveNameB_of hk] at this
    simpa using this
  refine ⟨fun x hx => ?_, ?_⟩
  · obtain ⟨k, hk', rfl⟩ := List.getElem_of_mem hx
    exact (hk k hk').1
  · rw [List.nodup_iff_pairwise_ne, List.pairwise_iff_getElem]
    intro i j hi hj hij he
    exact (hk j hj).2 (List.mem_take_iff_getElem.2 ⟨i, by omega, he⟩)
theorem namesB_no {L : List Int} {k : Nat} (hk : k < L.length) (h : moveNameB L k = false) : (L.all (fun b => inR b 65 90) && decide L.Nodup) = false := by
  rw [← Bool.not_eq_true, names_of]
  rintro ⟨h1, h2⟩
  rw [moveNameB_of hk, h1 _ (List.getElem_mem _)] at h
  simp at h
  exact nodup_take_not hk h h2
set_option maxHeartbeats 2000000 in
theorem specIsValidPuzzle_any (cs : List Value) (x : Puzzle) (fp : List Nat) (w : World) (h : Rp.rep w cs x fp) :
    Calls Try.prog 97 #[.agg cs.toArray] w fun e w' => e = .returned (.bool (validPz x)) ∧ Only [] w w' := by
  obtain ⟨v2, rfl, p0, p1, h2⟩ := h
  obtain ⟨A2, C2, ob, fps, rfl, -, hs⟩ := h2.open_
  have hb := hs.bound
  have hm := p1; unfold maxLen at hm
  by_cases c1 : x.moves.length = 0
  · have hf : validPz x = false := by
      unfold validPz namesB
      rw [Bool.and_eq_false_iff, Bool.and_eq_false_iff, Bool.and_eq_false_iff]
      right
      by_cases hz : x.names.size = x.moves.length
      · left; left; rw [inR_not]; omega
      · right; exact decide_eq_false hz
    have Hf := Lib.hid hf; clear hf
    have d1 : ((x.moves.length : Int) == 0) = true := by simp [c1]
    have C1 := Lib.hid c1; clear c1
    go_enter Try.func97, Try.ntmps97
    go_wp2
    go_ret
    exact ⟨ret_bool Hf.out.symm, (by with_reducible repeat (first | exact Only.refl _ _ | assumption | refine Only.drewN ?_ _ | refine Only.drew ?_ | refine Only.alloc ?_ _ | refine Only.setCell ?_ (by intro hh; exfalso; simp at hh; try omega) _ | refine Only.trans ?_ (by assumption)))⟩
  have d1 : ((x.moves.length : Int) == 0) = false := by rw [beq_eq_false_iff_ne]; omega
  by_cases c2 : x.names.size = x.moves.length
  · have d2 : ((x.names.size : Int) != (x.moves.length : Int)) = false := by simp [c2]
    rcases c3 : gensB x.points x.moves
    · have hf : validPz x = false := by unfold validPz; rw [c3]; rfl
      have Hf := Lib.hid hf; clear hf
      have C2' := Lib.hid c2; clear c2
      have C1 := Lib.hid c1; clear c1
      go_enter Try.func97, Try.ntmps97
      go_wp2_with ((go_at_call 114; (with_reducible refine (specIsGens_rd x.points _ x.moves _ _ (Rp.keep h2 (by with_reducible repeat (first | exact Only.refl _ _ | assumption | refine Only.drewN ?_ _ | refine Only.drew ?_ | refine Only.alloc ?_ _ | refine Only.setCell ?_ (by intro hh; exfalso; simp at hh; try omega) _ | refine Only.trans ?_ (by assumption))))).mono ?_); rintro e w1 ⟨rfl, n1, rfl⟩))
      go_ret
      exact ⟨ret_bool Hf.out.symm, (by with_reducible repeat (first | exact Only.refl _ _ | assumption | refine Only.drewN ?_ _ | refine Only.drew ?_ | refine Only.alloc ?_ _ | refine Only.setCell ?_ (by intro hh; exfalso; simp at hh; try omega) _ | refine Only.trans ?_ (by assumption)))⟩
    have hl8 : x.moves.length ≤ 8 := by
      unfold gensB at c3; simp only [Bool.and_eq_true, decide_eq_true_eq] at c3; exact c3.1.2
    have hf : validPz x = ((bl x.names).all (fun b => inR b 65 90) && decide (bl x.names).Nodup) := by
      unfold validPz namesB; rw [c3, decide_eq_true c2, show inR x.names.size 1 8 = true by rw [inR_iff]; omega]; simp
    have Hf := Lib.hid hf; clear hf
    have C2' := Lib.hid c2; clear c2
    have C1 := Lib.hid c1; clear c1
    go_enter Try.func97, Try.ntmps97
    go_wp2_with ((go_at_call 114; (with_reducible refine (specIsGens_rd x.points _ x.moves _ _ (Rp.keep h2 (by with_reducible repeat (first | exact Only.refl _ _ | assumption | refine Only.drewN ?_ _ | refine Only.drew ?_ | refine Only.alloc ?_ _ | refine Only.setCell ?_ (by intro hh; exfalso; simp at hh; try omega) _ | refine Only.trans ?_ (by assumption))))).mono ?_); rintro e w1 ⟨rfl, n1, rfl⟩))
    go_loopw [3] (fun i wr => ∃ j : Nat, j ≤ x.names.size ∧ i = .int .i64 j ∧ (∀ k, k < j → moveNameB (bl x.names) k = true) ∧ Drew ((w.alloc (.cells #[.int .i64 x.points, .string x.names, .slice A2 x.moves.length C2] 29))) wr)
      (fun i _ => x.names.size - (intOf i).toNat)
    case atStart => exact ⟨0, Nat.zero_le _, rfl, by simp, ⟨_, rfl⟩⟩
    case round =>
      obtain ⟨j, hj, rfl, hr, k, rfl⟩ := hrel
      have Hr := Lib.hid hr; clear hr
      by_cases hlt : j < x.names.size
      · rcases c4 : moveNameB (bl x.names) j
        all_goals go_wp2_with ((go_at_call 115; (with_reducible refine (isMoveName_any x.names j _ p1 hlt).mono ?_); rintro e w1 ⟨rfl, n1, rfl⟩))
        · go_ret
          exact ⟨ret_bool (by rw [Hf.out, namesB_no (by rw [bl_len]; exact hlt) c4]), (by with_reducible repeat (first | exact Only.refl _ _ | assumption | refine Only.drewN ?_ _ | refine Only.drew ?_ | refine Only.alloc ?_ _ | refine Only.setCell ?_ (by intro hh; exfalso; simp at hh; try omega) _ | refine Only.trans ?_ (by assumption)))⟩
        · go_roundw
          case rel => exact ⟨j + 1, by omega, by go_num, fun k hk => by
            by_cases hkj : k = j
            · subst hkj; exact c4
            · exact Hr.out k (by omega), ⟨_, rfl⟩⟩
          case measure => simp [intOf]; omega
      · go_wp2
        go_ret
        exact ⟨ret_bool (by rw [Hf.out, namesB_yes (fun k hk => Hr.out k (by rw [bl_len] at hk; omega))]), (by with_reducible repeat (first | exact Only.refl _ _ | assumption | refine Only.drewN ?_ _ | refine Only.drew ?_ | refine Only.alloc ?_ _ | refine Only.setCell ?_ (by intro hh; exfalso; simp at hh; try omega) _ | refine Only.trans ?_ (by assumption)))⟩
  · have d2 : ((x.names.size : Int) != (x.moves.length : Int)) = true := by simp only [bne_iff_ne, ne_eq]; omega
    have hf : validPz x = false := by unfold validPz; rw [decide_eq_false c2]; simp
    have Hf := Lib.hid hf; clear hf
    have C2' := Lib.hid c2; clear c2
    have C1 := Lib.hid c1; clear c1
    go_enter Try.func97, Try.ntmps97
    go_wp2
    go_ret
    exact ⟨ret_bool Hf.out.symm, (by with_reducible repeat (first | exact Only.refl _ _ | assumption | refine Only.drewN ?_ _ | refine Only.drew ?_ | refine Only.alloc ?_ _ | refine Only.setCell ?_ (by intro hh; exfalso; simp at hh; try omega) _ | refine Only.trans ?_ (by assumption)))⟩
set_option maxHeartbeats 2000000 in
theorem isNames_any (s : ByteArray) (w : World) (hs : s.size ≤ maxLen) :
    Calls Try.prog 102 #[.string s] w fun e w' => e = .returned (.bool (namesB s)) ∧ Drew w w' := by
  unfold maxLen at hs
  have hno : ∀ k, k < s.size → moveNameB (bl s) k = false → namesB s = false := by
    intro k hk h
    unfold namesB
    rw [namesB_no (by rw [bl_len]; exact hk) h]; simp
  have hyes : (∀ k, k < s.size → moveNameB (bl s) k = true) → namesB s = inR s.size 1 8 := by
    intro h
    unfold namesB
    rw [namesB_yes (fun k hk => h k (by rw [bl_len] at hk; exact hk))]; simp
  have Hno := Lib.hid hno; clear hno
  have Hyes := Lib.hid hyes; clear hyes
  go_enter Try.func102, Try.ntmps102
  go_wp2
  go_loopw [7] (fun i wr => ∃ j : Nat, j ≤ s.size ∧ i = .int .i64 j ∧ (∀ k, k < j → moveNameB (bl s) k = true) ∧ Drew w wr)
    (fun i _ => s.size - (intOf i).toNat)
  case atStart => exact ⟨0, Nat.zero_le _, rfl, by simp, Drew.refl _⟩
  case round =>
    obtain ⟨j, hj, rfl, hr, k, rfl⟩ := hrel
    have Hr := Lib.hid hr; clear hr
    by_cases hlt : j < s.size
    · have hi1 : (0 : Int) ≤ (j : Int) := by omega
      have hi2 : (j : Int) < (s.size : Int) := by omega
      have hL : j < (bl s).length := by rw [bl_len]; exact hlt
      have hbj : (bl s)[j] = (s[j].toNat : Int) := bl_get s j hlt _
      have hmn : moveNameB (bl s) j = (inR (s[j].toNat : Int) 65 90 && decide ((s[j].toNat : Int) ∉ (bl s).take j)) := by rw [moveNameB_of hL, hbj]
      have Hmn := Lib.hid hmn; clear hmn hbj hL
      have hw : wrap64 (s[j].toNat : Int) = (s[j].toNat : Int) := wrap64_small _ (by omega) (by have := UInt8.toNat_lt s[j]; omega)
      rcases c1 : inR (s[j].toNat : Int) 65 90
      · go_wp2_with ((go_at_call 83; (with_reducible refine (within_any (s[j].toNat : Int) 65 90 _).mono ?_); rintro e w1 ⟨rfl, rfl⟩))
        go_ret
        exact ⟨ret_bool (Hno.out j hlt (by rw [Hmn.out, c1]; rfl)).symm, ⟨_, rfl⟩⟩
      go_wp2_with ((go_at_call 83; (with_reducible refine (within_any (s[j].toNat : Int) 65 90 _).mono ?_); rintro e w1 ⟨rfl, rfl⟩))
      go_loopw [17] (fun i wr => ∃ q : Nat, q ≤ j ∧ i = .int .i64 q ∧ (s[j].toNat : Int) ∉ (bl s).take q ∧ Drew w wr)
        (fun i _ => j - (intOf i).toNat)
      case atStart => exact ⟨0, Nat.zero_le _, rfl, by simp, ⟨_, rfl⟩⟩
      case round =>
        obtain ⟨q, hq, rfl, hu, k2, rfl⟩ := hrel
        have Hu := Lib.hid hu; clear hu
        by_cases hlq : q < j
        · have hqs : q < s.size := by omega
          have hq1 : (0 : Int) ≤ (q : Int) := by omega
          have hq2 : (q : Int) < (s.size : Int) := by omega
          have hbq : (bl s)[q]'(by rw [bl_len]; exact hqs) = (s[q].toNat : Int) := bl_get s q hqs _
          have Hbq := Lib.hid hbq; clear hbq
          by_cases hx : (s[q].toNat : Int) = (s[j].toNat : Int)
          · have hqq : ((s[q].toNat : Int) == (s[j].toNat : Int)) = true := by simp [hx]
            have Hx := Lib.hid hx; clear hx
            go_wp2
            go_quiet (fail)
            go_wp2
            go_ret
            exact ⟨ret_bool (Hno.out j hlt (by rw [Hmn.out, c1, decide_eq_false (by rw [Classical.not_not, ← Hx.out, ← Hbq.out]; exact List.mem_take_iff_getElem.2 ⟨q, by rw [bl_len]; omega, rfl⟩)]; rfl)).symm, ((Drew.refl _).drewN _).drewN _⟩
          · have hqq : ((s[q].toNat : Int) == (s[j].toNat : Int)) = false := by simpa using hx
            have Hx := Lib.hid hx; clear hx
            go_wp2
            go_quiet (fail)
            go_wp2
            go_roundw
            case rel => exact ⟨q + 1, by omega, by go_num, by
              rw [take_succ_get (bl s) q (by rw [bl_len]; exact hqs)]; intro hm
              rcases List.mem_append.1 hm with hm | hm
              · exact Hu.out hm
              · simp at hm; rw [Hbq.out] at hm; exact Hx.out hm.symm, ⟨_, rfl⟩⟩
            case measure => simp [intOf]; omega
        · have hqj : q = j := by omega
          have Hqj := Lib.hid hqj; clear hqj
          go_wp2
          go_roundw
          case rel => exact ⟨j + 1, by omega, by go_num, fun z hz => by
            by_cases hzj : z = j
            · subst hzj; rw [Hmn.out, c1, decide_eq_true (by have := Hu.out; rwa [Hqj.out] at this)]; rfl
            · exact Hr.out z (by omega), ⟨_, rfl⟩⟩
          case measure => simp [intOf]; omega
    · rcases c5 : inR s.size 1 8
      all_goals go_wp2_with ((go_at_call 83; (with_reducible refine (within_any s.size 1 8 _).mono ?_); rintro e w1 ⟨rfl, rfl⟩))
      all_goals go_ret
      all_goals exact ⟨ret_bool (by rw [Hyes.out (fun z hz => Hr.out z (by omega)), c5]), ⟨_, rfl⟩⟩
set_option maxHeartbeats 2000000 in
theorem implIsValidPuzzle_any (cs : List Value) (x : Puzzle) (fp : List Nat) (w : World) (h : Rp.rep w cs x fp) :
    Calls Try.prog 75 #[.agg cs.toArray] w fun e w' => e = .returned (.bool (validPz x)) ∧ Only [] w w' := by
  obtain ⟨v2, rfl, p0, p1, h2⟩ := h
  obtain ⟨A2, C2, ob, fps, rfl, -, hs⟩ := h2.open_
  have hb := hs.bound
  have hm := p1; unfold maxLen at hm
  have G : ∀ w', Only [] w w' → Calls Try.prog 101 #[.int .i64 x.points, .slice A2 x.moves.length C2] w' fun e w'' => e = .returned (.bool (gensB x.points x.moves)) ∧ Only [] w' w'' :=
    fun w' hw => implIsGens_rd x.points _ x.moves _ w' (Rp.keep h2 hw)
  have HG := Lib.hid G; clear G
  rcases c3 : gensB x.points x.moves
  · have hf : validPz x = false := by unfold validPz; rw [c3]; rfl
    have Hf := Lib.hid hf; clear hf
    go_enter Try.func75, Try.ntmps75
    go_wp2_with ((go_at_call 101; (with_reducible refine (HG.out _ (by with_reducible repeat (first | exact Only.refl _ _ | assumption | refine Only.drewN ?_ _ | refine Only.drew ?_ | refine Only.alloc ?_ _ | refine Only.setCell ?_ (by intro hh; exfalso; simp at hh; try omega) _ | refine Only.trans ?_ (by assumption)))).mono ?_); rintro e w1 ⟨rfl, t1⟩; have y1 := t1.cells_eq w.heap.size (by simp) (by simp)))
    go_ret
    exact ⟨ret_bool Hf.out.symm, (by with_reducible repeat (first | exact Only.refl _ _ | assumption | refine Only.drewN ?_ _ | refine Only.drew ?_ | refine Only.alloc ?_ _ | refine Only.setCell ?_ (by intro hh; exfalso; simp at hh; try omega) _ | refine Only.trans ?_ (by assumption)))⟩
  rcases c4 : namesB x.names
  · have hf : validPz x = false := by unfold validPz; rw [c3, c4]; rfl
    have Hf := Lib.hid hf; clear hf
    go_enter Try.func75, Try.ntmps75
    go_wp2_with (first | (go_at_call 101; (with_reducible refine (HG.out _ (by with_reducible repeat (first | exact Only.refl _ _ | assumption | refine Only.drewN ?_ _ | refine Only.drew ?_ | refine Only.alloc ?_ _ | refine Only.setCell ?_ (by intro hh; exfalso; simp at hh; try omega) _ | refine Only.trans ?_ (by assumption)))).mono ?_); rintro e w1 ⟨rfl, t1⟩; have y1 := t1.cells_eq w.heap.size (by simp) (by simp)) | (go_at_call 102; (with_reducible refine (isNames_any x.names _ p1).mono ?_); rintro e w2 ⟨rfl, n2, rfl⟩))
    go_ret
    exact ⟨ret_bool Hf.out.symm, (by with_reducible repeat (first | exact Only.refl _ _ | assumption | refine Only.drewN ?_ _ | refine Only.drew ?_ | refine Only.alloc ?_ _ | refine Only.setCell ?_ (by intro hh; exfalso; simp at hh; try omega) _ | refine Only.trans ?_ (by assumption)))⟩
  have hf : validPz x = decide (x.names.size = x.moves.length) := by unfold validPz; rw [c3, c4]; rfl
  have Hf := Lib.hid hf; clear hf
  by_cases c5 : x.names.size = x.moves.length
  · have d5 : ((x.names.size : Int) == (x.moves.length : Int)) = true := by simp [c5]
    have C5 := Lib.hid c5; clear c5
    go_enter Try.func75, Try.ntmps75
    go_wp2_with (first | (go_at_call 101; (with_reducible refine (HG.out _ (by with_reducible repeat (first | exact Only.refl _ _ | assumption | refine Only.drewN ?_ _ | refine Only.drew ?_ | refine Only.alloc ?_ _ | refine Only.setCell ?_ (by intro hh; exfalso; simp at hh; try omega) _ | refine Only.trans ?_ (by assumption)))).mono ?_); rintro e w1 ⟨rfl, t1⟩; have y1 := t1.cells_eq w.heap.size (by simp) (by simp)) | (go_at_call 102; (with_reducible refine (isNames_any x.names _ p1).mono ?_); rintro e w2 ⟨rfl, n2, rfl⟩))
    go_ret
    exact ⟨ret_bool (by rw [Hf.out, decide_eq_true C5.out]), (by with_reducible repeat (first | exact Only.refl _ _ | assumption | refine Only.drewN ?_ _ | refine Only.drew ?_ | refine Only.alloc ?_ _ | refine Only.setCell ?_ (by intro hh; exfalso; simp at hh; try omega) _ | refine Only.trans ?_ (by assumption)))⟩
  · have d5 : ((x.names.size : Int) == (x.moves.length : Int)) = false := by rw [beq_eq_false_iff_ne]; omega
    have C5 := Lib.hid c5; clear c5
    go_enter Try.func75, Try.ntmps75
    go_wp2_with (first | (go_at_call 101; (with_reducible refine (HG.out _ (by with_reducible repeat (first | exact Only.refl _ _ | assumption | refine Only.drewN ?_ _ | refine Only.drew ?_ | refine Only.alloc ?_ _ | refine Only.setCell ?_ (by intro hh; exfalso; simp at hh; try omega) _ | refine Only.trans ?_ (by assumption)))).mono ?_); rintro e w1 ⟨rfl, t1⟩; have y1 := t1.cells_eq w.heap.size (by simp) (by simp)) | (go_at_call 102; (with_reducible refine (isNames_any x.names _ p1).mono ?_); rintro e w2 ⟨rfl, n2, rfl⟩))
    go_ret
    exact ⟨ret_bool (by rw [Hf.out, decide_eq_false C5.out]), (by with_reducible repeat (first | exact Only.refl _ _ | assumption | refine Only.drewN ?_ _ | refine Only.drew ?_ | refine Only.alloc ?_ _ | refine Only.setCell ?_ (by intro hh; exfalso; simp at hh; try omega) _ | refine Only.trans ?_ (by assumption)))⟩
end Go.Proofs.Ytoinaidncncdhaa

namespace Go.Proofs.Ytoinaidncncdhaa
open Go.RowKit
set_option maxRecDepth 10000

set_option maxHeartbeats 400000 in
theorem equalInts_any (a a' : Option Addr) (cap cap' : Nat) (l l' : List Int) (fp fp' : List Nat) (w : World) (h : IntsA w a cap l fp) (h' : IntsA w a' cap' l' fp') :
    Calls Try.prog 71 #[.slice a l.length cap, .slice a' l'.length cap'] w fun e w' => e = .returned (.bool (eqV l l')) ∧ Drew w w' := by
  have hb := h.bound
  have hb' := h'.bound
  by_cases hl : l.length = l'.length
  · have hne : ((l.length : Int) != (l'.length : Int)) = false := by simp [hl]
    have Hl := Lib.hid hl; clear hl
    go_enter Try.func71, Try.ntmps71
    go_wp2
    go_loopw [5] (fun i wr => ∃ j : Nat, j ≤ l.length ∧ i = .int .i64 j ∧ l.take j = l'.take j ∧ Drew w wr)
      (fun i _ => l.length - (intOf i).toNat)
    case atStart => exact ⟨0, Nat.zero_le _, rfl, rfl, Drew.refl _⟩
    case round =>
      obtain ⟨j, hj, rfl, hr, n, rfl⟩ := hrel
      have Hr := Lib.hid hr; clear hr
      by_cases hlt : j < l.length
      · have hlt' : j < l'.length := by have := Hl.out; omega
        obtain ⟨b, off, ha, -, hc⟩ := h.at_ j hlt
        obtain ⟨b', off', ha', -, hc'⟩ := h'.at_ j hlt'
        go_wp2
        go_quiet (fail)
        go_wp2
        · have hne : (l[j] != l'[j]) = true := by assumption
          go_ret
          exact ⟨ret_bool (eqInts_no hlt hlt' hne).symm, ((Drew.refl _).drewN _).drewN _⟩
        · have heq : (l[j] != l'[j]) = false := by assumption
          go_roundw
          case rel => exact ⟨j + 1, by omega, by go_num, eqInts_step hlt hlt' heq Hr.out, ⟨_, rfl⟩⟩
          case measure => simp [intOf]; omega
      · go_wp2
        go_ret
        exact ⟨ret_bool (eqL_yes Hl.out hlt Hr.out).symm, (Drew.refl _).drewN n⟩
  · have hne : ((l.length : Int) != (l'.length : Int)) = true := by simp; omega
    go_enter Try.func71, Try.ntmps71
    go_wp2
    go_ret
    exact ⟨ret_bool (eqL_len hne).symm, Drew.refl _⟩

theorem equalInts_rd (v v' : Value) (l l' : List Int) (fp fp' : List Nat) (w : World) (h : Rd w v l fp) (h' : Rd w v' l' fp') :
    Calls Try.prog 71 #[v, v'] w fun e w' => e = .returned (.bool (eqV l l')) ∧ Drew w w' := by
  obtain ⟨a, cap, rfl, hI⟩ := h.ints
  obtain ⟨a', cap', rfl, hI'⟩ := h'.ints
  exact equalInts_any a a' cap cap' l l' fp fp' w hI hI'

set_option maxHeartbeats 400000 in
theorem Equal_any (a a' : Option Addr) (cap cap' : Nat) (l l' : List Int) (fp fp' : List Nat) (w : World) (h : IntsA w a cap l fp) (h' : IntsA w a' cap' l' fp') :
    Calls Try.prog 40 #[.slice a l.length cap, .slice a' l'.length cap'] w fun e w' => e = .returned (.bool (eqV l l')) ∧ Drew w w' := by
  have hb := h.bound
  have hb' := h'.bound
  by_cases hl : l.length = l'.length
  · have hne : ((l.length : Int) != (l'.length : Int)) = false := by simp [hl]
    have Hl := Lib.hid hl; clear hl
    go_enter Try.func40, Try.ntmps40
    go_wp2
    go_loopw [5, 13] (fun _ i wr => ∃ j : Nat, j ≤ l.length ∧ i = .int .i64 j ∧ l.take j = l'.take j ∧ Drew w wr)
      (fun _ i _ => l.length - (intOf i).toNat)
    case atStart => exact ⟨0, Nat.zero_le _, rfl, rfl, Drew.refl _⟩
    case round =>
      obtain ⟨j, hj, rfl, hr, n, rfl⟩ := hrel
      have Hr := Lib.hid hr; clear hr
      by_cases hlt : j < l.length
      · have hlt' : j < l'.length := by have := Hl.out; omega
        obtain ⟨b, off, ha, -, hc⟩ := h.at_ j hlt
        obtain ⟨b', off', ha', -, hc'⟩ := h'.at_ j hlt'
        go_wp2
        go_quiet (fail)
        go_wp2
        · have hne : (l[j] != l'[j]) = true := by assumption
          go_ret
          exact ⟨ret_bool (eqInts_no hlt hlt' hne).symm, ((Drew.refl _).drewN _).drewN _⟩
        · have heq : (l[j] != l'[j]) = false := by assumption
          go_roundw
          case rel => exact ⟨j + 1, by omega, by go_num, eqInts_step hlt hlt' heq Hr.out, ⟨_, rfl⟩⟩
          case measure => simp [intOf]; omega
      · go_wp2
        go_ret
        exact ⟨ret_bool (eqL_yes Hl.out hlt Hr.out).symm, (Drew.refl _).drewN n⟩
  · have hne : ((l.length : Int) != (l'.length : Int)) = true := by simp; omega
    go_enter Try.func40, Try.ntmps40
    go_wp2
    go_ret
    exact ⟨ret_bool (eqL_len hne).symm, Drew.refl _⟩

theorem Equal_rd (v v' : Value) (l l' : List Int) (fp fp' : List Nat) (w : World) (h : Rd w v l fp) (h' : Rd w v' l' fp') :
    Calls Try.prog 40 #[v, v'] w fun e w' => e = .returned (.bool (eqV l l')) ∧ Drew w w' := by
  obtain ⟨a, cap, rfl, hI⟩ := h.ints
  obtain ⟨a', cap', rfl, hI'⟩ := h'.ints
  exact Equal_any a a' cap cap' l l' fp fp' w hI hI'


end Go.Proofs.Ytoinaidncncdhaa
