/- The making of chains: the program's newChain, the reference's emptyChain and buildChain. The members of a stabilizer chain: how many there are. The way down a stabilizer chain (laws 33, 47): the choices at each level, the member that a selection leads to; it hangs on the group alone. Inverses, letters, positions after a letter: the reference's and the program's. Maps from strings to numbers that a call makes; the key of a list of small numbers. Maps from int64 to int64 that a call makes. (Printed by mkmapv.py out of XMap.) -/
import Derived.Test.YtbediokigibdlaaRowCosetRepresentativesG6
import Derived.Test.YtbediokigibdlaaRowCosetRepresentativesG4
import Derived.Test.YtbediokigibdlaaRowCosetRepresentativesG3
import Derived.Maps.OwnSet
import Derived.StringKeys
import Derived.Laws.BytesArg
import Derived.Maps.RangeWalk
namespace Go.Proofs.Ytbediokigibdlaa
open Go.RowKit
set_option maxRecDepth 10000

/-- a header as it lies in a cell -/
structure RawV where
  v : Value
instance : Rp RawV where
  size := 1
  rep _ cs x fp := cs = [x.v] ∧ fp = []
  len h := by rw [h.1]; rfl
  frame h _ := h
  lt h := by rw [h.2]; simp
theorem Acc.raw {B : Nat} {e : TypeId} {w : World} {v : Value} {l : List RawV} {fs : List (List Nat)} (h : Acc B e w v l fs) {k : Nat} (hk : k < l.length) :
    ∃ g c, v = .slice (some ⟨g, 0, none⟩) l.length c ∧ w.cell? ⟨g, k, none⟩ = some l[k].v := by
  obtain ⟨css, ho, hcl, hr⟩ := h.own
  have hfl := h.fl
  have hcss : css.flatten = l.map RawV.v := by
    have : css = l.map fun x => [x.v] := by
      apply List.ext_getElem (by simp [hcl])
      intro i h1 h2
      rw [(hr i h1 (by omega) (by omega)).1]; simp
    rw [this]
    clear this hr hcl hfl ho h hk
    induction l with
    | nil => rfl
    | cons x l ih => simp [ih]
  rcases ho.2 with ⟨-, h0⟩ | ⟨g, cap, cur, hv, -⟩
  · omega
  · refine ⟨g, cap, hv, ?_⟩
    have := ho.cells (g := g) (by rw [hv]; rfl) k l[k].v (by rw [hcss]; simp [hk])
    have hadd : (⟨g, 0, none⟩ : Addr).add k = ⟨g, k, none⟩ := by unfold Addr.add; split <;> simp_all
    rwa [hadd] at this
theorem wpList_push2d {P : Program} {α : Type} [Rp α] {ops : Array Oper} {rest : List Oper} {o : Oper} {a : Act} {w : World} {Q : Exit → Act → World → Prop} (hgd : o.guard = none) (s x : Operand) (t : TypeId)
    (ho : o.op = .call { callee := .builtin .append, args := #[s, x], argTypes := #[t, t] })
    (B : Nat) (e : TypeId) (i : TypeInfo) (z : Value) (bytes : Nat) (ht : P.underlying t = some (.slice e)) (hi : P.info? e = some i) (hz : i.zero = some z)
    (hsize : i.size = Rp.size α) (hby : i.bytes = bytes) (hzs : z.cells.size = Rp.size α) (hsz : 0 < Rp.size α) (hbb : bytes ≤ 65536)
    (w0 : World) (v : Value) (l : List α) (fs : List (List Nat)) (hs : a.eval s = v) (hA : Acc B e w0 v l fs) (hK0 : Only [] w0 w) (hB : B ≤ w0.heap.size)
    (g c : Nat) (cs : List Value) (y : α) (fp : List Nat) (hx : a.eval x = .slice (some ⟨g, 0, none⟩) 1 c) (hsrc : ∀ j u, cs[j]? = some u → w.cell? ⟨g, j, none⟩ = some u) (hcs : ∀ u ∈ cs, u.oneCell' = true)
    (hy : Rp.rep w cs y fp) (hap : ∀ b ∈ fp, v.ownBlock ≠ some b) (hlen : l.length + 1 ≤ 1073741824)
    (h : ∀ v' w', Acc B e w' v' (l ++ [y]) (fs ++ [fp]) → Only v.ownBlock.toList w w' → (v'.ownBlock = v.ownBlock ∨ v'.ownBlock = some w.heap.size) → wpList P ops Q rest (a.put o.dst v') w') : wpList P ops Q (o :: rest) a w :=
  wpList_plain hgd fun _ hK => wp_push2 s x t ho B e i z bytes ht hi hz hsize hby hzs hsz hbb w0 v l fs hs hA hK0 hB g c cs y fp hx hsrc hcs hy hap hlen fun v' w' h1 h2 _ _ h5 => hK _ _ (h v' w' h1 h2 h5)

/-- the blocks of a chain that is being made -/
inductive Key
  | g | tv | gt | row (k : Nat) | emp (k : Nat) | idn (k : Nat)
deriving DecidableEq
structure Sep (B : Nat) (w : World) (S : Key → List Nat) : Prop where
  le : B ≤ w.heap.size
  ge : ∀ a, ∀ x ∈ S a, B ≤ x
  sep : ∀ a b, a ≠ b → ∀ x ∈ S a, x ∉ S b
  lt : ∀ a, ∀ x ∈ S a, x < w.heap.size
def updS (S : Key → List Nat) (a : Key) (l : List Nat) : Key → List Nat := fun b => if b = a then l else S b
theorem updS_same (S : Key → List Nat) (a : Key) (l : List Nat) : updS S a l a = l := if_pos rfl
theorem updS_other (S : Key → List Nat) {a b : Key} (l : List Nat) (h : b ≠ a) : updS S a l b = S b := if_neg h
section
variable {B : Nat} {w w' : World} {S : Key → List Nat}
theorem Sep.keep (h : Sep B w S) (hs : w.heap.size ≤ w'.heap.size) : Sep B w' S := ⟨Nat.le_trans h.le hs, h.ge, h.sep, fun a x hx => Nat.lt_of_lt_of_le (h.lt a x hx) hs⟩
theorem Sep.upd (h : Sep B w S) {a : Key} {l : List Nat} (hl : ∀ x ∈ l, w.heap.size ≤ x ∧ x < w'.heap.size) (hs : w.heap.size ≤ w'.heap.size)   : Sep B w' (updS S a l) := by
  refine ⟨Nat.le_trans h.le hs, fun b x hx => ?_, fun b c hbc x hx hx' => ?_, fun b x hx => ?_⟩
  · unfold updS at hx
    split at hx
    · have := (hl x hx).1; have := h.le; omega
    · exact h.ge b x hx
  · unfold updS at hx hx'
    split at hx
    · rename_i e1
      split at hx'
      · rename_i e2; exact hbc (e1.trans e2.symm)
      · have := (hl x hx).1; have := h.lt c x hx'; omega
    · split at hx'
      · have := (hl x hx').1; have := h.lt b x hx; omega
      · exact h.sep b c hbc x hx hx'
  · unfold updS at hx
    split at hx
    · exact (hl x hx).2
    · exact Nat.lt_of_lt_of_le (h.lt b x hx) hs
end
def rowV (n b : Nat) : Value := .slice (some ⟨b, 0, none⟩) n n
def rowsV (n : Nat) (rb : Nat → Nat) (j : Nat) : List RawV := (List.range j).map fun k => ⟨rowV n (rb k)⟩
theorem rowsV_len (n : Nat) (rb : Nat → Nat) (j : Nat) : (rowsV n rb j).length = j := by simp [rowsV]
def updF {α : Type} (f : Nat → α) (k : Nat) (v : α) : Nat → α := fun j => if j = k then v else f j
theorem updF_same {α : Type} (f : Nat → α) (k : Nat) (v : α) : updF f k v k = v := if_pos rfl
theorem updF_other {α : Type} (f : Nat → α) {j k : Nat} (v : α) (h : j ≠ k) : updF f k v j = f j := if_neg h
theorem rowsV_succ (n : Nat) (rb : Nat → Nat) (j b : Nat) : rowsV n (updF rb j b) (j + 1) = rowsV n rb j ++ [⟨rowV n b⟩] := by
  unfold rowsV
  rw [List.range_succ, List.map_append]
  congr 1
  · refine List.map_congr_left fun k hk => ?_
    rw [updF_other _ _ (by have := List.mem_range.1 hk; omega)]
  · simp [updF_same]

/-- the rows of an empty chain, the first j of them -/
structure Em (e : TypeId) (B n j : Nat) (w : World) (S : Key → List Nat) (tv : Value) (rb : Nat → Nat) (iv : Nat → Value) : Prop where
  sep : Sep B w S
  acc : ∃ fs, Acc B e w tv (rowsV n rb j) fs ∧ fs.flatten = []
  tvS : tv.ownBlock.toList = S .tv
  cell : ∀ k i, k < j → i < n → w.cell? ⟨rb k, i, none⟩ = some (if i = k then iv k else .slice none 0 0)
  own : ∀ k, k < j → Own w [rb k]
  rS : ∀ k, k < j → S (.row k) = [rb k]
  idn : ∀ k, k < j → Rd w (iv k) (PM.pts n) (S (.idn k))
section
variable {e : TypeId} {B n j : Nat} {w w' : World} {S : Key → List Nat} {tv : Value} {rb : Nat → Nat} {iv : Nat → Value}
theorem Sep.start {B : Nat} {w : World} (g gt : List Nat) (hB : B ≤ w.heap.size) (hg : ∀ x ∈ g, x ∉ gt) (hgl : ∀ x ∈ g, B ≤ x ∧ x < w.heap.size) (hgt : ∀ x ∈ gt, B ≤ x ∧ x < w.heap.size) : Sep B w (updS (updS (fun _ => []) .g g) .gt gt) := by
  have hm : ∀ a x, x ∈ updS (updS (fun _ => []) .g g) .gt gt a → (a = .gt ∧ x ∈ gt) ∨ (a = .g ∧ x ∈ g) := by
    intro a x hx
    unfold updS at hx
    split at hx
    · rename_i e; exact .inl ⟨e, hx⟩
    · split at hx
      · rename_i e; exact .inr ⟨e, hx⟩
      · cases hx
  refine ⟨hB, fun a x hx => ?_, fun a b hab x hx hx' => ?_, fun a x hx => ?_⟩
  · rcases hm a x hx with ⟨-, h⟩ | ⟨-, h⟩
    · exact (hgt x h).1
    · exact (hgl x h).1
  · rcases hm a x hx with ⟨e, h⟩ | ⟨e, h⟩
    · rcases hm b x hx' with ⟨e', h'⟩ | ⟨e', h'⟩
      · exact hab (e.trans e'.symm)
      · exact hg x h' h
    · rcases hm b x hx' with ⟨e', h'⟩ | ⟨e', h'⟩
      · exact hg x h h'
      · exact hab (e.trans e'.symm)
  · rcases hm a x hx with ⟨-, h⟩ | ⟨-, h⟩
    · exact (hgt x h).2
    · exact (hgl x h).2
theorem Em.start {S : Key → List Nat} {w : World} (e : TypeId) {B : Nat} (n : Nat) (hs : Sep B w S) (ht : S .tv = []) (rb : Nat → Nat) (iv : Nat → Value) : Em e B n 0 w S (.slice none 0 0) rb iv :=
  ⟨hs, ⟨[], Acc.nil _ _ _, rfl⟩, by rw [ht]; rfl, by intro _ _ h; omega, by intro _ h; omega, by intro _ h; omega, by intro _ h; omega⟩
theorem Em.only (h : Em e B n j w S tv rb iv) {fp : List Nat} (ho : Only fp w w') (hd : ∀ b ∈ fp, b ∉ S .tv ∧ (∀ k, b ∉ S (.row k)) ∧ ∀ k, b ∉ S (.idn k)) : Em e B n j w' S tv rb iv := by
  have hr : ∀ k, k < j → rb k ∉ fp := fun k hk hm => (hd _ hm).2.1 k (by rw [h.rS k hk]; simp)
  obtain ⟨fs, hA, hfs⟩ := h.acc
  refine ⟨h.sep.keep ho.size, ⟨fs, hA.only ho (by rw [hfs]; simp) (fun g hg hm => (hd g hm).1 (by rw [← h.tvS]; simp [hg])), hfs⟩, h.tvS, fun k i hk hi => ho.cell (hr k hk) (h.cell k i hk hi), fun k hk => (h.own k hk).only ho (by simpa using hr k hk), h.rS, fun k hk => Rp.only (h.idn k hk) ho fun b hb hm => (hd b hm).2.2 k hb⟩
theorem Em.keep (h : Em e B n j w S tv rb iv) (ho : Only [] w w') : Em e B n j w' S tv rb iv := h.only ho (by simp)
theorem Em.reS (h : Em e B n j w S tv rb iv) {S' : Key → List Nat} (hs : Sep B w S') (h1 : S' .tv = S .tv) (h2 : ∀ k, S' (.row k) = S (.row k)) (h3 : ∀ k, S' (.idn k) = S (.idn k)) : Em e B n j w S' tv rb iv :=
  ⟨hs, h.acc, by rw [h1]; exact h.tvS, h.cell, h.own, fun k hk => by rw [h2]; exact h.rS k hk, fun k hk => by rw [h3]; exact h.idn k hk⟩
/-- a row more -/
theorem Em.step (h : Em e B n j w S tv rb iv) (hj : j < n) {eI : TypeId} {w1 w2 w4 w5 : World} (hown : w1.ownsRow w.heap.size eI 1 (.slice (some ⟨w.heap.size, 0, none⟩) n n) n (List.replicate n (.slice none 0 0))) (h1 : Only [] w w1)
    {v2 : Value} {f2 : List Nat} (r2 : Rd w2 v2 (PM.pts n) f2) (F2 : Fresh w1.heap.size w2 f2) (h2 : Only [] w1 w2) (h4 : Only [] (w2.setCell ⟨w.heap.size, j, none⟩ v2) w4)
    {tv' : Value} {fs' : List (List Nat)} (hA : Acc B e w5 tv' (rowsV n rb j ++ [⟨rowV n w.heap.size⟩]) fs') (hfs : fs'.flatten = []) (h5 : Only tv.ownBlock.toList w4 w5) (hb : tv'.ownBlock = tv.ownBlock ∨ tv'.ownBlock = some w4.heap.size) :
    ∃ S', Em e B n (j + 1) w5 S' tv' (updF rb j w.heap.size) (updF iv j v2) ∧ S' .g = S .g ∧ S' .gt = S .gt ∧ ∀ k, S' (.emp k) = S (.emp k) := by
  have hs0 : w.heap.size < w1.heap.size := (hown.lt w.heap.size rfl).2
  have hst := setCell_only w2 w.heap.size j v2
  have hsz2 := h2.size
  have hsz3 := hst.size
  have hsz4 := h4.size
  have hsz5 := h5.size
  have htv : ∀ b ∈ tv.ownBlock.toList, b ∈ S .tv ∧ b < w.heap.size := fun b hb' => by
    rw [h.tvS] at hb'; exact ⟨hb', h.sep.lt _ b hb'⟩
  -- the old rows
  have hE3 : Em e B n j (w2.setCell ⟨w.heap.size, j, none⟩ v2) S tv rb iv := ((h.keep h1).keep h2).only hst fun b hb' => by
    have e : b = w.heap.size := by simpa using hb'
    subst e
    exact ⟨fun hm => Nat.lt_irrefl _ (h.sep.lt _ _ hm), fun k hm => Nat.lt_irrefl _ (h.sep.lt _ _ hm), fun k hm => Nat.lt_irrefl _ (h.sep.lt _ _ hm)⟩
  have hE4 := hE3.keep h4
  have hf2 : ∀ b ∈ f2, w1.heap.size ≤ b ∧ b < w2.heap.size := fun b hb' => ⟨F2.ge b hb', F2.lt b hb'⟩
  -- the new row's cells
  have hown2 := owns_keep hown h2
  obtain ⟨hown3, -⟩ := hown2.stored j v2
  have hown4 := owns_keep hown3 h4
  have hown5 := owns_only hown4 h5 fun g hg hm => by
    have := (htv g hm).2
    simp [Value.ownBlock] at hg; omega
  have hr5 : Rd w5 v2 (PM.pts n) f2 := by
    refine Rp.only (Rp.keep (Rp.only r2 hst fun b hb' hm => ?_) h4) h5 fun b hb' hm => ?_
    · have e : b = w.heap.size := by simpa using hm
      have := (hf2 b hb').1; omega
    · have := (htv b hm).2; have := (hf2 b hb').1; omega
  have hE5 : ∀ k i, k < j → i < n → w5.cell? ⟨rb k, i, none⟩ = some (if i = k then iv k else .slice none 0 0) := fun k i hk hi =>
    h5.cell (fun hm => h.sep.sep .tv (.row k) (by simp) _ (htv _ hm).1 (by rw [h.rS k hk]; simp)) (hE4.cell k i hk hi)
  have hO5 : ∀ k, k < j → Own w5 [rb k] := fun k hk => (hE4.own k hk).only h5 fun b hb' hm => by
    have e : b = rb k := by simpa using hb'
    subst e
    exact h.sep.sep .tv (.row k) (by simp) _ (htv _ hm).1 (by rw [h.rS k hk]; simp)
  have hI5 : ∀ k, k < j → Rd w5 (iv k) (PM.pts n) (S (.idn k)) := fun k hk => Rp.only (hE4.idn k hk) h5 fun b hb' hm => h.sep.sep .tv (.idn k) (by simp) b (htv b hm).1 hb'
  -- the blocks
  have hS1 : Sep B w1 (updS S (.row j) [w.heap.size]) := h.sep.upd (fun x hx => by
    have e : x = w.heap.size := by simpa using hx
    omega) h1.size
  have hS2 : Sep B w2 (updS (updS S (.row j) [w.heap.size]) (.idn j) f2) := hS1.upd hf2 hsz2
  have hS4 : Sep B w4 (updS (updS S (.row j) [w.heap.size]) (.idn j) f2) := hS2.keep (by omega)
  have key : ∀ S' : Key → List Nat, Sep B w5 S' → tv'.ownBlock.toList = S' .tv → (∀ k, S' (.row k) = updS S (.row j) [w.heap.size] (.row k)) → (∀ k, S' (.idn k) = updS S (.idn j) f2 (.idn k)) → Em e B n (j + 1) w5 S' tv' (updF rb j w.heap.size) (updF iv j v2) := by
    intro S' hs ht hr hi
    refine ⟨hs, ⟨fs', by rw [rowsV_succ]; exact hA, hfs⟩, ht, fun k i hk hin => ?_, fun k hk => ?_, fun k hk => ?_, fun k hk => ?_⟩
    · by_cases e : k = j
      · subst e
        rw [updF_same, updF_same, hown5.cellAt i (by omega)]
        by_cases e2 : i = k
        · subst e2; simp [hin]
        · rw [if_neg e2, List.getElem?_set_ne (by omega), List.getElem?_replicate, if_pos hin]
      · rw [updF_other _ _ e, updF_other _ _ e]; exact hE5 k i (by omega) hin
    · by_cases e : k = j
      · subst e
        rw [updF_same]
        exact (own_fresh hown5).own
      · rw [updF_other _ _ e]; exact hO5 k (by omega)
    · rw [hr k]
      by_cases e : k = j
      · subst e; rw [updS_same, updF_same]
      · rw [updF_other _ _ e, updS_other _ _ (by simpa using e)]; exact h.rS k (by omega)
    · rw [hi k]
      by_cases e : k = j
      · subst e; rw [updS_same, updF_same]; exact hr5
      · rw [updF_other _ _ e, updS_other _ _ (by simpa using e)]; exact hI5 k (by omega)
  rcases hb with hb | hb
  · refine ⟨updS (updS S (.row j) [w.heap.size]) (.idn j) f2, key _ (hS4.keep hsz5) ?_ (fun k => ?_) (fun k => ?_), ?_, ?_, fun k => ?_⟩
    · rw [hb, h.tvS, updS_other _ _ (by simp), updS_other _ _ (by simp)]
    · rw [updS_other _ _ (by simp)]
    · unfold updS; split <;> rfl
    · rw [updS_other _ _ (by simp), updS_other _ _ (by simp)]
    · rw [updS_other _ _ (by simp), updS_other _ _ (by simp)]
    · rw [updS_other _ _ (by simp), updS_other _ _ (by simp)]
  · have hlt := (hA.ownlt _ hb).2
    refine ⟨updS (updS (updS S (.row j) [w.heap.size]) (.idn j) f2) .tv [w4.heap.size], key _ (hS4.upd (fun x hx => by
      have e : x = w4.heap.size := by simpa using hx
      omega) hsz5) ?_ (fun k => ?_) (fun k => ?_), ?_, ?_, fun k => ?_⟩
    · rw [hb, updS_same]; rfl
    · rw [updS_other _ _ (by simp), updS_other _ _ (by simp)]
    · rw [updS_other _ _ (by simp)]; unfold updS; split <;> rfl
    · rw [updS_other _ _ (by simp), updS_other _ _ (by simp), updS_other _ _ (by simp)]
    · rw [updS_other _ _ (by simp), updS_other _ _ (by simp), updS_other _ _ (by simp)]
    · rw [updS_other _ _ (by simp), updS_other _ _ (by simp), updS_other _ _ (by simp)]
/-- an empty chain -/
theorem Em.ch (h : Em e B n n w S tv rb iv) (hn : 0 < n) (hn20 : n ≤ 20) {g bg oG oT cG : Nat} {eG : TypeId} (gv : Nat → Value) (hg : S .g = [g]) (hgt : S .gt = [bg])
    (cn : w.cell? ⟨g, 0, none⟩ = some (.int .i64 n)) (cg : w.cell? ⟨g, oG, none⟩ = some (.slice (some ⟨bg, 0, none⟩) n cG)) (ct : w.cell? ⟨g, oT, none⟩ = some tv)
    (hgen : ∀ k, k < n → w.cell? ⟨bg, k, none⟩ = some (gv k)) (hacc : ∀ k, k < n → Acc B eG w (gv k) ([] : List (List Int)) []) (hgS : ∀ k, k < n → (gv k).ownBlock.toList = S (.emp k)) (hob : Own w [bg]) :
    ∃ (L : Lay) (M F : List Nat), L.g = g ∧ L.oG = oG ∧ L.oT = oT ∧ (∀ b ∈ F, B ≤ b) ∧ Ch eG B w L gv n (PM.G0 n) (PM.T0 n) M F := by
  obtain ⟨fs, hA, -⟩ := h.acc
  have hlen := rowsV_len n rb n
  obtain ⟨bt, cT, htv, -⟩ := hA.raw (k := 0) (by omega)
  rw [hlen] at htv
  have hbt : S .tv = [bt] := by rw [← h.tvS, htv]; rfl
  have hrow : ∀ k, k < n → w.cell? ⟨bt, k, none⟩ = some (.slice (some ⟨rb k, 0, none⟩) n n) := fun k hk => by
    obtain ⟨g', c', e1, e2⟩ := hA.raw (k := k) (by omega)
    have e3 := htv.symm.trans e1
    injection e3 with e4 _ _
    injection e4 with e5
    injection e5 with e6 _ _
    rw [← e6] at e2
    rw [e2]; simp [rowsV, rowV]
  have hbgm : bg ∈ S .gt := by rw [hgt]; simp
  have hgm : g ∈ S .g := by rw [hg]; simp
  have hbtm : bt ∈ S .tv := by rw [hbt]; simp
  have hrm : ∀ k, k < n → rb k ∈ S (.row k) := fun k hk => by rw [h.rS k hk]; simp
  have hem : ∀ k b, k < n → (gv k).ownBlock = some b → b ∈ S (.emp k) := fun k b hk hb => by rw [← hgS k hk]; simp [hb]
  have hM : ∀ b, b ∈ bg :: ((List.range n).map rb ++ (List.range n).flatMap fun k => S (.emp k)) → b ∈ S .gt ∨ (∃ k, k < n ∧ b ∈ S (.row k)) ∨ ∃ k, b ∈ S (.emp k) := fun b hb => by
    rcases List.mem_cons.1 hb with e | hb
    · subst e; exact .inl hbgm
    · rcases List.mem_append.1 hb with hb | hb
      · obtain ⟨k, hk, e⟩ := List.mem_map.1 hb
        subst e; exact .inr (.inl ⟨k, List.mem_range.1 hk, hrm k (List.mem_range.1 hk)⟩)
      · obtain ⟨k, -, hk⟩ := List.mem_flatMap.1 hb
        exact .inr (.inr ⟨k, hk⟩)
  have hF : ∀ b, b ∈ g :: bt :: (List.range n).flatMap (fun k => S (.idn k)) → b ∈ S .g ∨ b ∈ S .tv ∨ ∃ k, b ∈ S (.idn k) := fun b hb => by
    rcases List.mem_cons.1 hb with e | hb
    · subst e; exact .inl hgm
    · rcases List.mem_cons.1 hb with e | hb
      · subst e; exact .inr (.inl hbtm)
      · obtain ⟨k, -, hk⟩ := List.mem_flatMap.1 hb
        exact .inr (.inr ⟨k, hk⟩)
  refine ⟨⟨g, bg, bt, cG, cT, oG, oT, rb⟩, bg :: ((List.range n).map rb ++ (List.range n).flatMap fun k => S (.emp k)), g :: bt :: (List.range n).flatMap (fun k => S (.idn k)), rfl, rfl, rfl, fun b hb => (by rcases hF b hb with h1 | h1 | ⟨k, h1⟩ <;> exact h.sep.ge _ b h1),
    PM.Shape.zero n, hn, hn20, cn, cg, by rw [ct, htv], hrow, hgen, fun k m hk hm => ?_, fun k hk => ⟨[], by rw [PM.lv_G0]; exact hacc k hk, by simp⟩, by simp, fun k hk => ?_, fun k b hk hb => ?_, by simp, by simp, fun b hb hb' => ?_, ?_, fun b hb => ?_, fun b hb => ?_, fun b hb => ?_, fun i k hi hk e => ?_, fun k hk e => ?_, fun k b hk hb => ⟨fun e => ?_, fun i hi e => ?_⟩, fun i k b hi hk h1 h2 => ?_⟩
  · rw [PM.tr_T0 hk]
    have hc := h.cell k m hk hm
    by_cases e : m = k
    · subst e
      rw [if_pos rfl] at hc
      rw [if_pos rfl]
      exact ⟨_, _, hc, h.idn m hk, fun e => absurd e (PM.pts_ne hn), fun b hb => List.mem_cons_of_mem _ (List.mem_cons_of_mem _ (List.mem_flatMap.2 ⟨m, List.mem_range.2 hk, hb⟩))⟩
    · rw [if_neg e] at hc
      rw [if_neg (by omega)]
      exact ⟨_, [], hc, nil_rd w, fun _ => rfl, by simp⟩
  · exact List.mem_cons_of_mem _ (List.mem_append_left _ (List.mem_map.2 ⟨k, List.mem_range.2 hk, rfl⟩))
  · exact List.mem_cons_of_mem _ (List.mem_append_right _ (List.mem_flatMap.2 ⟨k, List.mem_range.2 hk, hem k b hk hb⟩))
  · rcases hM b hb with h1 | ⟨k, -, h1⟩ | ⟨k, h1⟩ <;> rcases hF b hb' with h2 | h2 | ⟨i, h2⟩ <;> exact h.sep.sep _ _ (by simp) b h1 h2
  · intro b hb
    rcases List.mem_cons.1 hb with e | hb
    · subst e; exact hob _ (by simp)
    · obtain ⟨k, hk, e⟩ := List.mem_map.1 hb
      subst e; exact h.own k (List.mem_range.1 hk) _ (by simp)
  · rcases hM b hb with h1 | ⟨k, -, h1⟩ | ⟨k, h1⟩ <;> exact h.sep.lt _ b h1
  · rcases hF b hb with h1 | h1 | ⟨k, h1⟩ <;> exact h.sep.lt _ b h1
  · rcases hM b hb with h1 | ⟨k, -, h1⟩ | ⟨k, h1⟩ <;> exact h.sep.ge _ b h1
  · apply Classical.byContradiction
    intro hne
    exact h.sep.sep (.row i) (.row k) (by simpa using hne) _ (hrm i hi) (by have e' : rb i = rb k := e
                                                                            rw [e']; exact hrm k hk)
  · exact h.sep.sep (.row k) .gt (by simp) _ (hrm k hk) (by have e' : rb k = bg := e
                                                            rw [e']; exact hbgm)
  · subst e; exact h.sep.sep (.emp k) .gt (by simp) _ (hem k _ hk hb) hbgm
  · subst e; exact h.sep.sep (.emp k) (.row i) (by simp) _ (hem k _ hk hb) (hrm i hi)
  · apply Classical.byContradiction
    intro hne
    exact h.sep.sep (.emp i) (.emp k) (by simpa using hne) _ (hem i b hi h1) (hem k b hk h2)
end
theorem Try.info222 : (Try.prog.info? 24).map (fun i => (i.zero, i.size, i.bytes)) = some (some (.slice none 0 0), 1, 24) := by kernel_rfl
/-- what the first loop of newChain leaves: an empty chain -/
def NC1 (eG : TypeId) (oG oT n : Nat) (w : World) (s : Value) (wx : World) : Prop :=
  ∃ (L : Lay) (gv : Nat → Value) (M F : List Nat), s = .pointer (some ⟨L.g, 0, none⟩) ∧ L.oG = oG ∧ L.oT = oT ∧ Ch eG w.heap.size wx L gv n (PM.G0 n) (PM.T0 n) M F ∧ Only [] w wx
/-- the program's rows as far as they are made -/
def NR (eR : TypeId) (n : Nat) (w : World) (g bg : Nat) (j : Nat) (wr : World) : Prop :=
  ∃ S tv rb iv, Em eR w.heap.size n j wr S tv rb iv ∧ S .g = [g] ∧ S .gt = [bg] ∧ (∀ k, S (.emp k) = []) ∧ Blk wr g [.int .i64 n, .slice (some ⟨bg, 0, none⟩) n n, tv] ∧
    wr.ownsRow bg eR 1 (.slice (some ⟨bg, 0, none⟩) n n) n (List.replicate n (.slice none 0 0)) ∧ Only [] w wr
theorem NR.fin {eR eG : TypeId} {n : Nat} {w : World} {g bg : Nat} {wr : World} (h : NR eR n w g bg n wr) (hn : 0 < n) (hn20 : n ≤ 20) : NC1 eG 1 2 n w (.pointer (some ⟨g, 0, none⟩)) wr := by
  obtain ⟨S, tv, rb, iv, hE, hg, hgt, hem, hB, hO, hK⟩ := h
  obtain ⟨L, M, F, e1, e2, e3, -, hC⟩ := hE.ch (eG := eG) (oG := 1) (oT := 2) (cG := n) hn hn20 (fun _ => .slice none 0 0) hg hgt (hB.cell 0 rfl) (hB.cell 1 rfl) (hB.cell 2 rfl)
    (fun k hk => by rw [hO.cellAt k (by omega), List.getElem?_replicate, if_pos hk]) (fun k hk => Acc.nil _ _ _) (fun k hk => by rw [hem k]; rfl) (own_fresh hO).own
  exact ⟨L, _, M, F, by rw [e1], e2, e3, hC, hK⟩
theorem NR.finF {eR eG : TypeId} {n : Nat} {w : World} {g bg : Nat} {wr : World} (h : NR eR n w g bg n wr) (hn : 0 < n) (hn20 : n ≤ 20) : ∃ (L : Lay) (gv : Nat → Value) (M F : List Nat), Value.pointer (some ⟨g, 0, none⟩) = .pointer (some ⟨L.g, 0, none⟩) ∧ L.oG = 1 ∧ L.oT = 2 ∧ (∀ b ∈ F, w.heap.size ≤ b) ∧ Ch eG w.heap.size wr L gv n (PM.G0 n) (PM.T0 n) M F ∧ Only [] w wr := by
  obtain ⟨S, tv, rb, iv, hE, hg, hgt, hem, hB, hO, hK⟩ := h
  obtain ⟨L, M, F, e1, e2, e3, hFB, hC⟩ := hE.ch (eG := eG) (oG := 1) (oT := 2) (cG := n) hn hn20 (fun _ => .slice none 0 0) hg hgt (hB.cell 0 rfl) (hB.cell 1 rfl) (hB.cell 2 rfl)
    (fun k hk => by rw [hO.cellAt k (by omega), List.getElem?_replicate, if_pos hk]) (fun k hk => Acc.nil _ _ _) (fun k hk => by rw [hem k]; rfl) (own_fresh hO).own
  exact ⟨L, _, M, F, by rw [e1], e2, e3, hFB, hC, hK⟩
theorem Blk.set {w : World} {g : Nat} {cs : List Value} (h : Blk w g cs) (i : Nat) (v : Value) : Blk (w.setCell ⟨g, i, none⟩ v) g (cs.set i v) := by
  obtain ⟨t, h⟩ := h
  refine ⟨t, ?_⟩
  simp [World.setCell, Array.getElem?_modify, h]
theorem Blk.frozen {w : World} {g : Nat} {cs : List Value} (h : Blk w g cs) (i : Nat) : w.frozen? ⟨g, i, none⟩ = false := by
  obtain ⟨t, h⟩ := h; simp [World.frozen?, h]
theorem NR.step {eR eI : TypeId} {n j : Nat} (hj : j < n) {w wr w1 w2 w4 w5 : World} {g bg : Nat} {S : Key → List Nat} {tv : Value} {rb : Nat → Nat} {iv : Nat → Value}
    (hE : Em eR w.heap.size n j wr S tv rb iv) (hg : S .g = [g]) (hgt : S .gt = [bg]) (hem : ∀ k, S (.emp k) = []) (hB : Blk wr g [.int .i64 n, .slice (some ⟨bg, 0, none⟩) n n, tv])
    (hO : wr.ownsRow bg eR 1 (.slice (some ⟨bg, 0, none⟩) n n) n (List.replicate n (.slice none 0 0))) (hK : Only [] w wr)
    (hown : w1.ownsRow wr.heap.size eI 1 (.slice (some ⟨wr.heap.size, 0, none⟩) n n) n (List.replicate n (.slice none 0 0))) (h1 : Only [] wr w1)
    {v2 : Value} {f2 : List Nat} (r2 : Rd w2 v2 (PM.pts n) f2) (F2 : Fresh w1.heap.size w2 f2) (h2 : Only [] w1 w2) (h4 : Only [] (w2.setCell ⟨wr.heap.size, j, none⟩ v2) w4)
    {tv' : Value} {fs' : List (List Nat)} (hA : Acc w.heap.size eR w5 tv' (rowsV n rb j ++ [⟨rowV n wr.heap.size⟩]) fs') (hfs : fs'.flatten = []) (h5 : Only tv.ownBlock.toList w4 w5) (hb : tv'.ownBlock = tv.ownBlock ∨ tv'.ownBlock = some w4.heap.size) :
    NR eR n w g bg (j + 1) (w5.setCell ⟨g, 2, none⟩ tv') := by
  obtain ⟨S', hE', e1, e2, e3⟩ := hE.step hj hown h1 r2 F2 h2 h4 hA hfs h5 hb
  have hst := setCell_only w5 g 2 tv'
  have hst2 := setCell_only w2 wr.heap.size j v2
  have hgS : g ∈ S .g := by rw [hg]; simp
  have hbS : bg ∈ S .gt := by rw [hgt]; simp
  have hgS' : g ∈ S' .g := by rw [e1]; exact hgS
  have hglt := hE.sep.lt _ _ hgS
  have hblt := hE.sep.lt _ _ hbS
  have hgtv : g ∉ tv.ownBlock.toList := by rw [hE.tvS]; exact hE.sep.sep _ _ (by simp) _ hgS
  have hbtv : bg ∉ tv.ownBlock.toList := by rw [hE.tvS]; exact hE.sep.sep _ _ (by simp) _ hbS
  have hgb : g ≠ bg := fun e => hE.sep.sep .g .gt (by simp) _ hgS (e ▸ hbS)
  have hwr : w.heap.size ≤ wr.heap.size := hK.size
  have hw2 : wr.heap.size ≤ w2.heap.size := Nat.le_trans h1.size h2.size
  have hw4 := h4.size
  have hw3 := hst2.size
  refine ⟨S', tv', _, _, hE'.only hst fun b hb' => ?_, by rw [e1, hg], by rw [e2, hgt], fun k => by rw [e3, hem], ?_, ?_, ?_⟩
  · have e : b = g := by simpa using hb'
    subst e
    exact ⟨hE'.sep.sep _ _ (by simp) _ hgS', fun k => hE'.sep.sep _ _ (by simp) _ hgS', fun k => hE'.sep.sep _ _ (by simp) _ hgS'⟩
  · have := (((((hB.keep h1).keep h2).only hst2 (by simp; omega)).keep h4).only h5 hgtv).set 2 tv'
    simpa using this
  · refine owns_only (owns_only (owns_keep (owns_only (owns_keep (owns_keep hO h1) h2) hst2 fun x hx => ?_) h4) h5 fun x hx => ?_) hst fun x hx => ?_
    · have e : bg = x := by simpa [Value.ownBlock] using hx
      subst e; simp; omega
    · have e : bg = x := by simpa [Value.ownBlock] using hx
      subst e; exact hbtv
    · have e : bg = x := by simpa [Value.ownBlock] using hx
      subst e; simpa using hgb.symm
  · refine ((((hK.trans h1).trans h2).setCell (fun h => by simp at h; omega) _).trans h4).then_ h5 (fun x hx hl => ?_) |>.setCell (fun h => ?_) _
    · rw [hE.tvS] at hx
      have := hE.sep.ge _ _ hx; omega
    · have := hE.sep.ge _ _ hgS
      have h' : g < w.heap.size := h
      omega
/-- the generators' loop of a chain: the first j of them are added -/
def CL (eG : TypeId) (L : Lay) (n : Nat) (gens : List (List Int)) (w : World) (j : Nat) (wr : World) : Prop :=
  ∃ (gv : Nat → Value) (G : PM.Gens) (T : PM.Rows) (M F : List Nat), Ch eG w.heap.size wr L gv n G T M F ∧ PM.Chain n (gens.take j) G T ∧ PM.Ln n 0 G T ∧ Only [] w wr
theorem CL.start {eG : TypeId} {L : Lay} {n : Nat} (gens : List (List Int)) {w wr : World} {gv : Nat → Value} {M F : List Nat} (hC : Ch eG w.heap.size wr L gv n (PM.G0 n) (PM.T0 n) M F) (hK : Only [] w wr) : CL eG L n gens w 0 wr :=
  ⟨gv, _, _, M, F, hC, by simpa using PM.Chain.zero n, PM.Ln.zero n, hK⟩
theorem CL.step {eG : TypeId} {L : Lay} {n : Nat} {gens : List (List Int)} {w wr w1 w' : World} {j : Nat} {gv : Nat → Value} {G : PM.Gens} {T : PM.Rows} {M F f : List Nat} (hC : Ch eG w.heap.size wr L gv n G T M F) (hc : PM.Chain n (gens.take j) G T) (hK : Only [] w wr)
    (t : Only [] wr w1) (hj : j < gens.length) (ha : AddP eG w.heap.size L n 0 gens[j] G T M F f gv w1 w') : CL eG L n gens w (j + 1) w' := by
  obtain ⟨gv', G', T', M', F', hC', hA, hL, hM⟩ := ha
  refine ⟨gv', G', T', M', F', hC', ?_, hL, (hK.trans t).then_ hM.only fun x hx hl => ?_⟩
  · rw [take_succ_get gens j hj]; exact hc.step hC'.shape hA
  · have := hC.ge x hx; omega
/-- the same, with what the chain reads: the generators' memory, or its own -/
def CLF (eG : TypeId) (L : Lay) (n : Nat) (gens : List (List Int)) (fpg : List Nat) (w : World) (j : Nat) (wr : World) : Prop :=
  ∃ (gv : Nat → Value) (G : PM.Gens) (T : PM.Rows) (M F : List Nat), (∀ b ∈ F, b ∈ fpg ∨ w.heap.size ≤ b) ∧ Ch eG w.heap.size wr L gv n G T M F ∧ PM.Chain n (gens.take j) G T ∧ PM.Ln n 0 G T ∧ Only [] w wr
theorem CLF.start {eG : TypeId} {L : Lay} {n : Nat} (gens : List (List Int)) (fpg : List Nat) {w wr : World} {gv : Nat → Value} {M F : List Nat} (hF : ∀ b ∈ F, w.heap.size ≤ b) (hC : Ch eG w.heap.size wr L gv n (PM.G0 n) (PM.T0 n) M F) (hK : Only [] w wr) : CLF eG L n gens fpg w 0 wr :=
  ⟨gv, _, _, M, F, fun b hb => .inr (hF b hb), hC, by simpa using PM.Chain.zero n, PM.Ln.zero n, hK⟩
theorem CLF.step {eG : TypeId} {L : Lay} {n : Nat} {gens : List (List Int)} {fpg : List Nat} {w wr w1 w' : World} {j : Nat} {gv : Nat → Value} {G : PM.Gens} {T : PM.Rows} {M F f : List Nat} (hF : ∀ b ∈ F, b ∈ fpg ∨ w.heap.size ≤ b) (hf : ∀ b ∈ f, b ∈ fpg ∨ w.heap.size ≤ b) (hC : Ch eG w.heap.size wr L gv n G T M F) (hc : PM.Chain n (gens.take j) G T) (hK : Only [] w wr)
    (t : Only [] wr w1) (hj : j < gens.length) (ha : AddP eG w.heap.size L n 0 gens[j] G T M F f gv w1 w') : CLF eG L n gens fpg w (j + 1) w' := by
  obtain ⟨gv', G', T', M', F', hC', hA, hL, hM⟩ := ha
  refine ⟨gv', G', T', M', F', fun b hb => ?_, hC', ?_, hL, (hK.trans t).then_ hM.only fun x hx hl => ?_⟩
  · rcases hM.f b hb with h1 | h1 | h1
    · exact hF b h1
    · exact hf b h1
    · have := (hK.trans t).size; exact .inr (by omega)
  · rw [take_succ_get gens j hj]; exact hc.step hC'.shape hA
  · have := hC.ge x hx; omega
theorem madeNils' (n : Nat) : (madeCells (Value.cells (.slice none 0 0)) n).toList = List.replicate n (.slice none 0 0) := madeNils n
theorem implAdd0 {n : Nat} {B : Nat} {L : Lay} {gv : Nat → Value} {G : PM.Gens} {T : PM.Rows} {M F : List Nat} {w : World} (hC : Ch 36 B w L gv n G T M F) (hoG : L.oG = 1) (hoT : L.oT = 2) (hI : PM.Inv n 0 G T) (hL : PM.Ln n 0 G T)
    {p : List Int} {vp : Value} {fp : List Nat} (hp : PM.PN n p) (hv : Rd w vp p fp) (hf : ∀ b ∈ fp, b ∉ M) (hB : B ≤ w.heap.size) :
    Calls Try.prog 49 #[.pointer (some ⟨L.g, 0, none⟩), .int .i64 0, vp] w fun en w' => en = .returned (.tuple #[]) ∧ AddP 36 B L n 0 p G T M F fp gv w w' :=
  implAdd_any n n 0 (by omega) (by omega) B L gv G T M F w hC hoG hoT hI hL p vp fp (PM.May.zero G hp) hv hf hB
set_option maxHeartbeats 2000000 in
theorem implNewChain_F (n : Nat) (hn : 0 < n) (hn20 : n ≤ 20) (vg : Value) (gens : List (List Int)) (fpg : List Nat) (w : World) (hg : Rd w vg gens fpg) (hpn : ∀ g ∈ gens, PM.PN n g) (hgl : gens.length ≤ 1000) :
    Calls Try.prog 34 #[.int .i64 n, vg] w fun e w' => ∃ (L : Lay) (gv : Nat → Value) (G : PM.Gens) (T : PM.Rows) (M F : List Nat), e = .returned (.pointer (some ⟨L.g, 0, none⟩)) ∧ L.oG = 1 ∧ L.oT = 2 ∧ (∀ b ∈ F, b ∈ fpg ∨ w.heap.size ≤ b) ∧ Ch 36 w.heap.size w' L gv n G T M F ∧ PM.Chain n gens G T ∧ Only [] w w' := by
  obtain ⟨i2, hi2, hz20, hz21, hz22⟩ := info_parts Try.info222
  obtain ⟨i1, hi, hz0, hz1, hz2⟩ := info_parts Try.info22
  obtain ⟨ag, cg, obg, fpsg, rfl, hfpg, hSg⟩ := hg.open_
  have hgb := hSg.bound
  have Hpn := Lib.hid hpn
  have HSg := Lib.hid hSg
  have Hfpg := Lib.hid (Rp.lt hg)
  have Hfpe := Lib.hid hfpg
  clear hpn hSg hg hfpg
  go_enter Try.func34, Try.ntmps34
  go_wp2_with (at_make; refine wpList_make_full _ rfl _ _ 79 rfl w.heap.size 24 i2 _ 1 Try.underlying79 hi2 hz20 hz21 _ _ _ _ n rfl rfl rfl rfl (by rw [hz22]; omega) (by unfold maxLen; omega) (Nat.le_refl _) ?_; intro w1 hown hg)
  rw [madeNils', Nat.mul_one] at hown
  have hw1 : w.heap.size < w1.heap.size := (hown.lt w.heap.size rfl).2
  have h1 : Only [] w w1 := (Only.refl _ _).grown hg (by simp)
  have HN0 : Hid (NR 24 n w w1.heap.size w.heap.size 0 (w1.alloc (.cells #[.int .i64 n, .slice (some ⟨w.heap.size, 0, none⟩) n n, .slice none 0 0] 81))) := Lib.hid (by
    have hal : Only [] w1 (w1.alloc (.cells #[.int .i64 n, .slice (some ⟨w.heap.size, 0, none⟩) n n, .slice none 0 0] 81)) := (Only.refl _ _).alloc _
    have hsz : (w1.alloc (.cells #[.int .i64 n, .slice (some ⟨w.heap.size, 0, none⟩) n n, .slice none 0 0] 81)).heap.size = w1.heap.size + 1 := by simp
    refine ⟨updS (updS (fun _ => []) .g [w1.heap.size]) .gt [w.heap.size], .slice none 0 0, fun _ => 0, fun _ => .slice none 0 0, Em.start _ n (Sep.start _ _ (by omega) (by simp; omega) (by simp; omega) (by simp; omega)) (by rw [updS_other _ _ (by simp), updS_other _ _ (by simp)]) _ _, by rw [updS_other _ _ (by simp), updS_same], updS_same _ _ _, fun k => by rw [updS_other _ _ (by simp), updS_other _ _ (by simp)], Blk.new w1 _ _, owns_keep hown hal, h1.trans hal⟩)
  clear hown hg
  go_wp2
  go_loopw [16] (fun i wr => ∃ j : Nat, j ≤ n ∧ i = .int .i64 j ∧ NR 24 n w w1.heap.size w.heap.size j wr)
    (fun i _ => n - (intOf i).toNat)
  case atStart => exact ⟨0, Nat.zero_le _, rfl, HN0.out⟩
  case round =>
    obtain ⟨W2, hnew⟩ : ∃ W, W = wr := ⟨_, rfl⟩
    subst hnew
    obtain ⟨j, hj, rfl, hN⟩ := hrel
    by_cases hlt : j < n
    · obtain ⟨S, tv, rb, iv, hE, eg, egt, hem, hB, hO, hK⟩ := hN
      have hgS : w1.heap.size ∈ S .g := by rw [eg]; simp
      have hglt := hE.sep.lt _ _ hgS
      have hgtv : w1.heap.size ∉ tv.ownBlock.toList := by rw [hE.tvS]; exact hE.sep.sep _ _ (by simp) _ hgS
      obtain ⟨fs, hA, hfs⟩ := hE.acc
      have hrl := rowsV_len n rb j
      have hne : w1.heap.size ≠ W2.heap.size := by omega
      have hBn : w.heap.size ≤ W2.heap.size := hK.size
      have HE := Lib.hid hE
      have HB := Lib.hid hB
      have HO := Lib.hid hO
      have HK := Lib.hid hK
      have Heg := Lib.hid eg
      have Hegt := Lib.hid egt
      have Hem := Lib.hid hem
      have HA := Lib.hid hA
      have Hfs := Lib.hid hfs
      have Hrl := Lib.hid hrl
      have Hgtv := Lib.hid hgtv
      have htvlt : ∀ g, tv.ownBlock = some g → g ∉ [W2.heap.size] := fun g hg hm => by
        have h5 := (hA.ownlt g hg).2
        have h6 : g = W2.heap.size := by simpa using hm
        omega
      have Htvlt := Lib.hid htvlt
      clear hE hB hO hK eg egt hem hA hfs hrl hgS hgtv htvlt
      go_wp2_with (first
        | (at_make; refine wpList_make_full _ rfl _ _ 24 rfl W2.heap.size 36 i1 _ 1 Try.underlying24 hi hz0 hz1 _ _ _ _ n rfl rfl rfl rfl (by rw [hz2]; omega) (by unfold maxLen; omega) (Nat.le_refl _) ?_; intro w3 hown hg; rw [madeNils', Nat.mul_one] at hown; have h3 : Only [] W2 w3 := (Only.refl _ _).grown hg (by simp); have Hown := Lib.hid hown; clear hown hg)
        | (go_at_call 62; (with_reducible refine (implIdentity_any n w3 (by omega)).mono ?_); rintro en w4 ⟨v4, f4, rfl, r4, F4, t4⟩; obtain ⟨a4, c4, rfl, -⟩ := r4.ints; have hO4 := owns_keep Hown.out t4; have c40 := (hO4.cellAt j (by omega)); rw [List.getElem?_replicate, if_pos hlt] at c40; have z40 := hO4.frozenAt j; have HO4 := Lib.hid hO4; clear hO4; have c41 := ((HB.out.keep h3).keep t4).cell 2 rfl)
        | (at_builtin; go_loud (refine wpList_push2d (α := RawV) rfl _ _ 79 rfl w.heap.size 24 i2 _ 24 Try.underlying79 hi2 hz20 hz21 hz22 rfl (by decide) (by decide) (w4.setCell ⟨W2.heap.size, j, none⟩ _) tv (rowsV n rb j) fs rfl (((HA.out.keep h3).keep t4).only (setCell_only w4 _ j _) (by rw [Hfs.out]; simp) Htvlt.out) ((Only.refl _ _).alloc _) (Nat.le_trans hBn (Nat.le_trans (Nat.le_trans h3.size t4.size) (setCell_only w4 _ j _).size)) _ 1 [.slice (some ⟨W2.heap.size, 0, none⟩) n n] ⟨rowV n W2.heap.size⟩ [] rfl (lit_src _ [.slice (some ⟨W2.heap.size, 0, none⟩) n n] _ (by simp only [World.size_setCell])) (by intro u hu; simp at hu; subst hu; rfl) ⟨rfl, rfl⟩ (by simp) (by rw [Hrl.out]; omega) ?_; intro v5 w5 hA5 hO5 hb5; obtain ⟨a5, n5, c5, rfl⟩ : ∃ a n c, v5 = Value.slice a n c := (let ⟨a, c, hh⟩ := hA5.form; ⟨a, _, c, hh⟩); have hB5 := ((((HB.out.keep h3).keep t4).only (setCell_only w4 W2.heap.size j _) (by simpa using hne)).keep ((Only.refl _ _).alloc _)).only hO5 Hgtv.out; have y5 := hB5.cell 2 rfl; have z5 := hB5.frozen 2; clear hB5))
        | fail "no arm")
      go_roundw
      case rel => exact ⟨j + 1, by omega, by go_num, NR.step hlt HE.out Heg.out Hegt.out Hem.out HB.out HO.out HK.out Hown.out h3 r4 F4 t4 ((Only.refl _ _).alloc _) hA5 (by rw [List.flatten_append, Hfs.out]; rfl) hO5 hb5⟩
      case measure => simp [intOf]; omega
    · obtain rfl : j = n := by omega
      obtain ⟨⟨g', bg', bt', cG', cT', oG', oT', rb'⟩, gv0, M0, F0, es, eoG, eoT, hFB, hC, hK⟩ := hN.finF (eG := 36) hn hn20
      injection es with es; injection es with es; injection es with es _ _
      have es' : w1.heap.size = g' := es
      subst es'
      have eoG' : oG' = 1 := eoG
      subst eoG'
      have eoT' : oT' = 2 := eoT
      subst eoT'
      have HL0 := Lib.hid (CLF.start gens fpg hFB hC hK)
      clear es eoG eoT hC hK hFB
      go_wp2
      go_loopw [39] (fun i wr => ∃ m : Nat, m ≤ gens.length ∧ i = .int .i64 m ∧ CLF 36 ⟨w1.heap.size, bg', bt', cG', cT', 1, 2, rb'⟩ j gens fpg w m wr)
        (fun i _ => gens.length - (intOf i).toNat)
      case atStart => exact ⟨0, Nat.zero_le _, rfl, HL0.out⟩
      case round =>
        obtain ⟨W3, hnew⟩ : ∃ W, W = wr := ⟨_, rfl⟩
        subst hnew
        obtain ⟨m, hm, rfl, hCL⟩ := hrel
        have HCL := Lib.hid hCL
        obtain ⟨gv3, G3, T3, M3, F3, hF3, hC3, hc3, hL3, hK3⟩ := hCL
        have HF3 := Lib.hid hF3
        clear hF3
        by_cases hltm : m < gens.length
        · obtain ⟨b, off, u, rfl, hob, hcu0, hru0⟩ := HSg.out.atRow m hltm
          have hcu := hK3.cell (by simp) hcu0
          have hru := Rp.keep hru0 hK3
          have hgm : gens[m] ∈ gens := List.getElem_mem _
          have hpm := Hpn.out _ hgm
          have hfm : ∀ b ∈ fpsg[m]'(by rw [HSg.out.nf]; exact hltm), b ∉ M3 := fun b hb hM => by
            have h5 := hC3.ge b hM
            have h6 := Hfpg.out b (by rw [Hfpe.out]; exact List.mem_append_right _ (mem_flatten_get (by rw [HSg.out.nf]; exact hltm) hb))
            omega
          have hfg : ∀ b ∈ fpsg[m]'(by rw [HSg.out.nf]; exact hltm), b ∈ fpg ∨ w.heap.size ≤ b := fun b hb => .inl (by rw [Hfpe.out]; exact List.mem_append_right _ (mem_flatten_get (by rw [HSg.out.nf]; exact hltm) hb))
          have Hfg := Lib.hid hfg
          clear hfg
          have HC3 := Lib.hid hC3
          have Hc3 := Lib.hid hc3
          have HL3 := Lib.hid hL3
          have HK3 := Lib.hid hK3
          have Hru := Lib.hid hru
          have Hpm := Lib.hid hpm
          have Hfm := Lib.hid hfm
          clear hcu0 hru0 hC3 hc3 hL3 hK3 hru hpm hfm hob hgm
          go_wp2_with (first
            | (go_at_call 49; (with_reducible refine (implAdd0 HC3.out rfl rfl Hc3.out.inv HL3.out Hpm.out Hru.out Hfm.out (HK3.out.size)).mono ?_); rintro en w5 ⟨rfl, ha5⟩)
            | fail "no arm")
          go_roundw
          case rel => exact ⟨m + 1, by omega, by go_num, CLF.step HF3.out Hfg.out HC3.out Hc3.out HK3.out (Only.refl _ _) hltm ha5⟩
          case measure => simp [intOf]; omega
        · obtain rfl : m = gens.length := by omega
          rw [List.take_length] at hc3
          have Hc3 := Lib.hid hc3
          have HC3 := Lib.hid hC3
          have HK3 := Lib.hid hK3
          clear hC3 hc3 hL3 hK3
          go_wp2
          go_ret
          exact ⟨_, gv3, G3, T3, M3, F3, rfl, rfl, rfl, HF3.out, HC3.out, Hc3.out, HK3.out⟩
theorem implNewChain_any (n : Nat) (hn : 0 < n) (hn20 : n ≤ 20) (vg : Value) (gens : List (List Int)) (fpg : List Nat) (w : World) (hg : Rd w vg gens fpg) (hpn : ∀ g ∈ gens, PM.PN n g) (hgl : gens.length ≤ 1000) :
    Calls Try.prog 34 #[.int .i64 n, vg] w fun e w' => ∃ (L : Lay) (gv : Nat → Value) (G : PM.Gens) (T : PM.Rows) (M F : List Nat), e = .returned (.pointer (some ⟨L.g, 0, none⟩)) ∧ L.oG = 1 ∧ L.oT = 2 ∧ Ch 36 w.heap.size w' L gv n G T M F ∧ PM.Chain n gens G T ∧ Only [] w w' := by
  refine (implNewChain_F n hn hn20 vg gens fpg w hg hpn hgl).mono ?_
  rintro e w' ⟨L, gv, G, T, M, F, h1, h2, h3, -, h4, h5, h6⟩
  exact ⟨L, gv, G, T, M, F, h1, h2, h3, h4, h5, h6⟩
end Go.Proofs.Ytbediokigibdlaa

namespace PM

/-- the members of the levels from n - m on -/
def mems (T : Rows) (n : Nat) : Nat → List (List Int)
  | 0 => [pts n]
  | m + 1 => ((pts n).filter fun y => decide (tr T (n - (m + 1)) y ≠ [])).flatMap fun y => (mems T n m).map fun q => comp q (tr T (n - (m + 1)) y)
/-- how many -/
def ordM (T : Rows) (n : Nat) : Nat → Nat
  | 0 => 1
  | m + 1 => cntR n T (n - (m + 1)) * ordM T n m
theorem mems_len (T : Rows) (n : Nat) : ∀ m, (mems T n m).length = ordM T n m
  | 0 => rfl
  | m + 1 => by
    unfold mems ordM
    rw [List.length_flatMap]
    simp only [List.length_map]
    rw [List.map_const', List.sum_replicate_nat, mems_len T n m]; rfl
theorem mems_at {n : Nat} {T : Rows} (hw : WF n T) {k : Nat} (hk : k < n) {q : List Int} (q1 : PN n q) (q2 : Fix (k + 1) q) {y : Int} (hy : tr T k y ≠ []) : at_ (comp q (tr T k y)) (k : Int) = y := by
  rw [at_comp (by omega) (by rw [q1.1]; omega), q2 _ (by omega) (by omega)]
  exact hw.at_ _ _ hk hy
theorem mems_iff {n : Nat} {T : Rows} (hw : WF n T) : ∀ (m : Nat), m ≤ n → ∀ p, p ∈ mems T n m ↔ Sk T n (n - m) p
  | 0, _, p => by
    unfold mems Sk
    simp only [List.mem_singleton]
    constructor
    · rintro rfl; exact ⟨PN.id n, Fix.id n _ (by omega), by simp [has]⟩
    · rintro ⟨a, b, -⟩; exact Fix.all a (by simpa using b)
  | m + 1, hm, p => by
    have ih := mems_iff hw m (by omega)
    have hk : n - (m + 1) < n := by omega
    have e1 : n - (m + 1) + 1 = n - m := by omega
    unfold mems
    rw [List.mem_flatMap]
    constructor
    · rintro ⟨y, hy, hp⟩
      obtain ⟨q, hq, rfl⟩ := List.mem_map.1 hp
      rw [List.mem_filter, decide_eq_true_iff] at hy
      obtain ⟨hy1, hy2⟩ := hy
      obtain ⟨q1, q2, q3⟩ := (ih q).1 hq
      have ht := hw.pn _ _ hk hy2
      have hat := mems_at hw hk q1 (by rw [e1]; exact q2) hy2
      refine ⟨q1.comp ht, Fix.comp q1 (by omega) (q2.mono (by omega)) (hw.fix _ _ hk hy2), ?_⟩
      rw [← Ok.has hk]
      refine ⟨by rw [hat]; exact hy2, ?_⟩
      have : res T (n - (m + 1)) (comp q (tr T (n - (m + 1)) y)) = q := by
        unfold res; rw [hat, comp_assoc q1 ht, comp_inv ht, comp_id q1]
      rw [this, e1]; exact q3
    · rintro ⟨a, b, c⟩
      rw [← Ok.has hk] at c
      obtain ⟨c1, c2⟩ := c
      have hr := Fix.res hw hk a b c1
      rw [e1] at c2 hr
      refine ⟨at_ p ((n - (m + 1) : Nat) : Int), ?_, List.mem_map.2 ⟨res T (n - (m + 1)) p, (ih _).2 ⟨hr.1, hr.2, c2⟩, res_mul hw hk a c1⟩⟩
      rw [List.mem_filter, decide_eq_true_iff, mem_pts]
      exact ⟨a.rng (by omega) (by omega), c1⟩
theorem mems_nodup {n : Nat} {T : Rows} (hw : WF n T) : ∀ (m : Nat), m ≤ n → (mems T n m).Nodup
  | 0, _ => by simp [mems]
  | m + 1, hm => by
    have ih := mems_nodup hw m (by omega)
    have hi := mems_iff hw m (by omega)
    have hk : n - (m + 1) < n := by omega
    have e1 : n - (m + 1) + 1 = n - m := by omega
    unfold mems List.Nodup
    rw [List.pairwise_flatMap]
    constructor
    · intro y hy
      rw [List.pairwise_map]
      rw [List.mem_filter, decide_eq_true_iff] at hy
      exact List.Pairwise.imp_of_mem (fun ha hb hab e => hab (comp_right_cancel ((hi _).1 ha).1 ((hi _).1 hb).1 (hw.pn _ _ hk hy.2) e)) ih
    · refine List.Pairwise.imp_of_mem ?_ (List.Pairwise.filter _ (pts_nodup n))
      intro y y' hy hy' hne p hp p' hp' e
      rw [List.mem_filter, decide_eq_true_iff] at hy hy'
      obtain ⟨q, hq, rfl⟩ := List.mem_map.1 hp
      obtain ⟨q', hq', rfl⟩ := List.mem_map.1 hp'
      obtain ⟨a1, a2, -⟩ := (hi q).1 hq
      obtain ⟨b1, b2, -⟩ := (hi q').1 hq'
      have h1 := mems_at hw hk a1 (by rw [e1]; exact a2) hy.2
      have h2 := mems_at hw hk b1 (by rw [e1]; exact b2) hy'.2
      rw [e] at h1
      exact hne (h1.symm.trans h2)

section
variable {n : Nat} {gens : List (List Int)} {G : Gens} {T : Rows} (h : Chain n gens G T) (hn : 0 < n) (hp : ∀ g ∈ gens, PN n g)
include h hn hp
theorem Chain.mems_iff {p : List Int} : p ∈ mems T n n ↔ Grp n gens p := by
  rw [PM.mems_iff h.inv.wf n (Nat.le_refl _) p]
  constructor
  · rintro ⟨a, -, c⟩
    exact (h.has_iff hn hp a).1 (by simpa using c)
  · intro hg
    have a := Grp.pn hp hg
    exact ⟨a, fun x h0 hx => by omega, by simpa using (h.has_iff hn hp a).2 hg⟩
theorem Chain.order_le {L : List (List Int)} (hL : L.Nodup) (hm : ∀ p ∈ L, Grp n gens p) : L.length ≤ ordM T n n := by
  rw [← mems_len]
  exact nodup_sub_len hL fun p hx => (h.mems_iff hn hp).2 (hm p hx)
theorem Chain.order_ge {L : List (List Int)} (hm : ∀ p, Grp n gens p → p ∈ L) : ordM T n n ≤ L.length := by
  rw [← mems_len]
  exact nodup_sub_len (mems_nodup h.inv.wf n (Nat.le_refl _)) fun p hx => hm p ((h.mems_iff hn hp).1 hx)
end
theorem cntR_le2 {n k : Nat} {T : Rows} (hw : WF n T) (hk : k < n) : cntR n T k ≤ n - k := by
  have h1 : ((List.range (n - k)).map fun i : Nat => ((i + k : Nat) : Int)).length = n - k := by simp
  unfold cntR
  rw [← h1]
  refine nodup_sub_len (List.Pairwise.filter _ (pts_nodup n)) fun y hy => ?_
  rw [List.mem_filter, decide_eq_true_iff, mem_pts] at hy
  obtain ⟨⟨h0, h1⟩, h2⟩ := hy
  have hky : (k : Int) ≤ y := by
    rcases Int.lt_or_le y k with hlt | hle
    · exfalso
      have a := hw.fix k y hk h2 y h0 hlt
      have b := hw.at_ k y hk h2
      have := (hw.pn k y hk h2).inj h0 h1 (by omega) (by omega) (a.trans b.symm)
      omega
    · exact hle
  rw [List.mem_map]
  exact ⟨(y - k).toNat, by simp; omega, by omega⟩
theorem cntR_pos {n k : Nat} {T : Rows} (hw : WF n T) (hk : k < n) : 1 ≤ cntR n T k := by
  unfold cntR
  refine List.length_pos_of_mem (a := (k : Int)) ?_
  rw [List.mem_filter, decide_eq_true_iff, mem_pts]
  exact ⟨by omega, by rw [hw.one k hk]; exact pts_ne (by omega)⟩
def fac : Nat → Nat
  | 0 => 1
  | m + 1 => (m + 1) * fac m
theorem ordM_rng {n : Nat} {T : Rows} (hw : WF n T) : ∀ m, m ≤ n → 1 ≤ ordM T n m ∧ ordM T n m ≤ fac m
  | 0, _ => by simp [ordM, fac]
  | m + 1, hm => by
    obtain ⟨a, b⟩ := ordM_rng hw m (by omega)
    have h1 := cntR_pos hw (k := n - (m + 1)) (by omega)
    have h2 := cntR_le2 hw (k := n - (m + 1)) (by omega)
    unfold ordM fac
    exact ⟨Nat.mul_le_mul h1 a, Nat.mul_le_mul (by omega) b⟩
theorem fac_mono : ∀ {a b : Nat}, a ≤ b → fac a ≤ fac b
  | a, 0, h => by have : a = 0 := by omega
                  subst this; exact Nat.le_refl _
  | a, b + 1, h => by
    by_cases e : a = b + 1
    · subst e; exact Nat.le_refl _
    · have h1 := fac_mono (a := a) (b := b) (by omega)
      have h2 : fac (b + 1) = (b + 1) * fac b := rfl
      rw [h2]
      exact Nat.le_trans h1 (Nat.le_mul_of_pos_left _ (by omega))
theorem ordM_le {n : Nat} {T : Rows} (hw : WF n T) (hn : n ≤ 20) {m : Nat} (hm : m ≤ n) : ordM T n m ≤ 2432902008176640000 :=
  Nat.le_trans (ordM_rng hw m hm).2 (Nat.le_trans (fac_mono (by omega : m ≤ 20)) (by decide))
end PM

namespace PM

/-- one number more in an ascending list -/
def insU (v : Int) : List Int → List Int
  | [] => [v]
  | x :: l => if x < v then x :: insU v l else if x = v then x :: l else v :: x :: l
theorem mem_insU {v x : Int} : ∀ {l : List Int}, x ∈ insU v l ↔ x = v ∨ x ∈ l
  | [] => by simp [insU]
  | y :: l => by
    have ih := mem_insU (v := v) (x := x) (l := l)
    unfold insU
    by_cases h1 : y < v
    · rw [if_pos h1, List.mem_cons, ih, List.mem_cons]
      constructor
      · rintro (h | h | h)
        · exact Or.inr (Or.inl h)
        · exact Or.inl h
        · exact Or.inr (Or.inr h)
      · rintro (h | h | h)
        · exact Or.inr (Or.inl h)
        · exact Or.inl h
        · exact Or.inr (Or.inr h)
    · rw [if_neg h1]
      by_cases h2 : y = v
      · rw [if_pos h2]; subst h2; simp
      · rw [if_neg h2, List.mem_cons]
/-- ascending, each once -/
def Asc (l : List Int) : Prop := l.Pairwise (· < ·)
theorem insU_asc {v : Int} : ∀ {l : List Int}, Asc l → Asc (insU v l)
  | [], _ => by simp [insU, Asc]
  | y :: l, h => by
    obtain ⟨a, b⟩ := List.pairwise_cons.1 h
    have ih := insU_asc (v := v) b
    unfold insU
    by_cases h1 : y < v
    · rw [if_pos h1]
      refine List.pairwise_cons.2 ⟨fun z hz => ?_, ih⟩
      rcases mem_insU.1 hz with rfl | hz
      · exact h1
      · exact a z hz
    · rw [if_neg h1]
      by_cases h2 : y = v
      · rw [if_pos h2]; exact h
      · rw [if_neg h2]
        refine List.pairwise_cons.2 ⟨fun z hz => ?_, h⟩
        rcases List.mem_cons.1 hz with rfl | hz
        · omega
        · have := a z hz; omega
theorem asc_ext : ∀ {l l' : List Int}, Asc l → Asc l' → (∀ x, x ∈ l ↔ x ∈ l') → l = l'
  | [], [], _, _, _ => rfl
  | [], y :: l', _, _, h => by have := (h y).2 (by simp); cases this
  | x :: l, [], _, _, h => by have := (h x).1 (by simp); cases this
  | x :: l, y :: l', a, b, h => by
    obtain ⟨a1, a2⟩ := List.pairwise_cons.1 a
    obtain ⟨b1, b2⟩ := List.pairwise_cons.1 b
    have hxy : x = y := by
      have h1 := (h x).1 (by simp)
      have h2 := (h y).2 (by simp)
      rcases List.mem_cons.1 h1 with e | e
      · exact e
      · rcases List.mem_cons.1 h2 with e' | e'
        · exact e'.symm
        · have := b1 _ e; have := a1 _ e'; omega
    subst hxy
    have := asc_ext a2 b2 (fun z => ⟨fun hz => by
      rcases List.mem_cons.1 ((h z).1 (List.mem_cons_of_mem _ hz)) with e | e
      · have := a1 _ hz; omega
      · exact e, fun hz => by
      rcases List.mem_cons.1 ((h z).2 (List.mem_cons_of_mem _ hz)) with e | e
      · have := b1 _ hz; omega
      · exact e⟩)
    rw [this]
/-- the values of entry i in the members that begin as m -/
def choO (m : List Int) (ys : List Int) : List Int := ys.foldl (fun l y => insU (at_ m y) l) []
def rowP (n : Nat) (T : Rows) (i : Nat) : List Int := (pts n).filter fun y => decide (tr T i y ≠ [])
def cho (n : Nat) (T : Rows) (i : Nat) (m : List Int) : List Int := choO m (rowP n T i)
theorem choO_snoc (m ys : List Int) (y : Int) : choO m (ys ++ [y]) = insU (at_ m y) (choO m ys) := by
  unfold choO; rw [List.foldl_append]; rfl
theorem foldl_mem (m : List Int) {v : Int} : ∀ (ys acc : List Int), v ∈ ys.foldl (fun l y => insU (at_ m y) l) acc ↔ (∃ y ∈ ys, at_ m y = v) ∨ v ∈ acc
  | [], acc => by simp
  | y :: ys, acc => by
    rw [List.foldl_cons, foldl_mem m ys, mem_insU]
    constructor
    · rintro (⟨z, h1, h2⟩ | h | h)
      · exact Or.inl ⟨z, List.mem_cons_of_mem _ h1, h2⟩
      · exact Or.inl ⟨y, by simp, h.symm⟩
      · exact Or.inr h
    · rintro (⟨z, h1, h2⟩ | h)
      · rcases List.mem_cons.1 h1 with rfl | h1
        · exact Or.inr (Or.inl h2.symm)
        · exact Or.inl ⟨z, h1, h2⟩
      · exact Or.inr (Or.inr h)
theorem mem_choO {m ys : List Int} {v : Int} : v ∈ choO m ys ↔ ∃ y ∈ ys, at_ m y = v := by
  unfold choO; rw [foldl_mem]; simp
theorem foldl_asc (m : List Int) : ∀ (ys acc : List Int), Asc acc → Asc (ys.foldl (fun l y => insU (at_ m y) l) acc)
  | [], _, h => h
  | y :: ys, acc, h => by rw [List.foldl_cons]; exact foldl_asc m ys _ (insU_asc h)
theorem choO_asc (m ys : List Int) : Asc (choO m ys) := foldl_asc m ys [] List.Pairwise.nil
theorem mem_rowP {n : Nat} {T : Rows} {i : Nat} {y : Int} : y ∈ rowP n T i ↔ (0 ≤ y ∧ y < n) ∧ tr T i y ≠ [] := by
  unfold rowP; rw [List.mem_filter, mem_pts]; simp
theorem mem_cho {n : Nat} {T : Rows} {i : Nat} {m : List Int} {v : Int} : v ∈ cho n T i m ↔ ∃ y : Int, ((0 ≤ y ∧ y < n) ∧ tr T i y ≠ []) ∧ at_ m y = v := by
  unfold cho; rw [mem_choO]
  constructor
  · rintro ⟨y, h1, h2⟩; exact ⟨y, mem_rowP.1 h1, h2⟩
  · rintro ⟨y, h1, h2⟩; exact ⟨y, mem_rowP.2 h1, h2⟩
theorem Asc.nodup {l : List Int} (h : Asc l) : l.Nodup := List.Pairwise.imp (fun h => by omega) h
theorem rowP_nodup (n : Nat) (T : Rows) (i : Nat) : (rowP n T i).Nodup := List.Nodup.sublist List.filter_sublist (pts_nodup n)
theorem cho_len {n : Nat} {T : Rows} {i : Nat} {m : List Int} (hm : PN n m) : (cho n T i m).length = cntR n T i := by
  have hmap : ((rowP n T i).map (at_ m)).Nodup := by
    unfold List.Nodup
    rw [List.pairwise_map]
    refine List.Pairwise.imp_of_mem (fun {a b} ha hb hab e => hab ?_) (rowP_nodup n T i)
    obtain ⟨⟨a0, a1⟩, -⟩ := mem_rowP.1 ha
    obtain ⟨⟨b0, b1⟩, -⟩ := mem_rowP.1 hb
    exact hm.inj a0 a1 b0 b1 e
  have h1 : (cho n T i m).length ≤ ((rowP n T i).map (at_ m)).length := nodup_sub_len (choO_asc _ _).nodup fun v hv => by
    obtain ⟨y, hy, e⟩ := mem_choO.1 hv
    exact List.mem_map.2 ⟨y, hy, e⟩
  have h2 : ((rowP n T i).map (at_ m)).length ≤ (cho n T i m).length := nodup_sub_len hmap fun v hv => by
    obtain ⟨y, hy, e⟩ := List.mem_map.1 hv
    exact mem_choO.2 ⟨y, hy, e⟩
  rw [List.length_map] at h1 h2
  exact Nat.le_antisymm h1 h2
theorem at_inv' {n : Nat} {p : List Int} (hp : PN n p) {x : Int} (h0 : 0 ≤ x) (h1 : x < n) : at_ p (at_ (inv p) x) = x := by
  have h : at_ (comp (inv p) p) x = at_ (pts n) x := by rw [inv_comp hp]
  rw [at_comp h0 (by rw [hp.inv.1]; exact h1), at_pts h0 h1] at h
  exact h
/-- the member that has v at entry i -/
def putV (T : Rows) (i : Nat) (m : List Int) (v : Int) : List Int := comp (tr T i (at_ (inv m) v)) m
theorem cho_pre {n : Nat} {T : Rows} {i : Nat} {m : List Int} (hm : PN n m) {v : Int} (hv : v ∈ cho n T i m) : 0 ≤ v ∧ v < n ∧ 0 ≤ at_ (inv m) v ∧ at_ (inv m) v < n ∧ tr T i (at_ (inv m) v) ≠ [] ∧ at_ m (at_ (inv m) v) = v := by
  obtain ⟨y, ⟨⟨h0, h1⟩, h2⟩, rfl⟩ := mem_cho.1 hv
  have hr := hm.rng h0 h1
  have e := at_inv hm h0 h1
  rw [e]
  exact ⟨hr.1, hr.2, h0, h1, h2, rfl⟩
/-- two permutations begin alike -/
def Alike (i : Nat) (p q : List Int) : Prop := ∀ x : Int, 0 ≤ x → x < i → at_ p x = at_ q x
theorem putV_pn {n : Nat} {T : Rows} (hw : WF n T) {i : Nat} (hi : i < n) {m : List Int} (hm : PN n m) {v : Int} (hv : v ∈ cho n T i m) : PN n (putV T i m v) ∧ Alike i (putV T i m v) m ∧ at_ (putV T i m v) (i : Int) = v := by
  obtain ⟨h0, h1, h2, h3, h4, h5⟩ := cho_pre hm hv
  have ht := hw.pn i _ hi h4
  refine ⟨ht.comp hm, fun x x0 x1 => ?_, ?_⟩
  · unfold putV
    rw [at_comp x0 (by rw [ht.1]; omega), hw.fix i _ hi h4 x x0 x1]
  · unfold putV
    rw [at_comp (by omega) (by rw [ht.1]; omega), hw.at_ i _ hi h4, h5]
/-- down k levels from level i on, by a selection -/
def desc (T : Rows) (n : Nat) (sel : Nat → Nat → Nat) : Nat → Nat → List Int → List Int
  | 0, _, m => m
  | k + 1, i, m => desc T n sel k (i + 1) (putV T i m ((cho n T i m).getD (sel i (cho n T i m).length) 0))
section
variable {n : Nat} {gens : List (List Int)} {G : Gens} {T : Rows} (h : Chain n gens G T) (hn : 0 < n) (hp : ∀ g ∈ gens, PN n g)
include h hn hp
theorem Chain.row_grp {j : Nat} (hj : j < n) {y : Int} (hy : tr T j y ≠ []) : Grp n gens (tr T j y) := by
  have hsub : ∀ j, j < n → ∀ p, Grp n (lv G j) p → Grp n (lv G 0) p := by
    intro j
    induction j with
    | zero => intro _ p hp; exact hp
    | succ j ih =>
      intro hj p hp
      exact ih (by omega) p (Grp.mono (fun g hg => h.inv.gpn j g (by omega) hg) (fun g hg => h.inv.up j g hj hg) hp)
  exact (h.grp hn hp _).1 (hsub j hj _ (h.inv.row j y hj hy))
theorem Chain.putV {i : Nat} (hi : i < n) {m : List Int} (hm : Grp n gens m) {v : Int} (hv : v ∈ cho n T i m) : Grp n gens (PM.putV T i m v) :=
  Grp.comp hp (h.row_grp hn hp hi (cho_pre (hm.pn hp) hv).2.2.2.2.1) hm
/-- the choices are the values of the entry in the members that begin so -/
theorem Chain.mem_cho {i : Nat} (hi : i < n) {m : List Int} (hm : Grp n gens m) {v : Int} : v ∈ cho n T i m ↔ ∃ p, Grp n gens p ∧ Alike i p m ∧ at_ p (i : Int) = v := by
  have hpn := hm.pn hp
  constructor
  · intro hv
    have := putV_pn h.inv.wf hi hpn hv
    exact ⟨_, h.putV hn hp hi hm hv, this.2.1, this.2.2⟩
  · rintro ⟨p, h1, h2, rfl⟩
    have hpp := h1.pn hp
    have hq : Grp n gens (comp p (PM.inv m)) := Grp.comp hp h1 (hm.inv hp)
    have hr := hpp.rng (x := (i : Int)) (by omega) (by omega)
    have hir := (hpn.inv).rng hr.1 hr.2
    refine PM.mem_cho.2 ⟨at_ (PM.inv m) (at_ p (i : Int)), ⟨hir, ?_⟩, at_inv' hpn hr.1 hr.2⟩
    refine (h.row_iff hn hp hi hir.1 hir.2).2 ⟨_, hq, fun x x0 x1 => ?_, ?_⟩
    · rw [at_comp x0 (by rw [hpp.1]; omega), h2 x x0 x1, at_inv hpn x0 (by omega)]
    · rw [at_comp (by omega) (by rw [hpp.1]; omega)]
theorem Chain.cho_congr {G' : Gens} {T' : Rows} (h' : Chain n gens G' T') {i : Nat} (hi : i < n) {m m' : List Int} (hm : Grp n gens m) (hm' : Grp n gens m') (ha : Alike i m m') : cho n T i m = cho n T' i m' := by
  refine asc_ext (choO_asc _ _) (choO_asc _ _) fun v => ?_
  show v ∈ cho n T i m ↔ v ∈ cho n T' i m'
  rw [h.mem_cho hn hp hi hm, h'.mem_cho hn hp hi hm']
  constructor
  · rintro ⟨p, a, b, c⟩; exact ⟨p, a, fun x x0 x1 => (b x x0 x1).trans (ha x x0 x1), c⟩
  · rintro ⟨p, a, b, c⟩; exact ⟨p, a, fun x x0 x1 => (b x x0 x1).trans (ha x x0 x1).symm, c⟩
theorem Chain.cntR_congr {G' : Gens} {T' : Rows} (h' : Chain n gens G' T') {i : Nat} (hi : i < n) : cntR n T i = cntR n T' i := by
  rw [← cho_len (T := T) (i := i) (PN.id n), ← cho_len (T := T') (i := i) (PN.id n), h.cho_congr hn hp h' hi .id .id fun _ _ _ => rfl]
theorem Chain.ordM_congr {G' : Gens} {T' : Rows} (h' : Chain n gens G' T') : ∀ k, k ≤ n → ordM T n k = ordM T' n k
  | 0, _ => rfl
  | k + 1, hk => by
    unfold ordM
    rw [h.cntR_congr hn hp h' (i := n - (k + 1)) (by omega), Chain.ordM_congr h' k (by omega)]
end
open Classical in
/-- the rows of some chain of the generators -/
noncomputable def chainR (n : Nat) (gens : List (List Int)) : Rows := if h : ∃ T, ∃ G, Chain n gens G T then h.choose else []
theorem Chain.chainR {n : Nat} {gens : List (List Int)} {G : Gens} {T : Rows} (h : Chain n gens G T) : ∃ G', Chain n gens G' (PM.chainR n gens) := by
  have hex : ∃ T, ∃ G, Chain n gens G T := ⟨T, G, h⟩
  unfold PM.chainR
  rw [dif_pos hex]
  exact hex.choose_spec
/-- one level down -/
theorem desc_step {T : Rows} {n : Nat} {sel : Nat → Nat → Nat} {i : Nat} (hi : i < n) (m : List Int) {k : Nat} (hk : k = sel i (cho n T i m).length) (hl : k < (cho n T i m).length) :
    desc T n sel (n - i) i m = desc T n sel (n - (i + 1)) (i + 1) (putV T i m (cho n T i m)[k]) := by
  have h1 : n - i = (n - (i + 1)) + 1 := by omega
  rw [h1]
  show desc T n sel (n - (i + 1)) (i + 1) (putV T i m ((cho n T i m).getD (sel i (cho n T i m).length) 0)) = _
  rw [← hk, List.getD_eq_getElem?_getD, List.getElem?_eq_getElem hl]
  rfl
theorem desc_end {T : Rows} {n : Nat} {sel : Nat → Nat → Nat} {i : Nat} (hi : n ≤ i) (m : List Int) : desc T n sel (n - i) i m = m := by
  rw [show n - i = 0 by omega]; rfl
end PM

namespace Go.Proofs.Ytbediokigibdlaa
open Go.RowKit
set_option maxRecDepth 10000

/-- the letters of n moves, in order -/
def ltrs : Nat → List Int
  | 0 => []
  | n + 1 => ltrs n ++ [((n + 1 : Nat) : Int), -((n + 1 : Nat) : Int)]
theorem mem_ltrs {n : Nat} {x : Int} : x ∈ ltrs n ↔ x ≠ 0 ∧ -(n : Int) ≤ x ∧ x ≤ n := by
  induction n with
  | zero => simp [ltrs]; omega
  | succ n ih => simp [ltrs, ih]; omega
/-- the permutation of a letter -/
def mv (gens : List (List Int)) (l : Int) : List Int := if 0 < l then gens.getD (l - 1).toNat [] else PM.inv (gens.getD (-l - 1).toNat [])
theorem mv_pos {gens : List (List Int)} {l : Int} {k : Nat} (h : l = (k : Int) + 1) (hk : k < gens.length) : mv gens l = gens[k] := by
  unfold mv
  rw [if_pos (by omega), show (l - 1).toNat = k by omega, List.getD_eq_getElem?_getD, List.getElem?_eq_getElem hk]; rfl
theorem mv_neg {gens : List (List Int)} {l : Int} {k : Nat} (h : l = -((k : Int) + 1)) (hk : k < gens.length) : mv gens l = PM.inv gens[k] := by
  unfold mv
  rw [if_neg (by omega), show (-l - 1).toNat = k by omega, List.getD_eq_getElem?_getD, List.getElem?_eq_getElem hk]; rfl
theorem letter_cases {n : Nat} {l : Int} (h : l ∈ ltrs n) : (∃ k : Nat, k < n ∧ l = (k : Int) + 1) ∨ (∃ k : Nat, k < n ∧ l = -((k : Int) + 1)) := by
  rw [mem_ltrs] at h
  rcases Int.lt_or_gt_of_ne h.1 with h0 | h0
  · right; exact ⟨(-l - 1).toNat, by omega, by omega⟩
  · left; exact ⟨(l - 1).toNat, by omega, by omega⟩
theorem mv_pn {n : Nat} {gens : List (List Int)} (h : ∀ g ∈ gens, PM.PN n g) {l : Int} (hl : l ∈ ltrs gens.length) : PM.PN n (mv gens l) := by
  rcases letter_cases hl with ⟨k, hk, e⟩ | ⟨k, hk, e⟩
  · rw [mv_pos e hk]; exact h _ (List.getElem_mem _)
  · rw [mv_neg e hk]; exact (h _ (List.getElem_mem _)).inv

theorem lit_srcA (w : World) (cs : List Value) (e : TypeId) {g : Nat} (hg : g = w.heap.size) : ∀ ad, some (⟨g, 0, none⟩ : Addr) = some ad → ∀ j u, cs[j]? = some u → (w.alloc (.cells cs.toArray e)).cell? (ad.add j) = some u := by
  intro ad had j u hu
  injection had with had; subst had
  have hadd : (⟨g, 0, none⟩ : Addr).add j = ⟨g, j, none⟩ := by unfold Addr.add; split <;> simp_all
  rw [hadd]; exact lit_src w cs e hg j u hu
/-- an array of int64s that a call fills -/
def Arr (B : Nat) (e : TypeId) (w : World) (g m : Nat) (l : List Int) : Prop := w.ownsRow B e 1 (.slice (some ⟨g, 0, none⟩) m m) m (l.map (Value.int .i64))
section
variable {B : Nat} {e : TypeId} {w : World} {g m : Nat} {l : List Int}
theorem Arr.len (h : Arr B e w g m l) : l.length = m := by have := h.1; simpa using this
theorem Arr.set (h : Arr B e w g m l) (i : Nat) (x : Int) : Arr B e (w.setCell ⟨g, i, none⟩ (.int .i64 x)) g m (l.set i x) := by
  have := (World.ownsRow.stored h i (.int .i64 x)).1
  unfold Arr
  rwa [List.map_set]
theorem Arr.cell (h : Arr B e w g m l) {i : Nat} (hi : i < l.length) : w.cell? ⟨g, i, none⟩ = some (.int .i64 l[i]) := by
  rw [World.ownsRow.cellAt h i (by have := h.len; omega)]; simp [hi]
theorem Arr.frozen (h : Arr B e w g m l) (i : Nat) : w.frozen? ⟨g, i, none⟩ = false := World.ownsRow.frozenAt h i
theorem Arr.rd (h : Arr B e w g m l) (hw : ∀ x ∈ l, I64 x) : Rd w (.slice (some ⟨g, 0, none⟩) m m) l [g] ∧ Fresh B w [g] := by
  have h' : w.ownsRow B e 1 (.slice (some ⟨g, 0, none⟩) m m) m (l.map (Value.int .i64)) := h
  obtain ⟨a, cap, hv, -, hI, hF⟩ := own_ints h' hw
  have hr := hI.rd
  rw [← hv] at hr
  exact ⟨hr, hF⟩
theorem Arr.only {w' : World} {fp : List Nat} (h : Arr B e w g m l) (ho : Only fp w w') (hg : g ∉ fp) : Arr B e w' g m l := by
  refine ⟨h.1, ?_⟩
  rcases h.2 with ⟨h', _⟩ | ⟨g', cp, cur, h', hb, hgg, hrest⟩
  · simp at h'
  · have : g' = g := by simp at h'; exact h'.1.symm
    subst this
    exact .inr ⟨g', cp, cur, h', hb, by rw [ho.block g' (Array.getElem?_eq_some_iff.1 hgg).1 hg]; exact hgg, hrest⟩
end
end Go.Proofs.Ytbediokigibdlaa

namespace Go.Proofs.Ytbediokigibdlaa
open Go.RowKit
set_option maxRecDepth 10000
open Go.Maps (Keyed)

/-- the key of a list: a byte each -/
def kB (l : List Int) : ByteArray := strOfNums (l.map fun x => x % 256)
/-- block M is a map of at most k entries; g: what lies at a key -/
def Mp (w : World) (M k : Nat) (g : ByteArray → Option Int) : Prop :=
  ∃ D : DataW Unit, w.ownsMap Try.prog 9 (plainElem Try.prog 3) M k D ∧ ∀ s : ByteArray, s.size ≤ maxLen →
    Go.Maps.has D (.string s.data.toList) = (g s).isSome ∧ ∀ n, g s = some n → D.atKey (.string s.data.toList) (.lit (.int .i64 0)) = .lit (.int .i64 n)
theorem Mp.lt {w : World} {M k : Nat} {g : ByteArray → Option Int} (h : Mp w M k g) : M < w.heap.size := by
  obtain ⟨D, h1, -⟩ := h; exact h1.lt
theorem Mp.frame {w w' : World} {M k : Nat} {g : ByteArray → Option Int} (h : Mp w M k g) (hf : w'.heap[M]? = w.heap[M]?) : Mp w' M k g := by
  obtain ⟨D, ⟨es, c, h1, h2⟩, h3⟩ := h
  exact ⟨D, ⟨es, c, by rw [hf]; exact h1, h2⟩, h3⟩
theorem Mp.only {w w' : World} {fp : List Nat} {M k : Nat} {g : ByteArray → Option Int} (h : Mp w M k g) (ho : Only fp w w') (hn : M ∉ fp) : Mp w' M k g := h.frame (ho.block M h.lt hn)
theorem Mp.keep {w w' : World} {M k : Nat} {g : ByteArray → Option Int} (h : Mp w M k g) (ho : Only [] w w') : Mp w' M k g := h.only ho (by simp)
theorem Mp.made (w : World) {M : Nat} (hM : M = w.heap.size) : Mp (w.alloc (.map #[] 0)) M 0 (fun _ => none) := by
  subst hM
  exact ⟨.map [], World.ownsMap_made _ _ _ _, fun s _ => ⟨rfl, by simp⟩⟩
theorem Mp.congr {w : World} {M k : Nat} {g g' : ByteArray → Option Int} (h : Mp w M k g) (hg : ∀ s, g s = g' s) : Mp w M k g' := by
  have : g = g' := funext hg
  rw [← this]; exact h
section
variable {w : World} {M k : Nat} {g : ByteArray → Option Int}
end
end Go.Proofs.Ytbediokigibdlaa

namespace Go.Proofs.Ytbediokigibdlaa
open Go.RowKit
set_option maxRecDepth 10000
open Go.Maps (Keyed)

theorem Try.lawI64 : Keyed Try.prog 2 := Go.Maps.int_keyed Try.underlying2
theorem Try.zeroV64 (w : World) : (zeroValue 2).run Try.prog w = .ok (.int .i64 0) w := by kernel_rfl
/-- block M is a map of at most k entries; g: what lies at a key -/
def Mpv (w : World) (M k : Nat) (g : Int → Option Int) : Prop :=
  ∃ D : DataW Unit, w.ownsMap Try.prog 2 (plainElem Try.prog 2) M k D ∧ ∀ s : Int, I64 s →
    Go.Maps.has D (.int .i64 s) = (g s).isSome ∧ ∀ n, g s = some n → D.atKey (.int .i64 s) (.lit (.int .i64 0)) = .lit (.int .i64 n)
theorem Mpv.lt {w : World} {M k : Nat} {g : Int → Option Int} (h : Mpv w M k g) : M < w.heap.size := by
  obtain ⟨D, h1, -⟩ := h; exact h1.lt
theorem Mpv.frame {w w' : World} {M k : Nat} {g : Int → Option Int} (h : Mpv w M k g) (hf : w'.heap[M]? = w.heap[M]?) : Mpv w' M k g := by
  obtain ⟨D, ⟨es, c, h1, h2⟩, h3⟩ := h
  exact ⟨D, ⟨es, c, by rw [hf]; exact h1, h2⟩, h3⟩
theorem Mpv.only {w w' : World} {fp : List Nat} {M k : Nat} {g : Int → Option Int} (h : Mpv w M k g) (ho : Only fp w w') (hn : M ∉ fp) : Mpv w' M k g := h.frame (ho.block M h.lt hn)
theorem Mpv.keep {w w' : World} {M k : Nat} {g : Int → Option Int} (h : Mpv w M k g) (ho : Only [] w w') : Mpv w' M k g := h.only ho (by simp)
theorem Mpv.made (w : World) {M : Nat} (hM : M = w.heap.size) : Mpv (w.alloc (.map #[] 0)) M 0 (fun _ => none) := by
  subst hM
  exact ⟨.map [], World.ownsMap_made _ _ _ _, fun s _ => ⟨rfl, by simp⟩⟩
theorem Mpv.congr {w : World} {M k : Nat} {g g' : Int → Option Int} (h : Mpv w M k g) (hg : ∀ s, g s = g' s) : Mpv w M k g' := by
  have : g = g' := funext hg
  rw [← this]; exact h
section
variable {w : World} {M k : Nat} {g : Int → Option Int}
/-- v, ok := m[k], as an equation -/
theorem Mpv.run_ok (h : Mpv w M k g) {s : Int} (hs : I64 s) : (Instr.lookup 110 (.map (some M)) (.int .i64 s) true).run Try.prog w = .ok (.tuple #[.int .i64 ((g s).getD 0), .bool (g s).isSome]) w := by
  obtain ⟨D, hown, hg⟩ := h
  obtain ⟨h1, h2⟩ := hg s hs
  obtain ⟨v, ps, hrun, hv⟩ := hown.look_ok Try.lawI64 Try.underlying110 (Try.zeroV64 w) (plainElem_int Try.underlying2 (by decide)) (Go.Maps.keyOf_int_mk Try.underlying2 (WalkArith.wf_i64 hs))
  obtain ⟨c, rfl, hc, -⟩ := plainElem_int_inv Try.underlying2 hv
  have hc1 : D.atKey (.int .i64 s) (.lit (.int .i64 0)) = .lit (.int .i64 c) := congrArg Prod.fst hc
  have hcv : c = (g s).getD 0 := by
    cases hgs : g s with
    | none =>
      rw [hgs] at h1
      rw [Go.Maps.atKey_of_not_has h1] at hc1
      injection hc1 with hc1; injection hc1 with _ hc1; simp [hc1]
    | some n =>
      rw [h2 n hgs] at hc1
      injection hc1 with hc1; injection hc1 with _ hc1; simp [hc1]
  rw [hrun, hcv, h1]
theorem Mpv.run_yes (h : Mpv w M k g) {s : Int} (hs : I64 s) {n : Int} (hg : g s = some n) : (Instr.lookup 110 (.map (some M)) (.int .i64 s) true).run Try.prog w = .ok (.tuple #[.int .i64 n, .bool true]) w := by
  rw [h.run_ok hs, hg]; rfl
/-- m[k] = v -/
theorem Mpv.run_put (h : Mpv w M k g) {s : Int} (hs : I64 s) {n : Int} (hn : I64 n) (hk : k < maxLen) :
    ∃ w', (Instr.mapUpdate 110 (.map (some M)) (.int .i64 s) (.int .i64 n)).run Try.prog w = .ok () w' ∧ Mpv w' M (k + 1) (fun s' => if s' = s then some n else g s') ∧ Only [M] w w' := by
  obtain ⟨D, hown, hg⟩ := h
  have hwf : (Lit.int .i64 n).wf = true := WalkArith.wf_i64 hn
  obtain ⟨w', hrun, r1, r2⟩ := hown.store Try.lawI64 Try.underlying110 hk (Go.Maps.keyOf_int_mk Try.underlying2 (WalkArith.wf_i64 hs)) (plainElem_int Try.underlying2 hwf)
  have hmap := hown.isMap
  refine ⟨w', hrun, ⟨_, r1, fun s' hs' => ?_⟩, ?_⟩
  · by_cases he : s' = s
    · subst he
      have hkl : WideAt.IsKeyLit (Lit.int .i64 s') := trivial
      exact ⟨by rw [Go.Maps.has_put_same hmap hkl]; simp, fun m' hm' => by
        rw [Go.Maps.atKey_put_same hmap hkl]; simp at hm'; rw [hm']⟩
    · have hne : (Lit.int .i64 s') ≠ .int .i64 s := by
        intro e; injection e with _ e; exact he e
      obtain ⟨h1, h2⟩ := hg s' hs'
      exact ⟨by rw [Go.Maps.has_put_other hne, h1]; simp [he], fun m' hm' => by
        rw [Go.Maps.atKey_put_other hne]; simp [he] at hm'; exact h2 m' hm'⟩
  · exact (Only.refl _ _).grown r2.grown (by intro j hj _; injection hj with hj; subst hj; simp)
end
end Go.Proofs.Ytbediokigibdlaa
