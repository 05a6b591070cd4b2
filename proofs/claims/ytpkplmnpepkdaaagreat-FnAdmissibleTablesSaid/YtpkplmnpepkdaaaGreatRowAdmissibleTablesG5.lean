/- The making of chains: the program's newChain, the reference's emptyChain and buildChain. The laws' dice: bytes in memory; roll, below. The reference's source of choices: newSource, nextByte, below, oneIn, between, extremeInt, numberUpTo (laws 34, 35, ..). What it draws is left open: its bounds are told. IsGeneratorSet: the reference's and the program's. Puzzle: plain data, how it lies in memory, the laws' own helpers on it. (Printed by gen_struct.py.) -/
import Derived.Test.YtpkplmnpepkdaaaGreatRowAdmissibleTablesG4
import Derived.Test.YtpkplmnpepkdaaaGreatRowAdmissibleTablesG1
import Derived.Deep.QuietTactic
import Derived.BigQuiet
import Derived.BigRegion
import Derived.Laws.Bits64b
import Derived.Test.YtpkplmnpepkdaaaGreatRowAdmissibleTablesG3
import Derived.StillTailTactics
namespace Go.Proofs.YtpkplmnpepkdaaaGreat
open Go.RowKit
set_option maxRecDepth 10000

/-- a header as it lies in a cell -/
structure RawV where
  v : Value
instance : Rp RawV where
  size := 1
  rep _ cs x fp := cs = [x.v] ∧ fp = []
  len h := by rw [h.1]; rfl
  frame h _ := h
  lt h := by rw [h.2]; simp
theorem Acc.raw {B : Nat} {e : TypeId} {w : World} {v : Value} {l : List RawV} {fs : List (List Nat)} (h : Acc B e w v l fs) {k : Nat} (hk : k < l.length) :
    ∃ g c, v = .slice (some ⟨g, 0, none⟩) l.length c ∧ w.cell? ⟨g, k, none⟩ = some l[k].v := by
  obtain ⟨css, ho, hcl, hr⟩ := h.own
  have hfl := h.fl
  have hcss : css.flatten = l.map RawV.v := by
    have : css = l.map fun x => [x.v] := by
      apply List.ext_getElem (by simp [hcl])
      intro i h1 h2
      rw [(hr i h1 (by omega) (by omega)).1]; simp
    rw [this]
    clear this hr hcl hfl ho h hk
    induction l with
    | nil => rfl
    | cons x l ih => simp [ih]
  rcases ho.2 with ⟨-, h0⟩ | ⟨g, cap, cur, hv, -⟩
  · omega
  · refine ⟨g, cap, hv, ?_⟩
    have := ho.cells (g := g) (by rw [hv]; rfl) k l[k].v (by rw [hcss]; simp [hk])
    have hadd : (⟨g, 0, none⟩ : Addr).add k = ⟨g, k, none⟩ := by unfold Addr.add; split <;> simp_all
    rwa [hadd] at this
theorem wpList_push2d {P : Program} {α : Type} [Rp α] {ops : Array Oper} {rest : List Oper} {o : Oper} {a : Act} {w : World} {Q : Exit → Act → World → Prop} (hgd : o.guard = none) (s x : Operand) (t : TypeId)
    (ho : o.op = .call { callee := .builtin .append, args := #[s, x], argTypes := #[t, t] })
    (B : Nat) (e : TypeId) (i : TypeInfo) (z : Value) (bytes : Nat) (ht : P.underlying t = some (.slice e)) (hi : P.info? e = some i) (hz : i.zero = some z)
    (hsize : i.size = Rp.size α) (hby : i.bytes = bytes) (hzs : z.cells.size = Rp.size α) (hsz : 0 < Rp.size α) (hbb : bytes ≤ 65536)
    (w0 : World) (v : Value) (l : List α) (fs : List (List Nat)) (hs : a.eval s = v) (hA : Acc B e w0 v l fs) (hK0 : Only [] w0 w) (hB : B ≤ w0.heap.size)
    (g c : Nat) (cs : List Value) (y : α) (fp : List Nat) (hx : a.eval x = .slice (some ⟨g, 0, none⟩) 1 c) (hsrc : ∀ j u, cs[j]? = some u → w.cell? ⟨g, j, none⟩ = some u) (hcs : ∀ u ∈ cs, u.oneCell' = true)
    (hy : Rp.rep w cs y fp) (hap : ∀ b ∈ fp, v.ownBlock ≠ some b) (hlen : l.length + 1 ≤ 1073741824)
    (h : ∀ v' w', Acc B e w' v' (l ++ [y]) (fs ++ [fp]) → Only v.ownBlock.toList w w' → (v'.ownBlock = v.ownBlock ∨ v'.ownBlock = some w.heap.size) → wpList P ops Q rest (a.put o.dst v') w') : wpList P ops Q (o :: rest) a w :=
  wpList_plain hgd fun _ hK => wp_push2 s x t ho B e i z bytes ht hi hz hsize hby hzs hsz hbb w0 v l fs hs hA hK0 hB g c cs y fp hx hsrc hcs hy hap hlen fun v' w' h1 h2 _ _ h5 => hK _ _ (h v' w' h1 h2 h5)

/-- the blocks of a chain that is being made -/
inductive Key
  | g | tv | gt | row (k : Nat) | emp (k : Nat) | idn (k : Nat)
deriving DecidableEq
structure Sep (B : Nat) (w : World) (S : Key → List Nat) : Prop where
  le : B ≤ w.heap.size
  ge : ∀ a, ∀ x ∈ S a, B ≤ x
  sep : ∀ a b, a ≠ b → ∀ x ∈ S a, x ∉ S b
  lt : ∀ a, ∀ x ∈ S a, x < w.heap.size
def updS (S : Key → List Nat) (a : Key) (l : List Nat) : Key → List Nat := fun b => if b = a then l else S b
theorem updS_same (S : Key → List Nat) (a : Key) (l : List Nat) : updS S a l a = l := if_pos rfl
theorem updS_other (S : Key → List Nat) {a b : Key} (l : List Nat) (h : b ≠ a) : updS S a l b = S b := if_neg h
section
variable {B : Nat} {w w' : World} {S : Key → List Nat}
theorem Sep.keep (h : Sep B w S) (hs : w.heap.size ≤ w'.heap.size) : Sep B w' S := ⟨Nat.le_trans h.le hs, h.ge, h.sep, fun a x hx => Nat.lt_of_lt_of_le (h.lt a x hx) hs⟩
theorem Sep.upd (h : Sep B w S) {a : Key} {l : List Nat} (hl : ∀ x ∈ l, w.heap.size ≤ x ∧ x < w'.heap.size) (hs : w.heap.size ≤ w'.heap.size)   : Sep B w' (updS S a l) := by
  refine ⟨Nat.le_trans h.le hs, fun b x hx => ?_, fun b c hbc x hx hx' => ?_, fun b x hx => ?_⟩
  · unfold updS at hx
    split at hx
    · have := (hl x hx).1; have := h.le; omega
    · exact h.ge b x hx
  · unfold updS at hx hx'
    split at hx
    · rename_i e1
      split at hx'
      · rename_i e2; exact hbc (e1.trans e2.symm)
      · have := (hl x hx).1; have := h.lt c x hx'; omega
    · split at hx'
      · have := (hl x hx').1; have := h.lt b x hx; omega
      · exact h.sep b c hbc x hx hx'
  · unfold updS at hx
    split at hx
    · exact (hl x hx).2
    · exact Nat.lt_of_lt_of_le (h.lt b x hx) hs
end
def rowV (n b : Nat) : Value := .slice (some ⟨b, 0, none⟩) n n
def rowsV (n : Nat) (rb : Nat → Nat) (j : Nat) : List RawV := (List.range j).map fun k => ⟨rowV n (rb k)⟩
theorem rowsV_len (n : Nat) (rb : Nat → Nat) (j : Nat) : (rowsV n rb j).length = j := by simp [rowsV]
def updF {α : Type} (f : Nat → α) (k : Nat) (v : α) : Nat → α := fun j => if j = k then v else f j
theorem updF_same {α : Type} (f : Nat → α) (k : Nat) (v : α) : updF f k v k = v := if_pos rfl
theorem updF_other {α : Type} (f : Nat → α) {j k : Nat} (v : α) (h : j ≠ k) : updF f k v j = f j := if_neg h
theorem rowsV_succ (n : Nat) (rb : Nat → Nat) (j b : Nat) : rowsV n (updF rb j b) (j + 1) = rowsV n rb j ++ [⟨rowV n b⟩] := by
  unfold rowsV
  rw [List.range_succ, List.map_append]
  congr 1
  · refine List.map_congr_left fun k hk => ?_
    rw [updF_other _ _ (by have := List.mem_range.1 hk; omega)]
  · simp [updF_same]

/-- the rows of an empty chain, the first j of them -/
structure Em (e : TypeId) (B n j : Nat) (w : World) (S : Key → List Nat) (tv : Value) (rb : Nat → Nat) (iv : Nat → Value) : Prop where
  sep : Sep B w S
  acc : ∃ fs, Acc B e w tv (rowsV n rb j) fs ∧ fs.flatten = []
  tvS : tv.ownBlock.toList = S .tv
  cell : ∀ k i, k < j → i < n → w.cell? ⟨rb k, i, none⟩ = some (if i = k then iv k else .slice none 0 0)
  own : ∀ k, k < j → Own w [rb k]
  rS : ∀ k, k < j → S (.row k) = [rb k]
  idn : ∀ k, k < j → Rd w (iv k) (PM.pts n) (S (.idn k))
section
variable {e : TypeId} {B n j : Nat} {w w' : World} {S : Key → List Nat} {tv : Value} {rb : Nat → Nat} {iv : Nat → Value}
theorem Sep.start {B : Nat} {w : World} (g gt : List Nat) (hB : B ≤ w.heap.size) (hg : ∀ x ∈ g, x ∉ gt) (hgl : ∀ x ∈ g, B ≤ x ∧ x < w.heap.size) (hgt : ∀ x ∈ gt, B ≤ x ∧ x < w.heap.size) : Sep B w (updS (updS (fun _ => []) .g g) .gt gt) := by
  have hm : ∀ a x, x ∈ updS (updS (fun _ => []) .g g) .gt gt a → (a = .gt ∧ x ∈ gt) ∨ (a = .g ∧ x ∈ g) := by
    intro a x hx
    unfold updS at hx
    split at hx
    · rename_i e; exact .inl ⟨e, hx⟩
    · split at hx
      · rename_i e; exact .inr ⟨e, hx⟩
      · cases hx
  refine ⟨hB, fun a x hx => ?_, fun a b hab x hx hx' => ?_, fun a x hx => ?_⟩
  · rcases hm a x hx with ⟨-, h⟩ | ⟨-, h⟩
    · exact (hgt x h).1
    · exact (hgl x h).1
  · rcases hm a x hx with ⟨e, h⟩ | ⟨e, h⟩
    · rcases hm b x hx' with ⟨e', h'⟩ | ⟨e', h'⟩
      · exact hab (e.trans e'.symm)
      · exact hg x h' h
    · rcases hm b x hx' with ⟨e', h'⟩ | ⟨e', h'⟩
      · exact hg x h h'
      · exact hab (e.trans e'.symm)
  · rcases hm a x hx with ⟨-, h⟩ | ⟨-, h⟩
    · exact (hgt x h).2
    · exact (hgl x h).2
theorem Em.start {S : Key → List Nat} {w : World} (e : TypeId) {B : Nat} (n : Nat) (hs : Sep B w S) (ht : S .tv = []) (rb : Nat → Nat) (iv : Nat → Value) : Em e B n 0 w S (.slice none 0 0) rb iv :=
  ⟨hs, ⟨[], Acc.nil _ _ _, rfl⟩, by rw [ht]; rfl, by intro _ _ h; omega, by intro _ h; omega, by intro _ h; omega, by intro _ h; omega⟩
theorem Em.only (h : Em e B n j w S tv rb iv) {fp : List Nat} (ho : Only fp w w') (hd : ∀ b ∈ fp, b ∉ S .tv ∧ (∀ k, b ∉ S (.row k)) ∧ ∀ k, b ∉ S (.idn k)) : Em e B n j w' S tv rb iv := by
  have hr : ∀ k, k < j → rb k ∉ fp := fun k hk hm => (hd _ hm).2.1 k (by rw [h.rS k hk]; simp)
  obtain ⟨fs, hA, hfs⟩ := h.acc
  refine ⟨h.sep.keep ho.size, ⟨fs, hA.only ho (by rw [hfs]; simp) (fun g hg hm => (hd g hm).1 (by rw [← h.tvS]; simp [hg])), hfs⟩, h.tvS, fun k i hk hi => ho.cell (hr k hk) (h.cell k i hk hi), fun k hk => (h.own k hk).only ho (by simpa using hr k hk), h.rS, fun k hk => Rp.only (h.idn k hk) ho fun b hb hm => (hd b hm).2.2 k hb⟩
theorem Em.keep (h : Em e B n j w S tv rb iv) (ho : Only [] w w') : Em e B n j w' S tv rb iv := h.only ho (by simp)
theorem Em.reS (h : Em e B n j w S tv rb iv) {S' : Key → List Nat} (hs : Sep B w S') (h1 : S' .tv = S .tv) (h2 : ∀ k, S' (.row k) = S (.row k)) (h3 : ∀ k, S' (.idn k) = S (.idn k)) : Em e B n j w S' tv rb iv :=
  ⟨hs, h.acc, by rw [h1]; exact h.tvS, h.cell, h.own, fun k hk => by rw [h2]; exact h.rS k hk, fun k hk => by rw [h3]; exact h.idn k hk⟩
/-- a row more -/
theorem Em.step (h : Em e B n j w S tv rb iv) (hj : j < n) {eI : TypeId} {w1 w2 w4 w5 : World} (hown : w1.ownsRow w.heap.size eI 1 (.slice (some ⟨w.heap.size, 0, none⟩) n n) n (List.replicate n (.slice none 0 0))) (h1 : Only [] w w1)
    {v2 : Value} {f2 : List Nat} (r2 : Rd w2 v2 (PM.pts n) f2) (F2 : Fresh w1.heap.size w2 f2) (h2 : Only [] w1 w2) (h4 : Only [] (w2.setCell ⟨w.heap.size, j, none⟩ v2) w4)
    {tv' : Value} {fs' : List (List Nat)} (hA : Acc B e w5 tv' (rowsV n rb j ++ [⟨rowV n w.heap.size⟩]) fs') (hfs : fs'.flatten = []) (h5 : Only tv.ownBlock.toList w4 w5) (hb : tv'.ownBlock = tv.ownBlock ∨ tv'.ownBlock = some w4.heap.size) :
    ∃ S', Em e B n (j + 1) w5 S' tv' (updF rb j w.heap.size) (updF iv j v2) ∧ S' .g = S .g ∧ S' .gt = S .gt ∧ ∀ k, S' (.emp k) = S (.emp k) := by
  have hs0 : w.heap.size < w1.heap.size := (hown.lt w.heap.size rfl).2
  have hst := setCell_only w2 w.heap.size j v2
  have hsz2 := h2.size
  have hsz3 := hst.size
  have hsz4 := h4.size
  have hsz5 := h5.size
  have htv : ∀ b ∈ tv.ownBlock.toList, b ∈ S .tv ∧ b < w.heap.size := fun b hb' => by
    rw [h.tvS] at hb'; exact ⟨hb', h.sep.lt _ b hb'⟩
  -- the old rows
  have hE3 : Em e B n j (w2.setCell ⟨w.heap.size, j, none⟩ v2) S tv rb iv := ((h.keep h1).keep h2).only hst fun b hb' => by
    have e : b = w.heap.size := by simpa using hb'
    subst e
    exact ⟨fun hm => Nat.lt_irrefl _ (h.sep.lt _ _ hm), fun k hm => Nat.lt_irrefl _ (h.sep.lt _ _ hm), fun k hm => Nat.lt_irrefl _ (h.sep.lt _ _ hm)⟩
  have hE4 := hE3.keep h4
  have hf2 : ∀ b ∈ f2, w1.heap.size ≤ b ∧ b < w2.heap.size := fun b hb' => ⟨F2.ge b hb', F2.lt b hb'⟩
  -- the new row's cells
  have hown2 := owns_keep hown h2
  obtain ⟨hown3, -⟩ := hown2.stored j v2
  have hown4 := owns_keep hown3 h4
  have hown5 := owns_only hown4 h5 fun g hg hm => by
    have := (htv g hm).2
    simp [Value.ownBlock] at hg; omega
  have hr5 : Rd w5 v2 (PM.pts n) f2 := by
    refine Rp.only (Rp.keep (Rp.only r2 hst fun b hb' hm => ?_) h4) h5 fun b hb' hm => ?_
    · have e : b = w.heap.size := by simpa using hm
      have := (hf2 b hb').1; omega
    · have := (htv b hm).2; have := (hf2 b hb').1; omega
  have hE5 : ∀ k i, k < j → i < n → w5.cell? ⟨rb k, i, none⟩ = some (if i = k then iv k else .slice none 0 0) := fun k i hk hi =>
    h5.cell (fun hm => h.sep.sep .tv (.row k) (by simp) _ (htv _ hm).1 (by rw [h.rS k hk]; simp)) (hE4.cell k i hk hi)
  have hO5 : ∀ k, k < j → Own w5 [rb k] := fun k hk => (hE4.own k hk).only h5 fun b hb' hm => by
    have e : b = rb k := by simpa using hb'
    subst e
    exact h.sep.sep .tv (.row k) (by simp) _ (htv _ hm).1 (by rw [h.rS k hk]; simp)
  have hI5 : ∀ k, k < j → Rd w5 (iv k) (PM.pts n) (S (.idn k)) := fun k hk => Rp.only (hE4.idn k hk) h5 fun b hb' hm => h.sep.sep .tv (.idn k) (by simp) b (htv b hm).1 hb'
  -- the blocks
  have hS1 : Sep B w1 (updS S (.row j) [w.heap.size]) := h.sep.upd (fun x hx => by
    have e : x = w.heap.size := by simpa using hx
    omega) h1.size
  have hS2 : Sep B w2 (updS (updS S (.row j) [w.heap.size]) (.idn j) f2) := hS1.upd hf2 hsz2
  have hS4 : Sep B w4 (updS (updS S (.row j) [w.heap.size]) (.idn j) f2) := hS2.keep (by omega)
  have key : ∀ S' : Key → List Nat, Sep B w5 S' → tv'.ownBlock.toList = S' .tv → (∀ k, S' (.row k) = updS S (.row j) [w.heap.size] (.row k)) → (∀ k, S' (.idn k) = updS S (.idn j) f2 (.idn k)) → Em e B n (j + 1) w5 S' tv' (updF rb j w.heap.size) (updF iv j v2) := by
    intro S' hs ht hr hi
    refine ⟨hs, ⟨fs', by rw [rowsV_succ]; exact hA, hfs⟩, ht, fun k i hk hin => ?_, fun k hk => ?_, fun k hk => ?_, fun k hk => ?_⟩
    · by_cases e : k = j
      · subst e
        rw [updF_same, updF_same, hown5.cellAt i (by omega)]
        by_cases e2 : i = k
        · subst e2; simp [hin]
        · rw [if_neg e2, List.getElem?_set_ne (by omega), List.getElem?_replicate, if_pos hin]
      · rw [updF_other _ _ e, updF_other _ _ e]; exact hE5 k i (by omega) hin
    · by_cases e : k = j
      · subst e
        rw [updF_same]
        exact (own_fresh hown5).own
      · rw [updF_other _ _ e]; exact hO5 k (by omega)
    · rw [hr k]
      by_cases e : k = j
      · subst e; rw [updS_same, updF_same]
      · rw [updF_other _ _ e, updS_other _ _ (by simpa using e)]; exact h.rS k (by omega)
    · rw [hi k]
      by_cases e : k = j
      · subst e; rw [updS_same, updF_same]; exact hr5
      · rw [updF_other _ _ e, updS_other _ _ (by simpa using e)]; exact hI5 k (by omega)
  rcases hb with hb | hb
  · refine ⟨updS (updS S (.row j) [w.heap.size]) (.idn j) f2, key _ (hS4.keep hsz5) ?_ (fun k => ?_) (fun k => ?_), ?_, ?_, fun k => ?_⟩
    · rw [hb, h.tvS, updS_other _ _ (by simp), updS_other _ _ (by simp)]
    · rw [updS_other _ _ (by simp)]
    · unfold updS; split <;> rfl
    · rw [updS_other _ _ (by simp), updS_other _ _ (by simp)]
    · rw [updS_other _ _ (by simp), updS_other _ _ (by simp)]
    · rw [updS_other _ _ (by simp), updS_other _ _ (by simp)]
  · have hlt := (hA.ownlt _ hb).2
    refine ⟨updS (updS (updS S (.row j) [w.heap.size]) (.idn j) f2) .tv [w4.heap.size], key _ (hS4.upd (fun x hx => by
      have e : x = w4.heap.size := by simpa using hx
      omega) hsz5) ?_ (fun k => ?_) (fun k => ?_), ?_, ?_, fun k => ?_⟩
    · rw [hb, updS_same]; rfl
    · rw [updS_other _ _ (by simp), updS_other _ _ (by simp)]
    · rw [updS_other _ _ (by simp)]; unfold updS; split <;> rfl
    · rw [updS_other _ _ (by simp), updS_other _ _ (by simp), updS_other _ _ (by simp)]
    · rw [updS_other _ _ (by simp), updS_other _ _ (by simp), updS_other _ _ (by simp)]
    · rw [updS_other _ _ (by simp), updS_other _ _ (by simp), updS_other _ _ (by simp)]
/-- an empty chain -/
theorem Em.ch (h : Em e B n n w S tv rb iv) (hn : 0 < n) (hn20 : n ≤ 20) {g bg oG oT cG : Nat} {eG : TypeId} (gv : Nat → Value) (hg : S .g = [g]) (hgt : S .gt = [bg])
    (cn : w.cell? ⟨g, 0, none⟩ = some (.int .i64 n)) (cg : w.cell? ⟨g, oG, none⟩ = some (.slice (some ⟨bg, 0, none⟩) n cG)) (ct : w.cell? ⟨g, oT, none⟩ = some tv)
    (hgen : ∀ k, k < n → w.cell? ⟨bg, k, none⟩ = some (gv k)) (hacc : ∀ k, k < n → Acc B eG w (gv k) ([] : List (List Int)) []) (hgS : ∀ k, k < n → (gv k).ownBlock.toList = S (.emp k)) (hob : Own w [bg]) :
    ∃ (L : Lay) (M F : List Nat), L.g = g ∧ L.oG = oG ∧ L.oT = oT ∧ (∀ b ∈ F, B ≤ b) ∧ Ch eG B w L gv n (PM.G0 n) (PM.T0 n) M F := by
  obtain ⟨fs, hA, -⟩ := h.acc
  have hlen := rowsV_len n rb n
  obtain ⟨bt, cT, htv, -⟩ := hA.raw (k := 0) (by omega)
  rw [hlen] at htv
  have hbt : S .tv = [bt] := by rw [← h.tvS, htv]; rfl
  have hrow : ∀ k, k < n → w.cell? ⟨bt, k, none⟩ = some (.slice (some ⟨rb k, 0, none⟩) n n) := fun k hk => by
    obtain ⟨g', c', e1, e2⟩ := hA.raw (k := k) (by omega)
    have e3 := htv.symm.trans e1
    injection e3 with e4 _ _
    injection e4 with e5
    injection e5 with e6 _ _
    rw [← e6] at e2
    rw [e2]; simp [rowsV, rowV]
  have hbgm : bg ∈ S .gt := by rw [hgt]; simp
  have hgm : g ∈ S .g := by rw [hg]; simp
  have hbtm : bt ∈ S .tv := by rw [hbt]; simp
  have hrm : ∀ k, k < n → rb k ∈ S (.row k) := fun k hk => by rw [h.rS k hk]; simp
  have hem : ∀ k b, k < n → (gv k).ownBlock = some b → b ∈ S (.emp k) := fun k b hk hb => by rw [← hgS k hk]; simp [hb]
  have hM : ∀ b, b ∈ bg :: ((List.range n).map rb ++ (List.range n).flatMap fun k => S (.emp k)) → b ∈ S .gt ∨ (∃ k, k < n ∧ b ∈ S (.row k)) ∨ ∃ k, b ∈ S (.emp k) := fun b hb => by
    rcases List.mem_cons.1 hb with e | hb
    · subst e; exact .inl hbgm
    · rcases List.mem_append.1 hb with hb | hb
      · obtain ⟨k, hk, e⟩ := List.mem_map.1 hb
        subst e; exact .inr (.inl ⟨k, List.mem_range.1 hk, hrm k (List.mem_range.1 hk)⟩)
      · obtain ⟨k, -, hk⟩ := List.mem_flatMap.1 hb
        exact .inr (.inr ⟨k, hk⟩)
  have hF : ∀ b, b ∈ g :: bt :: (List.range n).flatMap (fun k => S (.idn k)) → b ∈ S .g ∨ b ∈ S .tv ∨ ∃ k, b ∈ S (.idn k) := fun b hb => by
    rcases List.mem_cons.1 hb with e | hb
    · subst e; exact .inl hgm
    · rcases List.mem_cons.1 hb with e | hb
      · subst e; exact .inr (.inl hbtm)
      · obtain ⟨k, -, hk⟩ := List.mem_flatMap.1 hb
        exact .inr (.inr ⟨k, hk⟩)
  refine ⟨⟨g, bg, bt, cG, cT, oG, oT, rb⟩, bg :: ((List.range n).map rb ++ (List.range n).flatMap fun k => S (.emp k)), g :: bt :: (List.range n).flatMap (fun k => S (.idn k)), rfl, rfl, rfl, fun b hb => (by rcases hF b hb with h1 | h1 | ⟨k, h1⟩ <;> exact h.sep.ge _ b h1),
    PM.Shape.zero n, hn, hn20, cn, cg, by rw [ct, htv], hrow, hgen, fun k m hk hm => ?_, fun k hk => ⟨[], by rw [PM.lv_G0]; exact hacc k hk, by simp⟩, by simp, fun k hk => ?_, fun k b hk hb => ?_, by simp, by simp, fun b hb hb' => ?_, ?_, fun b hb => ?_, fun b hb => ?_, fun b hb => ?_, fun i k hi hk e => ?_, fun k hk e => ?_, fun k b hk hb => ⟨fun e => ?_, fun i hi e => ?_⟩, fun i k b hi hk h1 h2 => ?_⟩
  · rw [PM.tr_T0 hk]
    have hc := h.cell k m hk hm
    by_cases e : m = k
    · subst e
      rw [if_pos rfl] at hc
      rw [if_pos rfl]
      exact ⟨_, _, hc, h.idn m hk, fun e => absurd e (PM.pts_ne hn), fun b hb => List.mem_cons_of_mem _ (List.mem_cons_of_mem _ (List.mem_flatMap.2 ⟨m, List.mem_range.2 hk, hb⟩))⟩
    · rw [if_neg e] at hc
      rw [if_neg (by omega)]
      exact ⟨_, [], hc, nil_rd w, fun _ => rfl, by simp⟩
  · exact List.mem_cons_of_mem _ (List.mem_append_left _ (List.mem_map.2 ⟨k, List.mem_range.2 hk, rfl⟩))
  · exact List.mem_cons_of_mem _ (List.mem_append_right _ (List.mem_flatMap.2 ⟨k, List.mem_range.2 hk, hem k b hk hb⟩))
  · rcases hM b hb with h1 | ⟨k, -, h1⟩ | ⟨k, h1⟩ <;> rcases hF b hb' with h2 | h2 | ⟨i, h2⟩ <;> exact h.sep.sep _ _ (by simp) b h1 h2
  · intro b hb
    rcases List.mem_cons.1 hb with e | hb
    · subst e; exact hob _ (by simp)
    · obtain ⟨k, hk, e⟩ := List.mem_map.1 hb
      subst e; exact h.own k (List.mem_range.1 hk) _ (by simp)
  · rcases hM b hb with h1 | ⟨k, -, h1⟩ | ⟨k, h1⟩ <;> exact h.sep.lt _ b h1
  · rcases hF b hb with h1 | h1 | ⟨k, h1⟩ <;> exact h.sep.lt _ b h1
  · rcases hM b hb with h1 | ⟨k, -, h1⟩ | ⟨k, h1⟩ <;> exact h.sep.ge _ b h1
  · apply Classical.byContradiction
    intro hne
    exact h.sep.sep (.row i) (.row k) (by simpa using hne) _ (hrm i hi) (by have e' : rb i = rb k := e; rw [e']; exact hrm k hk)
  · exact h.sep.sep (.row k) .gt (by simp) _ (hrm k hk) (by have e' : rb k = bg := e; rw [e']; exact hbgm)
  · subst e; exact h.sep.sep (.emp k) .gt (by simp) _ (hem k _ hk hb) hbgm
  · subst e; exact h.sep.sep (.emp k) (.row i) (by simp) _ (hem k _ hk hb) (hrm i hi)
  · apply Classical.byContradiction
    intro hne
    exact h.sep.sep (.emp i) (.emp k) (by simpa using hne) _ (hem i b hi h1) (hem k b hk h2)
end
theorem Tryz.info222 : (Tryz.prog.info? 24).map (fun i => (i.zero, i.size, i.bytes)) = some (some (.slice none 0 0), 1, 24) := by kernel_rfl
/-- what the first loop of newChain leaves: an empty chain -/
def NC1 (eG : TypeId) (oG oT n : Nat) (w : World) (s : Value) (wx : World) : Prop :=
  ∃ (L : Lay) (gv : Nat → Value) (M F : List Nat), s = .pointer (some ⟨L.g, 0, none⟩) ∧ L.oG = oG ∧ L.oT = oT ∧ Ch eG w.heap.size wx L gv n (PM.G0 n) (PM.T0 n) M F ∧ Only [] w wx
theorem Blk.set {w : World} {g : Nat} {cs : List Value} (h : Blk w g cs) (i : Nat) (v : Value) : Blk (w.setCell ⟨g, i, none⟩ v) g (cs.set i v) := by
  obtain ⟨t, h⟩ := h
  refine ⟨t, ?_⟩
  simp [World.setCell, Array.getElem?_modify, h]
theorem Blk.frozen {w : World} {g : Nat} {cs : List Value} (h : Blk w g cs) (i : Nat) : w.frozen? ⟨g, i, none⟩ = false := by
  obtain ⟨t, h⟩ := h; simp [World.frozen?, h]
/-- the generators' loop of a chain: the first j of them are added -/
def CL (eG : TypeId) (L : Lay) (n : Nat) (gens : List (List Int)) (w : World) (j : Nat) (wr : World) : Prop :=
  ∃ (gv : Nat → Value) (G : PM.Gens) (T : PM.Rows) (M F : List Nat), Ch eG w.heap.size wr L gv n G T M F ∧ PM.Chain n (gens.take j) G T ∧ PM.Ln n 0 G T ∧ Only [] w wr
theorem CL.start {eG : TypeId} {L : Lay} {n : Nat} (gens : List (List Int)) {w wr : World} {gv : Nat → Value} {M F : List Nat} (hC : Ch eG w.heap.size wr L gv n (PM.G0 n) (PM.T0 n) M F) (hK : Only [] w wr) : CL eG L n gens w 0 wr :=
  ⟨gv, _, _, M, F, hC, by simpa using PM.Chain.zero n, PM.Ln.zero n, hK⟩
theorem CL.step {eG : TypeId} {L : Lay} {n : Nat} {gens : List (List Int)} {w wr w1 w' : World} {j : Nat} {gv : Nat → Value} {G : PM.Gens} {T : PM.Rows} {M F f : List Nat} (hC : Ch eG w.heap.size wr L gv n G T M F) (hc : PM.Chain n (gens.take j) G T) (hK : Only [] w wr)
    (t : Only [] wr w1) (hj : j < gens.length) (ha : AddP eG w.heap.size L n 0 gens[j] G T M F f gv w1 w') : CL eG L n gens w (j + 1) w' := by
  obtain ⟨gv', G', T', M', F', hC', hA, hL, hM⟩ := ha
  refine ⟨gv', G', T', M', F', hC', ?_, hL, (hK.trans t).then_ hM.only fun x hx hl => ?_⟩
  · rw [take_succ_get gens j hj]; exact hc.step hC'.shape hA
  · have := hC.ge x hx; omega
theorem madeNils' (n : Nat) : (madeCells (Value.cells (.slice none 0 0)) n).toList = List.replicate n (.slice none 0 0) := madeNils n
end Go.Proofs.YtpkplmnpepkdaaaGreat

namespace Go.Proofs.YtpkplmnpepkdaaaGreat
open Go.RowKit
set_option maxRecDepth 10000

instance : Rp UInt8 where
  size := 1
  rep _ cs x fp := cs = [.int .u8 (x.toNat : Int)] ∧ fp = []
  len h := by rw [h.1]; rfl
  frame h _ := h
  lt h := by rw [h.2]; simp
theorem wrapu64_rng (y : Int) : 0 ≤ IntKind.u64.wrap y ∧ IntKind.u64.wrap y < 18446744073709551616 := by
  have e : IntKind.u64.wrap y = y % 18446744073709551616 := by rfl
  rw [e]; omega
theorem low24 {y : Int} (h0 : 0 ≤ y) (h1 : y < 18446744073709551616) : 0 ≤ wrap64 (bits BinOp.and IntKind.u64 y 16777215) ∧ wrap64 (bits BinOp.and IntKind.u64 y 16777215) ≤ 16777215 := by
  obtain ⟨m, rfl⟩ := Int.eq_ofNat_of_zero_le h0
  have e : bits BinOp.and IntKind.u64 (m : Int) 16777215 = ((m &&& 16777215 : Nat) : Int) := bits_and_u64_nat m 16777215 (by omega) (by omega)
  have hle : m &&& 16777215 ≤ 16777215 := Nat.and_le_right
  rw [e]
  unfold wrap64
  omega
/-- the dice at block g, over the bytes l -/
def Dice (w : World) (g : Nat) (fc : List Nat) (l : List UInt8) : Prop :=
  ∃ a c i h, Blk w g [.slice a l.length c, .int .i64 i, .int .u64 h] ∧ (0 ≤ i ∧ i ≤ l.length) ∧ (0 ≤ h ∧ h < 18446744073709551616) ∧ Rd w (.slice a l.length c) l fc ∧ g ∉ fc
theorem Dice.keep {w w' : World} {g : Nat} {fc : List Nat} {l : List UInt8} (h : Dice w g fc l) (ho : Only [] w w') : Dice w' g fc l := by
  obtain ⟨a, c, i, x, h1, h2, h3, h4, h5⟩ := h
  exact ⟨a, c, i, x, h1.keep ho, h2, h3, Rp.keep h4 ho, h5⟩
set_option maxHeartbeats 1000000 in
theorem big_any (v : Value) (l : List UInt8) (fc : List Nat) (w : World) (h : Rd w v l fc) :
    Calls Tryz.prog 4 #[v] w fun e w' => e = .returned (.bool (decide (4096 < l.length))) ∧ Only [] w w' := by
  obtain ⟨a, cap, ob, fps, rfl, -, hs⟩ := h.open_
  have hb := hs.bound
  have he : decide ((4096 : Int) < (l.length : Int)) = decide (4096 < l.length) := by
    by_cases h : 4096 < l.length
    · rw [decide_eq_true h, decide_eq_true (by omega)]
    · rw [decide_eq_false h, decide_eq_false (by omega)]
  have He := Lib.hid he
  clear he
  go_enter Tryz.func4, Tryz.ntmps4
  go_wp2
  go_ret
  exact ⟨ret_bool (by first | exact He.out | rfl), (by with_reducible repeat (first | exact Only.refl _ _ | assumption | refine Only.drewN ?_ _ | refine Only.drew ?_ | refine Only.alloc ?_ _ | refine Only.setCell ?_ (by intro hh; exfalso; simp at hh; try omega) _ | refine Only.trans ?_ (by assumption)))⟩
set_option maxHeartbeats 4000000 in
theorem below_any (g : Nat) (fc : List Nat) (l : List UInt8) (n : Int) (w : World) (h : Dice w g fc l) (hn : 1 ≤ n) (hn2 : n ≤ 1000000) (hl : l.length ≤ 4096) :
    Calls Tryz.prog 10 #[.pointer (some ⟨g, 0, none⟩), .int .i64 n] w fun e w' => ∃ r : Int, e = .returned (.int .i64 r) ∧ 0 ≤ r ∧ r < n ∧ Dice w' g fc l ∧ Only [g] w w' := by
  obtain ⟨a, c, i, x, h1, h2, h3, h4, h5⟩ := h
  have y0 := h1.cell 0 rfl
  have y1 := h1.cell 1 rfl
  have y2 := h1.cell 2 rfl
  have p1 := h1.frozen 1
  have p2 := h1.frozen 2
  go_enter Tryz.func10, Tryz.ntmps10
  go_upto_region 2 with fail
  obtain ⟨x2, hx2⟩ : ∃ x2, x2 = IntKind.u64.wrap (IntKind.u64.wrap (x * 6364136223846793005) + 1442695040888963407) := ⟨_, rfl⟩
  have hr2 : 0 ≤ x2 ∧ x2 < 18446744073709551616 := by rw [hx2]; exact wrapu64_rng _
  rw [← hx2]
  clear hx2
  have B1 := h1.set 2 (.int .u64 x2)
  simp only [List.set] at B1
  have k1 : Only [g] w (w.setCell ⟨g, 2, none⟩ (.int .u64 x2)) := (Only.refl _ _).setCell (by simp) _
  have r1 : Rd (w.setCell ⟨g, 2, none⟩ (.int .u64 x2)) (.slice a l.length c) l fc := Rp.only h4 k1 (fun b hb hm => h5 (by simp at hm; rwa [← hm]))
  obtain ⟨w1, hw1⟩ : ∃ w1, w1 = w.setCell ⟨g, 2, none⟩ (.int .u64 x2) := ⟨_, rfl⟩
  rw [← hw1] at B1 k1 r1 ⊢
  clear hw1 y0 y1 y2 p1 p2 h1 h4 h3
  have y0 := B1.cell 0 rfl
  have y1 := B1.cell 1 rfl
  have y2 := B1.cell 2 rfl
  go_upto_region 3 with fail
  obtain ⟨v5, hv5⟩ : ∃ v5, v5 = wrap64 (bits BinOp.and IntKind.u64 (x2 / 8589934592) 16777215) := ⟨_, rfl⟩
  have hr5 : 0 ≤ v5 ∧ v5 ≤ 16777215 := by rw [hv5]; exact low24 (by omega) (by omega)
  rw [← hv5]
  clear hv5
  obtain ⟨ob, fps, hfc, hS⟩ : ∃ ob fps, fc = ob ++ fps.flatten ∧ SeqA w1 a c l ob fps := by obtain ⟨a', c', ob, fps, hv, hf, hs⟩ := r1.open_; injection hv with e1 _ e2; subst e1; subst e2; exact ⟨ob, fps, hf, hs⟩
  obtain ⟨k, rfl⟩ := Int.eq_ofNat_of_zero_le h2.1
  have hwk : IntKind.i64.wrap ((k : Int) + 1) = (k : Int) + 1 := by rw [IntKind.wrap_i64]; omega
  by_cases hil : k < l.length
  · have hilb : decide ((k : Int) < (l.length : Int)) = true := decide_eq_true (by omega)
    obtain ⟨b, off, cs, rfl, -, hc0, hrb⟩ := hS.at_ k hil
    obtain ⟨rfl, -⟩ := hrb
    have hcb : w1.cell? ⟨b, off + k, none⟩ = some (.int .u8 (l[k].toNat : Int)) := by simpa [Rp.size] using hc0 0 _ rfl
    clear hc0
    have hby : l[k].toNat < 256 := UInt8.toNat_lt _
    have hw8 : wrap64 (l[k].toNat : Int) = (l[k].toNat : Int) := by unfold wrap64; omega
    have hws : IntKind.i64.wrap (v5 + (l[k].toNat : Int)) = v5 + (l[k].toNat : Int) := by rw [IntKind.wrap_i64]; omega
    have hi0 : (0 : Int) ≤ (k : Int) := by omega
    have hi1 : (k : Int) < (l.length : Int) := by omega
    have p1 := B1.frozen 1
    have hn0 : n ≠ 0 := by omega
    have hnb : (n == 0) = false := by simp; omega
    obtain ⟨v6, hv6⟩ : ∃ v6, v6 = v5 + (l[k].toNat : Int) := ⟨_, rfl⟩
    have hr6 : 0 ≤ v6 ∧ v6 ≤ 16777470 := by omega
    rw [← hv6] at hws
    clear hv6
    go_quiet (fail)
    go_wp2
    go_quiet (fail)
    go_wp2
    go_ret
    refine ⟨_, rfl, Int.emod_nonneg _ hn0, Int.emod_lt_of_pos _ (by omega), ⟨some ⟨b, off, none⟩, c, (k : Int) + 1, x2, ?_, ⟨by omega, by omega⟩, hr2, ?_, h5⟩, (k1.drewN _).setCell (by simp) _⟩
    · simpa [List.set] using ((B1.keep (Only.ofDrewN w1 _ [])).set 1 (.int .i64 ((k : Int) + 1)))
    · exact Rp.only r1 (fp' := [g]) ((Only.ofDrewN _ _ _).setCell (by simp) _) (fun b hb hm => h5 (by simp at hm; rwa [← hm]))
  · have hilb : decide ((k : Int) < (l.length : Int)) = false := decide_eq_false (by omega)
    have hn0 : n ≠ 0 := by omega
    have hnb : (n == 0) = false := by simp; omega
    go_quiet (fail)
    go_wp2
    go_ret
    exact ⟨_, rfl, Int.emod_nonneg _ hn0, Int.emod_lt_of_pos _ (by omega), ⟨a, c, (k : Int), x2, B1.keep (Only.ofDrewN w1 _ []), h2, hr2, Rp.keep r1 (Only.ofDrewN w1 _ []), h5⟩, k1.drewN _⟩
set_option maxHeartbeats 4000000 in
theorem roll_any (v : Value) (l : List UInt8) (fc : List Nat) (seed : Int) (w : World) (h : Rd w v l fc) (hl : l.length ≤ 4096) :
    Calls Tryz.prog 9 #[v, .int .u64 seed] w fun e w' => ∃ g, e = .returned (.pointer (some ⟨g, 0, none⟩)) ∧ Dice w' g fc l ∧ w.heap.size ≤ g ∧ Only [] w w' := by
  obtain ⟨a, c, ob, fps, rfl, hfc, hS⟩ := h.open_
  have hlt := Rp.lt h
  go_enter Tryz.func9, Tryz.ntmps9
  go_upto_region 3 with fail
  obtain ⟨x0, hx0⟩ : ∃ x0, x0 = IntKind.u64.wrap (IntKind.u64.wrap (seed * 7919) + (l.length : Int)) := ⟨_, rfl⟩
  have hr0 : 0 ≤ x0 ∧ x0 < 18446744073709551616 := by rw [hx0]; exact wrapu64_rng _
  rw [← hx0]
  clear hx0
  have X0 := Blk.new w [.slice a l.length c, .int .i64 0, .int .u64 x0] 58
  simp only [List.toArray] at X0
  go_loopw [6] (fun i wr => ∃ (j : Nat) (x : Int), j ≤ l.length ∧ i = .int .i64 j ∧ Blk wr w.heap.size [.slice a l.length c, .int .i64 0, .int .u64 x] ∧ (0 ≤ x ∧ x < 18446744073709551616) ∧ Only [] w wr)
    (fun i _ => l.length - (intOf i).toNat)
  case atStart => exact ⟨0, x0, Nat.zero_le _, rfl, X0, hr0, (Only.refl _ _).alloc _⟩
  case round =>
    obtain ⟨W2, hnew⟩ : ∃ W, W = wr := ⟨_, rfl⟩
    subst hnew
    obtain ⟨j, x, hj, rfl, hX, hr, hK⟩ := hrel
    by_cases hlt2 : j < l.length
    · obtain ⟨b, off, cs, rfl, -, hc0, hrb⟩ := hS.at_ j hlt2
      obtain ⟨rfl, -⟩ := hrb
      have hcb0 : w.cell? ⟨b, off + j, none⟩ = some (.int .u8 (l[j].toNat : Int)) := by simpa [Rp.size] using hc0 0 _ rfl
      have hcb := hK.cell (by simp) hcb0
      clear hc0 hcb0
      have y2 := hX.cell 2 rfl
      have p2 := hX.frozen 2
      have hi0 : (0 : Int) ≤ (j : Int) := by omega
      have hi1 : (j : Int) < (l.length : Int) := by omega
      go_wp2
      go_region
      all_goals go_wp2
      have hX2 := (hX.set 2 (.int .u64 (IntKind.u64.wrap (IntKind.u64.wrap (IntKind.u64.wrap (x * 1099511628211) + IntKind.u64.wrap (l[j].toNat : Int)) + 3)))).keep ((Only.refl [] _).drew)
      simp only [List.set] at hX2
      exact ⟨⟨j + 1, _, by omega, by go_num, hX2, wrapu64_rng _, (hK.setCell (by simp) _).drew⟩, by simp [intOf]; omega⟩
    · obtain rfl : j = l.length := by omega
      have hW := Rp.keep h hK
      have HX := Lib.hid hX
      clear hX
      go_wp2
      go_ret
      exact ⟨w.heap.size, rfl, ⟨a, c, 0, x, HX.out, ⟨by omega, by omega⟩, hr, hW, fun hm => by have := hlt _ hm; omega⟩, Nat.le_refl _, hK⟩
end Go.Proofs.YtpkplmnpepkdaaaGreat

namespace Go.Proofs.YtpkplmnpepkdaaaGreat
open Go.RowKit
set_option maxRecDepth 10000

theorem and255 (n : Int) : bits .and .i64 n 255 = n % 256 := by
  have h127 : (BitVec.ofInt 64 255).toNat = 2 ^ 8 - 1 := by decide
  have key : (BitVec.ofInt 64 n &&& BitVec.ofInt 64 255).toNat = (n % ((2 ^ 64 : Nat) : Int)).toNat % 2 ^ 8 := by
    rw [BitVec.toNat_and, BitVec.toNat_ofInt, h127, Nat.and_two_pow_sub_one_eq_mod]
  show IntKind.i64.wrap ((BitVec.ofInt 64 n &&& BitVec.ofInt 64 255).toNat : Nat) = n % 256
  rw [key, IntKind.wrap_i64]
  omega
theorem and30 (n : Int) : bits .and .i64 n 1073741823 = n % 1073741824 := by
  have h127 : (BitVec.ofInt 64 1073741823).toNat = 2 ^ 30 - 1 := by decide
  have key : (BitVec.ofInt 64 n &&& BitVec.ofInt 64 1073741823).toNat = (n % ((2 ^ 64 : Nat) : Int)).toNat % 2 ^ 30 := by
    rw [BitVec.toNat_and, BitVec.toNat_ofInt, h127, Nat.and_two_pow_sub_one_eq_mod]
  show IntKind.i64.wrap ((BitVec.ofInt 64 n &&& BitVec.ofInt 64 1073741823).toNat : Nat) = n % 1073741824
  rw [key, IntKind.wrap_i64]
  omega
/-- the source at block g, over the bytes l -/
def Src (w : World) (g : Nat) (fc : List Nat) (l : List UInt8) : Prop :=
  ∃ a c i h, Blk w g [.slice a l.length c, .int .i64 i, .int .i64 h] ∧ (0 ≤ i ∧ i ≤ l.length) ∧ I64 h ∧ Rd w (.slice a l.length c) l fc ∧ g ∉ fc
theorem Src.keep {w w' : World} {g : Nat} {fc : List Nat} {l : List UInt8} (h : Src w g fc l) (ho : Only [] w w') : Src w' g fc l := by
  obtain ⟨a, c, i, x, h1, h2, h3, h4, h5⟩ := h
  exact ⟨a, c, i, x, h1.keep ho, h2, h3, Rp.keep h4 ho, h5⟩
theorem Src.only {w w' : World} {g : Nat} {fc fp : List Nat} {l : List UInt8} (h : Src w g fc l) (ho : Only fp w w') (hg : g ∉ fp) (hc : ∀ b ∈ fc, b ∉ fp) : Src w' g fc l := by
  obtain ⟨a, c, i, x, h1, h2, h3, h4, h5⟩ := h
  exact ⟨a, c, i, x, h1.only ho hg, h2, h3, Rp.only h4 ho hc, h5⟩
theorem Src.lt {w : World} {g : Nat} {fc : List Nat} {l : List UInt8} (h : Src w g fc l) : g < w.heap.size := by
  obtain ⟨a, c, i, x, h1, -⟩ := h; exact h1.lt
set_option maxHeartbeats 4000000 in
theorem newSource_any (v : Value) (l : List UInt8) (fc : List Nat) (w : World) (h : Rd w v l fc) (hl : l.length ≤ 4096) :
    Calls Tryz.prog 14 #[v] w fun e w' => ∃ g, e = .returned (.pointer (some ⟨g, 0, none⟩)) ∧ Src w' g fc l ∧ w.heap.size ≤ g ∧ Only [] w w' := by
  obtain ⟨a, c, ob, fps, rfl, hfc, hS⟩ := h.open_
  have hlt := Rp.lt h
  go_enter Tryz.func14, Tryz.ntmps14
  go_wp2
  go_loopw [3, 4] (fun hv i wr => ∃ (j : Nat) (x : Int), j ≤ l.length ∧ i = .int .i64 j ∧ hv = .int .i64 x ∧ (0 ≤ x ∧ x ≤ 1073741823) ∧ Only [] w wr)
    (fun _ i _ => l.length - (intOf i).toNat)
  case atStart => exact ⟨0, 590033 + l.length, Nat.zero_le _, rfl, by first | rfl | (congr 1; rw [IntKind.wrap_i64]; omega), by omega, Only.refl _ _⟩
  case round =>
    obtain ⟨W2, hnew⟩ : ∃ W, W = wr := ⟨_, rfl⟩
    subst hnew
    obtain ⟨j, x, hj, rfl, rfl, hr, hK⟩ := hrel
    by_cases hlt2 : j < l.length
    · obtain ⟨b, off, cs, rfl, -, hc0, hrb⟩ := hS.at_ j hlt2
      obtain ⟨rfl, -⟩ := hrb
      have hcb0 : w.cell? ⟨b, off + j, none⟩ = some (.int .u8 (l[j].toNat : Int)) := by simpa [Rp.size] using hc0 0 _ rfl
      have hcb := hK.cell (by simp) hcb0
      clear hc0 hcb0
      have hi0 : (0 : Int) ≤ (j : Int) := by omega
      have hi1 : (j : Int) < (l.length : Int) := by omega
      go_wp2
      exact ⟨⟨j + 1, _, by omega, by go_num, rfl, by rw [and30]; omega, hK⟩, by simp [intOf]; omega⟩
    · obtain rfl : j = l.length := by omega
      have hW := Rp.keep h hK
      have X0 := Blk.new W2 [.slice a l.length c, .int .i64 0, .int .i64 x] 70
      go_wp2
      go_ret
      exact ⟨W2.heap.size, rfl, ⟨a, c, 0, x, X0, ⟨by omega, by omega⟩, by unfold I64; omega, Rp.keep hW ((Only.refl _ _).alloc _), fun hm => by have := hlt _ hm; have := hK.size; omega⟩, hK.size, hK.alloc _⟩
set_option maxHeartbeats 4000000 in
theorem nextByte_any (g : Nat) (fc : List Nat) (l : List UInt8) (w : World) (h : Src w g fc l) (hl : l.length ≤ 4096) :
    Calls Tryz.prog 75 #[.pointer (some ⟨g, 0, none⟩)] w fun e w' => ∃ r : Int, e = .returned (.int .i64 r) ∧ 0 ≤ r ∧ r ≤ 255 ∧ Src w' g fc l ∧ Only [g] w w' := by
  obtain ⟨a, c, i, x, h1, h2, h3, h4, h5⟩ := h
  have y0 := h1.cell 0 rfl
  have y1 := h1.cell 1 rfl
  have y2 := h1.cell 2 rfl
  have p1 := h1.frozen 1
  have p2 := h1.frozen 2
  go_enter Tryz.func75, Tryz.ntmps75
  go_upto_region 2 with fail
  obtain ⟨x2, hx2⟩ : ∃ x2, x2 = wrap64 (wrap64 (x * 6364136223846793005) + 1442695040888963407) := ⟨_, rfl⟩
  have hr2 : I64 x2 := by rw [hx2]; unfold wrap64 I64; omega
  rw [← hx2]
  clear hx2
  have B1 := h1.set 2 (.int .i64 x2)
  simp only [List.set] at B1
  have k1 : Only [g] w (w.setCell ⟨g, 2, none⟩ (.int .i64 x2)) := (Only.refl _ _).setCell (by simp) _
  have r1 : Rd (w.setCell ⟨g, 2, none⟩ (.int .i64 x2)) (.slice a l.length c) l fc := Rp.only h4 k1 (fun b hb hm => h5 (by simp at hm; rwa [← hm]))
  obtain ⟨w1, hw1⟩ : ∃ w1, w1 = w.setCell ⟨g, 2, none⟩ (.int .i64 x2) := ⟨_, rfl⟩
  rw [← hw1] at B1 k1 r1 ⊢
  clear hw1 y0 y1 y2 p1 p2 h1 h4 h3
  have y0 := B1.cell 0 rfl
  have y1 := B1.cell 1 rfl
  have y2 := B1.cell 2 rfl
  go_quiet (fail)
  go_wp2
  obtain ⟨v3, hv3⟩ : ∃ v3, v3 = bits BinOp.and IntKind.i64 (bits BinOp.xor IntKind.i64 (x2 / 8589934592) (x2 / 35184372088832)) 255 := ⟨_, rfl⟩
  have hr3 : 0 ≤ v3 ∧ v3 ≤ 255 := by rw [hv3, and255]; omega
  rw [← hv3]
  clear hv3
  obtain ⟨ob, fps, hfc, hS⟩ : ∃ ob fps, fc = ob ++ fps.flatten ∧ SeqA w1 a c l ob fps := by obtain ⟨a', c', ob, fps, hv, hf, hs⟩ := r1.open_; injection hv with e1 _ e2; subst e1; subst e2; exact ⟨ob, fps, hf, hs⟩
  obtain ⟨k, rfl⟩ := Int.eq_ofNat_of_zero_le h2.1
  have hwk : IntKind.i64.wrap ((k : Int) + 1) = (k : Int) + 1 := by rw [IntKind.wrap_i64]; omega
  by_cases hil : k < l.length
  · have hilb : decide ((k : Int) < (l.length : Int)) = true := decide_eq_true (by omega)
    obtain ⟨b, off, cs, rfl, -, hc0, hrb⟩ := hS.at_ k hil
    obtain ⟨rfl, -⟩ := hrb
    have hcb : w1.cell? ⟨b, off + k, none⟩ = some (.int .u8 (l[k].toNat : Int)) := by simpa [Rp.size] using hc0 0 _ rfl
    clear hc0
    have hby : l[k].toNat < 256 := UInt8.toNat_lt _
    have hw8 : wrap64 (l[k].toNat : Int) = (l[k].toNat : Int) := by unfold wrap64; omega
    have hws : IntKind.i64.wrap (v3 + (l[k].toNat : Int)) = v3 + (l[k].toNat : Int) := by rw [IntKind.wrap_i64]; omega
    have hi0 : (0 : Int) ≤ (k : Int) := by omega
    have hi1 : (k : Int) < (l.length : Int) := by omega
    have p1 := B1.frozen 1
    go_quiet (fail)
    go_wp2
    go_quiet (fail)
    go_wp2
    go_ret
    refine ⟨_, rfl, by rw [and255]; omega, by rw [and255]; omega, ⟨some ⟨b, off, none⟩, c, (k : Int) + 1, x2, ?_, ⟨by omega, by omega⟩, hr2, ?_, h5⟩, (k1.drewN _).setCell (by simp) _⟩
    · simpa [List.set] using ((B1.keep (Only.ofDrewN w1 _ [])).set 1 (.int .i64 ((k : Int) + 1)))
    · exact Rp.only r1 (fp' := [g]) ((Only.ofDrewN _ _ _).setCell (by simp) _) (fun b hb hm => h5 (by simp at hm; rwa [← hm]))
  · have hilb : decide ((k : Int) < (l.length : Int)) = false := decide_eq_false (by omega)
    go_quiet (fail)
    go_wp2
    go_ret
    exact ⟨v3, rfl, hr3.1, hr3.2, ⟨a, c, (k : Int), x2, B1.keep (by with_reducible repeat (first | exact Only.refl _ _ | assumption | refine Only.drewN ?_ _ | refine Only.drew ?_ | refine Only.alloc ?_ _ | refine Only.setCell ?_ (by intro hh; exfalso; simp at hh; try omega) _ | refine Only.trans ?_ (by assumption))), h2, hr2, Rp.keep r1 (by with_reducible repeat (first | exact Only.refl _ _ | assumption | refine Only.drewN ?_ _ | refine Only.drew ?_ | refine Only.alloc ?_ _ | refine Only.setCell ?_ (by intro hh; exfalso; simp at hh; try omega) _ | refine Only.trans ?_ (by assumption))), h5⟩, k1.trans (by with_reducible repeat (first | exact Only.refl _ _ | assumption | refine Only.drewN ?_ _ | refine Only.drew ?_))⟩
set_option maxHeartbeats 2000000 in
theorem srcBelow_any (g : Nat) (fc : List Nat) (l : List UInt8) (n : Int) (w : World) (h : Src w g fc l) (hl : l.length ≤ 4096) (hn : n ≤ 9223372036854775807) :
    Calls Tryz.prog 34 #[.pointer (some ⟨g, 0, none⟩), .int .i64 n] w fun e w' => ∃ r : Int, e = .returned (.int .i64 r) ∧ 0 ≤ r ∧ (r < n ∨ r = 0) ∧ Src w' g fc l ∧ Only [g] w w' := by
  by_cases h0 : n ≤ 0
  · go_enter Tryz.func34, Tryz.ntmps34
    go_wp2
    go_ret
    exact ⟨0, rfl, by omega, .inr rfl, h, Only.refl _ _⟩
  by_cases h1 : n ≤ 256
  · have hn0 : n ≠ 0 := by omega
    go_enter Tryz.func34, Tryz.ntmps34
    go_wp2_with (first
      | (go_at_call 75; (with_reducible refine (nextByte_any g fc l w h hl).mono ?_); rintro e w1 ⟨r, rfl, r0, r1, D1, K1⟩)
      | fail "no arm")
    go_ret
    exact ⟨r % n, rfl, Int.emod_nonneg _ hn0, .inl (Int.emod_lt_of_pos _ (by omega)), D1, K1⟩
  · have hn0 : n ≠ 0 := by omega
    go_enter Tryz.func34, Tryz.ntmps34
    go_wp2_with (first
      | (go_at_call 75; (with_reducible refine (nextByte_any g fc l w h hl).mono ?_); rintro e w1 ⟨r, rfl, r0, r1, D1, K1⟩)
      | (go_at_call 75; (with_reducible refine (nextByte_any g fc l w1 D1 hl).mono ?_); rintro e w2 ⟨r2, rfl, r20, r21, D2, K2⟩)
      | (go_at_call 75; (with_reducible refine (nextByte_any g fc l w2 D2 hl).mono ?_); rintro e w3 ⟨r3, rfl, r30, r31, D3, K3⟩)
      | (go_at_call 75; (with_reducible refine (nextByte_any g fc l w3 D3 hl).mono ?_); rintro e w4 ⟨r4, rfl, r40, r41, D4, K4⟩; have q1 : IntKind.i64.wrap (r * 16777216) = r * 16777216 := (by rw [IntKind.wrap_i64]; omega); have q2 : IntKind.i64.wrap (r2 * 65536) = r2 * 65536 := (by rw [IntKind.wrap_i64]; omega); have q3 : IntKind.i64.wrap (r * 16777216 + r2 * 65536) = r * 16777216 + r2 * 65536 := (by rw [IntKind.wrap_i64]; omega); have q4 : IntKind.i64.wrap (r3 * 256) = r3 * 256 := (by rw [IntKind.wrap_i64]; omega); have q5 : IntKind.i64.wrap (r * 16777216 + r2 * 65536 + r3 * 256) = r * 16777216 + r2 * 65536 + r3 * 256 := (by rw [IntKind.wrap_i64]; omega); have q6 : IntKind.i64.wrap (r * 16777216 + r2 * 65536 + r3 * 256 + r4) = r * 16777216 + r2 * 65536 + r3 * 256 + r4 := (by rw [IntKind.wrap_i64]; omega))
      | fail "no arm")
    go_ret
    exact ⟨(r * 16777216 + r2 * 65536 + r3 * 256 + r4) % n, rfl, Int.emod_nonneg _ hn0, .inl (Int.emod_lt_of_pos _ (by omega)), D4, ((K1.trans K2).trans K3).trans K4⟩
set_option maxHeartbeats 1000000 in
theorem oneIn_any (g : Nat) (fc : List Nat) (l : List UInt8) (n : Int) (w : World) (h : Src w g fc l) (hl : l.length ≤ 4096) (hn : n ≤ 9223372036854775807) :
    Calls Tryz.prog 33 #[.pointer (some ⟨g, 0, none⟩), .int .i64 n] w fun e w' => ∃ r : Bool, e = .returned (.bool r) ∧ Src w' g fc l ∧ Only [g] w w' := by
  go_enter Tryz.func33, Tryz.ntmps33
  go_wp2_with (first
    | (go_at_call 34; (with_reducible refine (srcBelow_any g fc l n w h hl hn).mono ?_); rintro e w1 ⟨r, rfl, r0, r1, D1, K1⟩)
    | fail "no arm")
  go_ret
  exact ⟨r == 0, rfl, D1, K1⟩
set_option maxHeartbeats 1000000 in
theorem between_rng (g : Nat) (fc : List Nat) (l : List UInt8) (lo hi : Int) (w : World) (h : Src w g fc l) (hl : l.length ≤ 4096) (h1 : lo ≤ hi) (h2 : -1000000 ≤ lo) (h3 : hi ≤ 1000000) :
    Calls Tryz.prog 35 #[.pointer (some ⟨g, 0, none⟩), .int .i64 lo, .int .i64 hi] w fun e w' => ∃ r : Int, e = .returned (.int .i64 r) ∧ lo ≤ r ∧ r ≤ hi ∧ Src w' g fc l ∧ Only [g] w w' := by
  have q1 : IntKind.i64.wrap (hi - lo) = hi - lo := by rw [IntKind.wrap_i64]; omega
  have q2 : IntKind.i64.wrap (hi - lo + 1) = hi - lo + 1 := by rw [IntKind.wrap_i64]; omega
  go_enter Tryz.func35, Tryz.ntmps35
  go_wp2_with (first
    | (go_at_call 34; (with_reducible refine (srcBelow_any g fc l (hi - lo + 1) w h hl (by omega)).mono ?_); rintro e w1 ⟨r, rfl, r0, r1, D1, K1⟩; have q3 : IntKind.i64.wrap (lo + r) = lo + r := (by rw [IntKind.wrap_i64]; omega))
    | fail "no arm")
  go_ret
  exact ⟨lo + r, rfl, by omega, by omega, D1, K1⟩
def extL : List Int := [-1, 0, 1, 2147483648, -2147483648, 1099511627776, 4611686018427387904, -4611686018427387904, 9223372036854775807, -9223372036854775808]
theorem extL_rng : ∀ y ∈ extL, I64 y := by intro y hy; simp [extL] at hy; unfold I64; omega
set_option maxHeartbeats 1000000 in
theorem extremeInt_any (g : Nat) (fc : List Nat) (l : List UInt8) (w : World) (h : Src w g fc l) (hl : l.length ≤ 4096) :
    Calls Tryz.prog 113 #[.pointer (some ⟨g, 0, none⟩)] w fun e w' => ∃ r : Int, e = .returned (.int .i64 r) ∧ I64 r ∧ Src w' g fc l ∧ Only [g] w w' := by
  have hlt := h.lt
  have hB := Blk.new w (extL.map (Value.int .i64)) 2
  have ho : Only [] w (w.alloc (.cells (extL.map (Value.int .i64)).toArray 2)) := (Only.refl _ _).alloc _
  go_enter Tryz.func113, Tryz.ntmps113
  go_wp2_with (first
    | (go_at_call 34; (with_reducible refine (srcBelow_any g fc l 10 _ (h.keep (by with_reducible repeat (first | exact Only.refl _ _ | assumption | refine Only.drewN ?_ _ | refine Only.drew ?_ | refine Only.alloc ?_ _ | refine Only.setCell ?_ (by intro hh; exfalso; simp at hh; try omega) _ | refine Only.trans ?_ (by assumption)))) hl (by omega)).mono ?_); rintro e w1 ⟨r, rfl, r0, r1, D1, K1⟩; obtain ⟨k, rfl⟩ := Int.eq_ofNat_of_zero_le r0; have hk : k < extL.length := (by show k < 10; omega); have hB1 := hB.only K1 (by simp; omega); have c1 := hB1.cell k (v := .int .i64 extL[k]) (by simp [hk]); have hk0 : (0 : Int) ≤ (k : Int) := (by omega); have hk1 : (k : Int) < 10 := (by omega))
    | fail "no arm")
  go_ret
  exact ⟨extL[k], rfl, extL_rng _ (List.getElem_mem _), D1, (ho.weaken [g]).trans K1⟩
end Go.Proofs.YtpkplmnpepkdaaaGreat

namespace Go.Proofs.YtpkplmnpepkdaaaGreat
open Go.RowKit
set_option maxRecDepth 10000

set_option maxHeartbeats 400000 in
theorem IndexFunc_rows (f : FuncId) (caps : Array Value) (pr : List Int → Bool) (hcf : ∀ args w, (callFunc f args).run Tryz.prog w = .ok (.enter f args) w)
    (v : Value) (l : List (List Int)) (fp : List Nat) (w : World) (h : Rd w v l fp)
    (hc : ∀ x ∈ l, ∀ u f' w', Only [] w w' → Rd w' u x f' → Calls Tryz.prog f (#[u] ++ caps) w' fun e w'' => e = .returned (.bool (pr x)) ∧ Only [] w' w'') :
    Calls Tryz.prog 118 #[v, .func (.func f) #[] caps] w fun e w' => e = .returned (.int .i64 (idxF pr l)) ∧ Only [] w w' := by
  obtain ⟨a, cap, ob, fps, rfl, -, hI⟩ := h.open_
  have hb := hI.bound
  have HC := Lib.hid hc
  clear hc
  go_enter Tryz.func118, Tryz.ntmps118
  go_wp2
  go_loopw [5, 8] (fun i t wr => ∃ j : Nat, j ≤ l.length ∧ t = .int .i64 j ∧ (∀ x ∈ l.take j, pr x = false) ∧ Only [] w wr)
    (fun _ t _ => l.length - (intOf t).toNat)
  case atStart => exact ⟨0, Nat.zero_le _, rfl, by simp, Only.refl _ _⟩
  case round =>
    obtain ⟨j, hj, rfl, hr, hK⟩ := hrel
    have Hr := Lib.hid hr; clear hr
    by_cases hlt : j < l.length
    · obtain ⟨b, off, u, rfl, -, hc0, hv0⟩ := hI.atRow j hlt
      have hc := hK.cell (by simp) hc0
      have hv := Rp.keep hv0 hK
      clear hc0 hv0
      rcases hp : pr l[j]
      all_goals go_wp2_with (with_reducible refine (HC.out l[j] (List.getElem_mem _) u _ wr hK hv).mono ?_; rintro e w1 ⟨rfl, hk1⟩)
      · go_roundw
        case rel => exact ⟨j + 1, by omega, by go_num, by
          rw [take_succ_get l j hlt]; intro x hx
          rcases List.mem_append.1 hx with hx | hx
          · exact Hr.out x hx
          · simp at hx; subst hx; exact hp, hK.trans hk1⟩
        case measure => simp [intOf]; omega
      · go_ret
        exact ⟨ret_int (idxF_some hlt Hr.out hp).symm, hK.trans hk1⟩
    · go_wp2
      go_ret
      exact ⟨ret_int (idxF_none (by have := Hr.out; rwa [List.take_of_length_le (by omega)] at this)).symm, hK⟩
set_option maxHeartbeats 400000 in
theorem ContainsFunc_rows (f : FuncId) (caps : Array Value) (pr : List Int → Bool) (hcf : ∀ args w, (callFunc f args).run Tryz.prog w = .ok (.enter f args) w)
    (v : Value) (l : List (List Int)) (fp : List Nat) (w : World) (h : Rd w v l fp)
    (hc : ∀ x ∈ l, ∀ u f' w', Only [] w w' → Rd w' u x f' → Calls Tryz.prog f (#[u] ++ caps) w' fun e w'' => e = .returned (.bool (pr x)) ∧ Only [] w' w'') :
    Calls Tryz.prog 100 #[v, .func (.func f) #[] caps] w fun e w' => e = .returned (.bool (l.any pr)) ∧ Only [] w w' := by
  have HC := Lib.hid hc
  clear hc
  go_enter Tryz.func100, Tryz.ntmps100
  go_wp2_with ((go_at_call 118; (with_reducible refine (IndexFunc_rows f caps pr hcf v l _ w h HC.out).mono ?_); rintro e w1 ⟨rfl, hk⟩))
  go_ret
  exact ⟨ret_bool idxF_ge, hk⟩

def genB (n : Int) (g : List Int) : Bool := decide ((g.length : Int) = n) && permB g
def gensB (n : Int) (gens : List (List Int)) : Bool := inR n 1 20 && decide (gens.length ≤ 8) && gens.all (genB n)
set_option maxHeartbeats 1000000 in
theorem specIsGens_any (n : Int) (a : Option Addr) (cap : Nat) (l : List (List Int)) (ob : List Nat) (fps : List (List Nat)) (w : World) (h : SeqA w a cap l ob fps) :
    Calls Tryz.prog 55 #[.int .i64 n, .slice a l.length cap] w fun e w' => e = .returned (.bool (gensB n l)) ∧ Drew w w' := by
  have hb := h.bound
  rcases hq : inR n 1 20
  · go_enter Tryz.func55, Tryz.ntmps55
    go_wp2_with ((go_at_call 53; (with_reducible refine (inRange_any n 1 20 _).mono ?_); rintro e w ⟨rfl, rfl⟩))
    go_ret
    exact ⟨ret_bool (by unfold gensB; rw [hq]; rfl), Drew.refl _⟩
  by_cases hl : 8 < l.length
  · go_enter Tryz.func55, Tryz.ntmps55
    go_wp2_with ((go_at_call 53; (with_reducible refine (inRange_any n 1 20 _).mono ?_); rintro e w ⟨rfl, rfl⟩))
    go_ret
    exact ⟨ret_bool (by unfold gensB; rw [hq, decide_eq_false (by omega)]; rfl), Drew.refl _⟩
  have hfin : gensB n l = l.all (genB n) := by unfold gensB; rw [hq, decide_eq_true (by omega)]; rfl
  have Hfin := Lib.hid hfin; clear hfin
  go_enter Tryz.func55, Tryz.ntmps55
  go_wp2_with ((go_at_call 53; (with_reducible refine (inRange_any n 1 20 _).mono ?_); rintro e w ⟨rfl, rfl⟩))
  go_loopw [5] (fun i wr => ∃ j : Nat, j ≤ l.length ∧ i = .int .i64 j ∧ (∀ x ∈ l.take j, genB n x = true) ∧ Drew w wr)
    (fun i _ => l.length - (intOf i).toNat)
  case atStart => exact ⟨0, Nat.zero_le _, rfl, by simp, Drew.refl _⟩
  case round =>
    obtain ⟨j, hj, rfl, hr, k, rfl⟩ := hrel
    have Hr := Lib.hid hr; clear hr
    by_cases hlt : j < l.length
    · obtain ⟨b, off, v, rfl, -, hc, hv⟩ := h.atRow j hlt
      obtain ⟨a2, c2, rfl, hI⟩ := hv.ints
      have hb2 := hI.bound
      by_cases c1 : (l[j].length : Int) = n
      · have d1 : ((l[j].length : Int) != n) = false := by simp [c1]
        have C1 := Lib.hid c1; clear c1
        rcases c2 : permB l[j]
        all_goals go_wp2_with ((go_at_call 85; (with_reducible refine (specIsPerm_rd _ l[j] _ _ (Rp.keep hv (Only.ofDrewN _ _ _))).mono ?_); rintro e w1 ⟨rfl, n1, rfl⟩))
        · go_ret
          exact ⟨ret_bool (by rw [Hfin.out, eq_comm, List.all_eq_false]; exact ⟨l[j], List.getElem_mem _, by simp [genB, c2]⟩), ⟨_, rfl⟩⟩
        · go_roundw
          case rel => exact ⟨j + 1, by omega, by go_num, by
            rw [take_succ_get l j hlt]; intro x hx
            rcases List.mem_append.1 hx with hx | hx
            · exact Hr.out x hx
            · simp at hx; subst hx; simp [genB, c2, C1.out], ⟨_, rfl⟩⟩
          case measure => simp [intOf]; omega
      · have d1 : ((l[j].length : Int) != n) = true := by simp [c1]
        have C1 := Lib.hid c1; clear c1
        go_wp2
        go_ret
        exact ⟨ret_bool (by rw [Hfin.out, eq_comm, List.all_eq_false]; exact ⟨l[j], List.getElem_mem _, by simp [genB, C1.out]⟩), ⟨_, rfl⟩⟩
    · go_wp2
      go_ret
      exact ⟨ret_bool (by rw [Hfin.out, eq_comm, List.all_eq_true]; have := Hr.out; rwa [List.take_of_length_le (by omega)] at this), ⟨_, rfl⟩⟩
theorem specIsGens_rd (n : Int) (v : Value) (l : List (List Int)) (fp : List Nat) (w : World) (h : Rd w v l fp) :
    Calls Tryz.prog 55 #[.int .i64 n, v] w fun e w' => e = .returned (.bool (gensB n l)) ∧ Drew w w' := by
  obtain ⟨a, cap, ob, fps, rfl, -, hs⟩ := h.open_
  exact specIsGens_any n a cap l ob fps w hs
theorem lengthInt_q (v : Value) (l : List Int) (fp : List Nat) (w : World) (h : Rd w v l fp) :
    Calls Tryz.prog 102 #[v] w fun e w' => e = .returned (.int .i64 l.length) ∧ Drew w w' :=
  (lengthInt_rd v l fp w h).mono fun _ _ ⟨h1, h2⟩ => ⟨h1, by rw [h2]; exact Drew.refl _⟩
set_option maxHeartbeats 1000000 in
theorem IsGens_closure (n : Int) (u : Value) (x : List Int) (fp : List Nat) (b : Nat) (w : World) (h : Rd w u x fp) (hc : w.cell? ⟨b, 0, none⟩ = some (.int .i64 n)) :
    Calls Tryz.prog 101 #[u, .pointer (some ⟨b, 0, none⟩)] w fun e w' => e = .returned (.bool (!genB n x)) ∧ Only [] w w' := by
  obtain ⟨a, cap, rfl, hI⟩ := h.ints
  have hb := hI.bound
  by_cases c1 : (x.length : Int) = n
  · have d1 : ((x.length : Int) != n) = false := by simp [c1]
    have hg : genB n x = permB x := by simp [genB, c1]
    have Hg := Lib.hid hg; clear hg c1
    rcases c2 : permB x
    all_goals go_enter Tryz.func101, Tryz.ntmps101
    all_goals go_wp2
    all_goals go_quiet (first
      | (go_at_call 102; exact quiet_drewN0 (lengthInt_q _ x fp _ (Rp.keep h (Only.ofDrewN _ _ _))))
      | (go_at_call 103; exact quiet_drewN0 (implIsPerm_rd _ x fp _ (Rp.keep h (Only.ofDrewN _ _ _)))))
    all_goals go_wp2
    all_goals go_ret
    all_goals exact ⟨ret_bool (by rw [Hg.out, c2]; rfl), Only.ofDrewN _ _ _⟩
  · have d1 : ((x.length : Int) != n) = true := by simp [c1]
    have hg : genB n x = false := by simp [genB, c1]
    have Hg := Lib.hid hg; clear hg c1
    go_enter Tryz.func101, Tryz.ntmps101
    go_wp2
    go_quiet (first
      | (go_at_call 102; exact quiet_drewN0 (lengthInt_q _ x fp _ (Rp.keep h (Only.ofDrewN _ _ _))))
      | (go_at_call 103; exact quiet_drewN0 (implIsPerm_rd _ x fp _ (Rp.keep h (Only.ofDrewN _ _ _)))))
    go_wp2
    go_ret
    exact ⟨ret_bool (by rw [Hg.out]; rfl), Only.ofDrewN _ _ _⟩
set_option maxHeartbeats 1000000 in
theorem implIsGens_rd (n : Int) (v : Value) (l : List (List Int)) (fp : List Nat) (w : World) (h : Rd w v l fp) :
    Calls Tryz.prog 76 #[.int .i64 n, v] w fun e w' => e = .returned (.bool (gensB n l)) ∧ Only [] w w' := by
  obtain ⟨a, cap, ob, fps, rfl, -, hs⟩ := h.open_
  have hb := hs.bound
  rcases hq : inR n 1 20
  · go_enter Tryz.func76, Tryz.ntmps76
    go_wp2_with ((go_at_call 47; (with_reducible refine (within_any n 1 20 _).mono ?_); rintro e w1 ⟨rfl, rfl⟩))
    go_ret
    exact ⟨ret_bool (by unfold gensB; rw [hq]; rfl), (by with_reducible repeat (first | exact Only.refl _ _ | assumption | refine Only.drewN ?_ _ | refine Only.drew ?_ | refine Only.alloc ?_ _ | refine Only.setCell ?_ (by intro hh; exfalso; simp at hh; try omega) _ | refine Only.trans ?_ (by assumption)))⟩
  by_cases hl : l.length ≤ 8
  · have hfin : gensB n l = !(l.any fun x => !genB n x) := by unfold gensB; rw [hq, decide_eq_true hl, List.not_any_eq_all_not]; simp
    have Hfin := Lib.hid hfin; clear hfin
    have Hc := Lib.hid (ContainsFunc_rows 101 #[.pointer (some ⟨w.heap.size, 0, none⟩)] (fun x => !genB n x) Tryz.call101 (.slice a l.length cap) l _ (w.alloc (.cells #[.int .i64 n] 2)) (Rp.keep h (by with_reducible repeat (first | exact Only.refl _ _ | assumption | refine Only.drewN ?_ _ | refine Only.drew ?_ | refine Only.alloc ?_ _ | refine Only.setCell ?_ (by intro hh; exfalso; simp at hh; try omega) _ | refine Only.trans ?_ (by assumption))))
      (fun x _ u f' w' hw hu => IsGens_closure n u x f' w.heap.size w' hu (hw.cell (by simp) (by simp))))
    rcases hany : l.any fun x => !genB n x
    all_goals go_enter Tryz.func76, Tryz.ntmps76
    all_goals go_wp2_with (first | (go_at_call 47; refine (within_any n 1 20 _).mono ?_; rintro e w1 ⟨rfl, rfl⟩) | (go_at_call 100; (with_reducible refine (Hc.out).mono ?_); rintro e w1 ⟨rfl, hk⟩))
    all_goals go_ret
    all_goals exact ⟨ret_bool (by rw [Hfin.out, hany]; rfl), (by with_reducible repeat (first | exact Only.refl _ _ | assumption | refine Only.drewN ?_ _ | refine Only.drew ?_ | refine Only.alloc ?_ _ | refine Only.setCell ?_ (by intro hh; exfalso; simp at hh; try omega) _ | refine Only.trans ?_ (by assumption)))⟩
  · go_enter Tryz.func76, Tryz.ntmps76
    go_wp2_with ((go_at_call 47; (with_reducible refine (within_any n 1 20 _).mono ?_); rintro e w1 ⟨rfl, rfl⟩))
    go_ret
    exact ⟨ret_bool (by unfold gensB; rw [hq, decide_eq_false hl]; rfl), (by with_reducible repeat (first | exact Only.refl _ _ | assumption | refine Only.drewN ?_ _ | refine Only.drew ?_ | refine Only.alloc ?_ _ | refine Only.setCell ?_ (by intro hh; exfalso; simp at hh; try omega) _ | refine Only.trans ?_ (by assumption)))⟩
end Go.Proofs.YtpkplmnpepkdaaaGreat

namespace Go.Proofs.YtpkplmnpepkdaaaGreat
open Go.RowKit
set_option maxRecDepth 10000

structure Puzzle where
  points : Int
  names : ByteArray
  moves : List (List Int)

instance : Rp Puzzle where
  size := 3
  rep w cs x fp := ∃ v2, cs = [Value.int .i64 x.points] ++ [Value.string x.names] ++ [v2] ∧ I64 x.points ∧ x.names.size ≤ maxLen ∧ Rd w v2 x.moves fp
  len h := by
    obtain ⟨v2, rfl, p0, p1, h2⟩ := h
    rfl
  frame h hf := by
    obtain ⟨v2, hcs, p0, p1, h2⟩ := h
    exact ⟨v2, hcs, p0, p1, Rp.frame h2 fun b hb => hf b (by simp [hb])⟩
  lt h := by
    obtain ⟨v2, hcs, p0, p1, h2⟩ := h
    intro b hb
    exact Rp.lt h2 b hb

end Go.Proofs.YtpkplmnpepkdaaaGreat

