/- The reference's chain: sift; a product, a generator more. Copies of lists and of tables: the reference's and the program's. The making of chains: the program's newChain, the reference's emptyChain and buildChain. The making of chains: the reference's emptyChain and buildChain; membership. States and reachable states: the reference's and the program's functions. Session: plain data, how it lies in memory, the laws' own helpers on it. (Printed by gen_struct.py.) Valid sessions: the reference's and the program's functions. A new session: the reference's and the program's. What the functions on sessions do with words and histories: pushes, evaluation of words, copies. Words evaluated: the reference's and the program's functions. Histories: a word more, a word less; copies of sessions. Copies of sessions: the reference's and the program's; what they are made of. (Printed by mkseops2.py.) PlayWord: the reference's and the program's. Words taken back from a history: what both RedoWord and UndoWord need. (Printed by mkredo.py.) The reference's search: its own memory (law 16). -/
import Derived.Test.YtkhdmiemfpelcaaGreatRowCrashFillG7
import Derived.Test.YtkhdmiemfpelcaaGreatRowCrashFillG3
import Derived.Test.YtkhdmiemfpelcaaGreatRowCrashFillG2
import Derived.Deep.RegionHeld3
import Derived.Deep.DeepCutAuto
import Derived.Test.YtkhdmiemfpelcaaGreatRowCrashFillG4
import Derived.StillTailTactics
import Derived.Test.YtkhdmiemfpelcaaGreatRowCrashFillG5
import Derived.BigQuiet
import Derived.Deep.RegionLaw
import Derived.Test.YtkhdmiemfpelcaaGreatRowCrashFillG6
namespace Go.Proofs.YtkhdmiemfpelcaaGreat
open Go.RowKit
set_option maxRecDepth 10000


/-- a product treated -/
def PrP (e : TypeId) (B : Nat) (L : Lay) (n k : Nat) (q : List Int) (G : PM.Gens) (T : PM.Rows) (M F f : List Nat) (gv : Nat → Value) (w w' : World) : Prop :=
  ∃ gv' G' T' M' F', Ch e B w' L gv' n G' T' M' F' ∧ PM.Prod n k q G T G' T' ∧ PM.Ln n (k + 1) G' T' ∧ Mv L k gv gv' M M' F F' f w w'
/-- the products Ps treated, the first j of them -/
def PLp (e : TypeId) (B : Nat) (L : Lay) (gv1 : Nat → Value) (n k : Nat) (G1 : PM.Gens) (T1 : PM.Rows) (M1 F1 : List Nat) (W : World) (Ps : List (List Int)) (j : Nat) (wr : World) : Prop :=
  ∃ gv' G' T' M' F', Ch e B wr L gv' n G' T' M' F' ∧ PM.PL n k G1 T1 Ps j G' T' ∧ PM.Ln n (k + 1) G' T' ∧ Mv L k gv1 gv' M1 M' F1 F' [] W wr
section
variable {e : TypeId} {B : Nat} {L : Lay} {gv gv1 gv' : Nat → Value} {n k : Nat} {G G1 G' : PM.Gens} {T T1 T' : PM.Rows} {M M1 M' F F0 F1 F' f : List Nat} {w W2 W wr : World} {Ps : List (List Int)} {j : Nat}
theorem PLp.start (hC : Ch e B W L gv1 n G1 T1 M1 F1) (hB : PM.Base n G1 T1) (hCp : PM.Cpl n (k + 1) G1 T1) (hL : PM.Ln n (k + 1) G1 T1) (Ps : List (List Int)) : PLp e B L gv1 n k G1 T1 M1 F1 W Ps 0 W :=
  ⟨gv1, G1, T1, M1, F1, hC, PM.PL.start hB hCp Ps, hL, Mv.refl _ _ _ _ _ _ _⟩
theorem PLp.step (hk : k < n) (hC : Ch e B wr L gv' n G' T' M' F') (hP : PM.PL n k G1 T1 Ps j G' T') (hM : Mv L k gv1 gv' M1 M' F1 F' [] W wr) (hj : j < Ps.length)
    {w3 w4 : World} (t : Only [] wr w3) {fp : List Nat} (hf : ∀ b ∈ fp, wr.heap.size ≤ b) (ha : PrP e B L n k Ps[j] G' T' M' F' fp gv' w3 w4) : PLp e B L gv1 n k G1 T1 M1 F1 W Ps (j + 1) w4 := by
  obtain ⟨gv2, G2, T2, M2, F2, hC2, hA, hL, hMv⟩ := ha
  exact ⟨gv2, G2, T2, M2, F2, hC2, hP.step hj hA, hL, hM.trans (Mv.before t hMv fun i hi => hC.lM _ (hC.mr i (by omega))) fun b hb => .inr (.inr (Nat.le_trans hM.only.size (hf b hb)))⟩
/-- the second cut: a new entry of the row -/
def A2 (e : TypeId) (B : Nat) (L : Lay) (gv : Nat → Value) (n k m : Nat) (q : List Int) (G : PM.Gens) (T : PM.Rows) (M F f : List Nat) (w wx : World) : Prop :=
  Ch e B wx L gv n G (PM.setT T k m q) M (F ++ f) ∧ Mv L k gv gv M M F (F ++ f) f w wx
theorem A2.of {m : Nat} {q : List Int} {v : Value} {f : List Nat} (hk : k < n) (hC : Ch e B w L gv n G T M F) {w1 : World} (t : Only [] w w1) (hm : m < n) (hv : Rd w v q f) (hq : q ≠ []) (hf : ∀ b ∈ f, b ∉ M) :
    A2 e B L gv n k m q G T M F f w (w1.setCell ⟨L.rb k, m, none⟩ v) := by
  refine ⟨(hC.keep t).setRow hk hm (Rp.keep hv t) hq hf, ((t.weaken M).setCell (fun _ => hC.mr k hk) _), fun _ _ => rfl, fun i hi => ?_, fun _ h => .inl h, fun _ h => h, fun b hb => (List.mem_append.1 hb).imp id .inl, fun b hb => List.mem_append_left _ hb⟩
  have h1 := t.block (L.rb i) (hC.lM _ (hC.mr i (by omega))) (by simp)
  have h2 := (setCell_only w1 (L.rb k) m v).block (L.rb i) (Nat.lt_of_lt_of_le (hC.lM _ (hC.mr i (by omega))) t.size) (by
    intro h
    have h3 : L.rb i = L.rb k := by simpa using h
    have := hC.rr i k (by omega) hk h3
    omega)
  exact h2.trans h1
end
end Go.Proofs.YtkhdmiemfpelcaaGreat

namespace Go.Proofs.YtkhdmiemfpelcaaGreat
open Go.RowKit
set_option maxRecDepth 10000
set_option maxHeartbeats 1000000 in
theorem copyLists_acc (a : Option Addr) (cap : Nat) (l : List (List Int)) (ob : List Nat) (fps : List (List Nat)) (w : World) (h : SeqA w a cap l ob fps) (hl : l.length ≤ 2097152) (hl2 : ∀ x ∈ l, x.length ≤ 2097152) :
    Calls Tryz.prog 67 #[.slice a l.length cap] w fun e w' => ∃ v fs, e = .returned v ∧ Acc w.heap.size 25 w' v l fs ∧ Fresh w.heap.size w' fs.flatten ∧ Only [] w w' := by
  obtain ⟨i0, hi, hz0, hz1, hz2⟩ := info_parts Tryz.info22
  have hb := h.bound
  go_enter Tryz.func67, Tryz.ntmps67
  go_wp2
  go_loopw [3, 4] (fun o i wr => ∃ (j : Nat) (fs : List (List Nat)), j ≤ l.length ∧ i = .int .i64 j ∧ Acc w.heap.size 25 wr o (l.take j) fs ∧ Fresh w.heap.size wr fs.flatten ∧ Only [] w wr)
    (fun _ i _ => l.length - (intOf i).toNat)
  case atStart => exact ⟨0, [], Nat.zero_le _, rfl, Acc.made w w.heap.size _ rfl (Nat.le_refl _), Fresh.nil _ _, (Only.refl _ _).alloc _⟩
  case round =>
    obtain ⟨j, fs, hj, rfl, hA, hF, hK⟩ := hrel
    by_cases hlt : j < l.length
    · obtain ⟨b, off, v, rfl, -, hc0, hv0⟩ := h.atRow j hlt
      have hc := hK.cell (by simp) hc0
      have hv := Rp.keep hv0 hK
      have hlen := hl2 l[j] (List.getElem_mem _)
      have hsz := hK.size
      have hlj : (l.take j).length + 1 ≤ 1073741824 := by simp; omega
      go_wp2_with (first
        | (go_at_call 36; refine (copyInts_rd v l[j] _ _ hv (by omega)).mono ?_; rintro e w2 ⟨v2, fp2, rfl, hv2, hF2, hK2⟩; have hq := hv2.open_; obtain ⟨a2, c2, _, _, rfl, -⟩ := hq)
        | (at_builtin; refine wpList_pushF rfl _ _ 22 rfl w.heap.size 25 i0 _ 24 Tryz.underlying22 hi hz0 hz1 hz2 rfl (by decide) (by decide) wr _ (l.take j) fs rfl hA hF (hK2.alloc _) hsz w2.heap.size 1 [.slice a2 l[j].length c2] l[j] fp2 rfl (lit_src w2 [.slice a2 l[j].length c2] _ rfl) (by intro u hu; simp at hu; subst hu; rfl) (Rp.keep hv2 ((Only.refl _ _).alloc _)) (hF2.keep ((Only.refl _ _).alloc _)) hlj w ((hK.trans hK2).alloc _) (Nat.le_refl _) ?_; intro v3 w3 hA3 hF3 hK3 _))
      go_roundw
      case rel => exact ⟨j + 1, _, by omega, by go_num, by rw [take_succ_get l j hlt]; exact hA3, hF3, hK3⟩
      case measure => simp [intOf]; omega
    · have hjl : j = l.length := by omega
      rw [hjl, List.take_length] at hA
      have HA := Lib.hid hA
      clear hjl hA
      go_wp2
      go_ret
      exact ⟨_, _, rfl, HA.out, hF, hK⟩
theorem copyLists_any (a : Option Addr) (cap : Nat) (l : List (List Int)) (ob : List Nat) (fps : List (List Nat)) (w : World) (h : SeqA w a cap l ob fps) (hl : l.length ≤ 2097152) (hl2 : ∀ x ∈ l, x.length ≤ 2097152) :
    Calls Tryz.prog 67 #[.slice a l.length cap] w fun e w' => ∃ v fp', e = .returned v ∧ Rd w' v l fp' ∧ Fresh w.heap.size w' fp' ∧ Only [] w w' :=
  (copyLists_acc a cap l ob fps w h hl hl2).mono fun _ _ ⟨v, _, he, hA, hF, hK⟩ => ⟨v, _, he, hA.rd (by decide), hA.fresh hF, hK⟩
theorem copyLists_rd (v : Value) (l : List (List Int)) (fp : List Nat) (w : World) (h : Rd w v l fp) (hl : l.length ≤ 2097152) (hl2 : ∀ x ∈ l, x.length ≤ 2097152) :
    Calls Tryz.prog 67 #[v] w fun e w' => ∃ v fp', e = .returned v ∧ Rd w' v l fp' ∧ Fresh w.heap.size w' fp' ∧ Only [] w w' := by
  obtain ⟨a, cap, ob, fps, rfl, -, hs⟩ := h.open_
  exact copyLists_any a cap l ob fps w hs hl hl2



end Go.Proofs.YtkhdmiemfpelcaaGreat

namespace Go.Proofs.YtkhdmiemfpelcaaGreat
open Go.RowKit
set_option maxRecDepth 10000

/-- a header as it lies in a cell -/
structure RawV where
  v : Value
instance : Rp RawV where
  size := 1
  rep _ cs x fp := cs = [x.v] ∧ fp = []
  len h := by rw [h.1]; rfl
  frame h _ := h
  lt h := by rw [h.2]; simp
/-- the blocks of a chain that is being made -/
inductive Key
  | g | tv | gt | row (k : Nat) | emp (k : Nat) | idn (k : Nat)
deriving DecidableEq
structure Sep (B : Nat) (w : World) (S : Key → List Nat) : Prop where
  le : B ≤ w.heap.size
  ge : ∀ a, ∀ x ∈ S a, B ≤ x
  sep : ∀ a b, a ≠ b → ∀ x ∈ S a, x ∉ S b
  lt : ∀ a, ∀ x ∈ S a, x < w.heap.size
def updS (S : Key → List Nat) (a : Key) (l : List Nat) : Key → List Nat := fun b => if b = a then l else S b
theorem updS_same (S : Key → List Nat) (a : Key) (l : List Nat) : updS S a l a = l := if_pos rfl
theorem updS_other (S : Key → List Nat) {a b : Key} (l : List Nat) (h : b ≠ a) : updS S a l b = S b := if_neg h
section
variable {B : Nat} {w w' : World} {S : Key → List Nat}
theorem Sep.keep (h : Sep B w S) (hs : w.heap.size ≤ w'.heap.size) : Sep B w' S := ⟨Nat.le_trans h.le hs, h.ge, h.sep, fun a x hx => Nat.lt_of_lt_of_le (h.lt a x hx) hs⟩
theorem Sep.upd (h : Sep B w S) {a : Key} {l : List Nat} (hl : ∀ x ∈ l, w.heap.size ≤ x ∧ x < w'.heap.size) (hs : w.heap.size ≤ w'.heap.size)   : Sep B w' (updS S a l) := by
  refine ⟨Nat.le_trans h.le hs, fun b x hx => ?_, fun b c hbc x hx hx' => ?_, fun b x hx => ?_⟩
  · unfold updS at hx
    split at hx
    · have := (hl x hx).1; have := h.le; omega
    · exact h.ge b x hx
  · unfold updS at hx hx'
    split at hx
    · rename_i e1
      split at hx'
      · rename_i e2; exact hbc (e1.trans e2.symm)
      · have := (hl x hx).1; have := h.lt c x hx'; omega
    · split at hx'
      · have := (hl x hx').1; have := h.lt b x hx; omega
      · exact h.sep b c hbc x hx hx'
  · unfold updS at hx
    split at hx
    · exact (hl x hx).2
    · exact Nat.lt_of_lt_of_le (h.lt b x hx) hs
end
def rowV (n b : Nat) : Value := .slice (some ⟨b, 0, none⟩) n n
def rowsV (n : Nat) (rb : Nat → Nat) (j : Nat) : List RawV := (List.range j).map fun k => ⟨rowV n (rb k)⟩
def updF {α : Type} (f : Nat → α) (k : Nat) (v : α) : Nat → α := fun j => if j = k then v else f j
theorem updF_same {α : Type} (f : Nat → α) (k : Nat) (v : α) : updF f k v k = v := if_pos rfl
theorem updF_other {α : Type} (f : Nat → α) {j k : Nat} (v : α) (h : j ≠ k) : updF f k v j = f j := if_neg h
theorem rowsV_succ (n : Nat) (rb : Nat → Nat) (j b : Nat) : rowsV n (updF rb j b) (j + 1) = rowsV n rb j ++ [⟨rowV n b⟩] := by
  unfold rowsV
  rw [List.range_succ, List.map_append]
  congr 1
  · refine List.map_congr_left fun k hk => ?_
    rw [updF_other _ _ (by have := List.mem_range.1 hk; omega)]
  · simp [updF_same]

/-- the rows of an empty chain, the first j of them -/
structure Em (e : TypeId) (B n j : Nat) (w : World) (S : Key → List Nat) (tv : Value) (rb : Nat → Nat) (iv : Nat → Value) : Prop where
  sep : Sep B w S
  acc : ∃ fs, Acc B e w tv (rowsV n rb j) fs ∧ fs.flatten = []
  tvS : tv.ownBlock.toList = S .tv
  cell : ∀ k i, k < j → i < n → w.cell? ⟨rb k, i, none⟩ = some (if i = k then iv k else .slice none 0 0)
  own : ∀ k, k < j → Own w [rb k]
  rS : ∀ k, k < j → S (.row k) = [rb k]
  idn : ∀ k, k < j → Rd w (iv k) (PM.pts n) (S (.idn k))
section
variable {e : TypeId} {B n j : Nat} {w w' : World} {S : Key → List Nat} {tv : Value} {rb : Nat → Nat} {iv : Nat → Value}
theorem Sep.start {B : Nat} {w : World} (g gt : List Nat) (hB : B ≤ w.heap.size) (hg : ∀ x ∈ g, x ∉ gt) (hgl : ∀ x ∈ g, B ≤ x ∧ x < w.heap.size) (hgt : ∀ x ∈ gt, B ≤ x ∧ x < w.heap.size) : Sep B w (updS (updS (fun _ => []) .g g) .gt gt) := by
  have hm : ∀ a x, x ∈ updS (updS (fun _ => []) .g g) .gt gt a → (a = .gt ∧ x ∈ gt) ∨ (a = .g ∧ x ∈ g) := by
    intro a x hx
    unfold updS at hx
    split at hx
    · rename_i e; exact .inl ⟨e, hx⟩
    · split at hx
      · rename_i e; exact .inr ⟨e, hx⟩
      · cases hx
  refine ⟨hB, fun a x hx => ?_, fun a b hab x hx hx' => ?_, fun a x hx => ?_⟩
  · rcases hm a x hx with ⟨-, h⟩ | ⟨-, h⟩
    · exact (hgt x h).1
    · exact (hgl x h).1
  · rcases hm a x hx with ⟨e, h⟩ | ⟨e, h⟩
    · rcases hm b x hx' with ⟨e', h'⟩ | ⟨e', h'⟩
      · exact hab (e.trans e'.symm)
      · exact hg x h' h
    · rcases hm b x hx' with ⟨e', h'⟩ | ⟨e', h'⟩
      · exact hg x h h'
      · exact hab (e.trans e'.symm)
  · rcases hm a x hx with ⟨-, h⟩ | ⟨-, h⟩
    · exact (hgt x h).2
    · exact (hgl x h).2
theorem Em.start {S : Key → List Nat} {w : World} (e : TypeId) {B : Nat} (n : Nat) (hs : Sep B w S) (ht : S .tv = []) (rb : Nat → Nat) (iv : Nat → Value) : Em e B n 0 w S (.slice none 0 0) rb iv :=
  ⟨hs, ⟨[], Acc.nil _ _ _, rfl⟩, by rw [ht]; rfl, by intro _ _ h; omega, by intro _ h; omega, by intro _ h; omega, by intro _ h; omega⟩
theorem Em.only (h : Em e B n j w S tv rb iv) {fp : List Nat} (ho : Only fp w w') (hd : ∀ b ∈ fp, b ∉ S .tv ∧ (∀ k, b ∉ S (.row k)) ∧ ∀ k, b ∉ S (.idn k)) : Em e B n j w' S tv rb iv := by
  have hr : ∀ k, k < j → rb k ∉ fp := fun k hk hm => (hd _ hm).2.1 k (by rw [h.rS k hk]; simp)
  obtain ⟨fs, hA, hfs⟩ := h.acc
  refine ⟨h.sep.keep ho.size, ⟨fs, hA.only ho (by rw [hfs]; simp) (fun g hg hm => (hd g hm).1 (by rw [← h.tvS]; simp [hg])), hfs⟩, h.tvS, fun k i hk hi => ho.cell (hr k hk) (h.cell k i hk hi), fun k hk => (h.own k hk).only ho (by simpa using hr k hk), h.rS, fun k hk => Rp.only (h.idn k hk) ho fun b hb hm => (hd b hm).2.2 k hb⟩
theorem Em.keep (h : Em e B n j w S tv rb iv) (ho : Only [] w w') : Em e B n j w' S tv rb iv := h.only ho (by simp)
theorem Em.reS (h : Em e B n j w S tv rb iv) {S' : Key → List Nat} (hs : Sep B w S') (h1 : S' .tv = S .tv) (h2 : ∀ k, S' (.row k) = S (.row k)) (h3 : ∀ k, S' (.idn k) = S (.idn k)) : Em e B n j w S' tv rb iv :=
  ⟨hs, h.acc, by rw [h1]; exact h.tvS, h.cell, h.own, fun k hk => by rw [h2]; exact h.rS k hk, fun k hk => by rw [h3]; exact h.idn k hk⟩
/-- a row more -/
theorem Em.step (h : Em e B n j w S tv rb iv) (hj : j < n) {eI : TypeId} {w1 w2 w4 w5 : World} (hown : w1.ownsRow w.heap.size eI 1 (.slice (some ⟨w.heap.size, 0, none⟩) n n) n (List.replicate n (.slice none 0 0))) (h1 : Only [] w w1)
    {v2 : Value} {f2 : List Nat} (r2 : Rd w2 v2 (PM.pts n) f2) (F2 : Fresh w1.heap.size w2 f2) (h2 : Only [] w1 w2) (h4 : Only [] (w2.setCell ⟨w.heap.size, j, none⟩ v2) w4)
    {tv' : Value} {fs' : List (List Nat)} (hA : Acc B e w5 tv' (rowsV n rb j ++ [⟨rowV n w.heap.size⟩]) fs') (hfs : fs'.flatten = []) (h5 : Only tv.ownBlock.toList w4 w5) (hb : tv'.ownBlock = tv.ownBlock ∨ tv'.ownBlock = some w4.heap.size) :
    ∃ S', Em e B n (j + 1) w5 S' tv' (updF rb j w.heap.size) (updF iv j v2) ∧ S' .g = S .g ∧ S' .gt = S .gt ∧ ∀ k, S' (.emp k) = S (.emp k) := by
  have hs0 : w.heap.size < w1.heap.size := (hown.lt w.heap.size rfl).2
  have hst := setCell_only w2 w.heap.size j v2
  have hsz2 := h2.size
  have hsz3 := hst.size
  have hsz4 := h4.size
  have hsz5 := h5.size
  have htv : ∀ b ∈ tv.ownBlock.toList, b ∈ S .tv ∧ b < w.heap.size := fun b hb' => by
    rw [h.tvS] at hb'; exact ⟨hb', h.sep.lt _ b hb'⟩
  -- the old rows
  have hE3 : Em e B n j (w2.setCell ⟨w.heap.size, j, none⟩ v2) S tv rb iv := ((h.keep h1).keep h2).only hst fun b hb' => by
    have e : b = w.heap.size := by simpa using hb'
    subst e
    exact ⟨fun hm => Nat.lt_irrefl _ (h.sep.lt _ _ hm), fun k hm => Nat.lt_irrefl _ (h.sep.lt _ _ hm), fun k hm => Nat.lt_irrefl _ (h.sep.lt _ _ hm)⟩
  have hE4 := hE3.keep h4
  have hf2 : ∀ b ∈ f2, w1.heap.size ≤ b ∧ b < w2.heap.size := fun b hb' => ⟨F2.ge b hb', F2.lt b hb'⟩
  -- the new row's cells
  have hown2 := owns_keep hown h2
  obtain ⟨hown3, -⟩ := hown2.stored j v2
  have hown4 := owns_keep hown3 h4
  have hown5 := owns_only hown4 h5 fun g hg hm => by
    have := (htv g hm).2
    simp [Value.ownBlock] at hg; omega
  have hr5 : Rd w5 v2 (PM.pts n) f2 := by
    refine Rp.only (Rp.keep (Rp.only r2 hst fun b hb' hm => ?_) h4) h5 fun b hb' hm => ?_
    · have e : b = w.heap.size := by simpa using hm
      have := (hf2 b hb').1; omega
    · have := (htv b hm).2; have := (hf2 b hb').1; omega
  have hE5 : ∀ k i, k < j → i < n → w5.cell? ⟨rb k, i, none⟩ = some (if i = k then iv k else .slice none 0 0) := fun k i hk hi =>
    h5.cell (fun hm => h.sep.sep .tv (.row k) (by simp) _ (htv _ hm).1 (by rw [h.rS k hk]; simp)) (hE4.cell k i hk hi)
  have hO5 : ∀ k, k < j → Own w5 [rb k] := fun k hk => (hE4.own k hk).only h5 fun b hb' hm => by
    have e : b = rb k := by simpa using hb'
    subst e
    exact h.sep.sep .tv (.row k) (by simp) _ (htv _ hm).1 (by rw [h.rS k hk]; simp)
  have hI5 : ∀ k, k < j → Rd w5 (iv k) (PM.pts n) (S (.idn k)) := fun k hk => Rp.only (hE4.idn k hk) h5 fun b hb' hm => h.sep.sep .tv (.idn k) (by simp) b (htv b hm).1 hb'
  -- the blocks
  have hS1 : Sep B w1 (updS S (.row j) [w.heap.size]) := h.sep.upd (fun x hx => by
    have e : x = w.heap.size := by simpa using hx
    omega) h1.size
  have hS2 : Sep B w2 (updS (updS S (.row j) [w.heap.size]) (.idn j) f2) := hS1.upd hf2 hsz2
  have hS4 : Sep B w4 (updS (updS S (.row j) [w.heap.size]) (.idn j) f2) := hS2.keep (by omega)
  have key : ∀ S' : Key → List Nat, Sep B w5 S' → tv'.ownBlock.toList = S' .tv → (∀ k, S' (.row k) = updS S (.row j) [w.heap.size] (.row k)) → (∀ k, S' (.idn k) = updS S (.idn j) f2 (.idn k)) → Em e B n (j + 1) w5 S' tv' (updF rb j w.heap.size) (updF iv j v2) := by
    intro S' hs ht hr hi
    refine ⟨hs, ⟨fs', by rw [rowsV_succ]; exact hA, hfs⟩, ht, fun k i hk hin => ?_, fun k hk => ?_, fun k hk => ?_, fun k hk => ?_⟩
    · by_cases e : k = j
      · subst e
        rw [updF_same, updF_same, hown5.cellAt i (by omega)]
        by_cases e2 : i = k
        · subst e2; simp [hin]
        · rw [if_neg e2, List.getElem?_set_ne (by omega), List.getElem?_replicate, if_pos hin]
      · rw [updF_other _ _ e, updF_other _ _ e]; exact hE5 k i (by omega) hin
    · by_cases e : k = j
      · subst e
        rw [updF_same]
        exact (own_fresh hown5).own
      · rw [updF_other _ _ e]; exact hO5 k (by omega)
    · rw [hr k]
      by_cases e : k = j
      · subst e; rw [updS_same, updF_same]
      · rw [updF_other _ _ e, updS_other _ _ (by simpa using e)]; exact h.rS k (by omega)
    · rw [hi k]
      by_cases e : k = j
      · subst e; rw [updS_same, updF_same]; exact hr5
      · rw [updF_other _ _ e, updS_other _ _ (by simpa using e)]; exact hI5 k (by omega)
  rcases hb with hb | hb
  · refine ⟨updS (updS S (.row j) [w.heap.size]) (.idn j) f2, key _ (hS4.keep hsz5) ?_ (fun k => ?_) (fun k => ?_), ?_, ?_, fun k => ?_⟩
    · rw [hb, h.tvS, updS_other _ _ (by simp), updS_other _ _ (by simp)]
    · rw [updS_other _ _ (by simp)]
    · unfold updS; split <;> rfl
    · rw [updS_other _ _ (by simp), updS_other _ _ (by simp)]
    · rw [updS_other _ _ (by simp), updS_other _ _ (by simp)]
    · rw [updS_other _ _ (by simp), updS_other _ _ (by simp)]
  · have hlt := (hA.ownlt _ hb).2
    refine ⟨updS (updS (updS S (.row j) [w.heap.size]) (.idn j) f2) .tv [w4.heap.size], key _ (hS4.upd (fun x hx => by
      have e : x = w4.heap.size := by simpa using hx
      omega) hsz5) ?_ (fun k => ?_) (fun k => ?_), ?_, ?_, fun k => ?_⟩
    · rw [hb, updS_same]; rfl
    · rw [updS_other _ _ (by simp), updS_other _ _ (by simp)]
    · rw [updS_other _ _ (by simp)]; unfold updS; split <;> rfl
    · rw [updS_other _ _ (by simp), updS_other _ _ (by simp), updS_other _ _ (by simp)]
    · rw [updS_other _ _ (by simp), updS_other _ _ (by simp), updS_other _ _ (by simp)]
    · rw [updS_other _ _ (by simp), updS_other _ _ (by simp), updS_other _ _ (by simp)]
end
/-- the program's rows as far as they are made -/
def NR (eR : TypeId) (n : Nat) (w : World) (g bg : Nat) (j : Nat) (wr : World) : Prop :=
  ∃ S tv rb iv, Em eR w.heap.size n j wr S tv rb iv ∧ S .g = [g] ∧ S .gt = [bg] ∧ (∀ k, S (.emp k) = []) ∧ Blk wr g [.int .i64 n, .slice (some ⟨bg, 0, none⟩) n n, tv] ∧
    wr.ownsRow bg eR 1 (.slice (some ⟨bg, 0, none⟩) n n) n (List.replicate n (.slice none 0 0)) ∧ Only [] w wr
theorem Blk.set {w : World} {g : Nat} {cs : List Value} (h : Blk w g cs) (i : Nat) (v : Value) : Blk (w.setCell ⟨g, i, none⟩ v) g (cs.set i v) := by
  obtain ⟨t, h⟩ := h
  refine ⟨t, ?_⟩
  simp [World.setCell, Array.getElem?_modify, h]
theorem Blk.frozen {w : World} {g : Nat} {cs : List Value} (h : Blk w g cs) (i : Nat) : w.frozen? ⟨g, i, none⟩ = false := by
  obtain ⟨t, h⟩ := h; simp [World.frozen?, h]
theorem NR.step {eR eI : TypeId} {n j : Nat} (hj : j < n) {w wr w1 w2 w4 w5 : World} {g bg : Nat} {S : Key → List Nat} {tv : Value} {rb : Nat → Nat} {iv : Nat → Value}
    (hE : Em eR w.heap.size n j wr S tv rb iv) (hg : S .g = [g]) (hgt : S .gt = [bg]) (hem : ∀ k, S (.emp k) = []) (hB : Blk wr g [.int .i64 n, .slice (some ⟨bg, 0, none⟩) n n, tv])
    (hO : wr.ownsRow bg eR 1 (.slice (some ⟨bg, 0, none⟩) n n) n (List.replicate n (.slice none 0 0))) (hK : Only [] w wr)
    (hown : w1.ownsRow wr.heap.size eI 1 (.slice (some ⟨wr.heap.size, 0, none⟩) n n) n (List.replicate n (.slice none 0 0))) (h1 : Only [] wr w1)
    {v2 : Value} {f2 : List Nat} (r2 : Rd w2 v2 (PM.pts n) f2) (F2 : Fresh w1.heap.size w2 f2) (h2 : Only [] w1 w2) (h4 : Only [] (w2.setCell ⟨wr.heap.size, j, none⟩ v2) w4)
    {tv' : Value} {fs' : List (List Nat)} (hA : Acc w.heap.size eR w5 tv' (rowsV n rb j ++ [⟨rowV n wr.heap.size⟩]) fs') (hfs : fs'.flatten = []) (h5 : Only tv.ownBlock.toList w4 w5) (hb : tv'.ownBlock = tv.ownBlock ∨ tv'.ownBlock = some w4.heap.size) :
    NR eR n w g bg (j + 1) (w5.setCell ⟨g, 2, none⟩ tv') := by
  obtain ⟨S', hE', e1, e2, e3⟩ := hE.step hj hown h1 r2 F2 h2 h4 hA hfs h5 hb
  have hst := setCell_only w5 g 2 tv'
  have hst2 := setCell_only w2 wr.heap.size j v2
  have hgS : g ∈ S .g := by rw [hg]; simp
  have hbS : bg ∈ S .gt := by rw [hgt]; simp
  have hgS' : g ∈ S' .g := by rw [e1]; exact hgS
  have hglt := hE.sep.lt _ _ hgS
  have hblt := hE.sep.lt _ _ hbS
  have hgtv : g ∉ tv.ownBlock.toList := by rw [hE.tvS]; exact hE.sep.sep _ _ (by simp) _ hgS
  have hbtv : bg ∉ tv.ownBlock.toList := by rw [hE.tvS]; exact hE.sep.sep _ _ (by simp) _ hbS
  have hgb : g ≠ bg := fun e => hE.sep.sep .g .gt (by simp) _ hgS (e ▸ hbS)
  have hwr : w.heap.size ≤ wr.heap.size := hK.size
  have hw2 : wr.heap.size ≤ w2.heap.size := Nat.le_trans h1.size h2.size
  have hw4 := h4.size
  have hw3 := hst2.size
  refine ⟨S', tv', _, _, hE'.only hst fun b hb' => ?_, by rw [e1, hg], by rw [e2, hgt], fun k => by rw [e3, hem], ?_, ?_, ?_⟩
  · have e : b = g := by simpa using hb'
    subst e
    exact ⟨hE'.sep.sep _ _ (by simp) _ hgS', fun k => hE'.sep.sep _ _ (by simp) _ hgS', fun k => hE'.sep.sep _ _ (by simp) _ hgS'⟩
  · have := (((((hB.keep h1).keep h2).only hst2 (by simp; omega)).keep h4).only h5 hgtv).set 2 tv'
    simpa using this
  · refine owns_only (owns_only (owns_keep (owns_only (owns_keep (owns_keep hO h1) h2) hst2 fun x hx => ?_) h4) h5 fun x hx => ?_) hst fun x hx => ?_
    · have e : bg = x := by simpa [Value.ownBlock] using hx
      subst e; simp; omega
    · have e : bg = x := by simpa [Value.ownBlock] using hx
      subst e; exact hbtv
    · have e : bg = x := by simpa [Value.ownBlock] using hx
      subst e; simpa using hgb.symm
  · refine ((((hK.trans h1).trans h2).setCell (fun h => by simp at h; omega) _).trans h4).then_ h5 (fun x hx hl => ?_) |>.setCell (fun h => ?_) _
    · rw [hE.tvS] at hx
      have := hE.sep.ge _ _ hx; omega
    · have := hE.sep.ge _ _ hgS
      have h' : g < w.heap.size := h
      omega
/-- the generators' loop of a chain: the first j of them are added -/
def CL (eG : TypeId) (L : Lay) (n : Nat) (gens : List (List Int)) (w : World) (j : Nat) (wr : World) : Prop :=
  ∃ (gv : Nat → Value) (G : PM.Gens) (T : PM.Rows) (M F : List Nat), Ch eG w.heap.size wr L gv n G T M F ∧ PM.Chain n (gens.take j) G T ∧ PM.Ln n 0 G T ∧ Only [] w wr
theorem CL.start {eG : TypeId} {L : Lay} {n : Nat} (gens : List (List Int)) {w wr : World} {gv : Nat → Value} {M F : List Nat} (hC : Ch eG w.heap.size wr L gv n (PM.G0 n) (PM.T0 n) M F) (hK : Only [] w wr) : CL eG L n gens w 0 wr :=
  ⟨gv, _, _, M, F, hC, by simpa using PM.Chain.zero n, PM.Ln.zero n, hK⟩
theorem CL.step {eG : TypeId} {L : Lay} {n : Nat} {gens : List (List Int)} {w wr w1 w' : World} {j : Nat} {gv : Nat → Value} {G : PM.Gens} {T : PM.Rows} {M F f : List Nat} (hC : Ch eG w.heap.size wr L gv n G T M F) (hc : PM.Chain n (gens.take j) G T) (hK : Only [] w wr)
    (t : Only [] wr w1) (hj : j < gens.length) (ha : AddP eG w.heap.size L n 0 gens[j] G T M F f gv w1 w') : CL eG L n gens w (j + 1) w' := by
  obtain ⟨gv', G', T', M', F', hC', hA, hL, hM⟩ := ha
  refine ⟨gv', G', T', M', F', hC', ?_, hL, (hK.trans t).then_ hM.only fun x hx hl => ?_⟩
  · rw [take_succ_get gens j hj]; exact hc.step hC'.shape hA
  · have := hC.ge x hx; omega
end Go.Proofs.YtkhdmiemfpelcaaGreat

namespace Go.Proofs.YtkhdmiemfpelcaaGreat
open Go.RowKit
set_option maxRecDepth 10000

def empV (eb : Nat → Nat) (j : Nat) : List RawV := (List.range j).map fun k => ⟨.slice (some ⟨eb k, 0, none⟩) 0 0⟩
theorem empV_succ (eb : Nat → Nat) (j b : Nat) : empV (updF eb j b) (j + 1) = empV eb j ++ [⟨.slice (some ⟨b, 0, none⟩) 0 0⟩] := by
  unfold empV
  rw [List.range_succ, List.map_append]
  congr 1
  · refine List.map_congr_left fun k hk => ?_
    rw [updF_other _ _ (by have := List.mem_range.1 hk; omega)]
  · simp [updF_same]
/-- the reference's chain as far as it is made: j1 rows, j2 lists of generators -/
structure SR (eR eG : TypeId) (n : Nat) (w : World) (g : Nat) (j1 j2 : Nat) (wr : World) (S : Key → List Nat) (tv gt : Value) (rb : Nat → Nat) (iv : Nat → Value) (eb : Nat → Nat) : Prop where
  em : Em eR w.heap.size n j1 wr S tv rb iv
  gS : S .g = [g]
  acc : ∃ fs, Acc w.heap.size eR wr gt (empV eb j2) fs ∧ fs.flatten = []
  gtS : gt.ownBlock.toList = S .gt
  emp : ∀ k, k < j2 → S (.emp k) = [eb k] ∧ Acc w.heap.size eG wr (.slice (some ⟨eb k, 0, none⟩) 0 0) ([] : List (List Int)) []
  blk : Blk wr g [.int .i64 n, tv, gt]
  keep : Only [] w wr
section
variable {eR eG eI : TypeId} {n : Nat} {w wr w1 w2 w4 w5 w8 w9 : World} {g j j1 j2 : Nat} {S : Key → List Nat} {tv gt : Value} {rb : Nat → Nat} {iv : Nat → Value} {eb : Nat → Nat}
theorem SR.row (h : SR eR eG n w g j j2 wr S tv gt rb iv eb) (hj : j < n)
    (hown : w1.ownsRow wr.heap.size eI 1 (.slice (some ⟨wr.heap.size, 0, none⟩) n n) n (List.replicate n (.slice none 0 0))) (h1 : Only [] wr w1)
    {v2 : Value} {f2 : List Nat} (r2 : Rd w2 v2 (PM.pts n) f2) (F2 : Fresh w1.heap.size w2 f2) (h2 : Only [] w1 w2) (h4 : Only [] (w2.setCell ⟨wr.heap.size, j, none⟩ v2) w4)
    {tv' : Value} {fs' : List (List Nat)} (hA : Acc w.heap.size eR w5 tv' (rowsV n rb j ++ [⟨rowV n wr.heap.size⟩]) fs') (hfs : fs'.flatten = []) (h5 : Only tv.ownBlock.toList w4 w5) (hb : tv'.ownBlock = tv.ownBlock ∨ tv'.ownBlock = some w4.heap.size) :
    ∃ S' rb' iv', SR eR eG n w g (j + 1) j2 (w5.setCell ⟨g, 1, none⟩ tv') S' tv' gt rb' iv' eb := by
  obtain ⟨S', hE', e1, e2, e3⟩ := h.em.step hj hown h1 r2 F2 h2 h4 hA hfs h5 hb
  have hst := setCell_only w5 g 1 tv'
  have hst2 := setCell_only w2 wr.heap.size j v2
  have hgS : g ∈ S .g := by rw [h.gS]; simp
  have hgS' : g ∈ S' .g := by rw [e1]; exact hgS
  have hglt := h.em.sep.lt _ _ hgS
  have hgtv : g ∉ tv.ownBlock.toList := by rw [h.em.tvS]; exact h.em.sep.sep _ _ (by simp) _ hgS
  have hwr : w.heap.size ≤ wr.heap.size := h.keep.size
  have hw2 : wr.heap.size ≤ w2.heap.size := Nat.le_trans h1.size h2.size
  have key : ∀ {β : Type} [Rp β] {e : TypeId} {v : Value} {l : List β} {fs : List (List Nat)}, Acc w.heap.size e wr v l fs → fs.flatten = [] → (∀ b ∈ v.ownBlock.toList, b ∉ S .g ∧ b ∉ S .tv ∧ b < wr.heap.size) → Acc w.heap.size e (w5.setCell ⟨g, 1, none⟩ tv') v l fs := by
    intro β _ e v l fs hA hfs hv
    refine ((((((hA.keep h1).keep h2).only hst2 (by rw [hfs]; simp) fun x hx hm => ?_).keep h4).only h5 (by rw [hfs]; simp) fun x hx hm => ?_).only hst (by rw [hfs]; simp) fun x hx hm => ?_)
    · have e : x = wr.heap.size := by simpa using hm
      have := (hv x (by simp [hx])).2.2; omega
    · rw [h.em.tvS] at hm
      exact (hv x (by simp [hx])).2.1 hm
    · have e : x = g := by simpa using hm
      subst e
      exact (hv x (by simp [hx])).1 hgS
  obtain ⟨fs, hacc, hfs0⟩ := h.acc
  refine ⟨S', _, _, hE'.only hst fun b hb' => ?_, by rw [e1, h.gS], ⟨fs, key hacc hfs0 fun b hb' => ?_, hfs0⟩, by rw [e2]; exact h.gtS, fun k hk => ⟨by rw [e3]; exact (h.emp k hk).1, key (h.emp k hk).2 rfl fun b hb' => ?_⟩, ?_, ?_⟩
  · have e : b = g := by simpa using hb'
    subst e
    exact ⟨hE'.sep.sep _ _ (by simp) _ hgS', fun k => hE'.sep.sep _ _ (by simp) _ hgS', fun k => hE'.sep.sep _ _ (by simp) _ hgS'⟩
  · rw [h.gtS] at hb'
    exact ⟨h.em.sep.sep _ _ (by simp) _ hb', h.em.sep.sep _ _ (by simp) _ hb', h.em.sep.lt _ _ hb'⟩
  · have hb2 : b ∈ S (.emp k) := by rw [(h.emp k hk).1]; simpa [Value.ownBlock, eq_comm] using hb'
    exact ⟨h.em.sep.sep _ _ (by simp) _ hb2, h.em.sep.sep _ _ (by simp) _ hb2, h.em.sep.lt _ _ hb2⟩
  · have := (((((h.blk.keep h1).keep h2).only hst2 (by simp; omega)).keep h4).only h5 hgtv).set 1 tv'
    simpa using this
  · refine ((((h.keep.trans h1).trans h2).setCell (fun h => by simp at h; omega) _).trans h4).then_ h5 (fun x hx hl => ?_) |>.setCell (fun h' => ?_) _
    · rw [h.em.tvS] at hx
      have := h.em.sep.ge _ _ hx; omega
    · have := h.em.sep.ge _ _ hgS
      have h'' : g < w.heap.size := h'
      omega
theorem SR.gen {e0 : Nat} (he0 : e0 = wr.heap.size) (h : SR eR eG n w g j1 j wr S tv gt rb iv eb) (h8 : Only [] (wr.alloc (.cells #[] eG)) w8)
    {gt' : Value} {fs' : List (List Nat)} (hA : Acc w.heap.size eR w9 gt' (empV eb j ++ [⟨.slice (some ⟨e0, 0, none⟩) 0 0⟩]) fs') (hfs : fs'.flatten = []) (h9 : Only gt.ownBlock.toList w8 w9) (hb : gt'.ownBlock = gt.ownBlock ∨ gt'.ownBlock = some w8.heap.size) :
    ∃ S' eb', SR eR eG n w g j1 (j + 1) (w9.setCell ⟨g, 2, none⟩ gt') S' tv gt' rb iv eb' := by
  subst he0
  have hst := setCell_only w9 g 2 gt'
  have h7 : Only [] wr (wr.alloc (.cells #[] eG)) := (Only.refl _ _).alloc _
  have h78 := h7.trans h8
  have hs7 : (wr.alloc (.cells #[] eG)).heap.size = wr.heap.size + 1 := by simp
  have hs8 := h8.size
  have hs9 := h9.size
  have hgS : g ∈ S .g := by rw [h.gS]; simp
  have hglt := h.em.sep.lt _ _ hgS
  have hwr : w.heap.size ≤ wr.heap.size := h.keep.size
  have hggt : g ∉ gt.ownBlock.toList := by rw [h.gtS]; exact h.em.sep.sep _ _ (by simp) _ hgS
  -- the old rows
  have hE9 : Em eR w.heap.size n j1 (w9.setCell ⟨g, 2, none⟩ gt') S tv rb iv := ((h.em.keep h78).only h9 fun b hb' => by
    rw [h.gtS] at hb'
    exact ⟨h.em.sep.sep _ _ (by simp) _ hb', fun k => h.em.sep.sep _ _ (by simp) _ hb', fun k => h.em.sep.sep _ _ (by simp) _ hb'⟩).only hst fun b hb' => by
    have e : b = g := by simpa using hb'
    subst e
    exact ⟨h.em.sep.sep _ _ (by simp) _ hgS, fun k => h.em.sep.sep _ _ (by simp) _ hgS, fun k => h.em.sep.sep _ _ (by simp) _ hgS⟩
  have hemp : ∀ k b, k < j → b ∈ S (.emp k) → b ∉ gt.ownBlock.toList ∧ b ≠ g ∧ b < wr.heap.size := fun k b hk hb' => by
    refine ⟨by rw [h.gtS]; exact h.em.sep.sep _ _ (by simp) _ hb', fun e => h.em.sep.sep .g (.emp k) (by simp) _ hgS (e ▸ hb'), h.em.sep.lt _ _ hb'⟩
  have hS1 : Sep w.heap.size w8 (updS S (.emp j) [wr.heap.size]) := h.em.sep.upd (fun x hx => by
    have e : x = wr.heap.size := by simpa using hx
    omega) (by omega)
  have hgt'S : ∀ x, gt'.ownBlock = some x → x ≠ g := fun x hx e => by
    subst e
    rcases hb with hb | hb
    · rw [hb] at hx; exact hggt (by simp [hx])
    · rw [hb] at hx; injection hx with hx; omega
  have hblk : Blk (w9.setCell ⟨g, 2, none⟩ gt') g [.int .i64 n, tv, gt'] := by
    have := ((h.blk.keep h78).only h9 hggt).set 2 gt'
    simpa using this
  have hkeep : Only [] w (w9.setCell ⟨g, 2, none⟩ gt') := by
    refine ((h.keep.trans h78).then_ h9 fun x hx hl => ?_).setCell (fun h' => ?_) _
    · rw [h.gtS] at hx
      have := h.em.sep.ge _ _ hx; omega
    · have := h.em.sep.ge _ _ hgS
      have h'' : g < w.heap.size := h'
      omega
  have hacc : Acc w.heap.size eR (w9.setCell ⟨g, 2, none⟩ gt') gt' (empV (updF eb j wr.heap.size) (j + 1)) fs' := by
    rw [empV_succ]
    exact hA.only hst (by rw [hfs]; simp) fun x hx hm => hgt'S x hx (by simpa using hm)
  have hnew : Acc w.heap.size eG (w9.setCell ⟨g, 2, none⟩ gt') (.slice (some ⟨wr.heap.size, 0, none⟩) 0 0) ([] : List (List Int)) [] := by
    refine (((Acc.made wr w.heap.size eG rfl hwr).keep h8).only h9 (by simp) fun x hx hm => ?_).only hst (by simp) fun x hx hm => ?_
    · have e : wr.heap.size = x := by simpa [Value.ownBlock] using hx
      rw [h.gtS] at hm
      have := h.em.sep.lt _ _ hm; omega
    · have e : wr.heap.size = x := by simpa [Value.ownBlock] using hx
      have e2 : x = g := by simpa using hm
      omega
  have key : ∀ S' : Key → List Nat, Sep w.heap.size (w9.setCell ⟨g, 2, none⟩ gt') S' → gt'.ownBlock.toList = S' .gt → S' .tv = S .tv → S' .g = S .g → (∀ k, S' (.row k) = S (.row k)) → (∀ k, S' (.idn k) = S (.idn k)) → (∀ k, S' (.emp k) = updS S (.emp j) [wr.heap.size] (.emp k)) →
      SR eR eG n w g j1 (j + 1) (w9.setCell ⟨g, 2, none⟩ gt') S' tv gt' rb iv (updF eb j wr.heap.size) := by
    intro S' hs hgt htv hg hr hi he
    refine ⟨hE9.reS hs htv hr hi, by rw [hg]; exact h.gS, ⟨fs', hacc, hfs⟩, hgt, fun k hk => ?_, hblk, hkeep⟩
    rw [he k]
    by_cases e : k = j
    · subst e
      rw [updS_same, updF_same]
      exact ⟨rfl, hnew⟩
    · rw [updS_other _ _ (by simpa using e), updF_other _ _ e]
      obtain ⟨p1, p2⟩ := h.emp k (by omega)
      have hin : eb k ∈ S (.emp k) := by rw [p1]; simp
      obtain ⟨q1, q2, q3⟩ := hemp k (eb k) (by omega) hin
      refine ⟨p1, ((p2.keep h78).only h9 (by simp) fun x hx hm => ?_).only hst (by simp) fun x hx hm => ?_⟩
      · have e : eb k = x := by simpa [Value.ownBlock] using hx
        subst e; exact q1 hm
      · have e : eb k = x := by simpa [Value.ownBlock] using hx
        subst e; exact q2 (by simpa using hm)
  have hsz9 : (w9.setCell ⟨g, 2, none⟩ gt').heap.size = w9.heap.size := by simp [World.setCell]
  rcases hb with hb | hb
  · refine ⟨updS S (.emp j) [wr.heap.size], _, key _ (hS1.keep (by omega)) ?_ ?_ ?_ (fun k => ?_) (fun k => ?_) (fun k => rfl)⟩
    · rw [hb, h.gtS, updS_other _ _ (by simp)]
    all_goals rw [updS_other _ _ (by simp)]
  · have hlt := (hA.ownlt _ hb).2
    refine ⟨updS (updS S (.emp j) [wr.heap.size]) .gt [w8.heap.size], _, key _ (hS1.upd (fun x hx => by
      have e : x = w8.heap.size := by simpa using hx
      omega) (by omega)) ?_ ?_ ?_ (fun k => ?_) (fun k => ?_) (fun k => ?_)⟩
    · rw [hb, updS_same]; rfl
    · rw [updS_other _ _ (by simp), updS_other _ _ (by simp)]
    · rw [updS_other _ _ (by simp), updS_other _ _ (by simp)]
    · rw [updS_other _ _ (by simp), updS_other _ _ (by simp)]
    · rw [updS_other _ _ (by simp), updS_other _ _ (by simp)]
    · rw [updS_other _ _ (by simp)]
end


end Go.Proofs.YtkhdmiemfpelcaaGreat

namespace Go.Proofs.YtkhdmiemfpelcaaGreat
open Go.RowKit
set_option maxRecDepth 10000

open Classical in
/-- membership in the group that gens generate -/
noncomputable def memB (n : Nat) (gens : List (List Int)) (p : List Int) : Bool := decide (PM.Grp n gens p)
def stateB (x : Puzzle) (s : List Int) : Bool := validPz x && genB x.points s
noncomputable def reachB (x : Puzzle) (s : List Int) : Bool := stateB x s && memB x.points.toNat x.moves s
end Go.Proofs.YtkhdmiemfpelcaaGreat

namespace Go.Proofs.YtkhdmiemfpelcaaGreat
open Go.RowKit
set_option maxRecDepth 10000

structure Session where
  puzzle : Puzzle
  state : List Int
  history : List (List Int)
  future : List (List Int)

instance : Rp Session where
  size := 6
  rep w cs x fp := ∃ c0 v1 v2 v3 f0 f1 f2 f3, cs = c0 ++ [v1] ++ [v2] ++ [v3] ∧ fp = f0 ++ (f1 ++ (f2 ++ f3)) ∧ Rp.rep w c0 x.puzzle f0 ∧ Rd w v1 x.state f1 ∧ Rd w v2 x.history f2 ∧ Rd w v3 x.future f3
  len h := by
    obtain ⟨c0, v1, v2, v3, f0, f1, f2, f3, rfl, -, h0, h1, h2, h3⟩ := h
    simp [Rp.len h0, Rp.size]
  frame h hf := by
    obtain ⟨c0, v1, v2, v3, f0, f1, f2, f3, hcs, rfl, h0, h1, h2, h3⟩ := h
    exact ⟨c0, v1, v2, v3, f0, f1, f2, f3, hcs, rfl, Rp.frame h0 fun b hb => hf b (by simp [hb]), Rp.frame h1 fun b hb => hf b (by simp [hb]), Rp.frame h2 fun b hb => hf b (by simp [hb]), Rp.frame h3 fun b hb => hf b (by simp [hb])⟩
  lt h := by
    obtain ⟨c0, v1, v2, v3, f0, f1, f2, f3, hcs, rfl, h0, h1, h2, h3⟩ := h
    intro b hb
    simp only [List.mem_append] at hb
    rcases hb with hb | hb | hb | hb
    · exact Rp.lt h0 b hb
    · exact Rp.lt h1 b hb
    · exact Rp.lt h2 b hb
    · exact Rp.lt h3 b hb

instance : Mk Session where
  mark k x := ⟨Mk.mark (k) x.puzzle, Mk.mark (k + (Mk.cnt x.puzzle : Nat)) x.state, Mk.mark (k + (Mk.cnt x.puzzle : Nat) + (Mk.cnt x.state : Nat)) x.history, Mk.mark (k + (Mk.cnt x.puzzle : Nat) + (Mk.cnt x.state : Nat) + (Mk.cnt x.history : Nat)) x.future⟩
  cnt x := Mk.cnt x.puzzle + Mk.cnt x.state + Mk.cnt x.history + Mk.cnt x.future
instance : Sz Session where
  sz x := Sz.sz x.puzzle + Sz.sz x.state + Sz.sz x.history + Sz.sz x.future
instance : Sm Session where
  sm x := Sm.sm x.puzzle ∧ Sm.sm x.state ∧ Sm.sm x.history ∧ Sm.sm x.future
instance : SzSm Session := ⟨fun x h => by
  have h' : Sz.sz x.puzzle + Sz.sz x.state + Sz.sz x.history + Sz.sz x.future ≤ 2097152 := h
  exact ⟨SzSm.of_ x.puzzle (by omega), SzSm.of_ x.state (by omega), SzSm.of_ x.history (by omega), SzSm.of_ x.future (by omega)⟩⟩
instance : CntSz Session := ⟨fun x => by
  have h' : Mk.cnt x.puzzle + Mk.cnt x.state + Mk.cnt x.history + Mk.cnt x.future ≤ Sz.sz x.puzzle + Sz.sz x.state + Sz.sz x.history + Sz.sz x.future := by have := CntSz.le x.puzzle; have := CntSz.le x.state; have := CntSz.le x.history; have := CntSz.le x.future; omega
  exact h'⟩
instance : MkL Session := ⟨fun k x => by simp [Mk.mark, Mk.cnt, markL_idem, markL_cnt], fun k x => by simp [Mk.mark, Mk.cnt, markL_cnt]⟩
theorem Session.eq_iff {x y : Session} : x = y ↔ x.puzzle = y.puzzle ∧ x.state = y.state ∧ x.history = y.history ∧ x.future = y.future := by
  cases x; cases y; simp





end Go.Proofs.YtkhdmiemfpelcaaGreat


namespace Go.Proofs.YtkhdmiemfpelcaaGreat
open Go.RowKit
set_option maxRecDepth 10000
end Go.Proofs.YtkhdmiemfpelcaaGreat

namespace Go.Proofs.YtkhdmiemfpelcaaGreat
open Go.RowKit
set_option maxRecDepth 10000

theorem Only.own1 {w W0 w' : World} {g : Nat} (h0 : Only [] w W0) (h : Only [g] W0 w') (hg : w.heap.size ≤ g) : Only [] w w' :=
  h0.then_ h (fun b hb hl => by simp at hb; omega)



end Go.Proofs.YtkhdmiemfpelcaaGreat

namespace Go.Proofs.YtkhdmiemfpelcaaGreat
open Go.RowKit
set_option maxRecDepth 10000
section
variable {α : Type} [Rp α] {w w' : World} {a : Option Addr} {cap : Nat} {xs : List α} {ob : List Nat} {fps : List (List Nat)}
/-- the first k elements -/
theorem SeqA.take (h : SeqA w a cap xs ob fps) (k : Nat) : SeqA w a cap (xs.take k) ob (fps.take k) := by
  have hnf := h.nf
  refine ⟨by have := h.len; simp; omega, h.cap, by simp [hnf], fun j hj => ?_, h.lt, h.one⟩
  have hj' : j < xs.length := by simp at hj; omega
  obtain ⟨b, off, cs, h1, h2, h3, h4⟩ := h.at_ j hj'
  refine ⟨b, off, cs, h1, h2, h3, ?_⟩
  simpa using h4
end
/-- a part of own memory gives way to another one -/
theorem Fresh.repl {B : Nat} {w w' : World} {pre mid mid' post fpw : List Nat} (h : Fresh B w (pre ++ (mid ++ post))) (ho : Only fpw w w') (hf : ∀ b ∈ fpw, b ∈ mid) (F' : Fresh B w' mid') (hs : ∀ b ∈ mid', b ∈ mid ∨ w.heap.size ≤ b) : Fresh B w' (pre ++ (mid' ++ post)) := by
  obtain ⟨n1, n2, n3⟩ := List.nodup_append.1 h.nd
  obtain ⟨n4, n5, n6⟩ := List.nodup_append.1 n2
  have lpre : ∀ b ∈ pre, b < w.heap.size := fun b hb => h.lt b (List.mem_append_left _ hb)
  have lpost : ∀ b ∈ post, b < w.heap.size := fun b hb => h.lt b (List.mem_append_right _ (List.mem_append_right _ hb))
  have dpre : ∀ b ∈ pre, b ∉ mid := fun b hb hm => n3 b hb b (List.mem_append_left _ hm) rfl
  have dpost : ∀ b ∈ post, b ∉ mid := fun b hb hm => n6 b hm b hb rfl
  have dpre' : ∀ b ∈ pre, b ∉ mid' := fun b hb hm => by
    rcases hs b hm with h1 | h1
    · exact dpre b hb h1
    · have := lpre b hb; omega
  have dpost' : ∀ b ∈ post, b ∉ mid' := fun b hb hm => by
    rcases hs b hm with h1 | h1
    · exact dpost b hb h1
    · have := lpost b hb; omega
  refine ⟨List.nodup_append.2 ⟨n1, List.nodup_append.2 ⟨F'.nd, n5, fun a ha b hb e => ?_⟩, fun a ha b hb e => ?_⟩, fun b hb => ?_, ?_⟩
  · subst e; exact dpost' a hb ha
  · subst e
    rcases List.mem_append.1 hb with hb | hb
    · exact dpre' a ha hb
    · exact n3 a ha a (List.mem_append_right _ hb) rfl
  · rcases List.mem_append.1 hb with hb | hb
    · exact h.ge b (List.mem_append_left _ hb)
    · rcases List.mem_append.1 hb with hb | hb
      · exact F'.ge b hb
      · exact h.ge b (List.mem_append_right _ (List.mem_append_right _ hb))
  · exact (h.left.own.only ho fun b hb hm => dpre b hb (hf b hm)).append (F'.own.append (h.right.right.own.only ho fun b hb hm => dpost b hb (hf b hm)))
end Go.Proofs.YtkhdmiemfpelcaaGreat

namespace Go.Proofs.YtkhdmiemfpelcaaGreat
open Go.RowKit
set_option maxRecDepth 10000
end Go.Proofs.YtkhdmiemfpelcaaGreat

namespace Go.Proofs.YtkhdmiemfpelcaaGreat
open Go.RowKit
set_option maxRecDepth 10000
theorem flatten_take : ∀ (fs : List (List Nat)) (k : Nat), (fs.take k).flatten.Sublist fs.flatten
  | [], _ => by simp
  | _ :: _, 0 => by simp
  | f :: fs, k + 1 => by simpa using List.Sublist.append (List.Sublist.refl f) (flatten_take fs k)
theorem Fresh.sublist {B : Nat} {w : World} {fp fp' : List Nat} (h : Fresh B w fp) (hs : fp'.Sublist fp) : Fresh B w fp' :=
  ⟨h.nd.sublist hs, fun b hb => h.ge b (hs.subset hb), h.own.sub fun _ hb => hs.subset hb⟩
section
variable {α : Type} [Rp α] {B : Nat} {e : TypeId} {w : World} {v : Value} {l : List α} {fs : List (List Nat)}
end
end Go.Proofs.YtkhdmiemfpelcaaGreat

namespace Go.Proofs.YtkhdmiemfpelcaaGreat
open Go.RowKit
set_option maxRecDepth 10000

/-- a session of the call's own, in parts -/
structure SeP (eI : TypeId) (B : Nat) (w : World) (x : Session) (vm vs vh vf : Value) (fm fs : List Nat) (hs us : List (List Nat)) : Prop where
  nm : I64 x.puzzle.points ∧ x.puzzle.names.size ≤ maxLen
  mv : Rd w vm x.puzzle.moves fm
  st : Rd w vs x.state fs
  hi : Acc B eI w vh x.history hs
  fu : Acc B eI w vf x.future us
  fr : Fresh B w (fm ++ (fs ++ ((vh.ownBlock.toList ++ hs.flatten) ++ (vf.ownBlock.toList ++ us.flatten))))
section
variable {eI : TypeId} {B : Nat} {w w' : World} {x : Session} {vm vs vh vf : Value} {fm fs : List Nat} {hs us : List (List Nat)}
theorem SeP.only (h : SeP eI B w x vm vs vh vf fm fs hs us) {fp : List Nat} (ho : Only fp w w') (hd : ∀ b ∈ fp, b < B ∨ w.heap.size ≤ b) : SeP eI B w' x vm vs vh vf fm fs hs us := by
  have key : ∀ b ∈ fm ++ (fs ++ ((vh.ownBlock.toList ++ hs.flatten) ++ (vf.ownBlock.toList ++ us.flatten))), b ∉ fp := fun b hb hm => by
    have h1 := h.fr.ge b hb
    have h2 := h.fr.lt b hb
    rcases hd b hm with h3 | h3 <;> omega
  have k1 : ∀ b ∈ fm, b ∉ fp := fun b hb => key b (List.mem_append_left _ hb)
  have k2 : ∀ b ∈ fs, b ∉ fp := fun b hb => key b (List.mem_append_right _ (List.mem_append_left _ hb))
  have k3 : ∀ b ∈ vh.ownBlock.toList ++ hs.flatten, b ∉ fp := fun b hb => key b (List.mem_append_right _ (List.mem_append_right _ (List.mem_append_left _ hb)))
  have k4 : ∀ b ∈ vf.ownBlock.toList ++ us.flatten, b ∉ fp := fun b hb => key b (List.mem_append_right _ (List.mem_append_right _ (List.mem_append_right _ hb)))
  exact ⟨h.nm, Rp.only h.mv ho k1, Rp.only h.st ho k2, h.hi.only ho (fun b hb => k3 b (List.mem_append_right _ hb)) (fun g hg => k3 g (List.mem_append_left _ (by simp [hg]))), h.fu.only ho (fun b hb => k4 b (List.mem_append_right _ hb)) (fun g hg => k4 g (List.mem_append_left _ (by simp [hg]))), h.fr.only ho key⟩
theorem Acc.mono {α : Type} [Rp α] {B B' : Nat} {e : TypeId} {w : World} {v : Value} {l : List α} {fs : List (List Nat)} (h : Acc B e w v l fs) (hB : B' ≤ B) : Acc B' e w v l fs := by
  obtain ⟨css, ho, hr⟩ := h.own
  refine ⟨⟨css, ⟨ho.1, ?_⟩, hr⟩, h.fl, h.apart⟩
  rcases ho.2 with h1 | ⟨g, cp, cur, h1, h2, h3⟩
  · exact .inl h1
  · exact .inr ⟨g, cp, cur, h1, Nat.le_trans hB h2, h3⟩
theorem SeP.mono (h : SeP eI B w x vm vs vh vf fm fs hs us) {B' : Nat} (hB : B' ≤ B) : SeP eI B' w x vm vs vh vf fm fs hs us :=
  ⟨h.nm, h.mv, h.st, h.hi.mono hB, h.fu.mono hB, h.fr.mono hB⟩
/-- parts made one behind the other -/
theorem SeP.made {w1 w2 w3 w4 : World} (nm : I64 x.puzzle.points ∧ x.puzzle.names.size ≤ maxLen) {B1 : Nat} (r1 : Rd w1 vm x.puzzle.moves fm) (F1 : Fresh B1 w1 fm) (r2 : Rd w2 vs x.state fs) (F2 : Fresh w1.heap.size w2 fs) (r3 : Acc w2.heap.size eI w3 vh x.history hs) (F3 : Fresh w2.heap.size w3 hs.flatten)
    (r4 : Acc w3.heap.size eI w4 vf x.future us) (F4 : Fresh w3.heap.size w4 us.flatten) (t2 : Only [] w1 w2) (t3 : Only [] w2 w3) (t4 : Only [] w3 w4) (hB : B ≤ B1) (hB1 : B1 ≤ w1.heap.size) : SeP eI B w4 x vm vs vh vf fm fs hs us := by
  have s2 := t2.size
  have s3 := t3.size
  have s4 := t4.size
  refine ⟨nm, Rp.keep (Rp.keep (Rp.keep r1 t2) t3) t4, Rp.keep (Rp.keep r2 t3) t4, (r3.keep t4).mono (by omega), r4.mono (by omega), ?_⟩
  have f4 := r4.fresh F4
  have f3 := (r3.fresh F3)
  have f34 := Fresh.append (f3.keep t4) f4 s3 fun b hb => f3.lt b hb
  have f234 := Fresh.append ((F2.keep t3).keep t4) f34 s2 fun b hb => F2.lt b hb
  exact (Fresh.append (((F1.keep t2).keep t3).keep t4) f234 hB1 fun b hb => F1.lt b hb).mono hB
theorem SeP.keep (h : SeP eI B w x vm vs vh vf fm fs hs us) (ho : Only [] w w') : SeP eI B w' x vm vs vh vf fm fs hs us := h.only ho (by simp)
theorem SeP.rep (h : SeP eI B w x vm vs vh vf fm fs hs us) : Rp.rep w [.int .i64 x.puzzle.points, .string x.puzzle.names, vm, vs, vh, vf] x (fm ++ (fs ++ ((vh.ownBlock.toList ++ hs.flatten) ++ (vf.ownBlock.toList ++ us.flatten)))) :=
  ⟨[.int .i64 x.puzzle.points, .string x.puzzle.names, vm], vs, vh, vf, fm, fs, _, _, rfl, rfl, ⟨vm, rfl, h.nm.1, h.nm.2, h.mv⟩, h.st, h.hi.rd (by decide), h.fu.rd (by decide)⟩
end
end Go.Proofs.YtkhdmiemfpelcaaGreat

namespace Go.Proofs.YtkhdmiemfpelcaaGreat
open Go.RowKit
set_option maxRecDepth 10000
end Go.Proofs.YtkhdmiemfpelcaaGreat

namespace Go.Proofs.YtkhdmiemfpelcaaGreat
open Go.RowKit
set_option maxRecDepth 10000

/-- the last word; what is ahead of it -/
def lastW (ws : List (List Int)) : List Int := ws.getD (ws.length - 1) []
def restW (ws : List (List Int)) : List (List Int) := ws.take (ws.length - 1)
theorem lastW_get {ws : List (List Int)} (h : 0 < ws.length) : lastW ws = ws[ws.length - 1] := by
  unfold lastW; rw [List.getD_eq_getElem?_getD, List.getElem?_eq_getElem (by omega)]; rfl
section
variable {B : Nat} {e : TypeId} {w : World} {v : Value} {l : List (List Int)} {fs : List (List Nat)}
/-- the last word of a history of the call's own, and the history without it -/
theorem Acc.last (h : Acc B e w v l fs) (hF : Fresh B w fs.flatten) (hl : 0 < l.length) :
    ∃ g c u fu fr, v = .slice (some ⟨g, 0, none⟩) l.length c ∧ l.length ≤ c ∧ c ≤ maxLen ∧ w.cell? ⟨g, l.length - 1, none⟩ = some u ∧ Rd w u (lastW l) fu ∧ (∀ b ∈ fu, b ∈ fs.flatten) ∧
      SeqA w (some ⟨g, 0, none⟩) c l v.ownBlock.toList fs ∧ Rd w (.slice (some ⟨g, 0, none⟩) (l.length - 1) c) (restW l) fr ∧ Fresh B w fr ∧ fr.Sublist (v.ownBlock.toList ++ fs.flatten) := by
  obtain ⟨css, ho, hcl, hr⟩ := h.own
  obtain ⟨a, cap, hv, -, hI⟩ := own_seq (xs := l) (fps := fs) ho (by decide) hcl h.fl hr
  obtain ⟨b, off, u, e1, e2, hc, hu⟩ := hI.atRow (l.length - 1) (by omega)
  have e3 : off = 0 := by
    rcases ho.2 with ⟨h1, h2⟩ | ⟨g, cp, cur, h1, -⟩
    · omega
    · rw [hv] at h1
      injection h1 with h1 _ _
      rw [e1] at h1
      injection h1 with h1
      injection h1
  subst e1
  subst e3
  rw [Nat.zero_add] at hc
  have hsub : (v.ownBlock.toList ++ (fs.take (l.length - 1)).flatten).Sublist (v.ownBlock.toList ++ fs.flatten) := List.Sublist.append (List.Sublist.refl _) (flatten_take fs _)
  refine ⟨b, cap, u, _, _, hv, hI.len, hI.cap, hc, by rw [lastW_get hl]; exact hu, fun x hx => mem_flatten_get (j := l.length - 1) (by rw [h.fl]; omega) hx, hI, ?_, (h.fresh hF).sublist hsub, hsub⟩
  have := (hI.take (l.length - 1)).rd
  rwa [show (l.take (l.length - 1)).length = l.length - 1 by simp] at this
end
section
variable {B : Nat} {w w' : World} {a b c d m' fpw : List Nat}
theorem Fresh.at3 (h : Fresh B w (a ++ (b ++ (c ++ d)))) (ho : Only fpw w w') (hf : ∀ x ∈ fpw, x ∈ c) (F' : Fresh B w' m') (hs : ∀ x ∈ m', x ∈ c ∨ w.heap.size ≤ x) : Fresh B w' (a ++ (b ++ (m' ++ d))) := by
  have := Fresh.repl (pre := a ++ b) (mid := c) (post := d) (by simpa [List.append_assoc] using h) ho hf F' hs
  simpa [List.append_assoc] using this
theorem Fresh.at4 (h : Fresh B w (a ++ (b ++ (c ++ d)))) (ho : Only fpw w w') (hf : ∀ x ∈ fpw, x ∈ d) (F' : Fresh B w' m') (hs : ∀ x ∈ m', x ∈ d ∨ w.heap.size ≤ x) : Fresh B w' (a ++ (b ++ (c ++ m'))) := by
  have := Fresh.repl (pre := a ++ (b ++ c)) (mid := d) (post := []) (by simpa [List.append_assoc] using h) ho hf F' hs
  simpa [List.append_assoc] using this
theorem Fresh.parts (h : Fresh B w (a ++ (b ++ (c ++ d)))) : (∀ x ∈ a, x ∉ c ∧ x ∉ d) ∧ (∀ x ∈ b, x ∉ c ∧ x ∉ d) ∧ (∀ x ∈ c, x ∉ d) := by
  have n1 := List.nodup_append.1 h.nd
  have n2 := List.nodup_append.1 n1.2.1
  have n3 := List.nodup_append.1 n2.2.1
  refine ⟨fun x hx => ⟨fun hm => n1.2.2 x hx x (by simp [hm]) rfl, fun hm => n1.2.2 x hx x (by simp [hm]) rfl⟩, fun x hx => ⟨fun hm => n2.2.2 x hx x (by simp [hm]) rfl, fun hm => n2.2.2 x hx x (by simp [hm]) rfl⟩, fun x hx hm => n3.2.2 x hx x hm rfl⟩
end

end Go.Proofs.YtkhdmiemfpelcaaGreat

namespace Go.Proofs.YtkhdmiemfpelcaaGreat
open Go.RowKit
set_option maxRecDepth 10000

/-- copy(d, s) inside one own row, as a step of a region that draws -/
theorem step_copy_row {P : Program} {ops : Array Oper} {o : Oper} {a : Act} {w : World} {K : Act → World → Prop} {Q : Exit → Act → World → Prop} {E : Prop} (hgd : o.guard = none) (d s : Operand) (dT sT : TypeId)
    (ho : o.op = .call { callee := .builtin .copy, args := #[d, s], argTypes := #[dT, sT] }) (elem : TypeId) (hu : P.underlying dT = some (.slice elem)) (hsz : (P.info? elem).map (·.size) = some 1)
    (dp sp : Option Addr) (dLen dCap sLen sCap : Nat) (hd : a.eval d = .slice dp dLen dCap) (hs : a.eval s = .slice sp sLen sCap)
    (g off : Nat) (cur : List Value) (t : TypeId) (hg : w.heap[g]? = some (.cells cur.toArray t (0, 0))) (cs : List Value) (hn : cs.length = Nat.min sLen dLen)
    (hpos : 0 < cs.length → dp = some ⟨g, off, none⟩ ∧ ∃ ad, sp = some ad ∧ ∀ j v, cs[j]? = some v → w.cell? (ad.add j) = some v)
    (hfit : off + cs.length ≤ cur.length) (h1 : ∀ v ∈ cs, v.oneCell' = true)
    (h : ∀ w', w'.heap[g]? = some (.cells (splice cur off cs).toArray t (0, 0)) → Only [g] w w' → K (a.put o.dst (goInt cs.length)) w') :
    if Region.wanted o (yielded ops a.tmps) = true then Oper.wp P o a w K Q else E := by
  have hw : Region.wanted o (yielded ops a.tmps) = true := by simp [Region.wanted, hgd]
  rw [if_pos hw]
  by_cases h0 : cs.length = 0
  · obtain rfl : cs = [] := List.eq_nil_of_length_eq_zero h0
    have hrun := run_copy_none (P := P) w dT sT o.type elem dp sp dLen dCap sLen sCap hu hsz (by simpa using hn.symm)
    unfold Oper.wp
    simp [execOp, ho, resolve, invoke, builtin, hd, hs, hrun, Result.andThen]
    exact h w (by simpa [splice] using hg) (Only.refl _ _)
  · obtain ⟨rfl, ad, rfl, hsrc⟩ := hpos (by omega)
    have hrun := run_copy_row (P := P) w dT sT o.type elem g off dLen dCap ad sLen sCap cur.toArray t cs hu hsz hg hn hsrc (by simpa using hfit) h1
    unfold Oper.wp
    simp [execOp, ho, resolve, invoke, builtin, hd, hs, hrun, Result.andThen]
    refine h _ (by simpa [splice] using setRow_heap w g _ _ t _ hg) ⟨rfl, rfl, rfl, by simp [World.setRow], fun k _ hk => setRow_other w g k _ (fun e => hk (by simp [e]))⟩
theorem splice_take {α : Type} (l : List α) (off n : Nat) (cs : List α) (h : off + cs.length ≤ n) (hl : n ≤ l.length) : (splice l off cs).take n = splice (l.take n) off cs := by
  unfold splice
  apply List.ext_getElem?
  intro i
  by_cases h1 : i < off
  · rw [List.getElem?_take_of_lt (by omega), List.getElem?_append_left (by simp; omega), List.getElem?_append_left (by simp; omega), List.getElem?_take_of_lt h1, List.getElem?_take_of_lt h1, List.getElem?_take_of_lt (by omega)]
  · have e1 : (l.take off).length = off := by simp; omega
    have e2 : ((l.take n).take off).length = off := by simp; omega
    by_cases h2 : i < n
    · rw [List.getElem?_take_of_lt h2, List.getElem?_append_right (l₁ := l.take off) (by omega), List.getElem?_append_right (l₁ := (l.take n).take off) (by omega), e1, e2]
      by_cases h3 : i - off < cs.length
      · rw [List.getElem?_append_left h3, List.getElem?_append_left h3]
      · rw [List.getElem?_append_right (l₁ := cs) (by omega), List.getElem?_append_right (l₁ := cs) (by omega), List.getElem?_drop, List.getElem?_drop, List.getElem?_take_of_lt (by omega)]
    · rw [List.getElem?_eq_none (by simp; omega), List.getElem?_eq_none (by simp; omega)]
theorem ownsRow_splice {w w' : World} {B : Nat} {e : TypeId} {g n c : Nat} {xs cur : List Value} (hO : w.ownsRow B e 1 (.slice (some ⟨g, 0, none⟩) n c) n xs) (hg : w.heap[g]? = some (.cells cur.toArray e (0, 0)))
    {off : Nat} {cs : List Value} (hf : off + cs.length ≤ n) (hg' : w'.heap[g]? = some (.cells (splice cur off cs).toArray e (0, 0))) : w'.ownsRow B e 1 (.slice (some ⟨g, 0, none⟩) n c) n (splice xs off cs) := by
  rcases hO.2 with ⟨h0, -⟩ | ⟨g2, c2, cur2, hv, hb, hg2, h1, h2, h3, h4⟩
  · cases h0
  · injection hv with hv _ hc; injection hv with hv; injection hv with hv _ _
    subst hv; subst hc
    rw [hg2] at hg; injection hg with hg; injection hg with hg _ _; subst hg
    have hcl : cur.length = c := by simpa using h3
    have hx := hO.1
    simp only [Nat.mul_one] at hx h4
    refine ⟨by rw [length_splice _ _ _ (by omega)]; omega, .inr ⟨g, c, _, rfl, hb, hg', h1, h2, ?_, ?_⟩⟩
    · simp only [List.size_toArray, Nat.mul_one]
      rw [length_splice _ _ _ (by omega), hcl]
    · simp only [Nat.mul_one]
      rw [splice_take _ _ _ _ hf (by omega)]
      rw [← h4]
theorem ins_list {α : Type} (l : List α) (z x : α) (k : Nat) (hk : k ≤ l.length) : (splice (l ++ [z]) (k + 1) (l.drop k)).set k x = l.take k ++ x :: l.drop k := by
  have hl : (splice (l ++ [z]) (k + 1) (l.drop k)).length = l.length + 1 := by rw [length_splice _ _ _ (by simp; omega)]; simp
  apply List.ext_getElem?
  intro i
  have e1 : ((l ++ [z]).take (k + 1)).length = k + 1 := by simp; omega
  have e2 : (l.take k).length = k := by simp; omega
  by_cases h1 : i < k
  · rw [List.getElem?_set_ne (by omega)]
    unfold splice
    rw [List.getElem?_append_left (by omega), List.getElem?_append_left (by omega), List.getElem?_take_of_lt (by omega), List.getElem?_take_of_lt h1, List.getElem?_append_left (by omega)]
  · by_cases h2 : i = k
    · subst h2
      rw [List.getElem?_set_self (by omega), List.getElem?_append_right (by omega), e2, Nat.sub_self]; rfl
    · rw [List.getElem?_set_ne (by omega)]
      unfold splice
      rw [List.getElem?_append_right (l₁ := (l ++ [z]).take (k + 1)) (by omega), List.getElem?_append_right (l₁ := l.take k) (by omega), e1, e2, show i - k = (i - (k + 1)) + 1 by omega, List.getElem?_cons_succ]
      by_cases h3 : i - (k + 1) < (l.drop k).length
      · rw [List.getElem?_append_left h3]
      · rw [List.getElem?_append_right (by omega), List.getElem?_drop, List.getElem?_eq_none (by simp at h3 ⊢; omega), List.getElem?_eq_none (by omega)]
/-- a search of the call's own; f: memory that waits to be taken in -/
structure SrO (B : Nat) (w : World) (v1 v2 v3 : Value) (L : List (List Int)) (D si : List Int) (fs : List (List Nat)) (f : List Nat) : Prop where
  acc : Acc B 25 w v1 L fs
  dep : w.ownsRow B 2 1 v2 D.length (D.map (Value.int .i64))
  srt : w.ownsRow B 3 1 v3 si.length (si.map (Value.int .i64))
  fr : Fresh B w (v1.ownBlock.toList ++ ((fs.flatten ++ f) ++ (v2.ownBlock.toList ++ v3.ownBlock.toList)))
section
variable {B : Nat} {w w' : World} {v1 v2 v3 v1' v2' v3' : Value} {L : List (List Int)} {D si D' si' : List Int} {fs : List (List Nat)} {f fp : List Nat}
theorem SrO.nil (B : Nat) (w : World) : SrO B w (.slice none 0 0) (.slice none 0 0) (.slice none 0 0) [] [] [] [] [] :=
  ⟨Acc.nil _ _ _, ⟨by simp, .inl ⟨rfl, rfl⟩⟩, ⟨by simp, .inl ⟨rfl, rfl⟩⟩, by simp [Value.ownBlock]; exact Fresh.nil _ _⟩
theorem SrO.only (h : SrO B w v1 v2 v3 L D si fs f) (ho : Only fp w w') (hd : ∀ b ∈ v1.ownBlock.toList ++ ((fs.flatten ++ f) ++ (v2.ownBlock.toList ++ v3.ownBlock.toList)), b ∉ fp) : SrO B w' v1 v2 v3 L D si fs f :=
  ⟨h.acc.only ho (fun b hb => hd b (by simp [hb])) (fun g hg => hd g (by simp [hg])), owns_only h.dep ho (fun g hg => hd g (by simp [hg])), owns_only h.srt ho (fun g hg => hd g (by simp [hg])), h.fr.only ho hd⟩
theorem SrO.keep (h : SrO B w v1 v2 v3 L D si fs f) (ho : Only [] w w') : SrO B w' v1 v2 v3 L D si fs f := h.only ho (by simp)
theorem SrO.set3 (h : SrO B w v1 v2 v3 L D si fs f) (ho : Only v3.ownBlock.toList w w') (hO : w'.ownsRow B 3 1 v3' si'.length (si'.map (Value.int .i64))) (hb : ∀ x ∈ v3'.ownBlock.toList, x ∈ v3.ownBlock.toList ∨ w.heap.size ≤ x) : SrO B w' v1 v2 v3' L D si' fs f := by
  obtain ⟨p1, p2, p3⟩ := h.fr.parts
  exact ⟨h.acc.only ho (fun b hb => (p2 b (by simp [hb])).2) (fun g hg => (p1 g (by simp [hg])).2), owns_only h.dep ho (fun g hg => p3 g (by simp [hg])), hO, h.fr.at4 ho (fun _ hx => hx) (own_fresh hO) hb⟩
theorem SrO.set2 (h : SrO B w v1 v2 v3 L D si fs f) (ho : Only v2.ownBlock.toList w w') (hO : w'.ownsRow B 2 1 v2' D'.length (D'.map (Value.int .i64))) (hb : ∀ x ∈ v2'.ownBlock.toList, x ∈ v2.ownBlock.toList ∨ w.heap.size ≤ x) : SrO B w' v1 v2' v3 L D' si fs f := by
  obtain ⟨p1, p2, p3⟩ := h.fr.parts
  exact ⟨h.acc.only ho (fun b hb => (p2 b (by simp [hb])).1) (fun g hg => (p1 g (by simp [hg])).1), hO, owns_only h.srt ho (fun g hg hm => p3 g hm (by simp [hg])), h.fr.at3 ho (fun _ hx => hx) (own_fresh hO) hb⟩
theorem SrO.set1 {s : List Int} (h : SrO B w v1 v2 v3 L D si fs f) (ho : Only v1.ownBlock.toList w w') (hA : Acc B 25 w' v1' (L ++ [s]) (fs ++ [f])) (hb : ∀ x ∈ v1'.ownBlock.toList, x ∈ v1.ownBlock.toList ∨ w.heap.size ≤ x) : SrO B w' v1' v2 v3 (L ++ [s]) D si (fs ++ [f]) [] := by
  obtain ⟨n1, n2, n3⟩ := List.nodup_append.1 h.fr.nd
  refine ⟨hA, owns_only h.dep ho (fun g hg hm => n3 g hm g (by simp [hg]) rfl), owns_only h.srt ho (fun g hg hm => n3 g hm g (by simp [hg]) rfl), ?_⟩
  obtain ⟨css, hown, -, -⟩ := hA.own
  have := Fresh.repl (pre := []) (mid := v1.ownBlock.toList) (mid' := v1'.ownBlock.toList) (post := (fs.flatten ++ f) ++ (v2.ownBlock.toList ++ v3.ownBlock.toList)) h.fr ho (fun _ hx => hx) (own_fresh hown) hb
  simpa using this
theorem SrO.lt (h : SrO B w v1 v2 v3 L D si fs f) : ∀ b ∈ v1.ownBlock.toList ++ ((fs.flatten ++ f) ++ (v2.ownBlock.toList ++ v3.ownBlock.toList)), B ≤ b ∧ b < w.heap.size := fun b hb => ⟨h.fr.ge b hb, h.fr.lt b hb⟩
end
end Go.Proofs.YtkhdmiemfpelcaaGreat
