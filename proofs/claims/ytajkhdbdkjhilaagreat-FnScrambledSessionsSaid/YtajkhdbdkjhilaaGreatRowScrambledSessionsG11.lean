/- Lists of one length in order; an index kept sorted by them (law 16). The reference's search: an index of lists kept sorted (law 16). The reference's search: its own memory (law 16). The reference's search: one list more (law 16). The reference's tables: what can be checked, where a letter leads. The reference's tables: letters, what lies behind a letter. (Written by mkspectab.py.) The reference's search from a list on: its state (law 16). Maps from strings to truth values that a call makes. The program's search of patterns: its state (law 16). A slice of numbers that a loop appends to, in fewer words. The program's walk down a chain: values, take, from (laws 33, 47). The library's sort of a slice of int64 (slices.Sort), laid at this program; the sorted slice is the call's own. (Printed by mksortlay.py.) -/
import Derived.Test.YtajkhdbdkjhilaaGreatRowScrambledSessionsG10
import Derived.Laws.CopyOwn
import Derived.Test.YtajkhdbdkjhilaaGreatRowScrambledSessionsG1
import Derived.Deep.RegionHeld3
import Derived.Deep.RegionLaw
import Derived.Test.YtajkhdbdkjhilaaGreatRowScrambledSessionsG3
import Derived.Test.YtajkhdbdkjhilaaGreatRowScrambledSessionsG7
import Derived.Shelf.SortM.Plain
import Derived.Sort.OwnSortedInts
namespace Go.Proofs.YtajkhdbdkjhilaaGreat
open Go.RowKit
set_option maxRecDepth 10000

/-- a precedes b -/
def prec : List Int → List Int → Bool
  | a :: xs, b :: ys => if a = b then prec xs ys else decide (a < b)
  | _, _ => false
theorem prec_trans : ∀ {a b c : List Int}, a.length = b.length → b.length = c.length → prec a b = true → prec b c = true → prec a c = true
  | [], _, _, _, _, h, _ => by cases h
  | _ :: _, [], _, h, _, _, _ => by cases h
  | _ :: _, _ :: _, [], _, h, _, _ => by cases h
  | a :: xs, b :: ys, c :: zs, h1, h2, h3, h4 => by
    unfold prec at h3 h4 ⊢
    by_cases e1 : a = b
    · by_cases e2 : b = c
      · rw [if_pos e1] at h3; rw [if_pos e2] at h4; rw [if_pos (e1.trans e2)]
        exact prec_trans (by simpa using h1) (by simpa using h2) h3 h4
      · rw [if_neg e2] at h4; subst e1; rw [if_neg e2]; exact h4
    · rw [if_neg e1] at h3
      have h3 := of_decide_eq_true h3
      by_cases e2 : b = c
      · subst e2; rw [if_neg e1]; exact decide_eq_true h3
      · rw [if_neg e2] at h4
        have h4 := of_decide_eq_true h4
        rw [if_neg (by omega)]; exact decide_eq_true (by omega)
theorem prec_tri : ∀ {a b : List Int}, a.length = b.length → a ≠ b → prec a b = false → prec b a = true
  | [], [], _, h, _ => absurd rfl h
  | [], _ :: _, h, _, _ => by cases h
  | _ :: _, [], h, _, _ => by cases h
  | a :: xs, b :: ys, h1, h2, h3 => by
    unfold prec at h3 ⊢
    by_cases e1 : a = b
    · subst e1
      rw [if_pos rfl] at h3 ⊢
      exact prec_tri (by simpa using h1) (fun e => h2 (by rw [e])) h3
    · rw [if_neg e1] at h3
      rw [if_neg (fun e => e1 e.symm)]
      have := of_decide_eq_false h3
      exact decide_eq_true (by omega)
/-- so: an index of the lists L, sorted by them -/
structure Srt (m : Nat) (L : List (List Int)) (so : List Nat) : Prop where
  len : so.length = L.length
  many : ∀ x ∈ L, x.length = m
  in_ : ∀ i ∈ so, i < L.length
  all : ∀ i, i < L.length → i ∈ so
  asc : ∀ (i j : Nat) (hi : i < so.length) (hj : j < so.length), i < j → prec (L.getD so[i] []) (L.getD so[j] []) = true
theorem Srt.nil (m : Nat) : Srt m [] [] := ⟨rfl, by simp, by simp, by simp, by simp⟩
theorem Srt.mem {m : Nat} {L : List (List Int)} {so : List Nat} (h : Srt m L so) {i : Nat} (hi : i < so.length) : L.getD so[i] [] ∈ L := by
  have := h.in_ so[i] (List.getElem_mem hi)
  rw [List.getD_eq_getElem?_getD, List.getElem?_eq_getElem this]
  exact List.getElem_mem this
/-- k: the place at which s is or would be -/
structure Slot (L : List (List Int)) (so : List Nat) (s : List Int) (k : Nat) : Prop where
  le : k ≤ so.length
  lo : ∀ (i : Nat) (hi : i < so.length), i < k → prec (L.getD so[i] []) s = true
  hi : ∀ (i : Nat) (hi : i < so.length), k ≤ i → prec (L.getD so[i] []) s = false
theorem Srt.below {m : Nat} {L : List (List Int)} {so : List Nat} (h : Srt m L so) {s : List Int} (hs : s.length = m) {k : Nat} (hk : k < so.length) (hp : prec (L.getD so[k] []) s = true) {i : Nat} (hi : i < so.length) (hik : i ≤ k) : prec (L.getD so[i] []) s = true := by
  rcases Nat.lt_or_eq_of_le hik with hlt | rfl
  · exact prec_trans (by rw [h.many _ (h.mem hi), h.many _ (h.mem hk)]) (by rw [h.many _ (h.mem hk), hs]) (h.asc i k hi hk hlt) hp
  · exact hp
/-- one list more -/
theorem Srt.add {m : Nat} {L : List (List Int)} {so : List Nat} (h : Srt m L so) {s : List Int} (hs : s.length = m) (hn : s ∉ L) {k : Nat} (hk : Slot L so s k) : Srt m (L ++ [s]) (so.take k ++ L.length :: so.drop k) := by
  have hD : ∀ (t : Nat) (ht : t < so.length), (L ++ [s]).getD so[t] [] = L.getD so[t] [] := fun t ht => by
    have := h.in_ so[t] (List.getElem_mem ht)
    simp only [List.getD_eq_getElem?_getD, List.getElem?_append_left this]
  have hS : (L ++ [s]).getD L.length [] = s := by simp [List.getD_eq_getElem?_getD]
  have hle := hk.le
  have hG : ∀ (t : Nat) (ht : t < (so.take k ++ L.length :: so.drop k).length), (L ++ [s]).getD (so.take k ++ L.length :: so.drop k)[t] [] = if t < k then L.getD (so.getD t 0) [] else if t = k then s else L.getD (so.getD (t - 1) 0) [] := by
    intro t ht
    have htl : t < so.length + 1 := by simp at ht; omega
    by_cases h1 : t < k
    · rw [if_pos h1]
      rw [List.getElem_append_left (by simp; omega), List.getElem_take]
      rw [hD t (by omega)]
      simp [List.getD_eq_getElem?_getD, List.getElem?_eq_getElem (show t < so.length by omega)]
    · rw [if_neg h1]
      have hkl : (so.take k).length = k := by simp; omega
      rw [List.getElem_append_right (by rw [hkl]; omega)]
      by_cases h2 : t = k
      · subst h2; rw [if_pos rfl]; simp only [hkl, Nat.sub_self, List.getElem_cons_zero]; exact hS
      · rw [if_neg h2]
        have h3 : t - (so.take k).length = (t - 1 - k) + 1 := by rw [hkl]; omega
        simp only [h3, List.getElem_cons_succ, List.getElem_drop]
        have h4 : k + (t - 1 - k) = t - 1 := by omega
        have h5 : t - 1 < so.length := by omega
        simp only [h4]
        rw [hD _ h5]
        simp [List.getD_eq_getElem?_getD, List.getElem?_eq_getElem h5]
  refine ⟨?_, ?_, ?_, ?_, ?_⟩
  · have := h.len; simp; omega
  · intro x hx
    rcases List.mem_append.1 hx with hx | hx
    · exact h.many x hx
    · simp at hx; subst hx; exact hs
  · intro i hi
    rw [List.length_append, List.length_singleton]
    rcases List.mem_append.1 hi with hi | hi
    · have := h.in_ i (List.mem_of_mem_take hi); omega
    · rcases List.mem_cons.1 hi with rfl | hi
      · omega
      · have := h.in_ i (List.mem_of_mem_drop hi); omega
  · intro i hi
    rw [List.length_append, List.length_singleton] at hi
    by_cases he : i = L.length
    · subst he; simp
    · have := h.all i (by omega)
      rw [← List.take_append_drop k so] at this
      rcases List.mem_append.1 this with h1 | h1
      · exact List.mem_append_left _ h1
      · exact List.mem_append_right _ (List.mem_cons_of_mem _ h1)
  · intro i j hi hj hij
    rw [hG i hi, hG j hj]
    have hjl : j < so.length + 1 := by simp at hj; omega
    have gd : ∀ (t : Nat) (ht : t < so.length), so.getD t 0 = so[t] := fun t ht => by simp [List.getD_eq_getElem?_getD, List.getElem?_eq_getElem ht]
    by_cases j1 : j < k
    · rw [if_pos j1, if_pos (by omega), gd i (by omega), gd j (by omega)]
      exact h.asc i j (by omega) (by omega) hij
    · rw [if_neg j1]
      by_cases j2 : j = k
      · subst j2
        rw [if_pos rfl, if_pos hij, gd i (by omega)]
        exact hk.lo i (by omega) hij
      · rw [if_neg j2, gd (j - 1) (by omega)]
        by_cases i1 : i < k
        · rw [if_pos i1, gd i (by omega)]
          exact h.asc i (j - 1) (by omega) (by omega) (by omega)
        · rw [if_neg i1]
          by_cases i2 : i = k
          · rw [if_pos i2]
            have hj1 : j - 1 < so.length := by omega
            have hne : L.getD so[j - 1] [] ≠ s := fun e => hn (e ▸ h.mem hj1)
            exact prec_tri (by rw [h.many _ (h.mem hj1), hs]) hne (hk.hi (j - 1) hj1 (by omega))
          · rw [if_neg i2, gd (i - 1) (by omega)]
            exact h.asc (i - 1) (j - 1) (by omega) (by omega) (by omega)
end Go.Proofs.YtajkhdbdkjhilaaGreat

namespace Go.Proofs.YtajkhdbdkjhilaaGreat
open Go.RowKit
set_option maxRecDepth 10000


/-- the index as numbers -/
def soI (so : List Nat) : List Int := so.map fun i : Nat => (i : Int)
/-- what a search holds, as its functions read it -/
structure SrR (w : World) (A1 A2 A3 : Option Addr) (C1 C2 C3 : Nat) (L : List (List Int)) (D : List Int) (so : List Nat) (ob : List Nat) (fps : List (List Nat)) (fd fs : List Nat) : Prop where
  ls : SeqA w A1 C1 L ob fps
  dp : IntsA w A2 C2 D fd
  st : IntsA w A3 C3 (soI so) fs
theorem SrR.keep {w w' : World} {A1 A2 A3 : Option Addr} {C1 C2 C3 : Nat} {L : List (List Int)} {D : List Int} {so : List Nat} {ob : List Nat} {fps : List (List Nat)} {fd fs : List Nat} (h : SrR w A1 A2 A3 C1 C2 C3 L D so ob fps fd fs) (ho : Only [] w w') : SrR w' A1 A2 A3 C1 C2 C3 L D so ob fps fd fs :=
  ⟨h.ls.frame fun b hb => ho.block b (h.ls.lt_all b hb) (by simp), h.dp.keep ho, h.st.keep ho⟩
theorem SrR.only {w w' : World} {A1 A2 A3 : Option Addr} {C1 C2 C3 : Nat} {L : List (List Int)} {D : List Int} {so : List Nat} {ob : List Nat} {fps : List (List Nat)} {fd fs fp : List Nat} (h : SrR w A1 A2 A3 C1 C2 C3 L D so ob fps fd fs) (ho : Only fp w w') (hd : ∀ g ∈ (ob ++ fps.flatten) ++ (fd ++ fs), g ∉ fp) : SrR w' A1 A2 A3 C1 C2 C3 L D so ob fps fd fs :=
  ⟨h.ls.frame fun b hb => ho.block b (h.ls.lt_all b hb) (hd b (List.mem_append_left _ hb)), h.dp.only ho fun b hb => hd b (List.mem_append_right _ (List.mem_append_left _ hb)), h.st.only ho fun b hb => hd b (List.mem_append_right _ (List.mem_append_right _ hb))⟩



end Go.Proofs.YtajkhdbdkjhilaaGreat

namespace Go.Proofs.YtajkhdbdkjhilaaGreat
open Go.RowKit
set_option maxRecDepth 10000
/-- a search of the call's own; f: memory that waits to be taken in -/
structure SrO (B : Nat) (w : World) (v1 v2 v3 : Value) (L : List (List Int)) (D si : List Int) (fs : List (List Nat)) (f : List Nat) : Prop where
  acc : Acc B 27 w v1 L fs
  dep : w.ownsRow B 2 1 v2 D.length (D.map (Value.int .i64))
  srt : w.ownsRow B 3 1 v3 si.length (si.map (Value.int .i64))
  fr : Fresh B w (v1.ownBlock.toList ++ ((fs.flatten ++ f) ++ (v2.ownBlock.toList ++ v3.ownBlock.toList)))
section
variable {B : Nat} {w w' : World} {v1 v2 v3 v1' v2' v3' : Value} {L : List (List Int)} {D si D' si' : List Int} {fs : List (List Nat)} {f fp : List Nat}
theorem SrO.nil (B : Nat) (w : World) : SrO B w (.slice none 0 0) (.slice none 0 0) (.slice none 0 0) [] [] [] [] [] :=
  ⟨Acc.nil _ _ _, ⟨by simp, .inl ⟨rfl, rfl⟩⟩, ⟨by simp, .inl ⟨rfl, rfl⟩⟩, by simp [Value.ownBlock]; exact Fresh.nil _ _⟩
theorem SrO.only (h : SrO B w v1 v2 v3 L D si fs f) (ho : Only fp w w') (hd : ∀ b ∈ v1.ownBlock.toList ++ ((fs.flatten ++ f) ++ (v2.ownBlock.toList ++ v3.ownBlock.toList)), b ∉ fp) : SrO B w' v1 v2 v3 L D si fs f :=
  ⟨h.acc.only ho (fun b hb => hd b (by simp [hb])) (fun g hg => hd g (by simp [hg])), owns_only h.dep ho (fun g hg => hd g (by simp [hg])), owns_only h.srt ho (fun g hg => hd g (by simp [hg])), h.fr.only ho hd⟩
theorem SrO.keep (h : SrO B w v1 v2 v3 L D si fs f) (ho : Only [] w w') : SrO B w' v1 v2 v3 L D si fs f := h.only ho (by simp)
theorem SrO.set3 (h : SrO B w v1 v2 v3 L D si fs f) (ho : Only v3.ownBlock.toList w w') (hO : w'.ownsRow B 3 1 v3' si'.length (si'.map (Value.int .i64))) (hb : ∀ x ∈ v3'.ownBlock.toList, x ∈ v3.ownBlock.toList ∨ w.heap.size ≤ x) : SrO B w' v1 v2 v3' L D si' fs f := by
  obtain ⟨p1, p2, p3⟩ := h.fr.parts
  exact ⟨h.acc.only ho (fun b hb => (p2 b (by simp [hb])).2) (fun g hg => (p1 g (by simp [hg])).2), owns_only h.dep ho (fun g hg => p3 g (by simp [hg])), hO, h.fr.at4 ho (fun _ hx => hx) (own_fresh hO) hb⟩
theorem SrO.lt (h : SrO B w v1 v2 v3 L D si fs f) : ∀ b ∈ v1.ownBlock.toList ++ ((fs.flatten ++ f) ++ (v2.ownBlock.toList ++ v3.ownBlock.toList)), B ≤ b ∧ b < w.heap.size := fun b hb => ⟨h.fr.ge b hb, h.fr.lt b hb⟩
end
end Go.Proofs.YtajkhdbdkjhilaaGreat

namespace Go.Proofs.YtajkhdbdkjhilaaGreat
open Go.RowKit
set_option maxRecDepth 10000
/-- a search while a list is taken in: its blocks are none of the two boxes -/
structure St (w0 : World) (V : List Nat) (B : Nat) (w : World) (v1 v2 v3 : Value) (L : List (List Int)) (D si : List Int) (fs : List (List Nat)) (f : List Nat) : Prop where
  so : SrO B w v1 v2 v3 L D si fs f
  ap : ∀ b ∈ v1.ownBlock.toList ++ ((fs.flatten ++ f) ++ (v2.ownBlock.toList ++ v3.ownBlock.toList)), b < w0.heap.size ∨ w0.heap.size + 2 ≤ b
  on : Only V w0 w
  iv : ∀ b ∈ v1.ownBlock.toList ++ (v2.ownBlock.toList ++ v3.ownBlock.toList), b ∈ V ∨ w0.heap.size ≤ b
  sz : w0.heap.size + 2 ≤ w.heap.size
section
variable {w0 : World} {V : List Nat} {B : Nat} {w w' : World} {v1 v2 v3 v1' v2' v3' : Value} {L : List (List Int)} {D si D' si' : List Int} {fs : List (List Nat)} {f fp : List Nat}
theorem St.keep (h : St w0 V B w v1 v2 v3 L D si fs f) (ho : Only [] w w') : St w0 V B w' v1 v2 v3 L D si fs f :=
  ⟨h.so.keep ho, h.ap, h.on.then_ ho (by simp), h.iv, Nat.le_trans h.sz ho.size⟩
theorem St.box (h : St w0 V B w v1 v2 v3 L D si fs f) (ho : Only fp w w') (hf : ∀ b ∈ fp, b = w0.heap.size ∨ b = w0.heap.size + 1) : St w0 V B w' v1 v2 v3 L D si fs f :=
  ⟨h.so.only ho (fun b hb hm => by have := h.ap b hb; have := hf b hm; omega), h.ap, h.on.then_ ho (fun b hb hl => by have := hf b hb; omega), h.iv, Nat.le_trans h.sz ho.size⟩
theorem St.set3 (h : St w0 V B w v1 v2 v3 L D si fs f) (ho : Only v3.ownBlock.toList w w') (hO : w'.ownsRow B 3 1 v3' si'.length (si'.map (Value.int .i64))) (hb : ∀ x ∈ v3'.ownBlock.toList, x ∈ v3.ownBlock.toList ∨ w.heap.size ≤ x) : St w0 V B w' v1 v2 v3' L D si' fs f := by
  have hz := h.sz
  refine ⟨h.so.set3 ho hO hb, fun b hm => ?_, h.on.then_ ho (fun b hm hl => (h.iv b (by simp [hm])).elim id (fun h1 => by omega)), fun b hm => ?_, Nat.le_trans h.sz ho.size⟩
  · simp only [List.mem_append] at hm
    rcases hm with hm | hm | hm | hm
    · exact h.ap b (by simp [hm])
    · exact h.ap b (by simp only [List.mem_append]; exact .inr (.inl hm))
    · exact h.ap b (by simp [hm])
    · rcases hb b hm with h1 | h1
      · exact h.ap b (by simp [h1])
      · omega
  · simp only [List.mem_append] at hm
    rcases hm with hm | hm | hm
    · exact h.iv b (by simp [hm])
    · exact h.iv b (by simp [hm])
    · rcases hb b hm with h1 | h1
      · exact h.iv b (by simp [h1])
      · right; omega
end

end Go.Proofs.YtajkhdbdkjhilaaGreat

namespace Go.Proofs.YtajkhdbdkjhilaaGreat
open Go.RowKit
set_option maxRecDepth 10000




end Go.Proofs.YtajkhdbdkjhilaaGreat

namespace Go.Proofs.YtajkhdbdkjhilaaGreat
open Go.RowKit
set_option maxRecDepth 10000
end Go.Proofs.YtajkhdbdkjhilaaGreat

namespace Go.Proofs.YtajkhdbdkjhilaaGreat
open Go.RowKit
set_option maxRecDepth 10000
/-- the search under way: w: the call's begin; W: the loops' begin; b: the search's box -/
structure SFi (x : Puzzle) (m : Nat) (w W : World) (b : Nat) (L : List (List Int)) (D : List Int) (wr : World) (A1 A2 A3 : Option Addr) (C1 C2 C3 : Nat) (so : List Nat) (fs : List (List Nat)) : Prop where
  blk : Blk wr b [.slice A1 L.length C1, .slice A2 D.length C2, .slice A3 so.length C3, .bool false]
  sro : SrO (w.heap.size + 2) wr (.slice A1 L.length C1) (.slice A2 D.length C2) (.slice A3 so.length C3) L D (soI so) fs []
  srt : Srt m L so
  dl : D.length = L.length
  ll : L.length ≤ 3000
  pat : ∀ q ∈ L, patB x.points m q = true
  dep : ∀ d ∈ D, 0 ≤ d ∧ d ≤ D.length
  ap : ∀ g ∈ (Value.slice A1 L.length C1).ownBlock.toList ++ ((Value.slice A2 D.length C2).ownBlock.toList ++ (Value.slice A3 so.length C3).ownBlock.toList), g < b ∨ W.heap.size ≤ g
  apf : ∀ g ∈ fs.flatten, g < b ∨ W.heap.size ≤ g
  keep : ∀ g, (g < w.heap.size + 2 ∨ (b < g ∧ g < W.heap.size)) → wr.heap[g]? = W.heap[g]?
  on : Only [] w wr
  sz : W.heap.size ≤ wr.heap.size
  bW : b < W.heap.size
  wb : w.heap.size + 2 ≤ b
theorem SFi.only {x : Puzzle} {m : Nat} {w W : World} {b : Nat} {L : List (List Int)} {D : List Int} {wr wr' : World} {A1 A2 A3 : Option Addr} {C1 C2 C3 : Nat} {so : List Nat} {fs : List (List Nat)} (h : SFi x m w W b L D wr A1 A2 A3 C1 C2 C3 so fs) (ho : Only [] wr wr') : SFi x m w W b L D wr' A1 A2 A3 C1 C2 C3 so fs :=
  ⟨h.blk.keep ho, h.sro.keep ho, h.srt, h.dl, h.ll, h.pat, h.dep, h.ap, h.apf, fun g hg => by
    have hb := h.bW; have hz := h.sz; have hw := h.wb
    rw [ho.block g (by omega) (by simp)]; exact h.keep g hg, h.on.trans ho, Nat.le_trans h.sz ho.size, h.bW, h.wb⟩
/-- one list more, and the search's box anew -/
theorem SFi.step {x : Puzzle} {m : Nat} {w W : World} {b : Nat} {L : List (List Int)} {D : List Int} {wr w2 wf : World} {A1 A2 A3 A1' A2' A3' : Option Addr} {C1 C2 C3 C1' C2' C3' : Nat} {so so' : List Nat} {fs : List (List Nat)} {f : List Nat} {s : List Int} {d : Int} {fpw : List Nat}
    (h : SFi x m w W b L D wr A1 A2 A3 C1 C2 C3 so fs) (hf : ∀ g ∈ f, W.heap.size ≤ g) (hL : L.length < 3000) (hp : patB x.points m s = true) (hd : 0 ≤ d ∧ d ≤ D.length + 1)
    (h1 : SrO (w.heap.size + 2) w2 (.slice A1' (L.length + 1) C1') (.slice A2' (D.length + 1) C2') (.slice A3' (so.length + 1) C3') (L ++ [s]) (D ++ [d]) (soI so') (fs ++ [f]) []) (h2 : Srt m (L ++ [s]) so') (h3 : so'.length = so.length + 1)
    (h4 : Only ((Value.slice A1 L.length C1).ownBlock.toList ++ ((Value.slice A2 D.length C2).ownBlock.toList ++ (Value.slice A3 so.length C3).ownBlock.toList)) wr w2)
    (h5 : ∀ g ∈ (Value.slice A1' (L.length + 1) C1').ownBlock.toList ++ ((Value.slice A2' (D.length + 1) C2').ownBlock.toList ++ (Value.slice A3' (so.length + 1) C3').ownBlock.toList), g ∈ (Value.slice A1 L.length C1).ownBlock.toList ++ ((Value.slice A2 D.length C2).ownBlock.toList ++ (Value.slice A3 so.length C3).ownBlock.toList) ∨ wr.heap.size ≤ g)
    (h6 : Only fpw w2 wf) (hfp : ∀ g ∈ fpw, g = b) (h7 : Blk wf b [.slice A1' (L.length + 1) C1', .slice A2' (D.length + 1) C2', .slice A3' (so.length + 1) C3', .bool false]) :
    SFi x m w W b (L ++ [s]) (D ++ [d]) wf A1' A2' A3' C1' C2' C3' so' (fs ++ [f]) := by
  have hb := h.bW; have hz := h.sz; have hw := h.wb
  have hge := h.sro.fr.ge
  have hap' : ∀ g ∈ (Value.slice A1' (L.length + 1) C1').ownBlock.toList ++ ((Value.slice A2' (D.length + 1) C2').ownBlock.toList ++ (Value.slice A3' (so.length + 1) C3').ownBlock.toList), g < b ∨ W.heap.size ≤ g := fun g hg => by
    rcases h5 g hg with h8 | h8
    · exact h.ap g h8
    · right; omega
  have hapf' : ∀ g ∈ (fs ++ [f]).flatten, g < b ∨ W.heap.size ≤ g := fun g hg => by
    rw [List.flatten_append] at hg
    rcases List.mem_append.1 hg with hg | hg
    · exact h.apf g hg
    · exact .inr (hf g (by simpa using hg))
  have hs2 := h4.size
  have hnin : ∀ g ∈ (Value.slice A1 L.length C1).ownBlock.toList ++ ((Value.slice A2 D.length C2).ownBlock.toList ++ (Value.slice A3 so.length C3).ownBlock.toList), w.heap.size + 2 ≤ g := fun g hg => hge g (by
    simp only [List.mem_append] at hg ⊢
    rcases hg with hg | hg | hg
    · exact .inl hg
    · exact .inr (.inr (.inl hg))
    · exact .inr (.inr (.inr hg)))
  refine ⟨?_, ?_, h2, by simp [h.dl], by simp; omega, ?_, ?_, ?_, hapf', fun g hg => ?_, ?_, ?_, h.bW, h.wb⟩
  · simpa [h3] using h7
  · have := h1.only h6 (fun g hg hm => by
      have e := hfp g hm
      simp only [List.mem_append, List.append_nil] at hg
      rcases hg with hg | hg | hg | hg
      · have := hap' g (by simp only [List.mem_append]; exact .inl hg); omega
      · have := hapf' g hg; omega
      · have := hap' g (by simp only [List.mem_append]; exact .inr (.inl hg)); omega
      · have := hap' g (by simp only [List.mem_append]; exact .inr (.inr hg)); omega)
    simpa [h3] using this
  · intro q hq
    rcases List.mem_append.1 hq with hq | hq
    · exact h.pat q hq
    · simp at hq; subst hq; exact hp
  · intro q hq
    rw [List.length_append, List.length_singleton]
    rcases List.mem_append.1 hq with hq | hq
    · have := h.dep q hq; omega
    · simp at hq; subst hq; omega
  · rw [List.length_append, List.length_append, List.length_singleton, List.length_singleton, h3]; exact hap'
  · rw [h6.block g (by omega) (fun hm => by have := hfp g hm; omega), h4.block g (by omega) (fun hm => by have := hnin g hm; have := h.ap g hm; omega)]
    exact h.keep g hg
  · exact (h.on.then_ h4 (fun g hg hl => by have := hnin g hg; omega)).then_ h6 (fun g hg hl => by have := hfp g hg; omega)
  · exact Nat.le_trans hz (Nat.le_trans hs2 h6.size)
/-- what a search leaves to be read -/
theorem SFi.out {x : Puzzle} {m : Nat} {w W : World} {b : Nat} {L : List (List Int)} {D : List Int} {wr wf : World} {A1 A2 A3 : Option Addr} {C1 C2 C3 : Nat} {so : List Nat} {fs : List (List Nat)} {fpw : List Nat}
    (h : SFi x m w W b L D wr A1 A2 A3 C1 C2 C3 so fs) (ho : Only fpw wr wf) (hf : ∀ g ∈ fpw, g = b ∨ g = w.heap.size + 1) (hm : m ≤ 1000) : ∃ fL fD, Rd wf (.slice A1 L.length C1) L fL ∧ Rd wf (.slice A2 D.length C2) D fD ∧ Only [] w wf ∧ (∀ g ∈ fL ++ fD, w.heap.size ≤ g) ∧ L.length ≤ 3000 ∧ D.length ≤ 3000 ∧ ∀ q ∈ L, q.length ≤ 1000 := by
  have hb := h.bW; have hw := h.wb
  have hge := h.sro.fr.ge
  have h1 := h.sro.only ho (fun g hg hm => by
    have e := hf g hm
    have e2 := hge g hg
    simp only [List.mem_append, List.append_nil] at hg
    rcases hg with hg | hg | hg | hg
    · have := h.ap g (by simp only [List.mem_append]; exact .inl hg); omega
    · have := h.apf g hg; omega
    · have := h.ap g (by simp only [List.mem_append]; exact .inr (.inl hg)); omega
    · have := h.ap g (by simp only [List.mem_append]; exact .inr (.inr hg)); omega)
  have hD : ∀ z ∈ D, I64 z := fun z hz => by have := h.dep z hz; have := h.dl; have := h.ll; unfold I64; omega
  obtain ⟨a2, c2, hv2, -, hI2, -⟩ := own_ints h1.dep hD
  injection hv2 with e1 _ e2; subst e1; subst e2
  refine ⟨_, _, h1.acc.rd (by decide), hI2.rd, h.on.then_ ho (fun g hg hl => by have := hf g hg; omega), fun g hg => ?_, h.ll, by have := h.dl; have := h.ll; omega, fun q hq => by rw [(patB_iff.1 (h.pat q hq)).1]; exact hm⟩
  have := hge g (by
    simp only [List.mem_append] at hg ⊢
    rcases hg with (hg | hg) | hg
    · exact .inl hg
    · exact .inr (.inl (.inl hg))
    · exact .inr (.inr (.inl hg)))
  omega
end Go.Proofs.YtajkhdbdkjhilaaGreat

namespace Go.Proofs.YtajkhdbdkjhilaaGreat
open Go.RowKit
set_option maxRecDepth 10000
open Go.Maps (Keyed)
/-- block M is a map of at most k entries; g: the truth value at a key -/
def MpB (w : World) (M k : Nat) (g : ByteArray → Bool) : Prop :=
  ∃ D : DataW Unit, w.ownsMap Tryz.prog 9 (plainElem Tryz.prog 4) M k D ∧ ∀ s : ByteArray, s.size ≤ maxLen →
    D.atKey (.string s.data.toList) (.lit (.bool false)) = .lit (.bool (g s))
theorem MpB.lt {w : World} {M k : Nat} {g : ByteArray → Bool} (h : MpB w M k g) : M < w.heap.size := by
  obtain ⟨D, h1, -⟩ := h; exact h1.lt
theorem MpB.frame {w w' : World} {M k : Nat} {g : ByteArray → Bool} (h : MpB w M k g) (hf : w'.heap[M]? = w.heap[M]?) : MpB w' M k g := by
  obtain ⟨D, ⟨es, c, h1, h2⟩, h3⟩ := h
  exact ⟨D, ⟨es, c, by rw [hf]; exact h1, h2⟩, h3⟩
theorem MpB.only {w w' : World} {fp : List Nat} {M k : Nat} {g : ByteArray → Bool} (h : MpB w M k g) (ho : Only fp w w') (hn : M ∉ fp) : MpB w' M k g := h.frame (ho.block M h.lt hn)
theorem MpB.keep {w w' : World} {M k : Nat} {g : ByteArray → Bool} (h : MpB w M k g) (ho : Only [] w w') : MpB w' M k g := h.only ho (by simp)
theorem MpB.made (w : World) {M : Nat} (hM : M = w.heap.size) : MpB (w.alloc (.map #[] 0)) M 0 (fun _ => false) := by
  subst hM
  exact ⟨.map [], World.ownsMap_made _ _ _ _, fun s _ => rfl⟩
theorem MpB.congr {w : World} {M k : Nat} {g g' : ByteArray → Bool} (h : MpB w M k g) (hg : ∀ s, g s = g' s) : MpB w M k g' := by
  have : g = g' := funext hg
  rw [← this]; exact h
section
variable {w : World} {M k : Nat} {g : ByteArray → Bool}
end

end Go.Proofs.YtajkhdbdkjhilaaGreat

namespace Go.Proofs.YtajkhdbdkjhilaaGreat
open Go.RowKit
set_option maxRecDepth 10000

/-- a literal of one element, to which a loop appends -/
theorem Acc.one {α : Type} [Rp α] {w : World} (B : Nat) (e : TypeId) {cs : List Value} {x : α} {fp : List Nat} (h : Rp.rep w cs x fp) {g : Nat} (hg : g = w.heap.size) (hB : B ≤ g) : Acc B e (w.alloc (.cells cs.toArray e)) (.slice (some ⟨g, 0, none⟩) 1 1) [x] [fp] := by
  subst hg
  have hk : Only [] w (w.alloc (.cells cs.toArray e)) := (Only.refl _ _).alloc _
  refine ⟨⟨[cs], ⟨by simp [Rp.len h], .inr ⟨w.heap.size, 1, cs.toArray, rfl, hB, heap_alloc_new w _, Nat.le_refl _, by unfold maxLen; omega, by simp [Rp.len h], by simpa using List.take_of_length_le (Nat.le_of_eq (Rp.len h))⟩⟩, rfl, fun k h1 h2 h3 => ?_⟩, rfl, ?_⟩
  · have : k = 0 := by simpa using h1
    subst this
    exact Rp.keep h hk
  · intro g hg hm
    simp only [Value.ownBlock, Option.some.injEq] at hg
    subst hg
    have := Rp.lt h _ (by simpa using hm)
    omega
section
variable {P : Program} {α : Type} [Rp α] {ops : Array Oper} {rest : List Oper} {o : Oper} {a : Act} {w : World} {Q : Exit → Act → World → Prop}
theorem wpList_push2w (hgd : o.guard = none) (s x : Operand) (t : TypeId)
    (ho : o.op = .call { callee := .builtin .append, args := #[s, x], argTypes := #[t, t] })
    (B : Nat) (e : TypeId) (i : TypeInfo) (z : Value) (bytes : Nat) (ht : P.underlying t = some (.slice e)) (hi : P.info? e = some i) (hz : i.zero = some z)
    (hsize : i.size = Rp.size α) (hby : i.bytes = bytes) (hzs : z.cells.size = Rp.size α) (hsz : 0 < Rp.size α) (hbb : bytes ≤ 65536)
    (w0 : World) (v : Value) (l : List α) (fs : List (List Nat)) (hs : a.eval s = v) (hA : Acc B e w0 v l fs) (hK0 : Only [] w0 w) (hB : B ≤ w0.heap.size)
    (g c : Nat) (cs : List Value) (y : α) (fp : List Nat) (hx : a.eval x = .slice (some ⟨g, 0, none⟩) 1 c) (hsrc : ∀ j u, cs[j]? = some u → w.cell? ⟨g, j, none⟩ = some u) (hcs : ∀ u ∈ cs, u.oneCell' = true)
    (hy : Rp.rep w cs y fp) (hap : ∀ b ∈ fp, v.ownBlock ≠ some b) (hlen : l.length + 1 ≤ 1073741824)
    (h : ∀ v' w', Acc B e w' v' (l ++ [y]) (fs ++ [fp]) → Only v.ownBlock.toList w w' → (∀ wz, Only [] wz w → wz.heap.size ≤ B → Only [] wz w') →
      (Fresh B w0 fs.flatten → Fresh w0.heap.size w fp → Fresh B w' (fs ++ [fp]).flatten) → (v'.ownBlock = v.ownBlock ∨ v'.ownBlock = some w.heap.size) → wpList P ops Q rest (a.put o.dst v') w') : wpList P ops Q (o :: rest) a w :=
  wpList_plain hgd fun _ hK => wp_push2 s x t ho B e i z bytes ht hi hz hsize hby hzs hsz hbb w0 v l fs hs hA hK0 hB g c cs y fp hx hsrc hcs hy hap hlen fun v' w' h1 h2 h3 h4 h5 => hK _ _ (h v' w' h1 h2 h3 h4 h5)
end
/-- which keys are met -/
def metB (L : List (List Int)) (s : ByteArray) : Bool := L.any fun q => decide (kB q = s)
/-- the program's search under way: lo: the call's begin; m1, W: begin and end of the making of the moves -/
structure PBf (x : Puzzle) (m : Nat) (w : World) (m1 : Nat) (W : World) (M : Nat) (L : List (List Int)) (D : List Int) (wr : World) (v1 v2 : Value) (fs fd : List (List Nat)) : Prop where
  acc : Acc w.heap.size 27 wr v1 L fs
  dep : Acc w.heap.size 2 wr v2 D fd
  fr : Fresh w.heap.size wr fs.flatten
  mp : MpB wr M L.length (metB L)
  dl : D.length = L.length
  ll : L.length ≤ 3000
  pat : ∀ q ∈ L, patB x.points m q = true
  rng : ∀ d ∈ D, 0 ≤ d ∧ d ≤ D.length
  a2 : ∀ g, v2.ownBlock = some g → v1.ownBlock ≠ some g ∧ g ∉ fs.flatten ∧ g ≠ M
  a1 : v1.ownBlock ≠ some M ∧ M ∉ fs.flatten
  zone : ∀ g, (g = M ∨ v1.ownBlock = some g ∨ v2.ownBlock = some g) → (w.heap.size ≤ g ∧ g < m1) ∨ W.heap.size ≤ g
  keep : ∀ g, (g < w.heap.size ∨ (m1 ≤ g ∧ g < W.heap.size)) → wr.heap[g]? = W.heap[g]?
  on : Only [] w wr
  sz : W.heap.size ≤ wr.heap.size
  mw : w.heap.size ≤ m1 ∧ m1 ≤ W.heap.size
section
variable {x : Puzzle} {m : Nat} {w : World} {m1 : Nat} {W : World} {M : Nat} {L : List (List Int)} {D : List Int} {wr : World} {v1 v2 : Value} {fs fd : List (List Nat)}
theorem PBf.only {wr' : World} (h : PBf x m w m1 W M L D wr v1 v2 fs fd) (ho : Only [] wr wr') : PBf x m w m1 W M L D wr' v1 v2 fs fd :=
  ⟨h.acc.keep ho, h.dep.keep ho, h.fr.keep ho, h.mp.keep ho, h.dl, h.ll, h.pat, h.rng, h.a2, h.a1, h.zone, fun g hg => by
    have hz := h.sz; have hw := h.mw
    rw [ho.block g (by omega) (by simp)]; exact h.keep g hg, h.on.trans ho, Nat.le_trans h.sz ho.size, h.mw⟩
/-- from a world on, in which all the search's memory lies already -/
theorem PBf.start {W5 : World} (h : PBf x m w m1 W M L D wr v1 v2 fs fd) (ho : Only [] wr W5) : PBf x m w wr.heap.size W5 M L D W5 v1 v2 fs fd := by
  have hw := h.mw; have hz := h.sz
  refine ⟨h.acc.keep ho, h.dep.keep ho, h.fr.keep ho, h.mp.keep ho, h.dl, h.ll, h.pat, h.rng, h.a2, h.a1, fun g hg => .inl ?_, fun g _ => rfl, h.on.trans ho, Nat.le_refl _, by omega, ho.size⟩
  have h1 := h.zone g hg
  refine ⟨by omega, ?_⟩
  rcases hg with rfl | hg | hg
  · exact h.mp.lt
  · exact (h.acc.ownlt g hg).2
  · exact (h.dep.ownlt g hg).2
theorem PBf.fd0 (h : PBf x m w m1 W M L D wr v1 v2 fs fd) : fd.flatten = [] := by
  obtain ⟨css, ho, hcl, hr⟩ := h.dep.own
  have hl := h.dep.fl
  have : fd = List.replicate fd.length [] := by
    apply List.ext_getElem (by simp)
    intro k h1 h2
    have := (hr k (by omega) (by omega) h1).2.2
    simpa using this
  rw [this]; exact flatten_nil _
/-- a new pattern is met: the map, the list, the depths -/
theorem PBf.step {wp wa wb wc wd : World} {v1' v2' : Value} {s : List Int} {d : Int} {f : List Nat}
    (h : PBf x m w m1 W M L D wr v1 v2 fs fd) (hL : L.length < 3000) (hp : patB x.points m s = true) (hd : 0 ≤ d ∧ d ≤ D.length + 1)
    (hm : MpB wp M (L.length + 1) (metB (L ++ [s]))) (ho : Only [M] wr wp)
    (ka : Only [] wp wa) (hA : Acc w.heap.size 27 wb v1' (L ++ [s]) (fs ++ [f])) (oA : Only v1.ownBlock.toList wa wb) (nA : v1'.ownBlock = v1.ownBlock ∨ v1'.ownBlock = some wa.heap.size) (hF : Fresh w.heap.size wb (fs ++ [f]).flatten) (hfM : M ∉ f) (hf2 : ∀ g ∈ f, wr.heap.size ≤ g ∨ v2.ownBlock ≠ some g)
    (kc : Only [] wb wc) (hD : Acc w.heap.size 2 wd v2' (D ++ [d]) (fd ++ [[]])) (oD : Only v2.ownBlock.toList wc wd) (nD : v2'.ownBlock = v2.ownBlock ∨ v2'.ownBlock = some wc.heap.size) :
    PBf x m w m1 W M (L ++ [s]) (D ++ [d]) wd v1' v2' (fs ++ [f]) (fd ++ [[]]) := by
  have s1 := ho.size; have s2 := ka.size; have s3 := oA.size; have s4 := kc.size; have s5 := oD.size
  have hz := h.sz; have hw := h.mw
  have hMl := h.mp.lt
  have l1 := h.acc.ownlt
  have l2 := h.dep.ownlt
  have hfl := h.fr.lt
  have hff : (fs ++ [f]).flatten = fs.flatten ++ f := by simp
  have hfs : ∀ g, v2.ownBlock = some g → g ∉ (fs ++ [f]).flatten := fun g hg hm => by
    rw [hff] at hm
    rcases List.mem_append.1 hm with hm | hm
    · exact (h.a2 g hg).2.1 hm
    · have := l2 g hg
      rcases hf2 g hm with h3 | h3
      · omega
      · exact h3 hg
  have hv12 : ∀ g, v2.ownBlock = some g → v1'.ownBlock ≠ some g := fun g hg he => by
    rcases nA with h3 | h3
    · exact (h.a2 g hg).1 (by rw [← h3]; exact he)
    · rw [h3] at he; injection he with he; have := l2 g hg; omega
  have hmM : ∀ g, v1.ownBlock = some g → g ≠ M := fun g hg e => h.a1.1 (by rw [hg, e])
  have hM1 : v1'.ownBlock ≠ some M := fun he => by
    rcases nA with h3 | h3
    · exact h.a1.1 (by rw [← h3]; exact he)
    · rw [h3] at he; injection he with he; omega
  have hM1' : M ∉ v1.ownBlock.toList := by simpa using h.a1.1
  have hM2' : M ∉ v2.ownBlock.toList := by simp; intro he; exact (h.a2 M he).2.2 rfl
  have hN : ∀ g, v1'.ownBlock = some g → v1.ownBlock = some g ∨ W.heap.size ≤ g := fun g hg => by
    rcases nA with h3 | h3
    · exact .inl (by rw [← h3]; exact hg)
    · rw [h3] at hg; injection hg with hg; right; omega
  have hN2 : ∀ g, v2'.ownBlock = some g → v2.ownBlock = some g ∨ wb.heap.size ≤ g := fun g hg => by
    rcases nD with h3 | h3
    · exact .inl (by rw [← h3]; exact hg)
    · rw [h3] at hg; injection hg with hg; right; omega
  have hko : Only (M :: (v1.ownBlock.toList ++ v2.ownBlock.toList)) wr wd :=
    ((((ho.mono (by simp)).keepThen ka).then_ oA (by intro b hb _; simp at hb ⊢; simp [hb])).keepThen kc).then_ oD (by intro b hb _; simp at hb ⊢; simp [hb])
  refine ⟨hA.only (kc.weaken _ |>.trans oD) (fun b hb hm => hfs b (by simpa using hm) hb) (fun g hg hm => hv12 g (by simpa using hm) hg), hD,
    hF.only (kc.weaken _ |>.trans oD) (fun b hb hm => hfs b (by simpa using hm) hb),
    by simpa using ((((hm.keep ka).only oA hM1').keep kc).only oD hM2'), by simp [h.dl], by simp; omega, ?_, ?_, ?_, ⟨hM1, ?_⟩, ?_, fun g hg => ?_, ?_, by omega, h.mw⟩
  · intro q hq
    rcases List.mem_append.1 hq with hq | hq
    · exact h.pat q hq
    · simp at hq; subst hq; exact hp
  · intro q hq
    rw [List.length_append, List.length_singleton]
    rcases List.mem_append.1 hq with hq | hq
    · have := h.rng q hq; omega
    · simp at hq; subst hq; omega
  · intro g hg
    rcases hN2 g hg with h3 | h3
    · exact ⟨hv12 g h3, hfs g h3, (h.a2 g h3).2.2⟩
    · refine ⟨fun he => ?_, fun hm => ?_, by omega⟩
      · have := (hA.ownlt g he).2; omega
      · have := hF.lt g hm; omega
  · rw [hff]; intro hm
    rcases List.mem_append.1 hm with hm | hm
    · exact h.a1.2 hm
    · exact hfM hm
  · rintro g (rfl | hg | hg)
    · exact h.zone _ (.inl rfl)
    · rcases hN g hg with h3 | h3
      · exact h.zone g (.inr (.inl h3))
      · exact .inr h3
    · rcases hN2 g hg with h3 | h3
      · exact h.zone g (.inr (.inr h3))
      · right; omega
  · rw [hko.block g (by omega) (fun hm => ?_)]
    · exact h.keep g hg
    · simp only [List.mem_cons, List.mem_append, Option.mem_toList] at hm
      have := h.zone g (by rcases hm with hm | hm | hm; exact .inl hm; exact .inr (.inl hm); exact .inr (.inr hm))
      omega
  · refine h.on.then_ hko (fun g hm hg => ?_)
    simp only [List.mem_cons, List.mem_append, Option.mem_toList] at hm
    have := h.zone g (by rcases hm with hm | hm | hm; exact .inl hm; exact .inr (.inl hm); exact .inr (.inr hm))
    omega
/-- what the search hands back -/
theorem PBf.out (h : PBf x m w m1 W M L D wr v1 v2 fs fd) : Rd wr v1 L (v1.ownBlock.toList ++ fs.flatten) ∧ Rd wr v2 D v2.ownBlock.toList ∧ Fresh w.heap.size wr ((v1.ownBlock.toList ++ fs.flatten) ++ v2.ownBlock.toList) := by
  have h0 := h.fd0
  have h2 := h.dep.rd (by decide)
  rw [h0, List.append_nil] at h2
  have hf1 := h.acc.fresh h.fr
  have hf2 := h.dep.fresh (by rw [h0]; exact Fresh.nil _ _)
  rw [h0, List.append_nil] at hf2
  refine ⟨h.acc.rd (by decide), h2, List.nodup_append.2 ⟨hf1.nd, hf2.nd, fun a ha b hb e => ?_⟩, fun b hb => ?_, hf1.own.append hf2.own⟩
  · subst e
    have hb' : v2.ownBlock = some a := by simpa using hb
    rcases List.mem_append.1 ha with ha | ha
    · exact (h.a2 a hb').1 (by simpa using ha)
    · exact (h.a2 a hb').2.1 ha
  · rcases List.mem_append.1 hb with hb | hb
    · exact hf1.ge b hb
    · exact hf2.ge b hb
theorem PBf.old (h : PBf x m w m1 W M L D wr v1 v2 fs fd) {β : Type} [Rp β] {cs : List Value} {y : β} {fp : List Nat} (hr : Rp.rep W cs y fp) (hf : ∀ g ∈ fp, g < w.heap.size ∨ (m1 ≤ g ∧ g < W.heap.size)) : Rp.rep wr cs y fp :=
  Rp.frame hr fun g hg => h.keep g (hf g hg)
end
end Go.Proofs.YtajkhdbdkjhilaaGreat

namespace Go.Proofs.YtajkhdbdkjhilaaGreat
open Go.RowKit
set_option maxRecDepth 10000

theorem step_push2w {P : Program} {α : Type} [Rp α] {ops : Array Oper} {o : Oper} {a : Act} {w : World} {Q : Exit → Act → World → Prop} {K : Act → World → Prop} {E : Prop} (hgd : o.guard = none) (s x : Operand) (t : TypeId)
    (ho : o.op = .call { callee := .builtin .append, args := #[s, x], argTypes := #[t, t] })
    (B : Nat) (e : TypeId) (i : TypeInfo) (z : Value) (bytes : Nat) (ht : P.underlying t = some (.slice e)) (hi : P.info? e = some i) (hz : i.zero = some z)
    (hsize : i.size = Rp.size α) (hby : i.bytes = bytes) (hzs : z.cells.size = Rp.size α) (hsz : 0 < Rp.size α) (hbb : bytes ≤ 65536)
    (w0 : World) (v : Value) (l : List α) (fs : List (List Nat)) (hs : a.eval s = v) (hA : Acc B e w0 v l fs) (hK0 : Only [] w0 w) (hB : B ≤ w0.heap.size)
    (g c : Nat) (cs : List Value) (y : α) (fp : List Nat) (hx : a.eval x = .slice (some ⟨g, 0, none⟩) 1 c) (hsrc : ∀ j u, cs[j]? = some u → w.cell? ⟨g, j, none⟩ = some u) (hcs : ∀ u ∈ cs, u.oneCell' = true)
    (hy : Rp.rep w cs y fp) (hap : ∀ b ∈ fp, v.ownBlock ≠ some b) (hlen : l.length + 1 ≤ 1073741824)
    (h : ∀ v' w', Acc B e w' v' (l ++ [y]) (fs ++ [fp]) → Only v.ownBlock.toList w w' → (v'.ownBlock = v.ownBlock ∨ v'.ownBlock = some w.heap.size) → K (a.put o.dst v') w') : if Region.wanted o (yielded ops a.tmps) = true then Oper.wp P o a w K Q else E := by
  rw [if_pos (by simp [Region.wanted, hgd])]
  exact wp_push2 s x t ho B e i z bytes ht hi hz hsize hby hzs hsz hbb w0 v l fs hs hA hK0 hB g c cs y fp hx hsrc hcs hy hap hlen fun v' w' h1 h2 _ _ h5 => h v' w' h1 h2 h5
theorem Acc.flat0 {B : Nat} {e : TypeId} {w : World} {v : Value} {l : List Int} {fs : List (List Nat)} (h : Acc B e w v l fs) : fs.flatten = [] := by
  obtain ⟨css, ho, hcl, hr⟩ := h.own
  have hl := h.fl
  have : fs = List.replicate fs.length [] := by
    apply List.ext_getElem (by simp)
    intro k h1 h2
    have := (hr k (by omega) (by omega) h1).2.2
    simpa using this
  rw [this]; exact flatten_nil _
/-- v is a slice of numbers of the call's own -/
def AccI (B : Nat) (e : TypeId) (w : World) (v : Value) (l : List Int) : Prop := ∃ fs, Acc B e w v l fs
section
variable {w w' : World} {B : Nat} {e : TypeId} {v : Value} {l : List Int}
theorem AccI.only {fp : List Nat} (h : AccI B e w v l) (ho : Only fp w w') (hv : ∀ g, v.ownBlock = some g → g ∉ fp) : AccI B e w' v l := by
  obtain ⟨fs, h⟩ := h
  exact ⟨fs, h.only ho (by rw [h.flat0]; simp) hv⟩
theorem AccI.keep (h : AccI B e w v l) (ho : Only [] w w') : AccI B e w' v l := h.only ho (by simp)
theorem AccI.form (h : AccI B e w v l) : ∃ a c, v = .slice a l.length c := by
  obtain ⟨fs, h⟩ := h; exact h.form
theorem AccI.rd (h : AccI B e w v l) : Rd w v l v.ownBlock.toList := by
  obtain ⟨fs, h⟩ := h
  have := h.rd (by decide)
  rwa [h.flat0, List.append_nil] at this
theorem AccI.fresh (h : AccI B e w v l) : Fresh B w v.ownBlock.toList := by
  obtain ⟨fs, h⟩ := h
  have := h.fresh (by rw [h.flat0]; exact Fresh.nil _ _)
  rwa [h.flat0, List.append_nil] at this
theorem AccI.ownlt (h : AccI B e w v l) : ∀ g, v.ownBlock = some g → B ≤ g ∧ g < w.heap.size := by
  obtain ⟨fs, h⟩ := h; exact h.ownlt
theorem AccI.nil (w : World) (B : Nat) (e : TypeId) : AccI B e w (.slice none 0 0) [] := ⟨[], Acc.nil w B e⟩
theorem AccI.made (w : World) (B : Nat) (e : TypeId) {g : Nat} (hg : g = w.heap.size) (hB : B ≤ g) : AccI B e (w.alloc (.cells #[] e)) (.slice (some ⟨g, 0, none⟩) 0 0) [] := ⟨[], Acc.made w B e hg hB⟩
theorem AccI.one {n : Int} (hn : I64 n) (w : World) (B : Nat) (e : TypeId) {g : Nat} (hg : g = w.heap.size) (hB : B ≤ g) : AccI B e (w.alloc (.cells #[.int .i64 n] e)) (.slice (some ⟨g, 0, none⟩) 1 1) [n] :=
  ⟨[[]], Acc.one (cs := [.int .i64 n]) B e (int_rd w hn) hg hB⟩
end
section
variable {P : Program} {ops : Array Oper} {rest : List Oper} {o : Oper} {a : Act} {w : World} {Q : Exit → Act → World → Prop} {K : Act → World → Prop}
theorem wpList_pushI (hgd : o.guard = none) (s x : Operand) (t : TypeId)
    (ho : o.op = .call { callee := .builtin .append, args := #[s, x], argTypes := #[t, t] })
    (B : Nat) (e : TypeId) (i : TypeInfo) (z : Value) (ht : P.underlying t = some (.slice e)) (hi : P.info? e = some i) (hz : i.zero = some z)
    (hsize : i.size = 1) (hby : i.bytes = 8) (hzs : z.cells.size = 1)
    (w0 : World) (v : Value) (l : List Int) (hs : a.eval s = v) (hA : AccI B e w0 v l) (hK0 : Only [] w0 w) (hB : B ≤ w0.heap.size)
    (g c : Nat) (n : Int) (hx : a.eval x = .slice (some ⟨g, 0, none⟩) 1 c) (hsrc : w.cell? ⟨g, 0, none⟩ = some (.int .i64 n)) (hn : I64 n) (hlen : l.length + 1 ≤ 1073741824)
    (h : ∀ v' w', AccI B e w' v' (l ++ [n]) → Only v.ownBlock.toList w w' → (∀ wz, Only [] wz w → wz.heap.size ≤ B → Only [] wz w') → (v'.ownBlock = v.ownBlock ∨ v'.ownBlock = some w.heap.size) → wpList P ops Q rest (a.put o.dst v') w') : wpList P ops Q (o :: rest) a w := by
  obtain ⟨fs, hA⟩ := hA
  refine wpList_push2w (α := Int) hgd s x t ho B e i z 8 ht hi hz hsize hby hzs (by decide) (by decide) w0 v l fs hs hA hK0 hB g c [.int .i64 n] n [] hx ?_ (by intro u hu; simp at hu; subst hu; rfl) (int_rd w hn) (by simp) hlen fun v' w' h1 h2 h3 _ h5 => h v' w' ⟨_, h1⟩ h2 h3 h5
  intro j u hu
  cases j with
  | zero => simp at hu; subst hu; exact hsrc
  | succ j => simp at hu
end
/-- the one cell of a literal -/
theorem lit1 (w : World) (u : Value) (e : TypeId) {g : Nat} (hg : g = w.heap.size) : (w.alloc (.cells #[u] e)).cell? ⟨g, 0, none⟩ = some u := lit_src w [u] e hg 0 u rfl
theorem own_after {v' v : Value} {w : World} {b : Nat} (hN : v'.ownBlock = v.ownBlock ∨ v'.ownBlock = some w.heap.size) (h1 : v.ownBlock ≠ some b) (h2 : b < w.heap.size) : v'.ownBlock ≠ some b := by
  rcases hN with e | e
  · rw [e]; exact h1
  · rw [e]; intro h; injection h with h; omega
/-- a slice of numbers under way, beside memory (G) that stays as it is in W -/
structure AccG (w W : World) (G : List Nat) (e : TypeId) (wr : World) (o : Value) (l : List Int) : Prop where
  acc : AccI w.heap.size e wr o l
  on : Only [] w wr
  kp : ∀ b ∈ G, wr.heap[b]? = W.heap[b]?
  ga : ∀ b ∈ G, o.ownBlock ≠ some b
  gl : ∀ b ∈ G, b < wr.heap.size
section
variable {w W wr w' wa wb : World} {G : List Nat} {e : TypeId} {o o' : Value} {l : List Int} {n : Int}
theorem AccG.keep (h : AccG w W G e wr o l) (ho : Only [] wr w') : AccG w W G e w' o l :=
  ⟨h.acc.keep ho, h.on.trans ho, fun b hb => (ho.block b (h.gl b hb) (by simp)).trans (h.kp b hb), h.ga, fun b hb => Nat.lt_of_lt_of_le (h.gl b hb) ho.size⟩
theorem AccG.push (h : AccG w W G e wa o l) (hA : AccI w.heap.size e wb o' (l ++ [n])) (oA : Only o.ownBlock.toList wa wb) (hP : ∀ wz, Only [] wz wa → wz.heap.size ≤ w.heap.size → Only [] wz wb) (nA : o'.ownBlock = o.ownBlock ∨ o'.ownBlock = some wa.heap.size) : AccG w W G e wb o' (l ++ [n]) :=
  ⟨hA, hP w h.on (Nat.le_refl _), fun b hb => (oA.block b (h.gl b hb) (fun hm => h.ga b hb (by simpa using hm))).trans (h.kp b hb), fun b hb => own_after nA (h.ga b hb) (h.gl b hb), fun b hb => Nat.lt_of_lt_of_le (h.gl b hb) oA.size⟩
theorem AccG.held (h : AccG w W G e wr o l) {α : Type} [Rp α] {cs : List Value} {y : α} {fp : List Nat} (hr : Rp.rep W cs y fp) (hf : ∀ b ∈ fp, b ∈ G) : Rp.rep wr cs y fp := Rp.frame hr fun b hb => h.kp b (hf b hb)
theorem AccG.ints (h : AccG w W G e wr o l) {a : Option Addr} {c : Nat} {y : List Int} {fp : List Nat} (hr : IntsA W a c y fp) (hf : ∀ b ∈ fp, b ∈ G) : IntsA wr a c y fp := hr.frame fun b hb => h.kp b (hf b hb)
end
end Go.Proofs.YtajkhdbdkjhilaaGreat

namespace Go.Proofs.YtajkhdbdkjhilaaGreat
open Go.RowKit
set_option maxRecDepth 10000

/-- a value's point -/
def gV (m ys : List Int) (x : Int) : Option Int := if x ∈ PM.choO m ys then some (PM.at_ (PM.inv m) x) else none
theorem gV_nil (m : List Int) (x : Int) : gV m [] x = none := rfl
theorem gV_snoc {n : Nat} {m : List Int} (hm : PM.PN n m) {ys : List Int} {y : Int} (h0 : 0 ≤ y) (h1 : y < n) (x : Int) : (if x = PM.at_ m y then some y else gV m ys x) = gV m (ys ++ [y]) x := by
  unfold gV
  rw [PM.choO_snoc]
  by_cases hx : x = PM.at_ m y
  · rw [if_pos hx, if_pos (PM.mem_insU.2 (Or.inl hx)), hx, PM.at_inv hm h0 h1]
  · rw [if_neg hx]
    by_cases hm2 : x ∈ PM.choO m ys
    · rw [if_pos hm2, if_pos (PM.mem_insU.2 (Or.inr hm2))]
    · rw [if_neg hm2, if_neg (fun h => (PM.mem_insU.1 h).elim hx hm2)]
theorem Mpv.mono {w : World} {M k k' : Nat} {g : Int → Option Int} (h : Mpv w M k g) (hk : k ≤ k') : Mpv w M k' g := by
  obtain ⟨D, h1, h2⟩ := h
  exact ⟨D, h1.mono hk, h2⟩
set_option maxHeartbeats 2000000 in
theorem values_any {e : TypeId} {B : Nat} {L : Lay} {gv : Nat → Value} {n : Nat} {G : PM.Gens} {T : PM.Rows} {M F : List Nat} (w : World) (hC : Ch e B w L gv n G T M F) (hT : L.oT = 2) (b i : Nat) (hi : i < n) (v : Value) (m : List Int) (fm : List Nat)
    (hb : Blk w b [.pointer (some ⟨L.g, 0, none⟩), .int .i64 i, v]) (hv : Rd w v m fm) (hm : PM.PN n m) :
    Calls Tryz.prog 126 #[.pointer (some ⟨b, 0, none⟩)] w fun e w' => ∃ K, e = .returned (.map (some K)) ∧ w.heap.size ≤ K ∧ Mpv w' K 1000 (gV m (orb n T i)) ∧ Only [] w w' := by
  obtain ⟨A, C, rfl, IM⟩ := hv.ints
  have hn20 := hC.le
  have hml := hm.1
  have ct := hC.ct
  rw [hT] at ct
  have cr := hC.row i hi
  have kA : Only [] w (w.alloc (.map #[] 0)) := (Only.refl _ _).alloc _
  have z0 := kA.cell (by simp) (hb.cell 0 rfl)
  have z1 := kA.cell (by simp) (hb.cell 1 rfl)
  have zt := kA.cell (by simp) ct
  have zr := kA.cell (by simp) cr
  have y2 := hb.cell 2 rfl
  have hmm := @run_makeMap Tryz.prog
  have M0 := (Mpv.made w rfl).congr (fun x => (gV_nil m x).symm)
  obtain ⟨ys, hys⟩ : ∃ ys, ys = orb n T i := ⟨_, rfl⟩
  have hyr : ∀ y ∈ ys, 0 ≤ y ∧ y < n := fun y hy => by rw [hys] at hy; exact (mem_orb.1 hy).1
  have hyl : ys.length ≤ 20 := by
    rw [hys]
    have h1 : (orb n T i).length ≤ (PM.pts n).length := PM.nodup_sub_len (orb_nodup n T i) fun y hy => PM.mem_pts.2 (mem_orb.1 hy).1
    rw [PM.pts_len] at h1
    omega
  rw [← hys]
  have Hys := Lib.hid hys
  have HC := Lib.hid hC
  have Hm := Lib.hid hm
  have HIM := Lib.hid IM
  have HM0 := Lib.hid M0
  have Hyr := Lib.hid hyr
  have Hml := Lib.hid hml
  clear hC hm M0 hT hys hyr IM hml ct cr
  go_enter Tryz.func126, Tryz.ntmps126
  go_wp2_with fail
  go_region_held3 (fun w' => Only [] (w.alloc (.map #[] 0)) w' ∧ w'.cell? ⟨b, 0, none⟩ = some (.pointer (some ⟨L.g, 0, none⟩)) ∧ w'.cell? ⟨b, 1, none⟩ = some (.int .i64 i) ∧ w'.cell? ⟨L.g, 2, none⟩ = some (.slice (some ⟨L.bt, 0, none⟩) n L.cT) ∧ w'.cell? ⟨L.bt, i, none⟩ = some (.slice (some ⟨L.rb i, 0, none⟩) n n)) (((refine and_of ?_ (fun h__ => ⟨h__.cell (by simp) z0, h__.cell (by simp) z1, h__.cell (by simp) zt, h__.cell (by simp) zr⟩)); first | exact (Only.refl _ _).drew | exact ((Only.refl _ _).drewN _).drew | exact Only.trans (And.left (by assumption)) (by assumption) | exact Only.alloc (And.left (by assumption)) _ | assumption)) (first | (go_at_call 138; (with_reducible refine (orbitOf_any _ (HC.out.keep (kA.trans (And.left (by assumption)))) i hi).mono ?_); rintro e w1 ⟨vo, fo, rfl, A1, F1, t1⟩; rw [← Hys.out] at A1; have kX : Only [] (w.alloc (.map #[] 0)) w1 := Only.trans (And.left (by assumption)) t1; have kB := Only.trans kA kX; have r1 := A1.rd (by decide); have F2 := A1.fresh F1; obtain ⟨ao, co, rfl, IO⟩ := r1.ints) | fail "no arm")
  have hge : ∀ b ∈ ((Value.slice ao ys.length co).ownBlock.toList ++ fo.flatten), w.heap.size < b := fun b hb => by
    have := F2.ge b hb
    simp at this
    omega
  have HIO := Lib.hid IO
  have Hge := Lib.hid hge
  clear A1 F1 F2 r1 IO hge z0 z1 zt zr t1
  go_wp2_with fail
  go_loopw [22] (fun i wr => ∃ j : Nat, j ≤ ys.length ∧ i = .int .i64 j ∧ Mpv wr w.heap.size j (gV m (ys.take j)) ∧ Only [w.heap.size] w1 wr)
    (fun i _ => ys.length - (intOf i).toNat)
  case atStart => exact ⟨0, Nat.zero_le _, rfl, HM0.out.keep kX, Only.refl _ _⟩
  case round =>
    obtain ⟨W2, hnew⟩ : ∃ W, W = wr := ⟨_, rfl⟩
    subst hnew
    obtain ⟨j, hj, rfl, hM, hO⟩ := hrel
    have KO : Only [] w W2 := kB.then_ hO (fun b hb hl => by simp at hb; omega)
    by_cases hlt : j < ys.length
    · obtain ⟨y, hy⟩ : ∃ y, y = ys[j] := ⟨_, rfl⟩
      have hyr := Hyr.out y (by rw [hy]; exact List.getElem_mem hlt)
      obtain ⟨b2, o2, rfl, -, c2⟩ := (HIO.out.only hO (fun b hb hm => by have := Hge.out b hb; simp at hm; omega)).at_ j hlt
      rw [← hy] at c2
      obtain ⟨b3, o3, rfl, -, c3⟩ := (HIM.out.keep KO).at_pm (x := y) hyr.1 (by rw [Hml.out]; exact hyr.2)
      have y2' := KO.cell (by simp) y2
      have hym : y < (m.length : Int) := by rw [Hml.out]; exact hyr.2
      have hy0 := hyr.1
      have hmr := Hm.out.rng hyr.1 hyr.2
      obtain ⟨w3, hrun3, hM3, hO3⟩ := hM.run_put (s := PM.at_ m y) (by unfold I64; omega) (n := y) (by unfold I64; omega) (by unfold maxLen; omega)
      have htk : ys.take (j + 1) = ys.take j ++ [y] := by rw [take_succ_get ys j hlt, hy]
      have Htk := Lib.hid htk
      clear htk hy
      go_wp2
      go_roundw
      case rel => exact ⟨j + 1, by omega, by go_num, hM3.congr (fun x => by rw [Htk.out]; exact gV_snoc Hm.out hyr.1 hyr.2 x), hO.trans hO3⟩
      case measure => simp [intOf]; omega
    · have hfin : Mpv W2 w.heap.size 1000 (gV m ys) := by
        rw [List.take_of_length_le (by omega)] at hM
        exact hM.mono (by omega)
      go_wp2
      go_ret
      exact ⟨w.heap.size, rfl, Nat.le_refl _, hfin, KO⟩
theorem gV_yes {n : Nat} {T : PM.Rows} {i : Nat} {m : List Int} {vv : Int} (h : vv ∈ PM.cho n T i m) : gV m (orb n T i) vv = some (PM.at_ (PM.inv m) vv) := if_pos h
theorem gV_no {n : Nat} {T : PM.Rows} {i : Nat} {m : List Int} {vv : Int} (h : vv ∉ PM.cho n T i m) : gV m (orb n T i) vv = none := if_neg h
/-- the walk has taken a value: q is chosen, the level is still i -/
def TK (w : World) (L : Lay) (b i : Nat) (q : List Int) (wx : World) : Prop :=
  ∃ a c f', Blk wx b [.pointer (some ⟨L.g, 0, none⟩), .int .i64 i, .slice a q.length c] ∧ Rd wx (.slice a q.length c) q f' ∧ Fresh w.heap.size wx f' ∧ Only [b] w wx
theorem TK.of {w w1 w5 w6 : World} {L : Lay} {b i : Nat} {q : List Int} {a : Option Addr} {c : Nat} {f' : List Nat} {v : Value} (t1 : Only [] w w1) (k5 : Only [] w1 w5) (Y5 : Blk w5 b [.pointer (some ⟨L.g, 0, none⟩), .int .i64 i, v]) (hb : b < w.heap.size)
    (r5 : Rd w5 (.slice a q.length c) q f') (F5 : Fresh w1.heap.size w5 f') (h6 : w6 = w5.setCell ⟨b, 2, none⟩ (.slice a q.length c)) : TK w L b i q w6 := by
  subst h6
  have hs : Only [b] w5 (w5.setCell ⟨b, 2, none⟩ (.slice a q.length c)) := (Only.refl _ _).setCell (by simp) _
  have hsz := t1.size
  have hd : ∀ z ∈ f', z ∉ [b] := fun z hz hm => by have := F5.ge z hz; simp at hm; omega
  have hB := Y5.set 2 (.slice a q.length c)
  simp only [List.set] at hB
  exact ⟨a, c, f', hB, Rp.only r5 hs hd, (F5.mono hsz).only hs hd, ((t1.trans k5).weaken _).trans hs⟩
set_option maxHeartbeats 4000000 in
theorem take_yes {e : TypeId} {B : Nat} {L : Lay} {gv : Nat → Value} {n : Nat} {G : PM.Gens} {T : PM.Rows} {M F : List Nat} (w : World) (hC : Ch e B w L gv n G T M F) (hw : PM.WF n T) (hT : L.oT = 2) (b i : Nat) (hi : i < n) (v : Value) (m : List Int) (fm : List Nat)
    (hb : Blk w b [.pointer (some ⟨L.g, 0, none⟩), .int .i64 i, v]) (hv : Rd w v m fm) (hm : PM.PN n m) (vv : Int) (hvv : vv ∈ PM.cho n T i m) :
    Calls Tryz.prog 99 #[.pointer (some ⟨b, 0, none⟩), .int .i64 vv] w fun e w' => e = .returned (.bool true) ∧ (∃ v' f', Blk w' b [.pointer (some ⟨L.g, 0, none⟩), .int .i64 ((i : Int) + 1), v'] ∧ Rd w' v' (PM.putV T i m vv) f' ∧ Fresh w.heap.size w' f') ∧ Only [b] w w' := by
  have hn20 := hC.le
  obtain ⟨hv0, hv1, hp0, hp1, hp2, hp3⟩ := PM.cho_pre hm hvv
  have hI : I64 vv := by unfold I64; omega
  have HcV := Lib.hid (values_any w hC hT b i hi v m fm hb hv hm)
  have Hyes := Lib.hid (gV_yes hvv)
  obtain ⟨A, C, rfl, IM⟩ := hv.ints
  obtain ⟨y, hy⟩ : ∃ y, y = PM.at_ (PM.inv m) vv := ⟨_, rfl⟩
  rw [← hy] at Hyes hp0 hp1 hp2 hp3
  have hput : PM.putV T i m vv = PM.comp (PM.tr T i y) m := by unfold PM.putV; rw [← hy]
  have ct := hC.ct
  rw [hT] at ct
  have cr := hC.row i hi
  obtain ⟨bt, ot, capt, ft, crt, hrt, -⟩ := hC.at_some hi hp0 hp1 hp2
  have htp := hw.pn i y hi hp2
  have hlt := Lib.hid htp.1
  have HC := Lib.hid hC
  have Hm := Lib.hid hm
  have Hp := Lib.hid hput
  have Htp := Lib.hid htp
  have HI := Lib.hid hI
  have y0 := hb.cell 0 rfl
  have y1 := hb.cell 1 rfl
  have y2 := hb.cell 2 rfl
  have hblt := hb.lt
  clear hC hm hvv hI hy hput hp2 hp3 htp hv0 hv1 IM
  go_enter Tryz.func99, Tryz.ntmps99
  go_upto_region 4 with (first
    | (go_at_call 126; (with_reducible refine (HcV.out).mono ?_); rintro en w1 ⟨K, rfl, hK, hM, t1⟩; have hrun := hM.run_yes HI.out Hyes.out)
    | fail "no arm")
  have x0 := t1.cell (by simp) y0
  have x1 := t1.cell (by simp) y1
  have x2 := t1.cell (by simp) y2
  have xt := t1.cell (by simp) ct
  have xr := t1.cell (by simp) cr
  have xy := t1.cell (by simp) crt
  clear y0 y1 y2 ct cr crt hrun hM
  have kd : Only [] w1 w1.drew := (Only.refl _ _).drew
  have d0 := kd.cell (by simp) x0
  have d1 := kd.cell (by simp) x1
  have d2 := kd.cell (by simp) x2
  have dt := kd.cell (by simp) xt
  have dr := kd.cell (by simp) xr
  have dy := kd.cell (by simp) xy
  have HcC := Lib.hid (fun (W : World) (hW : Only [] w1 W) => implCompose_rd n _ _ (PM.tr T i y) m _ _ W (Rp.keep hrt (Only.trans t1 hW)) (Rp.keep hv (Only.trans t1 hW)) Htp.out Hm.out (by omega))
  have Hb := Lib.hid (fun (W : World) (hW : Only [] w1 W) => hb.keep (t1.trans hW))
  clear kd
  go_cut [] (fun wx => TK w L b i (PM.comp (PM.tr T i y) m) wx)
  case first =>
   go_region_law (first
    | (go_simp; go_at_call 72; (with_reducible refine (HcC.out _ (by with_reducible repeat (first | exact Only.refl _ _ | refine Only.drew ?_))).mono ?_); rintro e w5 ⟨v5, f5, rfl, r5, F5, t5⟩; have k5 : Only [] w1 w5 := Only.trans (by with_reducible repeat (first | exact Only.refl _ _ | refine Only.drew ?_)) t5; have Y5 := Hb.out _ k5; have x5 := Y5.cell 2 rfl; have q5 := Y5.frozen 2; have r50 := r5; obtain ⟨a5, c5, rfl, _⟩ := r5.ints)
    | fail "no arm")
   all_goals go_wp2_with fail
   all_goals go_meet
   all_goals exact TK.of t1 k5 Y5 hblt r50 (F5.mono (by simp)) rfl
  case rest =>
    obtain ⟨a6, c6, f6, B6, r6, F6, O6⟩ := hcut
    obtain ⟨W2, hnew⟩ : ∃ W, W = wc := ⟨_, rfl⟩
    subst hnew
    have z1 := B6.cell 1 rfl
    have p1 := B6.frozen 1
    have hs : Only [b] W2 (W2.setCell ⟨b, 1, none⟩ (.int .i64 ((i : Int) + 1))) := (Only.refl _ _).setCell (by simp) _
    have hd : ∀ z ∈ f6, z ∉ [b] := fun z hz hm => by have := F6.ge z hz; simp at hm; omega
    have hB := B6.set 1 (.int .i64 ((i : Int) + 1))
    simp only [List.set] at hB
    have hfin := (⟨⟨_, _, hB, Rp.only r6 hs hd, F6.only hs hd⟩, O6.trans hs⟩ : (∃ v' f', Blk (W2.setCell ⟨b, 1, none⟩ (.int .i64 ((i : Int) + 1))) b [.pointer (some ⟨L.g, 0, none⟩), .int .i64 ((i : Int) + 1), v'] ∧ Rd (W2.setCell ⟨b, 1, none⟩ (.int .i64 ((i : Int) + 1))) v' (PM.comp (PM.tr T i y) m) f' ∧ Fresh w.heap.size (W2.setCell ⟨b, 1, none⟩ (.int .i64 ((i : Int) + 1))) f') ∧ Only [b] w (W2.setCell ⟨b, 1, none⟩ (.int .i64 ((i : Int) + 1))))
    have hwi : IntKind.i64.wrap ((i : Int) + 1) = (i : Int) + 1 := by rw [IntKind.wrap_i64]; omega
    have Hfin := Lib.hid hfin
    clear hfin hB hs hd r6 F6 O6
    go_wp2
    go_ret
    rw [Hp.out]
    exact ⟨rfl, Hfin.out⟩
end Go.Proofs.YtajkhdbdkjhilaaGreat

namespace Go.Proofs.YtajkhdbdkjhilaaGreat
open Go.RowKit Go.Shelf Go.Sort Go.Proofs
set_option maxRecDepth 10000

def Tryz.sortI_ren : Go.Shelf.Ren := ⟨fun | 5 => 127 | 8 => 140 | 7 => 139 | 19 => 153 | 20 => 154 | 10 => 144 | 11 => 145 | 12 => 146 | 13 => 147 | 14 => 148 | 15 => 149 | 16 => 150 | 17 => 151 | 18 => 152 | 30 => 158 | 31 => 159 | 32 => 160 | 33 => 161 | 34 => 162 | 35 => 163 | 40 => 167 | n => n, fun | 23 => 27 | 25 => 2 | 3 => 3 | 32 => 119 | 22 => 27 | 0 => 0 | 44 => 153 | 46 => 155 | 4 => 4 | 36 => 146 | 35 => 145 | 41 => 150 | 5 => 5 | 9 => 9 | 53 => 159 | 57 => 163 | 63 => 167 | 64 => 168 | n => n, fun | n => n⟩
theorem Tryz.sortI : SlLaysM.n5 Tryz.prog Tryz.sortI_ren where
  mixed := by kernel_rfl
  f5 := ⟨ "slices.Sort[[]int64,int64]", by decide, Tryz.func127.trans (congrArg some (by kernel_rfl))⟩
  f7 := ⟨ "slices.pdqsortOrdered[int64]", by decide, Tryz.func139.trans (congrArg some (by kernel_rfl))⟩
  f8 := Tryz.func140.trans (congrArg some (by kernel_rfl))
  f10 := ⟨ "slices.insertionSortOrdered[int64]", by decide, Tryz.func144.trans (congrArg some (by kernel_rfl))⟩
  f11 := ⟨ "slices.heapSortOrdered[int64]", by decide, Tryz.func145.trans (congrArg some (by kernel_rfl))⟩
  f12 := ⟨ "slices.breakPatternsOrdered[int64]", by decide, Tryz.func146.trans (congrArg some (by kernel_rfl))⟩
  f13 := ⟨ "slices.choosePivotOrdered[int64]", by decide, Tryz.func147.trans (congrArg some (by kernel_rfl))⟩
  f14 := ⟨ "slices.reverseRangeOrdered[int64]", by decide, Tryz.func148.trans (congrArg some (by kernel_rfl))⟩
  f15 := ⟨ "slices.partialInsertionSortOrdered[int64]", by decide, Tryz.func149.trans (congrArg some (by kernel_rfl))⟩
  f16 := ⟨ "cmp.Less[int64]", by decide, Tryz.func150.trans (congrArg some (by kernel_rfl))⟩
  f17 := ⟨ "slices.partitionEqualOrdered[int64]", by decide, Tryz.func151.trans (congrArg some (by kernel_rfl))⟩
  f18 := ⟨ "slices.partitionOrdered[int64]", by decide, Tryz.func152.trans (congrArg some (by kernel_rfl))⟩
  f19 := Tryz.func153.trans (congrArg some (by kernel_rfl))
  f20 := Tryz.func154.trans (congrArg some (by kernel_rfl))
  f30 := ⟨ "slices.siftDownOrdered[int64]", by decide, Tryz.func158.trans (congrArg some (by kernel_rfl))⟩
  f31 := Tryz.func159.trans (congrArg some (by kernel_rfl))
  f32 := Tryz.func160.trans (congrArg some (by kernel_rfl))
  f33 := ⟨ "slices.medianAdjacentOrdered[int64]", by decide, Tryz.func161.trans (congrArg some (by kernel_rfl))⟩
  f34 := ⟨ "slices.medianOrdered[int64]", by decide, Tryz.func162.trans (congrArg some (by kernel_rfl))⟩
  f35 := ⟨ "cmp.isNaN[int64]", by decide, Tryz.func163.trans (congrArg some (by kernel_rfl))⟩
  f40 := ⟨ "slices.order2Ordered[int64]", by decide, Tryz.func167.trans (congrArg some (by kernel_rfl))⟩
  t0 := Tryz.underlying0
  a0 := Tryz.isAgg0
  z0 := Tryz.sizeOf0
  v0 := Tryz.zeroValue0
  t3 := Tryz.underlying3
  a3 := Tryz.isAgg3
  z3 := Tryz.sizeOf3
  v3 := Tryz.zeroValue3
  t4 := Tryz.underlying4
  a4 := Tryz.isAgg4
  z4 := Tryz.sizeOf4
  v4 := Tryz.zeroValue4
  t5 := Tryz.underlying5
  a5 := Tryz.isAgg5
  z5 := Tryz.sizeOf5
  v5 := Tryz.zeroValue5
  t9 := Tryz.underlying9
  a9 := Tryz.isAgg9
  z9 := Tryz.sizeOf9
  v9 := Tryz.zeroValue9
  t22 := Tryz.underlying27
  a22 := Tryz.isAgg27
  z22 := Tryz.sizeOf27
  v22 := Tryz.zeroValue27
  t23 := Tryz.underlying27
  a23 := Tryz.isAgg27
  z23 := Tryz.sizeOf27
  v23 := Tryz.zeroValue27
  t25 := Tryz.underlying2
  a25 := Tryz.isAgg2
  z25 := Tryz.sizeOf2
  v25 := Tryz.zeroValue2
  t32 := Tryz.underlying119
  a32 := Tryz.isAgg119
  z32 := Tryz.sizeOf119
  v32 := Tryz.zeroValue119
  t35 := Tryz.underlying145
  a35 := Tryz.isAgg145
  z35 := Tryz.sizeOf145
  v35 := Tryz.zeroValue145
  t36 := Tryz.underlying146
  a36 := Tryz.isAgg146
  z36 := Tryz.sizeOf146
  v36 := Tryz.zeroValue146
  t41 := Tryz.underlying150
  a41 := Tryz.isAgg150
  z41 := Tryz.sizeOf150
  v41 := Tryz.zeroValue150
  t44 := Tryz.underlying153
  a44 := Tryz.isAgg153
  z44 := Tryz.sizeOf153
  v44 := Tryz.zeroValue153
  t46 := Tryz.underlying155
  a46 := Tryz.isAgg155
  z46 := Tryz.sizeOf155
  v46 := Tryz.zeroValue155
  t53 := Tryz.underlying159
  a53 := Tryz.isAgg159
  z53 := Tryz.sizeOf159
  v53 := Tryz.zeroValue159
  t57 := Tryz.underlying163
  a57 := Tryz.isAgg163
  z57 := Tryz.sizeOf163
  v57 := Tryz.zeroValue163
  t63 := Tryz.underlying167
  a63 := Tryz.isAgg167
  z63 := Tryz.sizeOf167
  v63 := Tryz.zeroValue167
  t64 := Tryz.underlying168
  a64 := Tryz.isAgg168
  z64 := Tryz.sizeOf168
  v64 := Tryz.zeroValue168
theorem map_one_flatten (l : List Int) : (l.map fun x => [Value.int .i64 x]).flatten = l.map (Value.int .i64) := by
  induction l with
  | nil => rfl
  | cons x l ih => simp only [List.map_cons, List.flatten_cons, ih, List.cons_append, List.nil_append]
theorem AccI.row {B : Nat} {e : TypeId} {w : World} {v : Value} {l : List Int} (h : AccI B e w v l) : w.ownsRow B e 1 v l.length (l.map (Value.int .i64)) ∧ ∀ x ∈ l, I64 x := by
  obtain ⟨fs, h⟩ := h
  obtain ⟨css, ho, hcl, hr⟩ := h.own
  have hfl := h.fl
  have hc : css = l.map fun x => [Value.int .i64 x] := by
    apply List.ext_getElem (by simp [hcl])
    intro k h1 h2
    have hk : k < l.length := by omega
    have := (hr k h1 hk (by omega)).1
    rw [this]; simp
  refine ⟨?_, fun x hx => ?_⟩
  · rw [hc, map_one_flatten] at ho; exact ho
  · obtain ⟨k, hk, rfl⟩ := List.getElem_of_mem hx
    exact (hr k (by omega) hk (by omega)).2.1
theorem AccI.ofRow {B : Nat} {e : TypeId} {w : World} {v : Value} {l : List Int} (h : w.ownsRow B e 1 v l.length (l.map (Value.int .i64))) (hI : ∀ x ∈ l, I64 x) : AccI B e w v l := by
  have hf : ∀ n : Nat, (List.replicate n ([] : List Nat)).flatten = [] := fun n => by induction n with | zero => rfl | succ n ih => simp [List.replicate_succ, ih]
  refine ⟨List.replicate l.length [], ⟨l.map fun x => [Value.int .i64 x], ?_, by simp, fun k h1 h2 h3 => ?_⟩, by simp, fun g _ => by rw [hf]; simp⟩
  · rw [map_one_flatten]; exact h
  · exact ⟨by simp, hI _ (List.getElem_mem h2), by simp⟩
theorem sorted_asc {l : List Int} (hn : l.Nodup) : PM.Asc (l.mergeSort fun x y => decide (x ≤ y)) := by
  have h1 : (l.mergeSort fun x y => decide (x ≤ y)).Pairwise (fun a b => decide (a ≤ b) = true) := List.pairwise_mergeSort (by intro a b c h1 h2; simp at *; omega) (by intro a b; simp; omega) l
  have h2 : (l.mergeSort fun x y => decide (x ≤ y)).Nodup := (List.mergeSort_perm l _).nodup_iff.2 hn
  unfold PM.Asc
  refine List.Pairwise.imp_of_mem (fun {a b} _ _ h => ?_) (List.Pairwise.and h1 h2)
  obtain ⟨h3, h4⟩ := h
  simp at h3
  omega
theorem sorted_mem {l : List Int} {x : Int} : x ∈ (l.mergeSort fun x y => decide (x ≤ y)) ↔ x ∈ l := (List.mergeSort_perm l _).mem_iff
theorem sort_accI {B : Nat} (w : World) (v : Value) (l : List Int) (h : AccI B 2 w v l) (hl : l ≠ []) (hsz : l.length ≤ 1000) :
    Calls Tryz.prog 127 #[v] w fun e w' => e = .returned (.tuple #[]) ∧ AccI B 2 w' v (l.mergeSort fun x y => decide (x ≤ y)) ∧ Only v.ownBlock.toList w w' := by
  obtain ⟨ho, hI⟩ := h.row
  rcases ho.2 with ⟨-, h0⟩ | ⟨g, cap, cur, rfl, hb, hg, h1, h2, h3, h4⟩
  · exact absurd (List.length_eq_zero_iff.1 h0) hl
  · rw [Nat.mul_one] at h4
    refine (AnyM.slices_Sort_int Tryz.sortI g 0 cap l w (holds_of_blockI hg h4) (Array.getElem?_eq_some_iff.1 hg).1 (by omega)).mono ?_
    rintro e w' ⟨he, n, os, rfl⟩
    have hlen : (l.mergeSort fun x y => decide (x ≤ y)).length = l.length := List.length_mergeSort l
    have hr := ownsRow_sortedI (n := n) (os := os) (ts := l.mergeSort fun x y => decide (x ≤ y)) (ss := l) hlen hb hg h1 h2 h3
    refine ⟨he, AccI.ofRow ?_ (fun x hx => hI x (sorted_mem.1 hx)), (Only.refl _ _).grown (grownBy_sortedI _) (by intro j hj _; injection hj with hj; subst hj; simp [Value.ownBlock])⟩
    rw [hlen]; exact hr
end Go.Proofs.YtajkhdbdkjhilaaGreat
