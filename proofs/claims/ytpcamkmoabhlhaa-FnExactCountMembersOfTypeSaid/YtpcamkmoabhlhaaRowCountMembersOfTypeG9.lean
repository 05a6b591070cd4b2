/- Copies of sessions: the reference's and the program's; what they are made of. (Printed by mkseops2.py.) PlayWord: the reference's and the program's. Words taken back from a history: what both RedoWord and UndoWord need. (Printed by mkredo.py.) The reference's search: its own memory (law 16). The reference's search: one list more (law 16). The reference's tables: what can be checked, where a letter leads. The reference's tables: letters, what lies behind a letter. (Written by mkspectab.py.) The reference's search from a list on: its state (law 16). Maps from strings to numbers that a call makes; the key of a list of small numbers. Maps from strings to truth values that a call makes. The program's search of patterns: its state (law 16). A slice of numbers that a loop appends to, in fewer words. The members of a stabilizer chain: how many there are. The way down a stabilizer chain (laws 33, 47): the choices at each level, the member that a selection leads to; it hangs on the group alone. All members of a chain, level by level, are the members of the ranks in their order (laws 32, 36, 44). The reference's search from a list on (law 16). The reference's BuildTable (law 16). The reference's BuildTable: the table (law 16). What a search of patterns has met: lengths; a table's count. Descents in plain words. -/
import Derived.Test.YtpcamkmoabhlhaaRowCountMembersOfTypeG8
import Derived.Deep.RegionLaw
import Derived.Test.YtpcamkmoabhlhaaRowCountMembersOfTypeG3
import Derived.Deep.RegionHeld3
import Derived.Maps.OwnSet
import Derived.StringKeys
import Derived.Laws.BytesArg
import Derived.Test.YtpcamkmoabhlhaaRowCountMembersOfTypeG5
import Derived.Test.YtpcamkmoabhlhaaRowCountMembersOfTypeG7
namespace Go.Proofs.Ytpcamkmoabhlhaa
open Go.RowKit
set_option maxRecDepth 10000

/-- a session of the call's own, in parts -/
structure SeP (eI : TypeId) (B : Nat) (w : World) (x : Session) (vm vs vh vf : Value) (fm fs : List Nat) (hs us : List (List Nat)) : Prop where
  nm : I64 x.puzzle.points ∧ x.puzzle.names.size ≤ maxLen
  mv : Rd w vm x.puzzle.moves fm
  st : Rd w vs x.state fs
  hi : Acc B eI w vh x.history hs
  fu : Acc B eI w vf x.future us
  fr : Fresh B w (fm ++ (fs ++ ((vh.ownBlock.toList ++ hs.flatten) ++ (vf.ownBlock.toList ++ us.flatten))))
section
variable {eI : TypeId} {B : Nat} {w w' : World} {x : Session} {vm vs vh vf : Value} {fm fs : List Nat} {hs us : List (List Nat)}
theorem SeP.only (h : SeP eI B w x vm vs vh vf fm fs hs us) {fp : List Nat} (ho : Only fp w w') (hd : ∀ b ∈ fp, b < B ∨ w.heap.size ≤ b) : SeP eI B w' x vm vs vh vf fm fs hs us := by
  have key : ∀ b ∈ fm ++ (fs ++ ((vh.ownBlock.toList ++ hs.flatten) ++ (vf.ownBlock.toList ++ us.flatten))), b ∉ fp := fun b hb hm => by
    have h1 := h.fr.ge b hb
    have h2 := h.fr.lt b hb
    rcases hd b hm with h3 | h3 <;> omega
  have k1 : ∀ b ∈ fm, b ∉ fp := fun b hb => key b (List.mem_append_left _ hb)
  have k2 : ∀ b ∈ fs, b ∉ fp := fun b hb => key b (List.mem_append_right _ (List.mem_append_left _ hb))
  have k3 : ∀ b ∈ vh.ownBlock.toList ++ hs.flatten, b ∉ fp := fun b hb => key b (List.mem_append_right _ (List.mem_append_right _ (List.mem_append_left _ hb)))
  have k4 : ∀ b ∈ vf.ownBlock.toList ++ us.flatten, b ∉ fp := fun b hb => key b (List.mem_append_right _ (List.mem_append_right _ (List.mem_append_right _ hb)))
  exact ⟨h.nm, Rp.only h.mv ho k1, Rp.only h.st ho k2, h.hi.only ho (fun b hb => k3 b (List.mem_append_right _ hb)) (fun g hg => k3 g (List.mem_append_left _ (by simp [hg]))), h.fu.only ho (fun b hb => k4 b (List.mem_append_right _ hb)) (fun g hg => k4 g (List.mem_append_left _ (by simp [hg]))), h.fr.only ho key⟩
theorem Acc.mono {α : Type} [Rp α] {B B' : Nat} {e : TypeId} {w : World} {v : Value} {l : List α} {fs : List (List Nat)} (h : Acc B e w v l fs) (hB : B' ≤ B) : Acc B' e w v l fs := by
  obtain ⟨css, ho, hr⟩ := h.own
  refine ⟨⟨css, ⟨ho.1, ?_⟩, hr⟩, h.fl, h.apart⟩
  rcases ho.2 with h1 | ⟨g, cp, cur, h1, h2, h3⟩
  · exact .inl h1
  · exact .inr ⟨g, cp, cur, h1, Nat.le_trans hB h2, h3⟩
theorem SeP.mono (h : SeP eI B w x vm vs vh vf fm fs hs us) {B' : Nat} (hB : B' ≤ B) : SeP eI B' w x vm vs vh vf fm fs hs us :=
  ⟨h.nm, h.mv, h.st, h.hi.mono hB, h.fu.mono hB, h.fr.mono hB⟩
/-- parts made one behind the other -/
theorem SeP.made {w1 w2 w3 w4 : World} (nm : I64 x.puzzle.points ∧ x.puzzle.names.size ≤ maxLen) {B1 : Nat} (r1 : Rd w1 vm x.puzzle.moves fm) (F1 : Fresh B1 w1 fm) (r2 : Rd w2 vs x.state fs) (F2 : Fresh w1.heap.size w2 fs) (r3 : Acc w2.heap.size eI w3 vh x.history hs) (F3 : Fresh w2.heap.size w3 hs.flatten)
    (r4 : Acc w3.heap.size eI w4 vf x.future us) (F4 : Fresh w3.heap.size w4 us.flatten) (t2 : Only [] w1 w2) (t3 : Only [] w2 w3) (t4 : Only [] w3 w4) (hB : B ≤ B1) (hB1 : B1 ≤ w1.heap.size) : SeP eI B w4 x vm vs vh vf fm fs hs us := by
  have s2 := t2.size
  have s3 := t3.size
  have s4 := t4.size
  refine ⟨nm, Rp.keep (Rp.keep (Rp.keep r1 t2) t3) t4, Rp.keep (Rp.keep r2 t3) t4, (r3.keep t4).mono (by omega), r4.mono (by omega), ?_⟩
  have f4 := r4.fresh F4
  have f3 := (r3.fresh F3)
  have f34 := Fresh.append (f3.keep t4) f4 s3 fun b hb => f3.lt b hb
  have f234 := Fresh.append ((F2.keep t3).keep t4) f34 s2 fun b hb => F2.lt b hb
  exact (Fresh.append (((F1.keep t2).keep t3).keep t4) f234 hB1 fun b hb => F1.lt b hb).mono hB
theorem SeP.keep (h : SeP eI B w x vm vs vh vf fm fs hs us) (ho : Only [] w w') : SeP eI B w' x vm vs vh vf fm fs hs us := h.only ho (by simp)
theorem SeP.rep (h : SeP eI B w x vm vs vh vf fm fs hs us) : Rp.rep w [.int .i64 x.puzzle.points, .string x.puzzle.names, vm, vs, vh, vf] x (fm ++ (fs ++ ((vh.ownBlock.toList ++ hs.flatten) ++ (vf.ownBlock.toList ++ us.flatten)))) :=
  ⟨[.int .i64 x.puzzle.points, .string x.puzzle.names, vm], vs, vh, vf, fm, fs, _, _, rfl, rfl, ⟨vm, rfl, h.nm.1, h.nm.2, h.mv⟩, h.st, h.hi.rd (by decide), h.fu.rd (by decide)⟩
end
end Go.Proofs.Ytpcamkmoabhlhaa

namespace Go.Proofs.Ytpcamkmoabhlhaa
open Go.RowKit
set_option maxRecDepth 10000
end Go.Proofs.Ytpcamkmoabhlhaa

namespace Go.Proofs.Ytpcamkmoabhlhaa
open Go.RowKit
set_option maxRecDepth 10000

/-- the last word; what is ahead of it -/
def lastW (ws : List (List Int)) : List Int := ws.getD (ws.length - 1) []
def restW (ws : List (List Int)) : List (List Int) := ws.take (ws.length - 1)
theorem lastW_get {ws : List (List Int)} (h : 0 < ws.length) : lastW ws = ws[ws.length - 1] := by
  unfold lastW; rw [List.getD_eq_getElem?_getD, List.getElem?_eq_getElem (by omega)]; rfl
section
variable {B : Nat} {e : TypeId} {w : World} {v : Value} {l : List (List Int)} {fs : List (List Nat)}
/-- the last word of a history of the call's own, and the history without it -/
theorem Acc.last (h : Acc B e w v l fs) (hF : Fresh B w fs.flatten) (hl : 0 < l.length) :
    ∃ g c u fu fr, v = .slice (some ⟨g, 0, none⟩) l.length c ∧ l.length ≤ c ∧ c ≤ maxLen ∧ w.cell? ⟨g, l.length - 1, none⟩ = some u ∧ Rd w u (lastW l) fu ∧ (∀ b ∈ fu, b ∈ fs.flatten) ∧
      SeqA w (some ⟨g, 0, none⟩) c l v.ownBlock.toList fs ∧ Rd w (.slice (some ⟨g, 0, none⟩) (l.length - 1) c) (restW l) fr ∧ Fresh B w fr ∧ fr.Sublist (v.ownBlock.toList ++ fs.flatten) := by
  obtain ⟨css, ho, hcl, hr⟩ := h.own
  obtain ⟨a, cap, hv, -, hI⟩ := own_seq (xs := l) (fps := fs) ho (by decide) hcl h.fl hr
  obtain ⟨b, off, u, e1, e2, hc, hu⟩ := hI.atRow (l.length - 1) (by omega)
  have e3 : off = 0 := by
    rcases ho.2 with ⟨h1, h2⟩ | ⟨g, cp, cur, h1, -⟩
    · omega
    · rw [hv] at h1
      injection h1 with h1 _ _
      rw [e1] at h1
      injection h1 with h1
      injection h1
  subst e1
  subst e3
  rw [Nat.zero_add] at hc
  have hsub : (v.ownBlock.toList ++ (fs.take (l.length - 1)).flatten).Sublist (v.ownBlock.toList ++ fs.flatten) := List.Sublist.append (List.Sublist.refl _) (flatten_take fs _)
  refine ⟨b, cap, u, _, _, hv, hI.len, hI.cap, hc, by rw [lastW_get hl]; exact hu, fun x hx => mem_flatten_get (j := l.length - 1) (by rw [h.fl]; omega) hx, hI, ?_, (h.fresh hF).sublist hsub, hsub⟩
  have := (hI.take (l.length - 1)).rd
  rwa [show (l.take (l.length - 1)).length = l.length - 1 by simp] at this
end
section
variable {B : Nat} {w w' : World} {a b c d m' fpw : List Nat}
theorem Fresh.parts (h : Fresh B w (a ++ (b ++ (c ++ d)))) : (∀ x ∈ a, x ∉ c ∧ x ∉ d) ∧ (∀ x ∈ b, x ∉ c ∧ x ∉ d) ∧ (∀ x ∈ c, x ∉ d) := by
  have n1 := List.nodup_append.1 h.nd
  have n2 := List.nodup_append.1 n1.2.1
  have n3 := List.nodup_append.1 n2.2.1
  refine ⟨fun x hx => ⟨fun hm => n1.2.2 x hx x (by simp [hm]) rfl, fun hm => n1.2.2 x hx x (by simp [hm]) rfl⟩, fun x hx => ⟨fun hm => n2.2.2 x hx x (by simp [hm]) rfl, fun hm => n2.2.2 x hx x (by simp [hm]) rfl⟩, fun x hx hm => n3.2.2 x hx x hm rfl⟩
end

end Go.Proofs.Ytpcamkmoabhlhaa

namespace Go.Proofs.Ytpcamkmoabhlhaa
open Go.RowKit
set_option maxRecDepth 10000
/-- a search of the call's own; f: memory that waits to be taken in -/
structure SrO (B : Nat) (w : World) (v1 v2 v3 : Value) (L : List (List Int)) (D si : List Int) (fs : List (List Nat)) (f : List Nat) : Prop where
  acc : Acc B 23 w v1 L fs
  dep : w.ownsRow B 2 1 v2 D.length (D.map (Value.int .i64))
  srt : w.ownsRow B 3 1 v3 si.length (si.map (Value.int .i64))
  fr : Fresh B w (v1.ownBlock.toList ++ ((fs.flatten ++ f) ++ (v2.ownBlock.toList ++ v3.ownBlock.toList)))
section
variable {B : Nat} {w w' : World} {v1 v2 v3 v1' v2' v3' : Value} {L : List (List Int)} {D si D' si' : List Int} {fs : List (List Nat)} {f fp : List Nat}
theorem SrO.nil (B : Nat) (w : World) : SrO B w (.slice none 0 0) (.slice none 0 0) (.slice none 0 0) [] [] [] [] [] :=
  ⟨Acc.nil _ _ _, ⟨by simp, .inl ⟨rfl, rfl⟩⟩, ⟨by simp, .inl ⟨rfl, rfl⟩⟩, by simp [Value.ownBlock]; exact Fresh.nil _ _⟩
theorem SrO.only (h : SrO B w v1 v2 v3 L D si fs f) (ho : Only fp w w') (hd : ∀ b ∈ v1.ownBlock.toList ++ ((fs.flatten ++ f) ++ (v2.ownBlock.toList ++ v3.ownBlock.toList)), b ∉ fp) : SrO B w' v1 v2 v3 L D si fs f :=
  ⟨h.acc.only ho (fun b hb => hd b (by simp [hb])) (fun g hg => hd g (by simp [hg])), owns_only h.dep ho (fun g hg => hd g (by simp [hg])), owns_only h.srt ho (fun g hg => hd g (by simp [hg])), h.fr.only ho hd⟩
theorem SrO.keep (h : SrO B w v1 v2 v3 L D si fs f) (ho : Only [] w w') : SrO B w' v1 v2 v3 L D si fs f := h.only ho (by simp)
theorem SrO.lt (h : SrO B w v1 v2 v3 L D si fs f) : ∀ b ∈ v1.ownBlock.toList ++ ((fs.flatten ++ f) ++ (v2.ownBlock.toList ++ v3.ownBlock.toList)), B ≤ b ∧ b < w.heap.size := fun b hb => ⟨h.fr.ge b hb, h.fr.lt b hb⟩
end
end Go.Proofs.Ytpcamkmoabhlhaa

namespace Go.Proofs.Ytpcamkmoabhlhaa
open Go.RowKit
set_option maxRecDepth 10000
/-- a search while a list is taken in: its blocks are none of the two boxes -/
structure St (w0 : World) (V : List Nat) (B : Nat) (w : World) (v1 v2 v3 : Value) (L : List (List Int)) (D si : List Int) (fs : List (List Nat)) (f : List Nat) : Prop where
  so : SrO B w v1 v2 v3 L D si fs f
  ap : ∀ b ∈ v1.ownBlock.toList ++ ((fs.flatten ++ f) ++ (v2.ownBlock.toList ++ v3.ownBlock.toList)), b < w0.heap.size ∨ w0.heap.size + 2 ≤ b
  on : Only V w0 w
  iv : ∀ b ∈ v1.ownBlock.toList ++ (v2.ownBlock.toList ++ v3.ownBlock.toList), b ∈ V ∨ w0.heap.size ≤ b
  sz : w0.heap.size + 2 ≤ w.heap.size
section
variable {w0 : World} {V : List Nat} {B : Nat} {w w' : World} {v1 v2 v3 v1' v2' v3' : Value} {L : List (List Int)} {D si D' si' : List Int} {fs : List (List Nat)} {f fp : List Nat}
theorem St.keep (h : St w0 V B w v1 v2 v3 L D si fs f) (ho : Only [] w w') : St w0 V B w' v1 v2 v3 L D si fs f :=
  ⟨h.so.keep ho, h.ap, h.on.then_ ho (by simp), h.iv, Nat.le_trans h.sz ho.size⟩
theorem St.box (h : St w0 V B w v1 v2 v3 L D si fs f) (ho : Only fp w w') (hf : ∀ b ∈ fp, b = w0.heap.size ∨ b = w0.heap.size + 1) : St w0 V B w' v1 v2 v3 L D si fs f :=
  ⟨h.so.only ho (fun b hb hm => by have := h.ap b hb; have := hf b hm; omega), h.ap, h.on.then_ ho (fun b hb hl => by have := hf b hb; omega), h.iv, Nat.le_trans h.sz ho.size⟩
end

end Go.Proofs.Ytpcamkmoabhlhaa

namespace Go.Proofs.Ytpcamkmoabhlhaa
open Go.RowKit
set_option maxRecDepth 10000




end Go.Proofs.Ytpcamkmoabhlhaa

namespace Go.Proofs.Ytpcamkmoabhlhaa
open Go.RowKit
set_option maxRecDepth 10000
end Go.Proofs.Ytpcamkmoabhlhaa

namespace Go.Proofs.Ytpcamkmoabhlhaa
open Go.RowKit
set_option maxRecDepth 10000
/-- the search under way: w: the call's begin; W: the loops' begin; b: the search's box -/
structure SFi (x : Puzzle) (m : Nat) (w W : World) (b : Nat) (L : List (List Int)) (D : List Int) (wr : World) (A1 A2 A3 : Option Addr) (C1 C2 C3 : Nat) (so : List Nat) (fs : List (List Nat)) : Prop where
  blk : Blk wr b [.slice A1 L.length C1, .slice A2 D.length C2, .slice A3 so.length C3, .bool false]
  sro : SrO (w.heap.size + 2) wr (.slice A1 L.length C1) (.slice A2 D.length C2) (.slice A3 so.length C3) L D (soI so) fs []
  srt : Srt m L so
  dl : D.length = L.length
  ll : L.length ≤ 3000
  pat : ∀ q ∈ L, patB x.points m q = true
  dep : ∀ d ∈ D, 0 ≤ d ∧ d ≤ D.length
  ap : ∀ g ∈ (Value.slice A1 L.length C1).ownBlock.toList ++ ((Value.slice A2 D.length C2).ownBlock.toList ++ (Value.slice A3 so.length C3).ownBlock.toList), g < b ∨ W.heap.size ≤ g
  apf : ∀ g ∈ fs.flatten, g < b ∨ W.heap.size ≤ g
  keep : ∀ g, (g < w.heap.size + 2 ∨ (b < g ∧ g < W.heap.size)) → wr.heap[g]? = W.heap[g]?
  on : Only [] w wr
  sz : W.heap.size ≤ wr.heap.size
  bW : b < W.heap.size
  wb : w.heap.size + 2 ≤ b
theorem SFi.only {x : Puzzle} {m : Nat} {w W : World} {b : Nat} {L : List (List Int)} {D : List Int} {wr wr' : World} {A1 A2 A3 : Option Addr} {C1 C2 C3 : Nat} {so : List Nat} {fs : List (List Nat)} (h : SFi x m w W b L D wr A1 A2 A3 C1 C2 C3 so fs) (ho : Only [] wr wr') : SFi x m w W b L D wr' A1 A2 A3 C1 C2 C3 so fs :=
  ⟨h.blk.keep ho, h.sro.keep ho, h.srt, h.dl, h.ll, h.pat, h.dep, h.ap, h.apf, fun g hg => by
    have hb := h.bW; have hz := h.sz; have hw := h.wb
    rw [ho.block g (by omega) (by simp)]; exact h.keep g hg, h.on.trans ho, Nat.le_trans h.sz ho.size, h.bW, h.wb⟩
/-- one list more, and the search's box anew -/
theorem SFi.step {x : Puzzle} {m : Nat} {w W : World} {b : Nat} {L : List (List Int)} {D : List Int} {wr w2 wf : World} {A1 A2 A3 A1' A2' A3' : Option Addr} {C1 C2 C3 C1' C2' C3' : Nat} {so so' : List Nat} {fs : List (List Nat)} {f : List Nat} {s : List Int} {d : Int} {fpw : List Nat}
    (h : SFi x m w W b L D wr A1 A2 A3 C1 C2 C3 so fs) (hf : ∀ g ∈ f, W.heap.size ≤ g) (hL : L.length < 3000) (hp : patB x.points m s = true) (hd : 0 ≤ d ∧ d ≤ D.length + 1)
    (h1 : SrO (w.heap.size + 2) w2 (.slice A1' (L.length + 1) C1') (.slice A2' (D.length + 1) C2') (.slice A3' (so.length + 1) C3') (L ++ [s]) (D ++ [d]) (soI so') (fs ++ [f]) []) (h2 : Srt m (L ++ [s]) so') (h3 : so'.length = so.length + 1)
    (h4 : Only ((Value.slice A1 L.length C1).ownBlock.toList ++ ((Value.slice A2 D.length C2).ownBlock.toList ++ (Value.slice A3 so.length C3).ownBlock.toList)) wr w2)
    (h5 : ∀ g ∈ (Value.slice A1' (L.length + 1) C1').ownBlock.toList ++ ((Value.slice A2' (D.length + 1) C2').ownBlock.toList ++ (Value.slice A3' (so.length + 1) C3').ownBlock.toList), g ∈ (Value.slice A1 L.length C1).ownBlock.toList ++ ((Value.slice A2 D.length C2).ownBlock.toList ++ (Value.slice A3 so.length C3).ownBlock.toList) ∨ wr.heap.size ≤ g)
    (h6 : Only fpw w2 wf) (hfp : ∀ g ∈ fpw, g = b) (h7 : Blk wf b [.slice A1' (L.length + 1) C1', .slice A2' (D.length + 1) C2', .slice A3' (so.length + 1) C3', .bool false]) :
    SFi x m w W b (L ++ [s]) (D ++ [d]) wf A1' A2' A3' C1' C2' C3' so' (fs ++ [f]) := by
  have hb := h.bW; have hz := h.sz; have hw := h.wb
  have hge := h.sro.fr.ge
  have hap' : ∀ g ∈ (Value.slice A1' (L.length + 1) C1').ownBlock.toList ++ ((Value.slice A2' (D.length + 1) C2').ownBlock.toList ++ (Value.slice A3' (so.length + 1) C3').ownBlock.toList), g < b ∨ W.heap.size ≤ g := fun g hg => by
    rcases h5 g hg with h8 | h8
    · exact h.ap g h8
    · right; omega
  have hapf' : ∀ g ∈ (fs ++ [f]).flatten, g < b ∨ W.heap.size ≤ g := fun g hg => by
    rw [List.flatten_append] at hg
    rcases List.mem_append.1 hg with hg | hg
    · exact h.apf g hg
    · exact .inr (hf g (by simpa using hg))
  have hs2 := h4.size
  have hnin : ∀ g ∈ (Value.slice A1 L.length C1).ownBlock.toList ++ ((Value.slice A2 D.length C2).ownBlock.toList ++ (Value.slice A3 so.length C3).ownBlock.toList), w.heap.size + 2 ≤ g := fun g hg => hge g (by
    simp only [List.mem_append] at hg ⊢
    rcases hg with hg | hg | hg
    · exact .inl hg
    · exact .inr (.inr (.inl hg))
    · exact .inr (.inr (.inr hg)))
  refine ⟨?_, ?_, h2, by simp [h.dl], by simp; omega, ?_, ?_, ?_, hapf', fun g hg => ?_, ?_, ?_, h.bW, h.wb⟩
  · simpa [h3] using h7
  · have := h1.only h6 (fun g hg hm => by
      have e := hfp g hm
      simp only [List.mem_append, List.append_nil] at hg
      rcases hg with hg | hg | hg | hg
      · have := hap' g (by simp only [List.mem_append]; exact .inl hg); omega
      · have := hapf' g hg; omega
      · have := hap' g (by simp only [List.mem_append]; exact .inr (.inl hg)); omega
      · have := hap' g (by simp only [List.mem_append]; exact .inr (.inr hg)); omega)
    simpa [h3] using this
  · intro q hq
    rcases List.mem_append.1 hq with hq | hq
    · exact h.pat q hq
    · simp at hq; subst hq; exact hp
  · intro q hq
    rw [List.length_append, List.length_singleton]
    rcases List.mem_append.1 hq with hq | hq
    · have := h.dep q hq; omega
    · simp at hq; subst hq; omega
  · rw [List.length_append, List.length_append, List.length_singleton, List.length_singleton, h3]; exact hap'
  · rw [h6.block g (by omega) (fun hm => by have := hfp g hm; omega), h4.block g (by omega) (fun hm => by have := hnin g hm; have := h.ap g hm; omega)]
    exact h.keep g hg
  · exact (h.on.then_ h4 (fun g hg hl => by have := hnin g hg; omega)).then_ h6 (fun g hg hl => by have := hfp g hg; omega)
  · exact Nat.le_trans hz (Nat.le_trans hs2 h6.size)
/-- what a search leaves to be read -/
theorem SFi.out {x : Puzzle} {m : Nat} {w W : World} {b : Nat} {L : List (List Int)} {D : List Int} {wr wf : World} {A1 A2 A3 : Option Addr} {C1 C2 C3 : Nat} {so : List Nat} {fs : List (List Nat)} {fpw : List Nat}
    (h : SFi x m w W b L D wr A1 A2 A3 C1 C2 C3 so fs) (ho : Only fpw wr wf) (hf : ∀ g ∈ fpw, g = b ∨ g = w.heap.size + 1) (hm : m ≤ 1000) : ∃ fL fD, Rd wf (.slice A1 L.length C1) L fL ∧ Rd wf (.slice A2 D.length C2) D fD ∧ Only [] w wf ∧ (∀ g ∈ fL ++ fD, w.heap.size ≤ g) ∧ L.length ≤ 3000 ∧ D.length ≤ 3000 ∧ ∀ q ∈ L, q.length ≤ 1000 := by
  have hb := h.bW; have hw := h.wb
  have hge := h.sro.fr.ge
  have h1 := h.sro.only ho (fun g hg hm => by
    have e := hf g hm
    have e2 := hge g hg
    simp only [List.mem_append, List.append_nil] at hg
    rcases hg with hg | hg | hg | hg
    · have := h.ap g (by simp only [List.mem_append]; exact .inl hg); omega
    · have := h.apf g hg; omega
    · have := h.ap g (by simp only [List.mem_append]; exact .inr (.inl hg)); omega
    · have := h.ap g (by simp only [List.mem_append]; exact .inr (.inr hg)); omega)
  have hD : ∀ z ∈ D, I64 z := fun z hz => by have := h.dep z hz; have := h.dl; have := h.ll; unfold I64; omega
  obtain ⟨a2, c2, hv2, -, hI2, -⟩ := own_ints h1.dep hD
  injection hv2 with e1 _ e2; subst e1; subst e2
  refine ⟨_, _, h1.acc.rd (by decide), hI2.rd, h.on.then_ ho (fun g hg hl => by have := hf g hg; omega), fun g hg => ?_, h.ll, by have := h.dl; have := h.ll; omega, fun q hq => by rw [(patB_iff.1 (h.pat q hq)).1]; exact hm⟩
  have := hge g (by
    simp only [List.mem_append] at hg ⊢
    rcases hg with (hg | hg) | hg
    · exact .inl hg
    · exact .inr (.inl (.inl hg))
    · exact .inr (.inr (.inl hg)))
  omega
end Go.Proofs.Ytpcamkmoabhlhaa

namespace Go.Proofs.Ytpcamkmoabhlhaa
open Go.RowKit
set_option maxRecDepth 10000
open Go.Maps (Keyed)

/-- the key of a list: a byte each -/
def kB (l : List Int) : ByteArray := strOfNums (l.map fun x => x % 256)
/-- block M is a map of at most k entries; g: what lies at a key -/
def Mp (w : World) (M k : Nat) (g : ByteArray → Option Int) : Prop :=
  ∃ D : DataW Unit, w.ownsMap Try.prog 9 (plainElem Try.prog 3) M k D ∧ ∀ s : ByteArray, s.size ≤ maxLen →
    Go.Maps.has D (.string s.data.toList) = (g s).isSome ∧ ∀ n, g s = some n → D.atKey (.string s.data.toList) (.lit (.int .i64 0)) = .lit (.int .i64 n)
theorem Mp.lt {w : World} {M k : Nat} {g : ByteArray → Option Int} (h : Mp w M k g) : M < w.heap.size := by
  obtain ⟨D, h1, -⟩ := h; exact h1.lt
theorem Mp.frame {w w' : World} {M k : Nat} {g : ByteArray → Option Int} (h : Mp w M k g) (hf : w'.heap[M]? = w.heap[M]?) : Mp w' M k g := by
  obtain ⟨D, ⟨es, c, h1, h2⟩, h3⟩ := h
  exact ⟨D, ⟨es, c, by rw [hf]; exact h1, h2⟩, h3⟩
theorem Mp.only {w w' : World} {fp : List Nat} {M k : Nat} {g : ByteArray → Option Int} (h : Mp w M k g) (ho : Only fp w w') (hn : M ∉ fp) : Mp w' M k g := h.frame (ho.block M h.lt hn)
theorem Mp.keep {w w' : World} {M k : Nat} {g : ByteArray → Option Int} (h : Mp w M k g) (ho : Only [] w w') : Mp w' M k g := h.only ho (by simp)
theorem Mp.made (w : World) {M : Nat} (hM : M = w.heap.size) : Mp (w.alloc (.map #[] 0)) M 0 (fun _ => none) := by
  subst hM
  exact ⟨.map [], World.ownsMap_made _ _ _ _, fun s _ => ⟨rfl, by simp⟩⟩
theorem Mp.congr {w : World} {M k : Nat} {g g' : ByteArray → Option Int} (h : Mp w M k g) (hg : ∀ s, g s = g' s) : Mp w M k g' := by
  have : g = g' := funext hg
  rw [← this]; exact h
section
variable {w : World} {M k : Nat} {g : ByteArray → Option Int}
end
end Go.Proofs.Ytpcamkmoabhlhaa

namespace Go.Proofs.Ytpcamkmoabhlhaa
open Go.RowKit
set_option maxRecDepth 10000
open Go.Maps (Keyed)
/-- block M is a map of at most k entries; g: the truth value at a key -/
def MpB (w : World) (M k : Nat) (g : ByteArray → Bool) : Prop :=
  ∃ D : DataW Unit, w.ownsMap Try.prog 9 (plainElem Try.prog 4) M k D ∧ ∀ s : ByteArray, s.size ≤ maxLen →
    D.atKey (.string s.data.toList) (.lit (.bool false)) = .lit (.bool (g s))
theorem MpB.lt {w : World} {M k : Nat} {g : ByteArray → Bool} (h : MpB w M k g) : M < w.heap.size := by
  obtain ⟨D, h1, -⟩ := h; exact h1.lt
theorem MpB.frame {w w' : World} {M k : Nat} {g : ByteArray → Bool} (h : MpB w M k g) (hf : w'.heap[M]? = w.heap[M]?) : MpB w' M k g := by
  obtain ⟨D, ⟨es, c, h1, h2⟩, h3⟩ := h
  exact ⟨D, ⟨es, c, by rw [hf]; exact h1, h2⟩, h3⟩
theorem MpB.only {w w' : World} {fp : List Nat} {M k : Nat} {g : ByteArray → Bool} (h : MpB w M k g) (ho : Only fp w w') (hn : M ∉ fp) : MpB w' M k g := h.frame (ho.block M h.lt hn)
theorem MpB.keep {w w' : World} {M k : Nat} {g : ByteArray → Bool} (h : MpB w M k g) (ho : Only [] w w') : MpB w' M k g := h.only ho (by simp)
theorem MpB.made (w : World) {M : Nat} (hM : M = w.heap.size) : MpB (w.alloc (.map #[] 0)) M 0 (fun _ => false) := by
  subst hM
  exact ⟨.map [], World.ownsMap_made _ _ _ _, fun s _ => rfl⟩
theorem MpB.congr {w : World} {M k : Nat} {g g' : ByteArray → Bool} (h : MpB w M k g) (hg : ∀ s, g s = g' s) : MpB w M k g' := by
  have : g = g' := funext hg
  rw [← this]; exact h
section
variable {w : World} {M k : Nat} {g : ByteArray → Bool}
end

end Go.Proofs.Ytpcamkmoabhlhaa

namespace Go.Proofs.Ytpcamkmoabhlhaa
open Go.RowKit
set_option maxRecDepth 10000

/-- a literal of one element, to which a loop appends -/
theorem Acc.one {α : Type} [Rp α] {w : World} (B : Nat) (e : TypeId) {cs : List Value} {x : α} {fp : List Nat} (h : Rp.rep w cs x fp) {g : Nat} (hg : g = w.heap.size) (hB : B ≤ g) : Acc B e (w.alloc (.cells cs.toArray e)) (.slice (some ⟨g, 0, none⟩) 1 1) [x] [fp] := by
  subst hg
  have hk : Only [] w (w.alloc (.cells cs.toArray e)) := (Only.refl _ _).alloc _
  refine ⟨⟨[cs], ⟨by simp [Rp.len h], .inr ⟨w.heap.size, 1, cs.toArray, rfl, hB, heap_alloc_new w _, Nat.le_refl _, by unfold maxLen; omega, by simp [Rp.len h], by simpa using List.take_of_length_le (Nat.le_of_eq (Rp.len h))⟩⟩, rfl, fun k h1 h2 h3 => ?_⟩, rfl, ?_⟩
  · have : k = 0 := by simpa using h1
    subst this
    exact Rp.keep h hk
  · intro g hg hm
    simp only [Value.ownBlock, Option.some.injEq] at hg
    subst hg
    have := Rp.lt h _ (by simpa using hm)
    omega
section
variable {P : Program} {α : Type} [Rp α] {ops : Array Oper} {rest : List Oper} {o : Oper} {a : Act} {w : World} {Q : Exit → Act → World → Prop}
theorem wpList_push2w (hgd : o.guard = none) (s x : Operand) (t : TypeId)
    (ho : o.op = .call { callee := .builtin .append, args := #[s, x], argTypes := #[t, t] })
    (B : Nat) (e : TypeId) (i : TypeInfo) (z : Value) (bytes : Nat) (ht : P.underlying t = some (.slice e)) (hi : P.info? e = some i) (hz : i.zero = some z)
    (hsize : i.size = Rp.size α) (hby : i.bytes = bytes) (hzs : z.cells.size = Rp.size α) (hsz : 0 < Rp.size α) (hbb : bytes ≤ 65536)
    (w0 : World) (v : Value) (l : List α) (fs : List (List Nat)) (hs : a.eval s = v) (hA : Acc B e w0 v l fs) (hK0 : Only [] w0 w) (hB : B ≤ w0.heap.size)
    (g c : Nat) (cs : List Value) (y : α) (fp : List Nat) (hx : a.eval x = .slice (some ⟨g, 0, none⟩) 1 c) (hsrc : ∀ j u, cs[j]? = some u → w.cell? ⟨g, j, none⟩ = some u) (hcs : ∀ u ∈ cs, u.oneCell' = true)
    (hy : Rp.rep w cs y fp) (hap : ∀ b ∈ fp, v.ownBlock ≠ some b) (hlen : l.length + 1 ≤ 1073741824)
    (h : ∀ v' w', Acc B e w' v' (l ++ [y]) (fs ++ [fp]) → Only v.ownBlock.toList w w' → (∀ wz, Only [] wz w → wz.heap.size ≤ B → Only [] wz w') →
      (Fresh B w0 fs.flatten → Fresh w0.heap.size w fp → Fresh B w' (fs ++ [fp]).flatten) → (v'.ownBlock = v.ownBlock ∨ v'.ownBlock = some w.heap.size) → wpList P ops Q rest (a.put o.dst v') w') : wpList P ops Q (o :: rest) a w :=
  wpList_plain hgd fun _ hK => wp_push2 s x t ho B e i z bytes ht hi hz hsize hby hzs hsz hbb w0 v l fs hs hA hK0 hB g c cs y fp hx hsrc hcs hy hap hlen fun v' w' h1 h2 h3 h4 h5 => hK _ _ (h v' w' h1 h2 h3 h4 h5)
end
/-- which keys are met -/
def metB (L : List (List Int)) (s : ByteArray) : Bool := L.any fun q => decide (kB q = s)
/-- the program's search under way: lo: the call's begin; m1, W: begin and end of the making of the moves -/
structure PBf (x : Puzzle) (m : Nat) (w : World) (m1 : Nat) (W : World) (M : Nat) (L : List (List Int)) (D : List Int) (wr : World) (v1 v2 : Value) (fs fd : List (List Nat)) : Prop where
  acc : Acc w.heap.size 23 wr v1 L fs
  dep : Acc w.heap.size 2 wr v2 D fd
  fr : Fresh w.heap.size wr fs.flatten
  mp : MpB wr M L.length (metB L)
  dl : D.length = L.length
  ll : L.length ≤ 3000
  pat : ∀ q ∈ L, patB x.points m q = true
  rng : ∀ d ∈ D, 0 ≤ d ∧ d ≤ D.length
  a2 : ∀ g, v2.ownBlock = some g → v1.ownBlock ≠ some g ∧ g ∉ fs.flatten ∧ g ≠ M
  a1 : v1.ownBlock ≠ some M ∧ M ∉ fs.flatten
  zone : ∀ g, (g = M ∨ v1.ownBlock = some g ∨ v2.ownBlock = some g) → (w.heap.size ≤ g ∧ g < m1) ∨ W.heap.size ≤ g
  keep : ∀ g, (g < w.heap.size ∨ (m1 ≤ g ∧ g < W.heap.size)) → wr.heap[g]? = W.heap[g]?
  on : Only [] w wr
  sz : W.heap.size ≤ wr.heap.size
  mw : w.heap.size ≤ m1 ∧ m1 ≤ W.heap.size
section
variable {x : Puzzle} {m : Nat} {w : World} {m1 : Nat} {W : World} {M : Nat} {L : List (List Int)} {D : List Int} {wr : World} {v1 v2 : Value} {fs fd : List (List Nat)}
theorem PBf.only {wr' : World} (h : PBf x m w m1 W M L D wr v1 v2 fs fd) (ho : Only [] wr wr') : PBf x m w m1 W M L D wr' v1 v2 fs fd :=
  ⟨h.acc.keep ho, h.dep.keep ho, h.fr.keep ho, h.mp.keep ho, h.dl, h.ll, h.pat, h.rng, h.a2, h.a1, h.zone, fun g hg => by
    have hz := h.sz; have hw := h.mw
    rw [ho.block g (by omega) (by simp)]; exact h.keep g hg, h.on.trans ho, Nat.le_trans h.sz ho.size, h.mw⟩
/-- from a world on, in which all the search's memory lies already -/
theorem PBf.start {W5 : World} (h : PBf x m w m1 W M L D wr v1 v2 fs fd) (ho : Only [] wr W5) : PBf x m w wr.heap.size W5 M L D W5 v1 v2 fs fd := by
  have hw := h.mw; have hz := h.sz
  refine ⟨h.acc.keep ho, h.dep.keep ho, h.fr.keep ho, h.mp.keep ho, h.dl, h.ll, h.pat, h.rng, h.a2, h.a1, fun g hg => .inl ?_, fun g _ => rfl, h.on.trans ho, Nat.le_refl _, by omega, ho.size⟩
  have h1 := h.zone g hg
  refine ⟨by omega, ?_⟩
  rcases hg with rfl | hg | hg
  · exact h.mp.lt
  · exact (h.acc.ownlt g hg).2
  · exact (h.dep.ownlt g hg).2
theorem PBf.fd0 (h : PBf x m w m1 W M L D wr v1 v2 fs fd) : fd.flatten = [] := by
  obtain ⟨css, ho, hcl, hr⟩ := h.dep.own
  have hl := h.dep.fl
  have : fd = List.replicate fd.length [] := by
    apply List.ext_getElem (by simp)
    intro k h1 h2
    have := (hr k (by omega) (by omega) h1).2.2
    simpa using this
  rw [this]; exact flatten_nil _
/-- a new pattern is met: the map, the list, the depths -/
theorem PBf.step {wp wa wb wc wd : World} {v1' v2' : Value} {s : List Int} {d : Int} {f : List Nat}
    (h : PBf x m w m1 W M L D wr v1 v2 fs fd) (hL : L.length < 3000) (hp : patB x.points m s = true) (hd : 0 ≤ d ∧ d ≤ D.length + 1)
    (hm : MpB wp M (L.length + 1) (metB (L ++ [s]))) (ho : Only [M] wr wp)
    (ka : Only [] wp wa) (hA : Acc w.heap.size 23 wb v1' (L ++ [s]) (fs ++ [f])) (oA : Only v1.ownBlock.toList wa wb) (nA : v1'.ownBlock = v1.ownBlock ∨ v1'.ownBlock = some wa.heap.size) (hF : Fresh w.heap.size wb (fs ++ [f]).flatten) (hfM : M ∉ f) (hf2 : ∀ g ∈ f, wr.heap.size ≤ g ∨ v2.ownBlock ≠ some g)
    (kc : Only [] wb wc) (hD : Acc w.heap.size 2 wd v2' (D ++ [d]) (fd ++ [[]])) (oD : Only v2.ownBlock.toList wc wd) (nD : v2'.ownBlock = v2.ownBlock ∨ v2'.ownBlock = some wc.heap.size) :
    PBf x m w m1 W M (L ++ [s]) (D ++ [d]) wd v1' v2' (fs ++ [f]) (fd ++ [[]]) := by
  have s1 := ho.size; have s2 := ka.size; have s3 := oA.size; have s4 := kc.size; have s5 := oD.size
  have hz := h.sz; have hw := h.mw
  have hMl := h.mp.lt
  have l1 := h.acc.ownlt
  have l2 := h.dep.ownlt
  have hfl := h.fr.lt
  have hff : (fs ++ [f]).flatten = fs.flatten ++ f := by simp
  have hfs : ∀ g, v2.ownBlock = some g → g ∉ (fs ++ [f]).flatten := fun g hg hm => by
    rw [hff] at hm
    rcases List.mem_append.1 hm with hm | hm
    · exact (h.a2 g hg).2.1 hm
    · have := l2 g hg
      rcases hf2 g hm with h3 | h3
      · omega
      · exact h3 hg
  have hv12 : ∀ g, v2.ownBlock = some g → v1'.ownBlock ≠ some g := fun g hg he => by
    rcases nA with h3 | h3
    · exact (h.a2 g hg).1 (by rw [← h3]; exact he)
    · rw [h3] at he; injection he with he; have := l2 g hg; omega
  have hmM : ∀ g, v1.ownBlock = some g → g ≠ M := fun g hg e => h.a1.1 (by rw [hg, e])
  have hM1 : v1'.ownBlock ≠ some M := fun he => by
    rcases nA with h3 | h3
    · exact h.a1.1 (by rw [← h3]; exact he)
    · rw [h3] at he; injection he with he; omega
  have hM1' : M ∉ v1.ownBlock.toList := by simpa using h.a1.1
  have hM2' : M ∉ v2.ownBlock.toList := by simp; intro he; exact (h.a2 M he).2.2 rfl
  have hN : ∀ g, v1'.ownBlock = some g → v1.ownBlock = some g ∨ W.heap.size ≤ g := fun g hg => by
    rcases nA with h3 | h3
    · exact .inl (by rw [← h3]; exact hg)
    · rw [h3] at hg; injection hg with hg; right; omega
  have hN2 : ∀ g, v2'.ownBlock = some g → v2.ownBlock = some g ∨ wb.heap.size ≤ g := fun g hg => by
    rcases nD with h3 | h3
    · exact .inl (by rw [← h3]; exact hg)
    · rw [h3] at hg; injection hg with hg; right; omega
  have hko : Only (M :: (v1.ownBlock.toList ++ v2.ownBlock.toList)) wr wd :=
    ((((ho.mono (by simp)).keepThen ka).then_ oA (by intro b hb _; simp at hb ⊢; simp [hb])).keepThen kc).then_ oD (by intro b hb _; simp at hb ⊢; simp [hb])
  refine ⟨hA.only (kc.weaken _ |>.trans oD) (fun b hb hm => hfs b (by simpa using hm) hb) (fun g hg hm => hv12 g (by simpa using hm) hg), hD,
    hF.only (kc.weaken _ |>.trans oD) (fun b hb hm => hfs b (by simpa using hm) hb),
    by simpa using ((((hm.keep ka).only oA hM1').keep kc).only oD hM2'), by simp [h.dl], by simp; omega, ?_, ?_, ?_, ⟨hM1, ?_⟩, ?_, fun g hg => ?_, ?_, by omega, h.mw⟩
  · intro q hq
    rcases List.mem_append.1 hq with hq | hq
    · exact h.pat q hq
    · simp at hq; subst hq; exact hp
  · intro q hq
    rw [List.length_append, List.length_singleton]
    rcases List.mem_append.1 hq with hq | hq
    · have := h.rng q hq; omega
    · simp at hq; subst hq; omega
  · intro g hg
    rcases hN2 g hg with h3 | h3
    · exact ⟨hv12 g h3, hfs g h3, (h.a2 g h3).2.2⟩
    · refine ⟨fun he => ?_, fun hm => ?_, by omega⟩
      · have := (hA.ownlt g he).2; omega
      · have := hF.lt g hm; omega
  · rw [hff]; intro hm
    rcases List.mem_append.1 hm with hm | hm
    · exact h.a1.2 hm
    · exact hfM hm
  · rintro g (rfl | hg | hg)
    · exact h.zone _ (.inl rfl)
    · rcases hN g hg with h3 | h3
      · exact h.zone g (.inr (.inl h3))
      · exact .inr h3
    · rcases hN2 g hg with h3 | h3
      · exact h.zone g (.inr (.inr h3))
      · right; omega
  · rw [hko.block g (by omega) (fun hm => ?_)]
    · exact h.keep g hg
    · simp only [List.mem_cons, List.mem_append, Option.mem_toList] at hm
      have := h.zone g (by rcases hm with hm | hm | hm; exact .inl hm; exact .inr (.inl hm); exact .inr (.inr hm))
      omega
  · refine h.on.then_ hko (fun g hm hg => ?_)
    simp only [List.mem_cons, List.mem_append, Option.mem_toList] at hm
    have := h.zone g (by rcases hm with hm | hm | hm; exact .inl hm; exact .inr (.inl hm); exact .inr (.inr hm))
    omega
/-- what the search hands back -/
theorem PBf.out (h : PBf x m w m1 W M L D wr v1 v2 fs fd) : Rd wr v1 L (v1.ownBlock.toList ++ fs.flatten) ∧ Rd wr v2 D v2.ownBlock.toList ∧ Fresh w.heap.size wr ((v1.ownBlock.toList ++ fs.flatten) ++ v2.ownBlock.toList) := by
  have h0 := h.fd0
  have h2 := h.dep.rd (by decide)
  rw [h0, List.append_nil] at h2
  have hf1 := h.acc.fresh h.fr
  have hf2 := h.dep.fresh (by rw [h0]; exact Fresh.nil _ _)
  rw [h0, List.append_nil] at hf2
  refine ⟨h.acc.rd (by decide), h2, List.nodup_append.2 ⟨hf1.nd, hf2.nd, fun a ha b hb e => ?_⟩, fun b hb => ?_, hf1.own.append hf2.own⟩
  · subst e
    have hb' : v2.ownBlock = some a := by simpa using hb
    rcases List.mem_append.1 ha with ha | ha
    · exact (h.a2 a hb').1 (by simpa using ha)
    · exact (h.a2 a hb').2.1 ha
  · rcases List.mem_append.1 hb with hb | hb
    · exact hf1.ge b hb
    · exact hf2.ge b hb
theorem PBf.old (h : PBf x m w m1 W M L D wr v1 v2 fs fd) {β : Type} [Rp β] {cs : List Value} {y : β} {fp : List Nat} (hr : Rp.rep W cs y fp) (hf : ∀ g ∈ fp, g < w.heap.size ∨ (m1 ≤ g ∧ g < W.heap.size)) : Rp.rep wr cs y fp :=
  Rp.frame hr fun g hg => h.keep g (hf g hg)
end
end Go.Proofs.Ytpcamkmoabhlhaa

namespace Go.Proofs.Ytpcamkmoabhlhaa
open Go.RowKit
set_option maxRecDepth 10000
theorem Acc.flat0 {B : Nat} {e : TypeId} {w : World} {v : Value} {l : List Int} {fs : List (List Nat)} (h : Acc B e w v l fs) : fs.flatten = [] := by
  obtain ⟨css, ho, hcl, hr⟩ := h.own
  have hl := h.fl
  have : fs = List.replicate fs.length [] := by
    apply List.ext_getElem (by simp)
    intro k h1 h2
    have := (hr k (by omega) (by omega) h1).2.2
    simpa using this
  rw [this]; exact flatten_nil _
/-- v is a slice of numbers of the call's own -/
def AccI (B : Nat) (e : TypeId) (w : World) (v : Value) (l : List Int) : Prop := ∃ fs, Acc B e w v l fs
section
variable {w w' : World} {B : Nat} {e : TypeId} {v : Value} {l : List Int}
theorem AccI.only {fp : List Nat} (h : AccI B e w v l) (ho : Only fp w w') (hv : ∀ g, v.ownBlock = some g → g ∉ fp) : AccI B e w' v l := by
  obtain ⟨fs, h⟩ := h
  exact ⟨fs, h.only ho (by rw [h.flat0]; simp) hv⟩
theorem AccI.keep (h : AccI B e w v l) (ho : Only [] w w') : AccI B e w' v l := h.only ho (by simp)
theorem AccI.form (h : AccI B e w v l) : ∃ a c, v = .slice a l.length c := by
  obtain ⟨fs, h⟩ := h; exact h.form
theorem AccI.rd (h : AccI B e w v l) : Rd w v l v.ownBlock.toList := by
  obtain ⟨fs, h⟩ := h
  have := h.rd (by decide)
  rwa [h.flat0, List.append_nil] at this
theorem AccI.fresh (h : AccI B e w v l) : Fresh B w v.ownBlock.toList := by
  obtain ⟨fs, h⟩ := h
  have := h.fresh (by rw [h.flat0]; exact Fresh.nil _ _)
  rwa [h.flat0, List.append_nil] at this
theorem AccI.ownlt (h : AccI B e w v l) : ∀ g, v.ownBlock = some g → B ≤ g ∧ g < w.heap.size := by
  obtain ⟨fs, h⟩ := h; exact h.ownlt
theorem AccI.nil (w : World) (B : Nat) (e : TypeId) : AccI B e w (.slice none 0 0) [] := ⟨[], Acc.nil w B e⟩
theorem AccI.made (w : World) (B : Nat) (e : TypeId) {g : Nat} (hg : g = w.heap.size) (hB : B ≤ g) : AccI B e (w.alloc (.cells #[] e)) (.slice (some ⟨g, 0, none⟩) 0 0) [] := ⟨[], Acc.made w B e hg hB⟩
theorem AccI.one {n : Int} (hn : I64 n) (w : World) (B : Nat) (e : TypeId) {g : Nat} (hg : g = w.heap.size) (hB : B ≤ g) : AccI B e (w.alloc (.cells #[.int .i64 n] e)) (.slice (some ⟨g, 0, none⟩) 1 1) [n] :=
  ⟨[[]], Acc.one (cs := [.int .i64 n]) B e (int_rd w hn) hg hB⟩
end
section
variable {P : Program} {ops : Array Oper} {rest : List Oper} {o : Oper} {a : Act} {w : World} {Q : Exit → Act → World → Prop} {K : Act → World → Prop}
theorem wpList_pushI (hgd : o.guard = none) (s x : Operand) (t : TypeId)
    (ho : o.op = .call { callee := .builtin .append, args := #[s, x], argTypes := #[t, t] })
    (B : Nat) (e : TypeId) (i : TypeInfo) (z : Value) (ht : P.underlying t = some (.slice e)) (hi : P.info? e = some i) (hz : i.zero = some z)
    (hsize : i.size = 1) (hby : i.bytes = 8) (hzs : z.cells.size = 1)
    (w0 : World) (v : Value) (l : List Int) (hs : a.eval s = v) (hA : AccI B e w0 v l) (hK0 : Only [] w0 w) (hB : B ≤ w0.heap.size)
    (g c : Nat) (n : Int) (hx : a.eval x = .slice (some ⟨g, 0, none⟩) 1 c) (hsrc : w.cell? ⟨g, 0, none⟩ = some (.int .i64 n)) (hn : I64 n) (hlen : l.length + 1 ≤ 1073741824)
    (h : ∀ v' w', AccI B e w' v' (l ++ [n]) → Only v.ownBlock.toList w w' → (∀ wz, Only [] wz w → wz.heap.size ≤ B → Only [] wz w') → (v'.ownBlock = v.ownBlock ∨ v'.ownBlock = some w.heap.size) → wpList P ops Q rest (a.put o.dst v') w') : wpList P ops Q (o :: rest) a w := by
  obtain ⟨fs, hA⟩ := hA
  refine wpList_push2w (α := Int) hgd s x t ho B e i z 8 ht hi hz hsize hby hzs (by decide) (by decide) w0 v l fs hs hA hK0 hB g c [.int .i64 n] n [] hx ?_ (by intro u hu; simp at hu; subst hu; rfl) (int_rd w hn) (by simp) hlen fun v' w' h1 h2 h3 _ h5 => h v' w' ⟨_, h1⟩ h2 h3 h5
  intro j u hu
  cases j with
  | zero => simp at hu; subst hu; exact hsrc
  | succ j => simp at hu
end
/-- the one cell of a literal -/
theorem lit1 (w : World) (u : Value) (e : TypeId) {g : Nat} (hg : g = w.heap.size) : (w.alloc (.cells #[u] e)).cell? ⟨g, 0, none⟩ = some u := lit_src w [u] e hg 0 u rfl
theorem own_after {v' v : Value} {w : World} {b : Nat} (hN : v'.ownBlock = v.ownBlock ∨ v'.ownBlock = some w.heap.size) (h1 : v.ownBlock ≠ some b) (h2 : b < w.heap.size) : v'.ownBlock ≠ some b := by
  rcases hN with e | e
  · rw [e]; exact h1
  · rw [e]; intro h; injection h with h; omega
/-- a slice of numbers under way, beside memory (G) that stays as it is in W -/
structure AccG (w W : World) (G : List Nat) (e : TypeId) (wr : World) (o : Value) (l : List Int) : Prop where
  acc : AccI w.heap.size e wr o l
  on : Only [] w wr
  kp : ∀ b ∈ G, wr.heap[b]? = W.heap[b]?
  ga : ∀ b ∈ G, o.ownBlock ≠ some b
  gl : ∀ b ∈ G, b < wr.heap.size
section
variable {w W wr w' wa wb : World} {G : List Nat} {e : TypeId} {o o' : Value} {l : List Int} {n : Int}
theorem AccG.keep (h : AccG w W G e wr o l) (ho : Only [] wr w') : AccG w W G e w' o l :=
  ⟨h.acc.keep ho, h.on.trans ho, fun b hb => (ho.block b (h.gl b hb) (by simp)).trans (h.kp b hb), h.ga, fun b hb => Nat.lt_of_lt_of_le (h.gl b hb) ho.size⟩
theorem AccG.push (h : AccG w W G e wa o l) (hA : AccI w.heap.size e wb o' (l ++ [n])) (oA : Only o.ownBlock.toList wa wb) (hP : ∀ wz, Only [] wz wa → wz.heap.size ≤ w.heap.size → Only [] wz wb) (nA : o'.ownBlock = o.ownBlock ∨ o'.ownBlock = some wa.heap.size) : AccG w W G e wb o' (l ++ [n]) :=
  ⟨hA, hP w h.on (Nat.le_refl _), fun b hb => (oA.block b (h.gl b hb) (fun hm => h.ga b hb (by simpa using hm))).trans (h.kp b hb), fun b hb => own_after nA (h.ga b hb) (h.gl b hb), fun b hb => Nat.lt_of_lt_of_le (h.gl b hb) oA.size⟩
theorem AccG.held (h : AccG w W G e wr o l) {α : Type} [Rp α] {cs : List Value} {y : α} {fp : List Nat} (hr : Rp.rep W cs y fp) (hf : ∀ b ∈ fp, b ∈ G) : Rp.rep wr cs y fp := Rp.frame hr fun b hb => h.kp b (hf b hb)
theorem AccG.ints (h : AccG w W G e wr o l) {a : Option Addr} {c : Nat} {y : List Int} {fp : List Nat} (hr : IntsA W a c y fp) (hf : ∀ b ∈ fp, b ∈ G) : IntsA wr a c y fp := hr.frame fun b hb => h.kp b (hf b hb)
end
end Go.Proofs.Ytpcamkmoabhlhaa

namespace PM
/-- how many -/
def ordM (T : Rows) (n : Nat) : Nat → Nat
  | 0 => 1
  | m + 1 => cntR n T (n - (m + 1)) * ordM T n m
section
variable {n : Nat} {gens : List (List Int)} {G : Gens} {T : Rows} (h : Chain n gens G T) (hn : 0 < n) (hp : ∀ g ∈ gens, PN n g)
end
theorem cntR_le2 {n k : Nat} {T : Rows} (hw : WF n T) (hk : k < n) : cntR n T k ≤ n - k := by
  have h1 : ((List.range (n - k)).map fun i : Nat => ((i + k : Nat) : Int)).length = n - k := by simp
  unfold cntR
  rw [← h1]
  refine nodup_sub_len (List.Pairwise.filter _ (pts_nodup n)) fun y hy => ?_
  rw [List.mem_filter, decide_eq_true_iff, mem_pts] at hy
  obtain ⟨⟨h0, h1⟩, h2⟩ := hy
  have hky : (k : Int) ≤ y := by
    rcases Int.lt_or_le y k with hlt | hle
    · exfalso
      have a := hw.fix k y hk h2 y h0 hlt
      have b := hw.at_ k y hk h2
      have := (hw.pn k y hk h2).inj h0 h1 (by omega) (by omega) (a.trans b.symm)
      omega
    · exact hle
  rw [List.mem_map]
  exact ⟨(y - k).toNat, by simp; omega, by omega⟩
theorem cntR_pos {n k : Nat} {T : Rows} (hw : WF n T) (hk : k < n) : 1 ≤ cntR n T k := by
  unfold cntR
  refine List.length_pos_of_mem (a := (k : Int)) ?_
  rw [List.mem_filter, decide_eq_true_iff, mem_pts]
  exact ⟨by omega, by rw [hw.one k hk]; exact pts_ne (by omega)⟩
def fac : Nat → Nat
  | 0 => 1
  | m + 1 => (m + 1) * fac m
theorem ordM_rng {n : Nat} {T : Rows} (hw : WF n T) : ∀ m, m ≤ n → 1 ≤ ordM T n m ∧ ordM T n m ≤ fac m
  | 0, _ => by simp [ordM, fac]
  | m + 1, hm => by
    obtain ⟨a, b⟩ := ordM_rng hw m (by omega)
    have h1 := cntR_pos hw (k := n - (m + 1)) (by omega)
    have h2 := cntR_le2 hw (k := n - (m + 1)) (by omega)
    unfold ordM fac
    exact ⟨Nat.mul_le_mul h1 a, Nat.mul_le_mul (by omega) b⟩
theorem fac_mono : ∀ {a b : Nat}, a ≤ b → fac a ≤ fac b
  | a, 0, h => by have : a = 0 := by omega
                  subst this; exact Nat.le_refl _
  | a, b + 1, h => by
    by_cases e : a = b + 1
    · subst e; exact Nat.le_refl _
    · have h1 := fac_mono (a := a) (b := b) (by omega)
      have h2 : fac (b + 1) = (b + 1) * fac b := rfl
      rw [h2]
      exact Nat.le_trans h1 (Nat.le_mul_of_pos_left _ (by omega))
theorem ordM_le {n : Nat} {T : Rows} (hw : WF n T) (hn : n ≤ 20) {m : Nat} (hm : m ≤ n) : ordM T n m ≤ 2432902008176640000 :=
  Nat.le_trans (ordM_rng hw m hm).2 (Nat.le_trans (fac_mono (by omega : m ≤ 20)) (by decide))
end PM

namespace PM

/-- one number more in an ascending list -/
def insU (v : Int) : List Int → List Int
  | [] => [v]
  | x :: l => if x < v then x :: insU v l else if x = v then x :: l else v :: x :: l
theorem mem_insU {v x : Int} : ∀ {l : List Int}, x ∈ insU v l ↔ x = v ∨ x ∈ l
  | [] => by simp [insU]
  | y :: l => by
    have ih := mem_insU (v := v) (x := x) (l := l)
    unfold insU
    by_cases h1 : y < v
    · rw [if_pos h1, List.mem_cons, ih, List.mem_cons]
      constructor
      · rintro (h | h | h)
        · exact Or.inr (Or.inl h)
        · exact Or.inl h
        · exact Or.inr (Or.inr h)
      · rintro (h | h | h)
        · exact Or.inr (Or.inl h)
        · exact Or.inl h
        · exact Or.inr (Or.inr h)
    · rw [if_neg h1]
      by_cases h2 : y = v
      · rw [if_pos h2]; subst h2; simp
      · rw [if_neg h2, List.mem_cons]
/-- ascending, each once -/
def Asc (l : List Int) : Prop := l.Pairwise (· < ·)
theorem insU_asc {v : Int} : ∀ {l : List Int}, Asc l → Asc (insU v l)
  | [], _ => by simp [insU, Asc]
  | y :: l, h => by
    obtain ⟨a, b⟩ := List.pairwise_cons.1 h
    have ih := insU_asc (v := v) b
    unfold insU
    by_cases h1 : y < v
    · rw [if_pos h1]
      refine List.pairwise_cons.2 ⟨fun z hz => ?_, ih⟩
      rcases mem_insU.1 hz with rfl | hz
      · exact h1
      · exact a z hz
    · rw [if_neg h1]
      by_cases h2 : y = v
      · rw [if_pos h2]; exact h
      · rw [if_neg h2]
        refine List.pairwise_cons.2 ⟨fun z hz => ?_, h⟩
        rcases List.mem_cons.1 hz with rfl | hz
        · omega
        · have := a z hz; omega
theorem asc_ext : ∀ {l l' : List Int}, Asc l → Asc l' → (∀ x, x ∈ l ↔ x ∈ l') → l = l'
  | [], [], _, _, _ => rfl
  | [], y :: l', _, _, h => by have := (h y).2 (by simp); cases this
  | x :: l, [], _, _, h => by have := (h x).1 (by simp); cases this
  | x :: l, y :: l', a, b, h => by
    obtain ⟨a1, a2⟩ := List.pairwise_cons.1 a
    obtain ⟨b1, b2⟩ := List.pairwise_cons.1 b
    have hxy : x = y := by
      have h1 := (h x).1 (by simp)
      have h2 := (h y).2 (by simp)
      rcases List.mem_cons.1 h1 with e | e
      · exact e
      · rcases List.mem_cons.1 h2 with e' | e'
        · exact e'.symm
        · have := b1 _ e; have := a1 _ e'; omega
    subst hxy
    have := asc_ext a2 b2 (fun z => ⟨fun hz => by
      rcases List.mem_cons.1 ((h z).1 (List.mem_cons_of_mem _ hz)) with e | e
      · have := a1 _ hz; omega
      · exact e, fun hz => by
      rcases List.mem_cons.1 ((h z).2 (List.mem_cons_of_mem _ hz)) with e | e
      · have := b1 _ hz; omega
      · exact e⟩)
    rw [this]
/-- the values of entry i in the members that begin as m -/
def choO (m : List Int) (ys : List Int) : List Int := ys.foldl (fun l y => insU (at_ m y) l) []
def rowP (n : Nat) (T : Rows) (i : Nat) : List Int := (pts n).filter fun y => decide (tr T i y ≠ [])
def cho (n : Nat) (T : Rows) (i : Nat) (m : List Int) : List Int := choO m (rowP n T i)
theorem choO_snoc (m ys : List Int) (y : Int) : choO m (ys ++ [y]) = insU (at_ m y) (choO m ys) := by
  unfold choO; rw [List.foldl_append]; rfl
theorem foldl_mem (m : List Int) {v : Int} : ∀ (ys acc : List Int), v ∈ ys.foldl (fun l y => insU (at_ m y) l) acc ↔ (∃ y ∈ ys, at_ m y = v) ∨ v ∈ acc
  | [], acc => by simp
  | y :: ys, acc => by
    rw [List.foldl_cons, foldl_mem m ys, mem_insU]
    constructor
    · rintro (⟨z, h1, h2⟩ | h | h)
      · exact Or.inl ⟨z, List.mem_cons_of_mem _ h1, h2⟩
      · exact Or.inl ⟨y, by simp, h.symm⟩
      · exact Or.inr h
    · rintro (⟨z, h1, h2⟩ | h)
      · rcases List.mem_cons.1 h1 with rfl | h1
        · exact Or.inr (Or.inl h2.symm)
        · exact Or.inl ⟨z, h1, h2⟩
      · exact Or.inr (Or.inr h)
theorem mem_choO {m ys : List Int} {v : Int} : v ∈ choO m ys ↔ ∃ y ∈ ys, at_ m y = v := by
  unfold choO; rw [foldl_mem]; simp
theorem foldl_asc (m : List Int) : ∀ (ys acc : List Int), Asc acc → Asc (ys.foldl (fun l y => insU (at_ m y) l) acc)
  | [], _, h => h
  | y :: ys, acc, h => by rw [List.foldl_cons]; exact foldl_asc m ys _ (insU_asc h)
theorem choO_asc (m ys : List Int) : Asc (choO m ys) := foldl_asc m ys [] List.Pairwise.nil
theorem mem_rowP {n : Nat} {T : Rows} {i : Nat} {y : Int} : y ∈ rowP n T i ↔ (0 ≤ y ∧ y < n) ∧ tr T i y ≠ [] := by
  unfold rowP; rw [List.mem_filter, mem_pts]; simp
theorem mem_cho {n : Nat} {T : Rows} {i : Nat} {m : List Int} {v : Int} : v ∈ cho n T i m ↔ ∃ y : Int, ((0 ≤ y ∧ y < n) ∧ tr T i y ≠ []) ∧ at_ m y = v := by
  unfold cho; rw [mem_choO]
  constructor
  · rintro ⟨y, h1, h2⟩; exact ⟨y, mem_rowP.1 h1, h2⟩
  · rintro ⟨y, h1, h2⟩; exact ⟨y, mem_rowP.2 h1, h2⟩
theorem Asc.nodup {l : List Int} (h : Asc l) : l.Nodup := List.Pairwise.imp (fun h => by omega) h
theorem rowP_nodup (n : Nat) (T : Rows) (i : Nat) : (rowP n T i).Nodup := List.Nodup.sublist List.filter_sublist (pts_nodup n)
theorem cho_len {n : Nat} {T : Rows} {i : Nat} {m : List Int} (hm : PN n m) : (cho n T i m).length = cntR n T i := by
  have hmap : ((rowP n T i).map (at_ m)).Nodup := by
    unfold List.Nodup
    rw [List.pairwise_map]
    refine List.Pairwise.imp_of_mem (fun {a b} ha hb hab e => hab ?_) (rowP_nodup n T i)
    obtain ⟨⟨a0, a1⟩, -⟩ := mem_rowP.1 ha
    obtain ⟨⟨b0, b1⟩, -⟩ := mem_rowP.1 hb
    exact hm.inj a0 a1 b0 b1 e
  have h1 : (cho n T i m).length ≤ ((rowP n T i).map (at_ m)).length := nodup_sub_len (choO_asc _ _).nodup fun v hv => by
    obtain ⟨y, hy, e⟩ := mem_choO.1 hv
    exact List.mem_map.2 ⟨y, hy, e⟩
  have h2 : ((rowP n T i).map (at_ m)).length ≤ (cho n T i m).length := nodup_sub_len hmap fun v hv => by
    obtain ⟨y, hy, e⟩ := List.mem_map.1 hv
    exact mem_choO.2 ⟨y, hy, e⟩
  rw [List.length_map] at h1 h2
  exact Nat.le_antisymm h1 h2
theorem at_inv' {n : Nat} {p : List Int} (hp : PN n p) {x : Int} (h0 : 0 ≤ x) (h1 : x < n) : at_ p (at_ (inv p) x) = x := by
  have h : at_ (comp (inv p) p) x = at_ (pts n) x := by rw [inv_comp hp]
  rw [at_comp h0 (by rw [hp.inv.1]; exact h1), at_pts h0 h1] at h
  exact h
/-- the member that has v at entry i -/
def putV (T : Rows) (i : Nat) (m : List Int) (v : Int) : List Int := comp (tr T i (at_ (inv m) v)) m
theorem cho_pre {n : Nat} {T : Rows} {i : Nat} {m : List Int} (hm : PN n m) {v : Int} (hv : v ∈ cho n T i m) : 0 ≤ v ∧ v < n ∧ 0 ≤ at_ (inv m) v ∧ at_ (inv m) v < n ∧ tr T i (at_ (inv m) v) ≠ [] ∧ at_ m (at_ (inv m) v) = v := by
  obtain ⟨y, ⟨⟨h0, h1⟩, h2⟩, rfl⟩ := mem_cho.1 hv
  have hr := hm.rng h0 h1
  have e := at_inv hm h0 h1
  rw [e]
  exact ⟨hr.1, hr.2, h0, h1, h2, rfl⟩
/-- two permutations begin alike -/
def Alike (i : Nat) (p q : List Int) : Prop := ∀ x : Int, 0 ≤ x → x < i → at_ p x = at_ q x
theorem putV_pn {n : Nat} {T : Rows} (hw : WF n T) {i : Nat} (hi : i < n) {m : List Int} (hm : PN n m) {v : Int} (hv : v ∈ cho n T i m) : PN n (putV T i m v) ∧ Alike i (putV T i m v) m ∧ at_ (putV T i m v) (i : Int) = v := by
  obtain ⟨h0, h1, h2, h3, h4, h5⟩ := cho_pre hm hv
  have ht := hw.pn i _ hi h4
  refine ⟨ht.comp hm, fun x x0 x1 => ?_, ?_⟩
  · unfold putV
    rw [at_comp x0 (by rw [ht.1]; omega), hw.fix i _ hi h4 x x0 x1]
  · unfold putV
    rw [at_comp (by omega) (by rw [ht.1]; omega), hw.at_ i _ hi h4, h5]
/-- down k levels from level i on, by a selection -/
def desc (T : Rows) (n : Nat) (sel : Nat → Nat → Nat) : Nat → Nat → List Int → List Int
  | 0, _, m => m
  | k + 1, i, m => desc T n sel k (i + 1) (putV T i m ((cho n T i m).getD (sel i (cho n T i m).length) 0))
section
variable {n : Nat} {gens : List (List Int)} {G : Gens} {T : Rows} (h : Chain n gens G T) (hn : 0 < n) (hp : ∀ g ∈ gens, PN n g)
include h hn hp
theorem Chain.row_grp {j : Nat} (hj : j < n) {y : Int} (hy : tr T j y ≠ []) : Grp n gens (tr T j y) := by
  have hsub : ∀ j, j < n → ∀ p, Grp n (lv G j) p → Grp n (lv G 0) p := by
    intro j
    induction j with
    | zero => intro _ p hp; exact hp
    | succ j ih =>
      intro hj p hp
      exact ih (by omega) p (Grp.mono (fun g hg => h.inv.gpn j g (by omega) hg) (fun g hg => h.inv.up j g hj hg) hp)
  exact (h.grp hn hp _).1 (hsub j hj _ (h.inv.row j y hj hy))
theorem Chain.putV {i : Nat} (hi : i < n) {m : List Int} (hm : Grp n gens m) {v : Int} (hv : v ∈ cho n T i m) : Grp n gens (PM.putV T i m v) :=
  Grp.comp hp (h.row_grp hn hp hi (cho_pre (hm.pn hp) hv).2.2.2.2.1) hm
/-- the choices are the values of the entry in the members that begin so -/
theorem Chain.mem_cho {i : Nat} (hi : i < n) {m : List Int} (hm : Grp n gens m) {v : Int} : v ∈ cho n T i m ↔ ∃ p, Grp n gens p ∧ Alike i p m ∧ at_ p (i : Int) = v := by
  have hpn := hm.pn hp
  constructor
  · intro hv
    have := putV_pn h.inv.wf hi hpn hv
    exact ⟨_, h.putV hn hp hi hm hv, this.2.1, this.2.2⟩
  · rintro ⟨p, h1, h2, rfl⟩
    have hpp := h1.pn hp
    have hq : Grp n gens (comp p (PM.inv m)) := Grp.comp hp h1 (hm.inv hp)
    have hr := hpp.rng (x := (i : Int)) (by omega) (by omega)
    have hir := (hpn.inv).rng hr.1 hr.2
    refine PM.mem_cho.2 ⟨at_ (PM.inv m) (at_ p (i : Int)), ⟨hir, ?_⟩, at_inv' hpn hr.1 hr.2⟩
    refine (h.row_iff hn hp hi hir.1 hir.2).2 ⟨_, hq, fun x x0 x1 => ?_, ?_⟩
    · rw [at_comp x0 (by rw [hpp.1]; omega), h2 x x0 x1, at_inv hpn x0 (by omega)]
    · rw [at_comp (by omega) (by rw [hpp.1]; omega)]
theorem Chain.cho_congr {G' : Gens} {T' : Rows} (h' : Chain n gens G' T') {i : Nat} (hi : i < n) {m m' : List Int} (hm : Grp n gens m) (hm' : Grp n gens m') (ha : Alike i m m') : cho n T i m = cho n T' i m' := by
  refine asc_ext (choO_asc _ _) (choO_asc _ _) fun v => ?_
  show v ∈ cho n T i m ↔ v ∈ cho n T' i m'
  rw [h.mem_cho hn hp hi hm, h'.mem_cho hn hp hi hm']
  constructor
  · rintro ⟨p, a, b, c⟩; exact ⟨p, a, fun x x0 x1 => (b x x0 x1).trans (ha x x0 x1), c⟩
  · rintro ⟨p, a, b, c⟩; exact ⟨p, a, fun x x0 x1 => (b x x0 x1).trans (ha x x0 x1).symm, c⟩
theorem Chain.cntR_congr {G' : Gens} {T' : Rows} (h' : Chain n gens G' T') {i : Nat} (hi : i < n) : cntR n T i = cntR n T' i := by
  rw [← cho_len (T := T) (i := i) (PN.id n), ← cho_len (T := T') (i := i) (PN.id n), h.cho_congr hn hp h' hi .id .id fun _ _ _ => rfl]
theorem Chain.ordM_congr {G' : Gens} {T' : Rows} (h' : Chain n gens G' T') : ∀ k, k ≤ n → ordM T n k = ordM T' n k
  | 0, _ => rfl
  | k + 1, hk => by
    unfold ordM
    rw [h.cntR_congr hn hp h' (i := n - (k + 1)) (by omega), Chain.ordM_congr h' k (by omega)]
/-- the way down leads to a member -/
theorem Chain.desc_grp (sel : Nat → Nat → Nat) (hs : ∀ i, i < n → sel i (cntR n T i) < cntR n T i) : ∀ (k i : Nat) (m : List Int), i + k = n → Grp n gens m → Grp n gens (desc T n sel k i m)
  | 0, _, _, _, hm => hm
  | k + 1, i, m, hi, hm => by
    have hl := cho_len (T := T) (i := i) (hm.pn hp)
    have hlt : sel i (cho n T i m).length < (cho n T i m).length := by rw [hl]; exact hs i (by omega)
    exact Chain.desc_grp sel hs k (i + 1) _ (by omega) (h.putV hn hp (by omega) hm (by rw [List.getD_eq_getElem?_getD, List.getElem?_eq_getElem hlt]; exact List.getElem_mem hlt))
/-- and it does not hang on the chain -/
theorem Chain.desc_congr {G' : Gens} {T' : Rows} (h' : Chain n gens G' T') (sel : Nat → Nat → Nat) (hs : ∀ i, i < n → sel i (cntR n T i) < cntR n T i) : ∀ (k i : Nat) (m m' : List Int), i + k = n → Grp n gens m → Grp n gens m' → Alike i m m' → desc T n sel k i m = desc T' n sel k i m'
  | 0, i, m, m', hi, hm, hm', ha => by
    have h1 := hm.pn hp
    have h2 := hm'.pn hp
    show m = m'
    exact ext_at (by rw [h1.1, h2.1]) fun x x0 x1 => ha x x0 (by rw [h1.1] at x1; omega)
  | k + 1, i, m, m', hi, hm, hm', ha => by
    have hl := cho_len (T := T) (i := i) (hm.pn hp)
    have hc := h.cho_congr hn hp h' (by omega : i < n) hm hm' ha
    have hlt : sel i (cho n T i m).length < (cho n T i m).length := by rw [hl]; exact hs i (by omega)
    obtain ⟨v, hv⟩ : ∃ v, v = (cho n T i m).getD (sel i (cho n T i m).length) 0 := ⟨_, rfl⟩
    have hvm : v ∈ cho n T i m := by rw [hv, List.getD_eq_getElem?_getD, List.getElem?_eq_getElem hlt]; exact List.getElem_mem hlt
    have hvm' : v ∈ cho n T' i m' := by rw [← hc]; exact hvm
    unfold desc
    rw [← hc, ← hv]
    have a := putV_pn h.inv.wf (by omega : i < n) (hm.pn hp) hvm
    have b := putV_pn h'.inv.wf (by omega : i < n) (hm'.pn hp) hvm'
    refine Chain.desc_congr h' sel hs k (i + 1) _ _ (by omega) (h.putV hn hp (by omega) hm hvm) (h'.putV hn hp (by omega) hm' hvm') fun x x0 x1 => ?_
    by_cases hx : x < i
    · rw [a.2.1 x x0 hx, b.2.1 x x0 hx, ha x x0 hx]
    · have : x = (i : Int) := by omega
      subst this
      rw [a.2.2, b.2.2]
end
open Classical in
/-- the rows of some chain of the generators -/
noncomputable def chainR (n : Nat) (gens : List (List Int)) : Rows := if h : ∃ T, ∃ G, Chain n gens G T then h.choose else []
/-- the member that a selection leads to -/
noncomputable def descG (n : Nat) (gens : List (List Int)) (sel : Nat → Nat → Nat) : List Int := desc (chainR n gens) n sel n 0 (pts n)
theorem Chain.chainR {n : Nat} {gens : List (List Int)} {G : Gens} {T : Rows} (h : Chain n gens G T) : ∃ G', Chain n gens G' (PM.chainR n gens) := by
  have hex : ∃ T, ∃ G, Chain n gens G T := ⟨T, G, h⟩
  unfold PM.chainR
  rw [dif_pos hex]
  exact hex.choose_spec
theorem Chain.descG {n : Nat} {gens : List (List Int)} {G : Gens} {T : Rows} (h : Chain n gens G T) (hn : 0 < n) (hp : ∀ g ∈ gens, PN n g) (sel : Nat → Nat → Nat) (hs : ∀ i, i < n → sel i (cntR n T i) < cntR n T i) : desc T n sel n 0 (pts n) = PM.descG n gens sel := by
  obtain ⟨G', h'⟩ := h.chainR
  exact h.desc_congr hn hp h' sel hs n 0 _ _ (by omega) .id .id fun _ _ _ => rfl
theorem Chain.descG_grp {n : Nat} {gens : List (List Int)} {G : Gens} {T : Rows} (h : Chain n gens G T) (hn : 0 < n) (hp : ∀ g ∈ gens, PN n g) (sel : Nat → Nat → Nat) (hs : ∀ i, i < n → sel i (cntR n T i) < cntR n T i) : Grp n gens (PM.descG n gens sel) := by
  rw [← h.descG hn hp sel hs]
  exact h.desc_grp hn hp sel hs n 0 _ (by omega) .id
/-- one level down -/
theorem desc_step {T : Rows} {n : Nat} {sel : Nat → Nat → Nat} {i : Nat} (hi : i < n) (m : List Int) {k : Nat} (hk : k = sel i (cho n T i m).length) (hl : k < (cho n T i m).length) :
    desc T n sel (n - i) i m = desc T n sel (n - (i + 1)) (i + 1) (putV T i m (cho n T i m)[k]) := by
  have h1 : n - i = (n - (i + 1)) + 1 := by omega
  rw [h1]
  show desc T n sel (n - (i + 1)) (i + 1) (putV T i m ((cho n T i m).getD (sel i (cho n T i m).length) 0)) = _
  rw [← hk, List.getD_eq_getElem?_getD, List.getElem?_eq_getElem hl]
  rfl
theorem desc_end {T : Rows} {n : Nat} {sel : Nat → Nat → Nat} {i : Nat} (hi : n ≤ i) (m : List Int) : desc T n sel (n - i) i m = m := by
  rw [show n - i = 0 by omega]; rfl
end PM

namespace PM

/-- the members that begin as m, by the levels that are left -/
def dn (T : Rows) (n : Nat) : Nat → Nat → List Int → List (List Int)
  | 0, _, m => [m]
  | k + 1, i, m => (cho n T i m).flatMap fun v => dn T n k (i + 1) (putV T i m v)
/-- the selection of a rank, by a chain -/
def mselT (T : Rows) (n : Nat) (r i _len : Nat) : Nat := (r % ordM T n (n - i)) / ordM T n (n - (i + 1))
theorem range_mul {α : Type} (f : Nat → α) (b : Nat) : ∀ a, (List.range (a * b)).map f = (List.range a).flatMap fun q => (List.range b).map fun s => f (q * b + s)
  | 0 => by simp
  | a + 1 => by
    rw [List.range_succ, List.flatMap_append, ← range_mul f b a, Nat.succ_mul, List.range_add, List.map_append]
    simp [List.map_map, Function.comp_def]
theorem fm_congr {α β : Type} {f g : α → List β} : ∀ {l : List α}, (∀ x ∈ l, f x = g x) → l.flatMap f = l.flatMap g
  | [], _ => rfl
  | x :: l, h => by
    rw [List.flatMap_cons, List.flatMap_cons, h x (by simp), fm_congr fun y hy => h y (List.mem_cons_of_mem _ hy)]
theorem flatMap_range {α : Type} (l : List Int) (g : Int → List α) : l.flatMap g = (List.range l.length).flatMap fun q => g (l.getD q 0) := by
  have h : l = (List.range l.length).map fun q => l.getD q 0 := by
    apply List.ext_getElem (by simp)
    intro i h1 h2
    simp [h1]
  conv => lhs; rw [h]
  rw [List.flatMap_map]
theorem ordM_dvd (T : Rows) (n : Nat) {a : Nat} : ∀ {b : Nat}, a ≤ b → ordM T n a ∣ ordM T n b
  | 0, h => by obtain rfl : a = 0 := by omega
               exact Nat.dvd_refl _
  | b + 1, h => by
    by_cases e : a = b + 1
    · subst e; exact Nat.dvd_refl _
    · exact Nat.dvd_trans (ordM_dvd T n (show a ≤ b by omega)) ⟨cntR n T (n - (b + 1)), by show cntR n T (n - (b + 1)) * ordM T n b = _; rw [Nat.mul_comm]⟩
theorem desc_sel {T : Rows} {n : Nat} {sel sel' : Nat → Nat → Nat} : ∀ (k i : Nat) (m : List Int), (∀ j, i ≤ j → ∀ l, sel j l = sel' j l) → desc T n sel k i m = desc T n sel' k i m
  | 0, _, _, _ => rfl
  | k + 1, i, m, h => by
    show desc T n sel k (i + 1) _ = desc T n sel' k (i + 1) _
    rw [h i (Nat.le_refl _)]
    exact desc_sel k (i + 1) _ fun j hj => h j (by omega)
theorem dn_eq {T : Rows} {n : Nat} (hw : WF n T) : ∀ (k i : Nat) (m : List Int), i + k = n → PN n m → dn T n k i m = (List.range (ordM T n k)).map fun r => desc T n (mselT T n r) k i m
  | 0, i, m, _, _ => by simp [dn, ordM, desc]
  | k + 1, i, m, hi, hm => by
    have hi' : n - i = k + 1 := by omega
    have hi2 : n - (i + 1) = k := by omega
    have hi3 : n - (k + 1) = i := by omega
    have hl := cho_len (T := T) (i := i) hm
    have hM := (ordM_rng hw k (by omega)).1
    have ho : ordM T n (k + 1) = (cho n T i m).length * ordM T n k := by
      show cntR n T (n - (k + 1)) * ordM T n k = _
      rw [hi3, hl]
    show ((cho n T i m).flatMap fun v => dn T n k (i + 1) (putV T i m v)) = _
    rw [ho, range_mul, flatMap_range]
    refine fm_congr fun q hq => ?_
    have hq' : q < (cho n T i m).length := List.mem_range.1 hq
    have hv : (cho n T i m).getD q 0 ∈ cho n T i m := by rw [List.getD_eq_getElem?_getD, List.getElem?_eq_getElem hq']; exact List.getElem_mem hq'
    rw [dn_eq hw k (i + 1) _ (by omega) (putV_pn hw (by omega) hm hv).1]
    refine List.map_congr_left fun s hs => ?_
    have hs' : s < ordM T n k := List.mem_range.1 hs
    have hlt : q * ordM T n k + s < (cho n T i m).length * ordM T n k := by
      have := Nat.mul_le_mul_right (ordM T n k) (show q + 1 ≤ (cho n T i m).length by omega)
      rw [Nat.succ_mul] at this
      omega
    have hsel : mselT T n (q * ordM T n k + s) i (cho n T i m).length = q := by
      unfold mselT
      rw [hi', hi2, ho, Nat.mod_eq_of_lt hlt, Nat.mul_comm, Nat.mul_add_div (by omega), Nat.div_eq_of_lt hs', Nat.add_zero]
    show desc T n (mselT T n s) k (i + 1) _ = desc T n (mselT T n (q * ordM T n k + s)) k (i + 1) (putV T i m ((cho n T i m).getD (mselT T n (q * ordM T n k + s) i (cho n T i m).length) 0))
    rw [hsel]
    refine desc_sel k (i + 1) _ fun j hj l => ?_
    unfold mselT
    have hd : ordM T n (n - j) ∣ ordM T n k := ordM_dvd T n (by omega)
    obtain ⟨c, hc⟩ := hd
    rw [hc, Nat.mul_comm q, Nat.mul_assoc, Nat.mul_add_mod]
/-- the members that begin alike down to a level, one for each beginning -/
def lvA (T : Rows) (n : Nat) : Nat → List (List Int)
  | 0 => [pts n]
  | i + 1 => (lvA T n i).flatMap fun m => (cho n T i m).map (putV T i m)
theorem lvA_dn (T : Rows) (n : Nat) : ∀ i, i ≤ n → (lvA T n i).flatMap (fun m => dn T n (n - i) i m) = dn T n n 0 (pts n)
  | 0, _ => by simp [lvA]
  | i + 1, h => by
    rw [← lvA_dn T n i (by omega)]
    show ((lvA T n i).flatMap fun m => (cho n T i m).map (putV T i m)).flatMap _ = _
    rw [List.flatMap_assoc]
    refine fm_congr fun m _ => ?_
    rw [show n - i = (n - (i + 1)) + 1 by omega, List.flatMap_map]
    rfl
theorem lvA_all {T : Rows} {n : Nat} (hw : WF n T) : lvA T n n = (List.range (ordM T n n)).map fun r => desc T n (mselT T n r) n 0 (pts n) := by
  rw [← dn_eq hw n 0 (pts n) (by omega) (PN.id n), ← lvA_dn T n n (Nat.le_refl _), Nat.sub_self]
  induction lvA T n n with
  | nil => rfl
  | cons x l ih => rw [List.flatMap_cons, ← ih]; rfl
theorem lvA_pn {T : Rows} {n : Nat} (hw : WF n T) : ∀ i, i ≤ n → ∀ m ∈ lvA T n i, PN n m
  | 0, _, m, hm => by
    have : m = pts n := by simpa [lvA] using hm
    rw [this]; exact PN.id n
  | i + 1, h, m, hm => by
    obtain ⟨x, hx, hm2⟩ := List.mem_flatMap.1 hm
    obtain ⟨v, hv, rfl⟩ := List.mem_map.1 hm2
    exact (putV_pn hw (by omega) (lvA_pn hw i (by omega) x hx) hv).1
end PM

namespace Go.Proofs.Ytpcamkmoabhlhaa
open Go.RowKit
set_option maxRecDepth 10000




end Go.Proofs.Ytpcamkmoabhlhaa

namespace Go.Proofs.Ytpcamkmoabhlhaa
open Go.RowKit
set_option maxRecDepth 10000
end Go.Proofs.Ytpcamkmoabhlhaa

namespace Go.Proofs.Ytpcamkmoabhlhaa
open Go.RowKit
set_option maxRecDepth 10000
end Go.Proofs.Ytpcamkmoabhlhaa

namespace Go.Proofs.Ytpcamkmoabhlhaa
open Go.RowKit
set_option maxRecDepth 10000

/-- what a search has met: lists of one length, as many depths -/
def Met16.ok (m : Nat) (s : Met16) : Prop := s.1.length = s.2.length ∧ s.1.length ≤ 3000 ∧ ∀ q ∈ s.1, q.length = m
end Go.Proofs.Ytpcamkmoabhlhaa

namespace Go.Proofs.Ytpcamkmoabhlhaa
open Go.RowKit
set_option maxRecDepth 10000

/-- the first letter of a descent -/
def dLet (x : Puzzle) (t : Table) (p : List Int) : Int := if checkT x t = true ∧ 0 ≤ idxL t.patterns p then descL x t p (atD t (idxL t.patterns p) - 1) else 0
/-- the word of a descent of at most n letters -/
def dW (x : Puzzle) (t : Table) : Nat → List Int → Option (List Int)
  | 0, p => if p = t.tracked then some [] else none
  | n + 1, p => if p = t.tracked then some [] else if dLet x t p = 0 then none else (dW x t n (nxt x p (dLet x t p))).map (dLet x t p :: ·)
theorem dLet_yes {x : Puzzle} {t : Table} {p : List Int} (h : checkT x t = true) (h2 : 0 ≤ idxL t.patterns p) : dLet x t p = descL x t p (atD t (idxL t.patterns p) - 1) := by unfold dLet; rw [if_pos ⟨h, h2⟩]
end Go.Proofs.Ytpcamkmoabhlhaa
