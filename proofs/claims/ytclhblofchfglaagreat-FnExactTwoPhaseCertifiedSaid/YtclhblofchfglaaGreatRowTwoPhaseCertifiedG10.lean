/- The reference's search from a list on: its state (law 16). The reference's search from a list on (law 16). The reference's BuildTable (law 16). The reference's BuildTable: the table (law 16). What a search of patterns has met: lengths; a table's count. Descents in plain words. What breadth-first search finds: the patterns that the letters lead to, their distances. Lower bounds out of tables, in plain words (laws 40, 42, 43, 52). Tables without faults: the built ones, and no others with the same patterns (laws 10, 11, 26). -/
import Derived.Test.YtclhblofchfglaaGreatRowTwoPhaseCertifiedG9
import Derived.Test.YtclhblofchfglaaGreatRowTwoPhaseCertifiedG7
import Derived.Deep.RegionHeld3
import Derived.Test.YtclhblofchfglaaGreatRowTwoPhaseCertifiedG5
import Derived.Test.YtclhblofchfglaaGreatRowTwoPhaseCertifiedG8
namespace Go.Proofs.YtclhblofchfglaaGreat
open Go.RowKit
set_option maxRecDepth 10000

theorem bFrom_step {x : Puzzle} {k : Nat} {L : List (List Int)} {D : List Int} (hk : k < L.length) (h : L.length ≤ 3000) :
    bFrom x (3001 - k) k (L, D) = (bLets x (L.getD k []) (D.getD k 0 + 1) (ltrs x.moves.length) (L, D)).bind (bFrom x (3001 - (k + 1)) (k + 1)) := by
  have e : 3001 - k = (3001 - (k + 1)) + 1 := by omega
  rw [e]
  show (if k < L.length then _ else _) = _
  rw [if_pos hk]
theorem bFrom_end {x : Puzzle} {k : Nat} {L : List (List Int)} {D : List Int} (hk : ¬ k < L.length) (h : k ≤ 3000) : bFrom x (3001 - k) k (L, D) = some (L, D) := by
  have e : 3001 - k = (3001 - (k + 1)) + 1 := by omega
  rw [e]
  show (if k < L.length then _ else _) = _
  rw [if_neg hk]
theorem bLets_old {x : Puzzle} {q : List Int} {d l : Int} {ls : List Int} {L : List (List Int)} {D : List Int} (h : nxt x q l ∈ L) : bLets x q d (l :: ls) (L, D) = bLets x q d ls (L, D) := by
  show (bMeet (L, D) d (nxt x q l)).bind _ = _
  unfold bMeet
  rw [if_pos h]; rfl
theorem bLets_full {x : Puzzle} {q : List Int} {d l : Int} {ls : List Int} {L : List (List Int)} {D : List Int} (h : nxt x q l ∉ L) (hl : L.length = 3000) : bLets x q d (l :: ls) (L, D) = none := by
  show (bMeet (L, D) d (nxt x q l)).bind _ = _
  unfold bMeet
  rw [if_neg h, if_pos hl]; rfl
theorem bLets_new {x : Puzzle} {q : List Int} {d l : Int} {ls : List Int} {L : List (List Int)} {D : List Int} (h : nxt x q l ∉ L) (hl : L.length ≠ 3000) : bLets x q d (l :: ls) (L, D) = bLets x q d ls (L ++ [nxt x q l], D ++ [d]) := by
  show (bMeet (L, D) d (nxt x q l)).bind _ = _
  unfold bMeet
  rw [if_neg h, if_neg hl]; rfl
theorem getD_snoc {α : Type} {l : List α} {a z : α} {k : Nat} (h : k < l.length) : (l ++ [a]).getD k z = l.getD k z := by
  simp only [List.getD_eq_getElem?_getD, List.getElem?_append_left h]
/-- memory made behind a search waits to be taken in -/
theorem SrO.pend {B : Nat} {w w' : World} {v1 v2 v3 : Value} {L : List (List Int)} {D si : List Int} {fs : List (List Nat)} {f : List Nat} (h : SrO B w v1 v2 v3 L D si fs []) (ho : Only [] w w') (hB : B ≤ w.heap.size) (hF : Fresh w.heap.size w' f) : SrO B w' v1 v2 v3 L D si fs f := by
  have h' := h.keep ho
  refine ⟨h'.acc, h'.dep, h'.srt, ?_⟩
  have h1 := Fresh.append h'.fr hF hB (fun b hb => h.fr.lt b hb)
  have hp : ((v1.ownBlock.toList ++ ((fs.flatten ++ []) ++ (v2.ownBlock.toList ++ v3.ownBlock.toList))) ++ f).Perm (v1.ownBlock.toList ++ ((fs.flatten ++ f) ++ (v2.ownBlock.toList ++ v3.ownBlock.toList))) := by
    have := ((List.perm_append_comm (l₁ := v2.ownBlock.toList ++ v3.ownBlock.toList) (l₂ := f)).append_left fs.flatten).append_left v1.ownBlock.toList
    simpa only [List.append_assoc, List.append_nil] using this
  exact ⟨hp.nodup h1.nd, fun b hb => h1.ge b (hp.mem_iff.2 hb), h1.own.sub fun b hb => hp.mem_iff.2 hb⟩
/-- the search under way: w: the call's begin; W: the loops' begin; b: the search's box -/
structure SFi (x : Puzzle) (m : Nat) (w W : World) (b : Nat) (L : List (List Int)) (D : List Int) (wr : World) (A1 A2 A3 : Option Addr) (C1 C2 C3 : Nat) (so : List Nat) (fs : List (List Nat)) : Prop where
  blk : Blk wr b [.slice A1 L.length C1, .slice A2 D.length C2, .slice A3 so.length C3, .bool false]
  sro : SrO (w.heap.size + 2) wr (.slice A1 L.length C1) (.slice A2 D.length C2) (.slice A3 so.length C3) L D (soI so) fs []
  srt : Srt m L so
  dl : D.length = L.length
  ll : L.length ≤ 3000
  pat : ∀ q ∈ L, patB x.points m q = true
  dep : ∀ d ∈ D, 0 ≤ d ∧ d ≤ D.length
  ap : ∀ g ∈ (Value.slice A1 L.length C1).ownBlock.toList ++ ((Value.slice A2 D.length C2).ownBlock.toList ++ (Value.slice A3 so.length C3).ownBlock.toList), g < b ∨ W.heap.size ≤ g
  apf : ∀ g ∈ fs.flatten, g < b ∨ W.heap.size ≤ g
  keep : ∀ g, (g < w.heap.size + 2 ∨ (b < g ∧ g < W.heap.size)) → wr.heap[g]? = W.heap[g]?
  on : Only [] w wr
  sz : W.heap.size ≤ wr.heap.size
  bW : b < W.heap.size
  wb : w.heap.size + 2 ≤ b
theorem SFi.only {x : Puzzle} {m : Nat} {w W : World} {b : Nat} {L : List (List Int)} {D : List Int} {wr wr' : World} {A1 A2 A3 : Option Addr} {C1 C2 C3 : Nat} {so : List Nat} {fs : List (List Nat)} (h : SFi x m w W b L D wr A1 A2 A3 C1 C2 C3 so fs) (ho : Only [] wr wr') : SFi x m w W b L D wr' A1 A2 A3 C1 C2 C3 so fs :=
  ⟨h.blk.keep ho, h.sro.keep ho, h.srt, h.dl, h.ll, h.pat, h.dep, h.ap, h.apf, fun g hg => by
    have hb := h.bW; have hz := h.sz; have hw := h.wb
    rw [ho.block g (by omega) (by simp)]; exact h.keep g hg, h.on.trans ho, Nat.le_trans h.sz ho.size, h.bW, h.wb⟩
theorem SFi.oldBlk {x : Puzzle} {m : Nat} {w W : World} {b : Nat} {L : List (List Int)} {D : List Int} {wr : World} {A1 A2 A3 : Option Addr} {C1 C2 C3 : Nat} {so : List Nat} {fs : List (List Nat)} (h : SFi x m w W b L D wr A1 A2 A3 C1 C2 C3 so fs) {g : Nat} {cs : List Value} (hB : Blk W g cs) (hg : g < w.heap.size + 2) : Blk wr g cs := by
  obtain ⟨t, ht⟩ := hB
  exact ⟨t, (h.keep g (.inl hg)).trans ht⟩
/-- one list more, and the search's box anew -/
theorem SFi.step {x : Puzzle} {m : Nat} {w W : World} {b : Nat} {L : List (List Int)} {D : List Int} {wr w2 wf : World} {A1 A2 A3 A1' A2' A3' : Option Addr} {C1 C2 C3 C1' C2' C3' : Nat} {so so' : List Nat} {fs : List (List Nat)} {f : List Nat} {s : List Int} {d : Int} {fpw : List Nat}
    (h : SFi x m w W b L D wr A1 A2 A3 C1 C2 C3 so fs) (hf : ∀ g ∈ f, W.heap.size ≤ g) (hL : L.length < 3000) (hp : patB x.points m s = true) (hd : 0 ≤ d ∧ d ≤ D.length + 1)
    (h1 : SrO (w.heap.size + 2) w2 (.slice A1' (L.length + 1) C1') (.slice A2' (D.length + 1) C2') (.slice A3' (so.length + 1) C3') (L ++ [s]) (D ++ [d]) (soI so') (fs ++ [f]) []) (h2 : Srt m (L ++ [s]) so') (h3 : so'.length = so.length + 1)
    (h4 : Only ((Value.slice A1 L.length C1).ownBlock.toList ++ ((Value.slice A2 D.length C2).ownBlock.toList ++ (Value.slice A3 so.length C3).ownBlock.toList)) wr w2)
    (h5 : ∀ g ∈ (Value.slice A1' (L.length + 1) C1').ownBlock.toList ++ ((Value.slice A2' (D.length + 1) C2').ownBlock.toList ++ (Value.slice A3' (so.length + 1) C3').ownBlock.toList), g ∈ (Value.slice A1 L.length C1).ownBlock.toList ++ ((Value.slice A2 D.length C2).ownBlock.toList ++ (Value.slice A3 so.length C3).ownBlock.toList) ∨ wr.heap.size ≤ g)
    (h6 : Only fpw w2 wf) (hfp : ∀ g ∈ fpw, g = b) (h7 : Blk wf b [.slice A1' (L.length + 1) C1', .slice A2' (D.length + 1) C2', .slice A3' (so.length + 1) C3', .bool false]) :
    SFi x m w W b (L ++ [s]) (D ++ [d]) wf A1' A2' A3' C1' C2' C3' so' (fs ++ [f]) := by
  have hb := h.bW; have hz := h.sz; have hw := h.wb
  have hge := h.sro.fr.ge
  have hap' : ∀ g ∈ (Value.slice A1' (L.length + 1) C1').ownBlock.toList ++ ((Value.slice A2' (D.length + 1) C2').ownBlock.toList ++ (Value.slice A3' (so.length + 1) C3').ownBlock.toList), g < b ∨ W.heap.size ≤ g := fun g hg => by
    rcases h5 g hg with h8 | h8
    · exact h.ap g h8
    · right; omega
  have hapf' : ∀ g ∈ (fs ++ [f]).flatten, g < b ∨ W.heap.size ≤ g := fun g hg => by
    rw [List.flatten_append] at hg
    rcases List.mem_append.1 hg with hg | hg
    · exact h.apf g hg
    · exact .inr (hf g (by simpa using hg))
  have hs2 := h4.size
  have hnin : ∀ g ∈ (Value.slice A1 L.length C1).ownBlock.toList ++ ((Value.slice A2 D.length C2).ownBlock.toList ++ (Value.slice A3 so.length C3).ownBlock.toList), w.heap.size + 2 ≤ g := fun g hg => hge g (by
    simp only [List.mem_append] at hg ⊢
    rcases hg with hg | hg | hg
    · exact .inl hg
    · exact .inr (.inr (.inl hg))
    · exact .inr (.inr (.inr hg)))
  refine ⟨?_, ?_, h2, by simp [h.dl], by simp; omega, ?_, ?_, ?_, hapf', fun g hg => ?_, ?_, ?_, h.bW, h.wb⟩
  · simpa [h3] using h7
  · have := h1.only h6 (fun g hg hm => by
      have e := hfp g hm
      simp only [List.mem_append, List.append_nil] at hg
      rcases hg with hg | hg | hg | hg
      · have := hap' g (by simp only [List.mem_append]; exact .inl hg); omega
      · have := hapf' g hg; omega
      · have := hap' g (by simp only [List.mem_append]; exact .inr (.inl hg)); omega
      · have := hap' g (by simp only [List.mem_append]; exact .inr (.inr hg)); omega)
    simpa [h3] using this
  · intro q hq
    rcases List.mem_append.1 hq with hq | hq
    · exact h.pat q hq
    · simp at hq; subst hq; exact hp
  · intro q hq
    rw [List.length_append, List.length_singleton]
    rcases List.mem_append.1 hq with hq | hq
    · have := h.dep q hq; omega
    · simp at hq; subst hq; omega
  · rw [List.length_append, List.length_append, List.length_singleton, List.length_singleton, h3]; exact hap'
  · rw [h6.block g (by omega) (fun hm => by have := hfp g hm; omega), h4.block g (by omega) (fun hm => by have := hnin g hm; have := h.ap g hm; omega)]
    exact h.keep g hg
  · exact (h.on.then_ h4 (fun g hg hl => by have := hnin g hg; omega)).then_ h6 (fun g hg hl => by have := hfp g hg; omega)
  · exact Nat.le_trans hz (Nat.le_trans hs2 h6.size)
/-- what a search leaves to be read -/
theorem SFi.out {x : Puzzle} {m : Nat} {w W : World} {b : Nat} {L : List (List Int)} {D : List Int} {wr wf : World} {A1 A2 A3 : Option Addr} {C1 C2 C3 : Nat} {so : List Nat} {fs : List (List Nat)} {fpw : List Nat}
    (h : SFi x m w W b L D wr A1 A2 A3 C1 C2 C3 so fs) (ho : Only fpw wr wf) (hf : ∀ g ∈ fpw, g = b ∨ g = w.heap.size + 1) (hm : m ≤ 1000) : ∃ fL fD, Rd wf (.slice A1 L.length C1) L fL ∧ Rd wf (.slice A2 D.length C2) D fD ∧ Only [] w wf ∧ (∀ g ∈ fL ++ fD, w.heap.size ≤ g) ∧ L.length ≤ 3000 ∧ D.length ≤ 3000 ∧ ∀ q ∈ L, q.length ≤ 1000 := by
  have hb := h.bW; have hw := h.wb
  have hge := h.sro.fr.ge
  have h1 := h.sro.only ho (fun g hg hm => by
    have e := hf g hm
    have e2 := hge g hg
    simp only [List.mem_append, List.append_nil] at hg
    rcases hg with hg | hg | hg | hg
    · have := h.ap g (by simp only [List.mem_append]; exact .inl hg); omega
    · have := h.apf g hg; omega
    · have := h.ap g (by simp only [List.mem_append]; exact .inr (.inl hg)); omega
    · have := h.ap g (by simp only [List.mem_append]; exact .inr (.inr hg)); omega)
  have hD : ∀ z ∈ D, I64 z := fun z hz => by have := h.dep z hz; have := h.dl; have := h.ll; unfold I64; omega
  obtain ⟨a2, c2, hv2, -, hI2, -⟩ := own_ints h1.dep hD
  injection hv2 with e1 _ e2; subst e1; subst e2
  refine ⟨_, _, h1.acc.rd (by decide), hI2.rd, h.on.then_ ho (fun g hg hl => by have := hf g hg; omega), fun g hg => ?_, h.ll, by have := h.dl; have := h.ll; omega, fun q hq => by rw [(patB_iff.1 (h.pat q hq)).1]; exact hm⟩
  have := hge g (by
    simp only [List.mem_append] at hg ⊢
    rcases hg with (hg | hg) | hg
    · exact .inl hg
    · exact .inr (.inl (.inl hg))
    · exact .inr (.inr (.inl hg)))
  omega
theorem SFi.out2 {x : Puzzle} {m : Nat} {w W : World} {b : Nat} {L : List (List Int)} {D : List Int} {wr wf : World} {A1 A2 A3 : Option Addr} {C1 C2 C3 : Nat} {so : List Nat} {fs : List (List Nat)} {fpw : List Nat}
    (h : SFi x m w W b L D wr A1 A2 A3 C1 C2 C3 so fs) (ho : Only fpw wr wf) (hf : ∀ g ∈ fpw, g = b ∨ g = w.heap.size + 1) : ∃ ob fps fd fz, SrR wf A1 A2 A3 C1 C2 C3 L D so ob fps fd fz ∧ ∀ g ∈ (ob ++ fps.flatten) ++ (fd ++ fz), w.heap.size ≤ g := by
  have hb := h.bW; have hw := h.wb
  have hge := h.sro.fr.ge
  have h1 := h.sro.only ho (fun g hg hm => by
    have e := hf g hm
    have e2 := hge g hg
    simp only [List.mem_append, List.append_nil] at hg
    rcases hg with hg | hg | hg | hg
    · have := h.ap g (by simp only [List.mem_append]; exact .inl hg); omega
    · have := h.apf g hg; omega
    · have := h.ap g (by simp only [List.mem_append]; exact .inr (.inl hg)); omega
    · have := h.ap g (by simp only [List.mem_append]; exact .inr (.inr hg)); omega)
  obtain ⟨ob, fps, fd, fz, q1, q2⟩ := h1.srR2 (fun z hz => by have := h.dep z hz; have := h.dl; have := h.ll; unfold I64; omega) (fun i hi => by have := h.srt.in_ i hi; have := h.ll; omega)
  exact ⟨ob, fps, fd, fz, q1, fun g hg => by have := q2 g hg; omega⟩
end Go.Proofs.YtclhblofchfglaaGreat

namespace Go.Proofs.YtclhblofchfglaaGreat
open Go.RowKit
set_option maxRecDepth 10000

theorem searchAdd_nil (B m : Nat) (v : Value) (s : List Int) (f : List Nat) (d : Int) (w : World) (hv : Rd w v s f) (hs : s.length = m) (hB : B ≤ w.heap.size) (hF : Fresh B w f) :
    Calls Tryz.prog 188 #[.agg #[.slice none 0 0, .slice none 0 0, .slice none 0 0, .bool false], v, .int .i64 d] w fun e w' => ∃ A1' A2' A3' C1' C2' C3' so', e = .returned (.agg #[.slice A1' 1 C1', .slice A2' 1 C2', .slice A3' 1 C3', .bool false]) ∧
      SrO B w' (.slice A1' 1 C1') (.slice A2' 1 C2') (.slice A3' 1 C3') [s] [d] (soI so') [f] [] ∧ Srt m [s] so' ∧ so'.length = 1 ∧ Only [] w w' := by
  have h0 : SrO B w (.slice none ([] : List (List Int)).length 0) (.slice none ([] : List Int).length 0) (.slice none ([] : List Nat).length 0) [] [] (soI []) [] f :=
    ⟨Acc.nil _ _ _, ⟨by simp, .inl ⟨rfl, rfl⟩⟩, ⟨by simp [soI], .inl ⟨rfl, rfl⟩⟩, by simpa [Value.ownBlock] using hF⟩
  refine (searchAdd_any B none none none 0 0 0 false [] [] [] [] m v s f d w h0 (Srt.nil m) hv hs (by simp) (by simp) rfl (by simp) hB).mono ?_
  rintro e w' ⟨A1', A2', A3', C1', C2', C3', so', rfl, h1, h2, h3, h4, -⟩
  exact ⟨A1', A2', A3', C1', C2', C3', so', rfl, h1, h2, h3, by simpa [Value.ownBlock] using h4⟩
set_option maxHeartbeats 8000000 in
theorem searchFrom_srt (cs : List Value) (x : Puzzle) (fp : List Nat) (v : Value) (tr : List Int) (ft : List Nat) (w : World) (h : Rp.rep w cs x fp) (hv : Rd w v tr ft) (hx : validPz x = true) (hp : patB x.points tr.length tr = true) (htl : tr.length ≤ 1000) :
    Calls Tryz.prog 155 #[.agg cs.toArray, v] w fun e w' => ∃ A1 A2 A3 C1 C2 C3 n3 wh L D fL fD, e = .returned (.agg #[.slice A1 (List.length L) C1, .slice A2 (List.length D) C2, .slice A3 n3 C3, .bool wh]) ∧
      Rd w' (.slice A1 L.length C1) L fL ∧ Rd w' (.slice A2 D.length C2) D fD ∧ (bFrom x 3001 0 ([tr], [0]) = if wh = true then some (L, D) else none) ∧ Only [] w w' ∧ (∀ g ∈ fL ++ fD, w.heap.size ≤ g) ∧ L.length ≤ 3000 ∧ D.length ≤ 3000 ∧ (∀ q ∈ L, q.length ≤ 1000) ∧ ∃ so ob fps fd fz, n3 = List.length so ∧ SrR w' A1 A2 A3 C1 C2 C3 L D so ob fps fd fz ∧ Srt tr.length L so ∧ ∀ g ∈ (ob ++ fps.flatten) ++ (fd ++ fz), w.heap.size ≤ g := by
  have h0 := h
  obtain ⟨v2, rfl, p0, p1, h2⟩ := h
  obtain ⟨A2, C2, _, _, rfl, -, -⟩ := h2.open_
  obtain ⟨a, cap, rfl, Iv⟩ := hv.ints
  have hxm := (validPz_facts hx).2.2.1
  clear Iv h2 p0 p1
  have Hp := Lib.hid hp
  have Hx := Lib.hid hx
  clear hp hx
  have X0 : Blk ((w.alloc (.cells #[.int .i64 x.points, .string x.names, .slice A2 x.moves.length C2] 33)).alloc (.cells #[.slice none 0 0, .slice none 0 0, .slice none 0 0, .bool false] 85)) w.heap.size [.int .i64 x.points, .string x.names, .slice A2 x.moves.length C2] := (Blk.new w [.int .i64 x.points, .string x.names, .slice A2 x.moves.length C2] 33).keep ((Only.refl _ _).alloc _)
  have Y0 : Blk ((w.alloc (.cells #[.int .i64 x.points, .string x.names, .slice A2 x.moves.length C2] 33)).alloc (.cells #[.slice none 0 0, .slice none 0 0, .slice none 0 0, .bool false] 85)) (w.heap.size + 1) [.slice none 0 0, .slice none 0 0, .slice none 0 0, .bool false] := Blk.new_at (by simp)
  go_enter Tryz.func155, Tryz.ntmps155
  go_wp2_with (first
    | (go_at_call 63; (with_reducible refine (copyInts_rd _ tr _ _ (Rp.keep hv (by with_reducible repeat (first | exact Only.refl _ _ | assumption | refine Only.drewN ?_ _ | refine Only.drew ?_ | refine Only.alloc ?_ _ | refine Only.setCell ?_ (by intro hh; exfalso; simp at hh; try omega) _ | refine Only.trans ?_ (by assumption)))) (by omega)).mono ?_); rintro e w1 ⟨v1, f1, rfl, r1, F1, t1⟩; obtain ⟨a1, c1, rfl, I1⟩ := r1.ints; clear I1; have F1' : Fresh (w.heap.size + 2) w1 f1 := F1.mono (by simp); have z1 : w.heap.size + 2 ≤ w1.heap.size := (by have := t1.size; simp at this; omega))
    | (go_at_call 188; (with_reducible refine (searchAdd_nil (w.heap.size + 2) tr.length _ tr f1 0 _ (Rp.keep r1 (by with_reducible repeat (first | exact Only.refl _ _ | assumption | refine Only.drewN ?_ _ | refine Only.drew ?_ | refine Only.alloc ?_ _ | refine Only.setCell ?_ (by intro hh; exfalso; simp at hh; try omega) _ | refine Only.trans ?_ (by assumption)))) rfl z1 F1').mono ?_); rintro e w2 ⟨B1, B2, B3, D1, D2, D3, so1, rfl, S2, T2, l2, t2⟩; have XB := (((X0.keep t1).keep t2).keep ((Only.refl [] w2).alloc (.cells #[.slice B1 1 D1, .slice B2 1 D2, .slice B3 1 D3, .bool false] 85))); have y0 := XB.cell 0 rfl; have y1 := XB.cell 1 rfl; have y2 := XB.cell 2 rfl)
    | (go_at_call 127; (with_reducible refine (lettersOf_any [.int .i64 x.points, .string x.names, .slice A2 x.moves.length C2] x _ _ (Rp.keep h0 (by with_reducible repeat (first | exact Only.refl _ _ | assumption | refine Only.drewN ?_ _ | refine Only.drew ?_ | refine Only.alloc ?_ _ | refine Only.setCell ?_ (by intro hh; exfalso; simp at hh; try omega) _ | refine Only.trans ?_ (by assumption)))) (by omega)).mono ?_); rintro e w3 ⟨v3, f3, rfl, r3, F3, t3⟩; obtain ⟨a3, c3, rfl, I3⟩ := r3.ints)
    | fail "no arm")
  have K3 : Only [] w w3 := (by with_reducible repeat (first | exact Only.refl _ _ | assumption | refine Only.drewN ?_ _ | refine Only.drew ?_ | refine Only.alloc ?_ _ | refine Only.setCell ?_ (by intro hh; exfalso; simp at hh; try omega) _ | refine Only.trans ?_ (by assumption)))
  have z2 := t2.size
  have z3 : w2.heap.size + 1 ≤ w3.heap.size := by have := t3.size; simp at this; omega
  have X3 := XB.keep t3
  have Y3 := (((Y0.keep t1).keep t2).keep ((Only.refl [] w2).alloc (.cells #[.slice B1 1 D1, .slice B2 1 D2, .slice B3 1 D3, .bool false] 85))).keep t3
  have hS : SFi x tr.length w w3 w2.heap.size [tr] [0] w3 B1 B2 B3 D1 D2 D3 so1 [f1] := by
    refine ⟨?_, ?_, T2, rfl, by simp, by simpa using Hp.out, by simp, fun g hg => .inl ?_, fun g hg => .inl ?_, fun _ _ => rfl, K3, Nat.le_refl _, by omega, by omega⟩
    · have := ((Blk.new w2 [.slice B1 1 D1, .slice B2 1 D2, .slice B3 1 D3, .bool false] 85).keep t3)
      simpa [l2] using this
    · have := (S2.keep ((Only.refl [] w2).alloc (.cells #[.slice B1 1 D1, .slice B2 1 D2, .slice B3 1 D3, .bool false] 85))).keep t3
      simpa [l2] using this
    · refine S2.fr.lt g ?_
      simp only [List.mem_append] at hg ⊢
      rw [l2] at hg
      rcases hg with hg | hg | hg
      · exact .inl hg
      · exact .inr (.inr (.inl hg))
      · exact .inr (.inr (.inr hg))
    · refine S2.fr.lt g ?_
      simp only [List.mem_append]
      exact .inr (.inl (.inl hg))
  have hf3 : ∀ g ∈ f3, w2.heap.size < g ∧ g < w3.heap.size := fun g hg => ⟨by have := F3.ge g hg; simp at this; omega, F3.lt g hg⟩
  clear F3
  clear S2 T2 l2 XB y0 y1 y2 X0 Y0 r1 F1 F1' t1 t2 t3 z1 z2 z3
  obtain ⟨b5, hb5⟩ : ∃ b5, b5 = w2.heap.size := ⟨_, rfl⟩
  rw [← hb5] at hS hf3 ⊢
  clear hb5
  obtain ⟨R, hR⟩ : ∃ R, R = bFrom x 3001 0 ([tr], [0]) := ⟨_, rfl⟩
  have HR := Lib.hid hR
  have hll : (ltrs x.moves.length).length ≤ 1000 := by rw [ltrs_len]; omega
  obtain ⟨ls, hls⟩ : ∃ ls, ls = ltrs x.moves.length := ⟨_, rfl⟩
  rw [← hls] at r3 I3 hll
  rw [← hls]
  have Hls := Lib.hid hls
  clear hR hls
  go_loopw [7] (fun s7 wr => ∃ (k : Nat) (L : List (List Int)) (D : List Int), s7 = .int .i64 k ∧ k ≤ L.length ∧ (∃ A1 A2 A3 C1 C2 C3 so fs, SFi x tr.length w w3 b5 L D wr A1 A2 A3 C1 C2 C3 so fs) ∧ R = bFrom x (3001 - k) k (L, D))
    (fun s7 _ => 3001 - (intOf s7).toNat)
  case atStart => exact ⟨0, [tr], [0], rfl, by simp, ⟨_, _, _, _, _, _, _, _, hS⟩, HR.out⟩
  case round =>
    obtain ⟨W2, hnew⟩ : ∃ W, W = wr := ⟨_, rfl⟩
    subst hnew
    obtain ⟨k, L, D, rfl, hk, ⟨A1, A2', A3, C1, C2', C3, so, fs, hF⟩, hRk⟩ := hrel
    have HRk := Lib.hid hRk
    have hL3 := hF.ll
    have y0 := hF.blk.cell 0 rfl
    clear hRk
    by_cases hlt : k < L.length
    · have hst := HRk.out.trans (bFrom_step hlt hL3)
      rw [← Hls.out] at hst
      have Hst := Lib.hid hst
      clear hst
      obtain ⟨q, hq⟩ : ∃ q, q = L.getD k [] := ⟨_, rfl⟩
      obtain ⟨d1, hd1⟩ : ∃ d, d = D.getD k 0 + 1 := ⟨_, rfl⟩
      rw [← hq, ← hd1] at Hst
      have Hq := Lib.hid hq.symm
      have Hd := Lib.hid hd1.symm
      clear hq hd1
      go_wp2
      go_loopw [8] (fun s8 wr => ∃ (i : Nat) (L : List (List Int)) (D : List Int), s8 = .int .i64 i ∧ i ≤ ls.length ∧ (∃ A1 A2 A3 C1 C2 C3 so fs, SFi x tr.length w w3 b5 L D wr A1 A2 A3 C1 C2 C3 so fs) ∧ k < L.length ∧ L.getD k [] = q ∧ D.getD k 0 + 1 = d1 ∧ R = (bLets x q d1 (ls.drop i) (L, D)).bind (bFrom x (3001 - (k + 1)) (k + 1)))
        (fun s8 _ => ls.length - (intOf s8).toNat)
      case atStart => exact ⟨0, L, D, rfl, Nat.zero_le _, ⟨_, _, _, _, _, _, _, _, hF⟩, hlt, Hq.out, Hd.out, by rw [List.drop_zero]; exact Hst.out⟩
      case round =>
        clear y0 hL3 hF HRk Hst Hq Hd hlt hk
        obtain ⟨W3, hnew⟩ : ∃ W, W = wr := ⟨_, rfl⟩
        subst hnew
        obtain ⟨i, L, D, rfl, hi, ⟨A1, A2', A3, C1, C2', C3, so, fs, hF⟩, hlt, hq, hd, hRi⟩ := hrel
        have Hq := Lib.hid hq
        have Hd := Lib.hid hd
        have HRi := Lib.hid hRi
        have hL3 := hF.ll
        have hDl := hF.dl
        have HDl := Lib.hid hDl
        clear hq hd hRi hDl
        have hXx := hF.oldBlk X3 (by omega)
        have x0 := hXx.cell 0 rfl
        have x1 := hXx.cell 1 rfl
        have x2 := hXx.cell 2 rfl
        have y0 := hF.blk.cell 0 rfl
        have K := hF.on
        have IL := I3.frame (fun g hg => hF.keep g (.inr (hf3 g hg)))
        by_cases hil : i < ls.length
        · obtain ⟨b3, off3, rfl, -, hc3⟩ := IL.at_ i hil
          have hla : ls[i] ∈ ltrs x.moves.length := by rw [← Hls.out]; exact List.getElem_mem hil
          have hacc := (hF.sro.acc.rd (by decide)).open_
          obtain ⟨a1', c1', ob, fps, hv1, -, hS1⟩ := hacc
          injection hv1 with e1 _ e2
          subst e1
          subst e2
          obtain ⟨b1, off1, u, rfl, -, hc1, hu⟩ := hS1.atRow k hlt
          have hqk : L[k] = q := by have := Hq.out; rw [List.getD_eq_getElem?_getD, List.getElem?_eq_getElem hlt] at this; exact this
          have hpat := hF.pat L[k] (List.getElem_mem hlt)
          rw [hqk] at hu hpat
          have Hpat := Lib.hid hpat
          have Hla := Lib.hid hla
          have hql : q.length ≤ 1000 := by rw [(patB_iff.1 hpat).1]; exact htl
          have Hrng := Lib.hid (patB_iff.1 hpat).2.1
          clear hqk hpat hla
          have Hc := Lib.hid (fun (W : World) (hh : Only [] W3 W) => applyLetter_any [.int .i64 x.points, .string x.names, .slice A2 x.moves.length C2] x _ _ q _ ls[i] W (Rp.keep h0 (K.trans hh)) (Rp.keep hu hh) Hx.out Hla.out Hrng.out hql)
          go_wp2
          go_region_held3 (fun w' => Only [] W3 w' ∧ w'.cell? ⟨w.heap.size, 0, none⟩ = some (.int .i64 x.points) ∧ w'.cell? ⟨w.heap.size, 1, none⟩ = some (.string x.names) ∧ w'.cell? ⟨w.heap.size, 2, none⟩ = some (.slice A2 x.moves.length C2) ∧ w'.cell? ⟨b5, 0, none⟩ = some (.slice (some ⟨b1, off1, none⟩) L.length C1) ∧ w'.cell? ⟨b1, off1 + k, none⟩ = some (u) ∧ w'.cell? ⟨b3, off3 + i, none⟩ = some (.int .i64 ls[i])) (((refine and_of ?_ (fun h__ => ⟨h__.cell (by simp) x0, h__.cell (by simp) x1, h__.cell (by simp) x2, h__.cell (by simp) y0, h__.cell (by simp) hc1, h__.cell (by simp) hc3⟩)); first | exact (Only.refl _ _).drew | exact ((Only.refl _ _).drewN _).drew | exact Only.trans (And.left (by assumption)) (by assumption) | exact Only.alloc (And.left (by assumption)) _ | assumption)) (first | (go_at_call 128; (with_reducible refine (Hc.out _ (And.left (by assumption))).mono ?_); rintro e w4 ⟨u4, f4, rfl, r4, F4, t4⟩; have F4' := F4.mono (((Only.refl [] W3).trans (And.left (by assumption))).size)) | fail "no arm")
          have k4 : Only [] W3 w4 := (Only.refl [] W3).trans (And.left (by assumption))
          obtain ⟨s, hs⟩ : ∃ s, s = nxt x q ls[i] := ⟨_, rfl⟩
          rw [← hs] at r4
          have hps : patB x.points tr.length s = true := by rw [hs]; exact nxt_pat Hx.out Hpat.out Hla.out
          have hsl : s.length = tr.length := (patB_iff.1 hps).1
          have hdr : ls.drop i = ls[i] :: ls.drop (i + 1) := List.drop_eq_getElem_cons hil
          have HRi2 := Lib.hid hdr
          have Hs := Lib.hid hs
          have Hps := Lib.hid hps
          have Hsl := Lib.hid hsl
          have hF4 := hF.only k4
          obtain ⟨ob4, fps4, fd4, fz4, hR4⟩ := hF4.sro.srR (fun z hz => by have := hF4.dep z hz; have := HDl.out; unfold I64; omega) (fun j hj => by have := hF4.srt.in_ j hj; omega)
          have q0 := hF4.blk.cell 0 rfl
          have q1 := hF4.blk.cell 1 rfl
          have q2 := hF4.blk.cell 2 rfl
          have q3 := hF4.blk.cell 3 rfl
          have hS4 := Lib.hid hF4.srt
          clear hs hps hsl hdr x0 x1 x2 y0 hc1 hc3 hu hS1 Hc
          by_cases hmem : s ∈ L
          · have Hmem := Lib.hid hmem
            clear hmem
            go_wp2_with (first
              | (go_at_call 126; (with_reducible refine (searchIndex_any (some ⟨b1, off1, none⟩) A2' A3 C1 C2' C3 false L D so ob4 fps4 fd4 fz4 tr.length _ s f4 _ (hR4.keep (by with_reducible repeat (first | exact Only.refl _ _ | assumption | refine Only.drewN ?_ _ | refine Only.drew ?_ | refine Only.alloc ?_ _ | refine Only.setCell ?_ (by intro hh; exfalso; simp at hh; try omega) _ | refine Only.trans ?_ (by assumption)))) hS4.out (Rp.keep r4 (by with_reducible repeat (first | exact Only.refl _ _ | assumption | refine Only.drewN ?_ _ | refine Only.drew ?_ | refine Only.alloc ?_ _ | refine Only.setCell ?_ (by intro hh; exfalso; simp at hh; try omega) _ | refine Only.trans ?_ (by assumption)))) Hsl.out hL3).mono ?_); rintro e w5 ⟨r, rfl, hr, t5⟩; have hr2 := hr.2 Hmem.out; clear hr)
              | fail "no arm")
            go_roundw
            case rel => exact ⟨i + 1, L, D, by go_num, by omega, ⟨_, _, _, _, _, _, _, _, hF4.only t5⟩, hlt, Hq.out, Hd.out, by rw [HRi.out, HRi2.out, bLets_old (by rw [← Hs.out]; exact Hmem.out)]⟩
            case measure => simp [intOf]; omega
          · have Hmem := Lib.hid hmem
            clear hmem
            by_cases hfull : L.length = 3000
            · have Hfull := Lib.hid hfull
              have hfb : ((L.length : Int) == 3000) = true := by simp [hfull]
              clear hfull
              go_wp2_with (first
                | (go_at_call 126; (with_reducible refine (searchIndex_any (some ⟨b1, off1, none⟩) A2' A3 C1 C2' C3 false L D so ob4 fps4 fd4 fz4 tr.length _ s f4 _ (hR4.keep (by with_reducible repeat (first | exact Only.refl _ _ | assumption | refine Only.drewN ?_ _ | refine Only.drew ?_ | refine Only.alloc ?_ _ | refine Only.setCell ?_ (by intro hh; exfalso; simp at hh; try omega) _ | refine Only.trans ?_ (by assumption)))) hS4.out (Rp.keep r4 (by with_reducible repeat (first | exact Only.refl _ _ | assumption | refine Only.drewN ?_ _ | refine Only.drew ?_ | refine Only.alloc ?_ _ | refine Only.setCell ?_ (by intro hh; exfalso; simp at hh; try omega) _ | refine Only.trans ?_ (by assumption)))) Hsl.out hL3).mono ?_); rintro e w5 ⟨r, rfl, hr, t5⟩; have hr2 : ¬ 0 ≤ r := (fun hh => Hmem.out (hr.1 hh)); clear hr; have hF5 := hF4.only t5; clear q0 q1 q2 q3; have q0 := hF5.blk.cell 0 rfl; have q1 := hF5.blk.cell 1 rfl; have q2 := hF5.blk.cell 2 rfl; have q3 := hF5.blk.cell 3 rfl; have hY5 := hF5.oldBlk Y3 (by omega); have g0 := hY5.cell 0 rfl; have g1 := hY5.cell 1 rfl; have g2 := hY5.cell 2 rfl; have g3 := hY5.cell 3 rfl; have p0 := hY5.frozen 0; have p1 := hY5.frozen 1; have p2 := hY5.frozen 2; have p3 := hY5.frozen 3)
                | fail "no arm")
              have Yf := ((((hY5).set 0 (.slice (some ⟨b1, off1, none⟩) L.length C1)).set 1 (.slice A2' D.length C2')).set 2 (.slice A3 so.length C3)).set 3 (.bool false)
              have kf : Only [w.heap.size + 1] w5 ((((w5.setCell ⟨w.heap.size + 1, 0, none⟩ (.slice (some ⟨b1, off1, none⟩) L.length C1)).setCell ⟨w.heap.size + 1, 1, none⟩ (.slice A2' D.length C2')).setCell ⟨w.heap.size + 1, 2, none⟩ (.slice A3 so.length C3)).setCell ⟨w.heap.size + 1, 3, none⟩ (.bool false)) := ((((Only.refl _ _).setCell (by simp) _).setCell (by simp) _).setCell (by simp) _).setCell (by simp) _
              have o9 := hF5.srt
              obtain ⟨fL, fD, o1, o2, o3, o4, o5, o6⟩ := hF5.out kf (by simp) htl
              obtain ⟨ob9, fps9, fd9, fz9, o8, o10⟩ := hF5.out2 kf (by simp)
              obtain ⟨wf, hwf⟩ : ∃ wf, wf = ((((w5.setCell ⟨w.heap.size + 1, 0, none⟩ (.slice (some ⟨b1, off1, none⟩) L.length C1)).setCell ⟨w.heap.size + 1, 1, none⟩ (.slice A2' D.length C2')).setCell ⟨w.heap.size + 1, 2, none⟩ (.slice A3 so.length C3)).setCell ⟨w.heap.size + 1, 3, none⟩ (.bool false)) := ⟨_, rfl⟩
              rw [← hwf] at Yf o1 o2 o3 o8 ⊢
              simp only [List.set] at Yf
              clear hwf kf q0 q1 q2 q3 g0 g1 g2 g3 p0 p1 p2 p3
              have r0 := Yf.cell 0 rfl
              have r1 := Yf.cell 1 rfl
              have r2 := Yf.cell 2 rfl
              have r3 := Yf.cell 3 rfl
              refine bodyPost_ret (v := .agg #[.slice (some ⟨b1, off1, none⟩) L.length C1, .slice A2' D.length C2', .slice A3 so.length C3, .bool false]) (by simp [results, Tryz.results155, go_sem, r0, r1, r2, r3]) rfl ⟨_, _, _, _, _, _, _, false, L, D, fL, fD, rfl, o1, o2, ?_, o3, o4, o5, o6.1, o6.2, so, ob9, fps9, fd9, fz9, rfl, o8, o9, o10⟩
              rw [← HR.out, HRi.out, HRi2.out, bLets_full (by rw [← Hs.out]; exact Hmem.out) Hfull.out]
              rfl
            · have hfb : ((L.length : Int) == 3000) = false := by simp; omega
              have hL4 : L.length < 3000 := by omega
              clear hfull
              obtain ⟨b2, off2, rfl, -, hcd⟩ := hR4.dp.at_ k (by have := HDl.out; omega)
              have hdk := hF4.dep (D[k]'(by have := HDl.out; omega)) (List.getElem_mem _)
              obtain ⟨dk, hdk0⟩ : ∃ dk, dk = D[k]'(by have := HDl.out; omega) := ⟨_, rfl⟩
              rw [← hdk0] at hcd hdk
              have hdd : dk + 1 = d1 := by
                have := Hd.out
                rw [List.getD_eq_getElem?_getD, List.getElem?_eq_getElem (show k < D.length by have := HDl.out; omega)] at this
                rw [hdk0]; exact this
              have Hdd := Lib.hid hdd
              have hdk1 : 0 ≤ dk := hdk.1
              have hdk2 : dk ≤ 3000 := by have := hdk.2; have := HDl.out; omega
              have hdk3 := hdk.2
              have Hdk3 := Lib.hid hdk3
              have hkD : k < D.length := by have := HDl.out; omega
              have hw1 : IntKind.i64.wrap (dk + 1) = dk + 1 := by rw [IntKind.wrap_i64]; omega
              clear hdk hdk0 hdd hdk3
              go_wp2_with (first
                | (go_at_call 126; (with_reducible refine (searchIndex_any (some ⟨b1, off1, none⟩) (some ⟨b2, off2, none⟩) A3 C1 C2' C3 false L D so ob4 fps4 fd4 fz4 tr.length _ s f4 _ (hR4.keep (by with_reducible repeat (first | exact Only.refl _ _ | assumption | refine Only.drewN ?_ _ | refine Only.drew ?_ | refine Only.alloc ?_ _ | refine Only.setCell ?_ (by intro hh; exfalso; simp at hh; try omega) _ | refine Only.trans ?_ (by assumption)))) hS4.out (Rp.keep r4 (by with_reducible repeat (first | exact Only.refl _ _ | assumption | refine Only.drewN ?_ _ | refine Only.drew ?_ | refine Only.alloc ?_ _ | refine Only.setCell ?_ (by intro hh; exfalso; simp at hh; try omega) _ | refine Only.trans ?_ (by assumption)))) Hsl.out hL3).mono ?_); rintro e w5 ⟨r, rfl, hr, t5⟩; have hr2 : ¬ 0 ≤ r := (fun hh => Hmem.out (hr.1 hh)); clear hr; have hF5 := hF4.only t5; clear q0 q1 q2 q3; have q0 := hF5.blk.cell 0 rfl; have q1 := hF5.blk.cell 1 rfl; have q2 := hF5.blk.cell 2 rfl; have q3 := hF5.blk.cell 3 rfl; have hcd5 := t5.cell (by simp) hcd)
                | fail "no arm")
              have hb5s := hF5.sz
              have hBW : w.heap.size + 2 ≤ W3.heap.size := by have := hF.sz; have := hF.bW; have := hF.wb; omega
              have hDI : ∀ z ∈ D, I64 z := fun z hz => by have := hF5.dep z hz; have := HDl.out; unfold I64; omega
              have Hc6 := Lib.hid (fun (W : World) (hh : Only [] w5 W) => searchAdd_any (w.heap.size + 2) (some ⟨b1, off1, none⟩) (some ⟨b2, off2, none⟩) A3 C1 C2' C3 false L D so fs tr.length u4 s f4 (dk + 1) W (hF.sro.pend ((k4.trans t5).trans hh) hBW (F4'.keep (t5.trans hh))) hS4.out (Rp.keep r4 (t5.trans hh)) Hsl.out Hmem.out hL4 HDl.out hDI (Nat.le_trans hBW ((k4.trans t5).trans hh).size))
              clear hDI
              go_region_law (first
                | (go_simp; go_at_call 188; (with_reducible refine (Hc6.out _ (by with_reducible repeat (first | exact Only.refl _ _ | assumption | refine Only.drewN ?_ _ | refine Only.drew ?_ | refine Only.alloc ?_ _ | refine Only.setCell ?_ (by intro hh; exfalso; simp at hh; try omega) _ | refine Only.trans ?_ (by assumption)))).mono ?_); rintro e w6 ⟨A1n, A2n, A3n, C1n, C2n, C3n, son, rfl, S6, T6, l6, t6, v6⟩; have B6 := (hF5.only (by with_reducible repeat (first | exact Only.refl _ _ | assumption | refine Only.drewN ?_ _ | refine Only.drew ?_ | refine Only.alloc ?_ _ | refine Only.setCell ?_ (by intro hh; exfalso; simp at hh; try omega) _ | refine Only.trans ?_ (by assumption)))).blk.only t6 (fun hm => by have := hF5.ap b5 hm; have := hF5.bW; omega); have g0 := B6.cell 0 rfl; have g1 := B6.cell 1 rfl; have g2 := B6.cell 2 rfl; have g3 := B6.cell 3 rfl; have p0 := B6.frozen 0; have p1 := B6.frozen 1; have p2 := B6.frozen 2; have p3 := B6.frozen 3; rw [Hdd.out] at S6)
                | fail "no arm")
              all_goals go_wp2_with fail
              all_goals go_roundw
              all_goals first
                | (simp [intOf]; omega)
                | exact ⟨i + 1, L ++ [s], D ++ [d1], by go_num, by omega, ⟨_, _, _, _, _, _, _, _, SFi.step (hF5.only (by with_reducible repeat (first | exact Only.refl _ _ | assumption | refine Only.drewN ?_ _ | refine Only.drew ?_ | refine Only.alloc ?_ _ | refine Only.setCell ?_ (by intro hh; exfalso; simp at hh; try omega) _ | refine Only.trans ?_ (by assumption)))) (fun g hg => by have := F4'.ge g hg; have := hF.sz; omega) hL4 Hps.out (by have := Hdd.out; have := Hdk3.out; omega) S6 T6 l6 t6 v6 (fpw := [b5]) (by with_reducible repeat (first | exact Only.refl _ _ | refine Only.drew ?_ | refine Only.setCell ?_ (by simp) _)) (by simp) ((((B6.set 0 _).set 1 _).set 2 _).set 3 _)⟩, by simp; omega, by rw [getD_snoc hlt]; exact Hq.out, by rw [getD_snoc hkD]; exact Hd.out, by rw [HRi.out, HRi2.out, bLets_new (by rw [← Hs.out]; exact Hmem.out) (by omega), ← Hs.out]⟩
        · obtain rfl : i = ls.length := by omega
          go_wp2
          exact ⟨⟨k + 1, L, D, by go_num, by omega, ⟨_, _, _, _, _, _, _, _, hF⟩, by rw [HRi.out, List.drop_length]; rfl⟩, by simp [intOf]; omega⟩
    · obtain rfl : k = L.length := by omega
      have hY5 := hF.oldBlk Y3 (by omega)
      have hb5 := hF.wb
      have q3 := hF.blk.cell 3 rfl
      have z3 := hF.blk.frozen 3
      have hB6 := hF.blk.set 3 (.bool true)
      have hY6 := hY5.only ((Only.refl [b5] W2).setCell (p := ⟨b5, 3, none⟩) (by simp) (.bool true)) (by simp; omega)
      have q0 := hB6.cell 0 rfl
      have q1 := hB6.cell 1 rfl
      have q2 := hB6.cell 2 rfl
      have q4 := hB6.cell 3 rfl
      have g0 := hY6.cell 0 rfl
      have g1 := hY6.cell 1 rfl
      have g2 := hY6.cell 2 rfl
      have g3 := hY6.cell 3 rfl
      have p0 := hY6.frozen 0
      have p1 := hY6.frozen 1
      have p2 := hY6.frozen 2
      have p3 := hY6.frozen 3
      go_wp2
      have Yf := ((((hY6).set 0 (.slice A1 L.length C1)).set 1 (.slice A2' D.length C2')).set 2 (.slice A3 so.length C3)).set 3 (.bool true)
      have kf : Only [b5, w.heap.size + 1] W2 (((((W2.setCell ⟨b5, 3, none⟩ (.bool true)).setCell ⟨w.heap.size + 1, 0, none⟩ (.slice A1 L.length C1)).setCell ⟨w.heap.size + 1, 1, none⟩ (.slice A2' D.length C2')).setCell ⟨w.heap.size + 1, 2, none⟩ (.slice A3 so.length C3)).setCell ⟨w.heap.size + 1, 3, none⟩ (.bool true)) := ((((((Only.refl [b5, w.heap.size + 1] W2).setCell (by simp) _)).setCell (by simp) _).setCell (by simp) _).setCell (by simp) _).setCell (by simp) _
      have o9 := hF.srt
      obtain ⟨fL, fD, o1, o2, o3, o4, o5, o6⟩ := hF.out kf (by simp) htl
      obtain ⟨ob9, fps9, fd9, fz9, o8, o10⟩ := hF.out2 kf (by simp)
      obtain ⟨wf, hwf⟩ : ∃ wf, wf = (((((W2.setCell ⟨b5, 3, none⟩ (.bool true)).setCell ⟨w.heap.size + 1, 0, none⟩ (.slice A1 L.length C1)).setCell ⟨w.heap.size + 1, 1, none⟩ (.slice A2' D.length C2')).setCell ⟨w.heap.size + 1, 2, none⟩ (.slice A3 so.length C3)).setCell ⟨w.heap.size + 1, 3, none⟩ (.bool true)) := ⟨_, rfl⟩
      rw [← hwf] at Yf o1 o2 o3 o8 ⊢
      simp only [List.set] at Yf
      clear hwf kf hB6 hY6 q4 z3 q0 q1 q2 q3 g0 g1 g2 g3 p0 p1 p2 p3
      have r0 := Yf.cell 0 rfl
      have r1 := Yf.cell 1 rfl
      have r2 := Yf.cell 2 rfl
      have r3 := Yf.cell 3 rfl
      refine bodyPost_ret (v := .agg #[.slice A1 L.length C1, .slice A2' D.length C2', .slice A3 so.length C3, .bool true]) (by simp [results, Tryz.results155, go_sem, r0, r1, r2, r3]) rfl ⟨_, _, _, _, _, _, _, true, L, D, fL, fD, rfl, o1, o2, ?_, o3, o4, o5, o6.1, o6.2, so, ob9, fps9, fd9, fz9, rfl, o8, o9, o10⟩
      rw [← HR.out, HRk.out, bFrom_end hlt hL3]
      rfl
end Go.Proofs.YtclhblofchfglaaGreat

namespace Go.Proofs.YtclhblofchfglaaGreat
open Go.RowKit
set_option maxRecDepth 10000

/-- the table of a tracked set -/
def bTab (x : Puzzle) (tr : List Int) : Option Table := (bfs16 x tr).map fun s => ⟨tr, s.1, s.2⟩
theorem bfs16_no {x : Puzzle} {tr : List Int} (h : (validPz x && trackB x.points tr) = false) : bfs16 x tr = none := by unfold bfs16; rw [h]; rfl
theorem bfs16_yes {x : Puzzle} {tr : List Int} (h : (validPz x && trackB x.points tr) = true) : bfs16 x tr = bFrom x 3001 0 ([tr], [0]) := by unfold bfs16; rw [if_pos h]
end Go.Proofs.YtclhblofchfglaaGreat

namespace Go.Proofs.YtclhblofchfglaaGreat
open Go.RowKit
set_option maxRecDepth 10000

def noTab : Table := ⟨[], [], []⟩
end Go.Proofs.YtclhblofchfglaaGreat

namespace Go.Proofs.YtclhblofchfglaaGreat
open Go.RowKit
set_option maxRecDepth 10000

/-- what a search has met: lists of one length, as many depths -/
def Met16.ok (m : Nat) (s : Met16) : Prop := s.1.length = s.2.length ∧ s.1.length ≤ 3000 ∧ ∀ q ∈ s.1, q.length = m
theorem bMeet_ok {m : Nat} {s s' : Met16} {d : Int} {y : List Int} (h : bMeet s d y = some s') (hs : s.ok m) (hy : y.length = m) : s'.ok m := by
  obtain ⟨a, b, -⟩ := bMeet_len h hs.1 hs.2.1
  refine ⟨a, b, fun q hq => ?_⟩
  unfold bMeet at h
  split at h
  · injection h with h; subst h; exact hs.2.2 q hq
  · split at h
    · cases h
    · injection h with h; subst h
      rcases List.mem_append.1 hq with hq | hq
      · exact hs.2.2 q hq
      · simp at hq; subst hq; exact hy
theorem bLets_ok {x : Puzzle} {m : Nat} {q : List Int} {d : Int} (hq : q.length = m) : ∀ {ls : List Int} {s s' : Met16}, bLets x q d ls s = some s' → s.ok m → s'.ok m
  | [], s, s', h, hs => by unfold bLets at h; injection h with h; subst h; exact hs
  | l :: ls, s, s', h, hs => by
    unfold bLets at h
    rw [Option.bind_eq_some_iff] at h
    obtain ⟨s1, e1, e2⟩ := h
    exact bLets_ok hq e2 (bMeet_ok e1 hs (by unfold nxt; rw [PM.comp_len]; exact hq))
theorem bFrom_ok {x : Puzzle} {m : Nat} : ∀ {n k : Nat} {s s' : Met16}, bFrom x n k s = some s' → s.ok m → s'.ok m
  | 0, _, s, s', h, hs => by unfold bFrom at h; injection h with h; subst h; exact hs
  | n + 1, k, s, s', h, hs => by
    unfold bFrom at h
    split at h
    · rename_i hk
      rw [Option.bind_eq_some_iff] at h
      obtain ⟨s1, e1, e2⟩ := h
      refine bFrom_ok e2 (bLets_ok ?_ e1 hs)
      rw [List.getD_eq_getElem?_getD, List.getElem?_eq_getElem hk]
      exact hs.2.2 _ (List.getElem_mem hk)
    · injection h with h; subst h; exact hs
theorem bTab_facts {x : Puzzle} {tr : List Int} {t : Table} (h : bTab x tr = some t) : validPz x = true ∧ trackB x.points tr = true ∧ t.tracked = tr ∧ bfs16 x tr = some (t.patterns, t.distances) ∧ Met16.ok tr.length (t.patterns, t.distances) := by
  unfold bTab at h
  rcases hb : bfs16 x tr with _ | s
  · rw [hb] at h; cases h
  · rw [hb] at h
    injection h with h
    subst h
    rcases hq : validPz x && trackB x.points tr
    · rw [bfs16_no hq] at hb; cases hb
    · obtain ⟨q1, q2⟩ := (Bool.and_eq_true _ _).mp hq
      refine ⟨q1, q2, rfl, rfl, ?_⟩
      rw [bfs16_yes hq] at hb
      exact bFrom_ok hb ⟨rfl, by simp, by simp⟩
end Go.Proofs.YtclhblofchfglaaGreat

namespace Go.Proofs.YtclhblofchfglaaGreat
open Go.RowKit
set_option maxRecDepth 10000

/-- the first letter of a descent -/
def dLet (x : Puzzle) (t : Table) (p : List Int) : Int := if checkT x t = true ∧ 0 ≤ idxL t.patterns p then descL x t p (atD t (idxL t.patterns p) - 1) else 0
/-- the word of a descent of at most n letters -/
def dW (x : Puzzle) (t : Table) : Nat → List Int → Option (List Int)
  | 0, p => if p = t.tracked then some [] else none
  | n + 1, p => if p = t.tracked then some [] else if dLet x t p = 0 then none else (dW x t n (nxt x p (dLet x t p))).map (dLet x t p :: ·)
theorem dLet_yes {x : Puzzle} {t : Table} {p : List Int} (h : checkT x t = true) (h2 : 0 ≤ idxL t.patterns p) : dLet x t p = descL x t p (atD t (idxL t.patterns p) - 1) := by unfold dLet; rw [if_pos ⟨h, h2⟩]
theorem idxL_mem {l : List (List Int)} {p : List Int} (h : 0 ≤ idxL l p) : p ∈ l ∧ (idxL l p).toNat < l.length := by
  rcases idxF_nonneg_or (fun q => decide (q = p)) l with h1 | ⟨k, hk, h1, h2⟩
  · unfold idxL at h; omega
  · have : l[k] = p := of_decide_eq_true h2
    unfold idxL
    rw [h1]
    exact ⟨by rw [← this]; exact List.getElem_mem hk, by simpa using hk⟩
/-- the index of the first letter of a descent, -1 if there is none -/
def dK (x : Puzzle) (t : Table) (p : List Int) (d : Int) : Int := idxF (leads x t p d) (ltrs x.moves.length)
theorem descL_of_dK {x : Puzzle} {t : Table} {p : List Int} {d : Int} : (dK x t p d = -1 ∧ descL x t p d = 0) ∨ ∃ k : Nat, ∃ h : k < (ltrs x.moves.length).length, dK x t p d = k ∧ descL x t p d = (ltrs x.moves.length)[k] := by
  unfold dK descL idxF
  cases hf : (ltrs x.moves.length).findIdx? (leads x t p d) with
  | none =>
    left
    rw [List.findIdx?_eq_none_iff] at hf
    rw [List.find?_eq_none.2 (fun a ha => by simp [hf a ha])]
    exact ⟨rfl, rfl⟩
  | some k =>
    right
    obtain ⟨hk, hp, hlt⟩ := List.findIdx?_eq_some_iff_getElem.1 hf
    refine ⟨k, hk, rfl, ?_⟩
    rw [List.find?_eq_some_iff_getElem.2 ⟨hp, k, hk, rfl, fun i hi => by simpa using hlt i hi⟩]
    rfl
end Go.Proofs.YtclhblofchfglaaGreat

namespace Go.Proofs.YtclhblofchfglaaGreat
open Go.RowKit
set_option maxRecDepth 10000

theorem getD_last {α : Type} (l : List α) (a z : α) : (l ++ [a]).getD l.length z = a := by
  simp [List.getD_eq_getElem?_getD]
theorem getD_get {α : Type} {l : List α} {z : α} {k : Nat} (h : k < l.length) : l.getD k z = l[k] := by
  rw [List.getD_eq_getElem?_getD, List.getElem?_eq_getElem h]; rfl
theorem nodup_at {α : Type} {l : List α} (h : l.Nodup) {i j : Nat} (hi : i < l.length) (hj : j < l.length) (e : l[i] = l[j]) : i = j := by
  rcases Nat.lt_trichotomy i j with h1 | h1 | h1
  · exact absurd e (List.pairwise_iff_getElem.1 h i j hi hj h1)
  · exact h1
  · exact absurd e.symm (List.pairwise_iff_getElem.1 h j i hj hi h1)
theorem ltrs_neg {n : Nat} {l : Int} (h : l ∈ ltrs n) : -l ∈ ltrs n := by
  rw [mem_ltrs] at h ⊢; omega
theorem mv_opp {n : Nat} {gens : List (List Int)} (hg : ∀ g ∈ gens, PM.PN n g) {l : Int} (h : l ∈ ltrs gens.length) : mv gens (-l) = PM.inv (mv gens l) := by
  rcases letter_cases h with ⟨k, hk, rfl⟩ | ⟨k, hk, rfl⟩
  · rw [mv_pos rfl hk, mv_neg (k := k) rfl hk]
  · rw [mv_neg rfl hk, mv_pos (k := k) (by omega) hk, PM.inv_inv (hg _ (List.getElem_mem hk))]
/-- a letter and its inverse -/
theorem nxt_back {x : Puzzle} {k : Nat} {q : List Int} {l : Int} (hv : validPz x = true) (hq : patB x.points k q = true) (h : l ∈ ltrs x.moves.length) : nxt x (nxt x q l) (-l) = q := by
  have hg := validPz_pn hv
  have hm := mv_pn hg h
  have hf := validPz_facts hv
  have hr := (patB_iff.1 hq).2.1
  unfold nxt
  rw [mv_opp hg h]
  show (q.map (PM.at_ (mv x.moves l))).map (PM.at_ (PM.inv (mv x.moves l))) = q
  rw [List.map_map]
  refine (List.map_congr_left fun z hz => ?_).trans (List.map_id q)
  have := hr z hz
  exact PM.at_inv hm this.1 (by omega)
/-- a search under way: the entries ahead of k are done, of the k-th the letters of done -/
structure BI (x : Puzzle) (tr : List Int) (k : Nat) (done : List Int) (s : Met16) : Prop where
  nd : s.1.Nodup
  dl : s.2.length = s.1.length
  p0 : s.1.getD 0 [] = tr
  d0 : s.2.getD 0 0 = 0
  ne : 0 < s.1.length
  mono : ∀ i j, i ≤ j → j < s.1.length → s.2.getD i 0 ≤ s.2.getD j 0
  top : k < s.1.length → ∀ i, i < s.1.length → s.2.getD i 0 ≤ s.2.getD k 0 + 1
  par : ∀ i, 0 < i → i < s.1.length → ∃ j l, j < i ∧ l ∈ ltrs x.moves.length ∧ nxt x (s.1.getD j []) l = s.1.getD i [] ∧ s.2.getD i 0 = s.2.getD j 0 + 1
  clo : ∀ j l, l ∈ ltrs x.moves.length → (j < k ∨ (j = k ∧ l ∈ done)) → j < s.1.length → ∃ i, i < s.1.length ∧ s.1.getD i [] = nxt x (s.1.getD j []) l ∧ s.2.getD i 0 ≤ s.2.getD j 0 + 1
  kl : k ≤ s.1.length
  pat : ∀ q ∈ s.1, patB x.points tr.length q = true
section
variable {x : Puzzle} {tr : List Int} {k : Nat} {done : List Int} {s s' : Met16}
theorem BI.start (hp : patB x.points tr.length tr = true) : BI x tr 0 [] ([tr], [0]) := by
  refine ⟨by simp, rfl, rfl, rfl, by simp, fun i j h1 h2 => ?_, fun _ i hi => ?_, fun i h1 h2 => ?_, fun j l h1 h2 => ?_, by simp, by simpa using hp⟩
  · have : j = 0 := by simpa using h2
    subst this
    have : i = 0 := by omega
    subst this; exact Int.le_refl _
  · have : i = 0 := by simpa using hi
    subst this; simp
  · have : i = 0 := by simpa using h2
    omega
  · rcases h2 with h2 | ⟨-, h2⟩
    · omega
    · cases h2
theorem BI.meet (h : BI x tr k done s) (hv : validPz x = true) (hk : k < s.1.length) {l : Int} (hl : l ∈ ltrs x.moves.length) (hm : bMeet s (s.2.getD k 0 + 1) (nxt x (s.1.getD k []) l) = some s') :
    BI x tr k (l :: done) s' ∧ s'.1.getD k [] = s.1.getD k [] ∧ s'.2.getD k 0 = s.2.getD k 0 ∧ k < s'.1.length := by
  have hkm : s.1.getD k [] ∈ s.1 := by rw [getD_get hk]; exact List.getElem_mem hk
  have hpn := nxt_pat hv (h.pat _ hkm) hl
  unfold bMeet at hm
  split at hm
  · rename_i hmem
    injection hm with hm
    subst hm
    refine ⟨⟨h.nd, h.dl, h.p0, h.d0, h.ne, h.mono, h.top, h.par, fun j l' h1 h2 h3 => ?_, h.kl, h.pat⟩, rfl, rfl, hk⟩
    rcases h2 with h2 | ⟨rfl, h2⟩
    · exact h.clo j l' h1 (.inl h2) h3
    · rcases List.mem_cons.1 h2 with rfl | h2
      · obtain ⟨i, hi, e⟩ := List.getElem_of_mem hmem
        exact ⟨i, hi, by rw [getD_get hi, e], h.top hk i hi⟩
      · exact h.clo j l' h1 (.inr ⟨rfl, h2⟩) h3
  · rename_i hmem
    split at hm
    · cases hm
    · injection hm with hm
      have hkd : k < s.2.length := by rw [h.dl]; exact hk
      have hle : ∀ i, i < s.1.length → s.2.getD i 0 ≤ s.2.getD k 0 + 1 := h.top hk
      have g1 : ∀ i, i < s.1.length → (s.1 ++ [nxt x (s.1.getD k []) l]).getD i [] = s.1.getD i [] := fun i hi => getD_snoc hi
      have g2 : ∀ i, i < s.1.length → (s.2 ++ [s.2.getD k 0 + 1]).getD i 0 = s.2.getD i 0 := fun i hi => getD_snoc (by rw [h.dl]; exact hi)
      have e1 : (s.1 ++ [nxt x (s.1.getD k []) l]).getD s.1.length [] = nxt x (s.1.getD k []) l := getD_last _ _ _
      have e2 : (s.2 ++ [s.2.getD k 0 + 1]).getD s.1.length 0 = s.2.getD k 0 + 1 := by rw [← h.dl]; exact getD_last _ _ _
      subst hm
      refine ⟨⟨?_, by simp [h.dl], by rw [g1 0 h.ne]; exact h.p0, by rw [g2 0 h.ne]; exact h.d0, by simp, fun i j h1 h2 => ?_, fun _ i hi => ?_, fun i h1 h2 => ?_, fun j l' h1 h2 h3 => ?_, by simp; omega, fun q hq => ?_⟩, g1 k hk, g2 k hk, by simp; omega⟩
      · rw [List.nodup_append]
        exact ⟨h.nd, by simp, fun a ha b hb e => hmem (by rw [← List.mem_singleton.1 hb, ← e]; exact ha)⟩
      · simp only [List.length_append, List.length_singleton] at h2
        by_cases hj : j < s.1.length
        · show (s.2 ++ _).getD i 0 ≤ (s.2 ++ _).getD j 0
          rw [g2 i (by omega), g2 j hj]; exact h.mono i j h1 hj
        · obtain rfl : j = s.1.length := by omega
          show (s.2 ++ _).getD i 0 ≤ (s.2 ++ _).getD _ 0
          rw [e2]
          by_cases hi : i < s.1.length
          · rw [g2 i hi]; exact hle i hi
          · obtain rfl : i = s.1.length := by omega
            rw [e2]; exact Int.le_refl _
      · simp only [List.length_append, List.length_singleton] at hi
        show (s.2 ++ _).getD i 0 ≤ (s.2 ++ _).getD k 0 + 1
        rw [g2 k hk]
        by_cases hi2 : i < s.1.length
        · rw [g2 i hi2]; exact hle i hi2
        · obtain rfl : i = s.1.length := by omega
          rw [e2]; exact Int.le_refl _
      · simp only [List.length_append, List.length_singleton] at h2
        by_cases hi : i < s.1.length
        · obtain ⟨j, l', a1, a2, a3, a4⟩ := h.par i h1 hi
          refine ⟨j, l', a1, a2, ?_, ?_⟩
          · show nxt x ((s.1 ++ _).getD j []) l' = (s.1 ++ _).getD i []
            rw [g1 j (by omega), g1 i hi]; exact a3
          · show (s.2 ++ _).getD i 0 = (s.2 ++ _).getD j 0 + 1
            rw [g2 j (by omega), g2 i hi]; exact a4
        · obtain rfl : i = s.1.length := by omega
          refine ⟨k, l, hk, hl, ?_, ?_⟩
          · show nxt x ((s.1 ++ _).getD k []) l = (s.1 ++ _).getD _ []
            rw [g1 k hk, e1]
          · show (s.2 ++ _).getD _ 0 = (s.2 ++ _).getD k 0 + 1
            rw [g2 k hk, e2]
      · simp only [List.length_append, List.length_singleton] at h3
        have hj : j < s.1.length := by rcases h2 with h2 | ⟨rfl, -⟩ <;> omega
        have hold : (j < k ∨ (j = k ∧ l' ∈ done)) → ∃ i, i < (s.1 ++ [nxt x (s.1.getD k []) l]).length ∧ (s.1 ++ [nxt x (s.1.getD k []) l]).getD i [] = nxt x ((s.1 ++ [nxt x (s.1.getD k []) l]).getD j []) l' ∧ (s.2 ++ [s.2.getD k 0 + 1]).getD i 0 ≤ (s.2 ++ [s.2.getD k 0 + 1]).getD j 0 + 1 := fun h4 => by
          obtain ⟨i, b1, b2, b3⟩ := h.clo j l' h1 h4 hj
          exact ⟨i, by simp; omega, by rw [g1 i b1, g1 j hj]; exact b2, by rw [g2 i b1, g2 j hj]; exact b3⟩
        rcases h2 with h2 | ⟨rfl, h2⟩
        · exact hold (.inl h2)
        · rcases List.mem_cons.1 h2 with rfl | h2
          · exact ⟨s.1.length, by simp, by show (s.1 ++ _).getD _ [] = nxt x ((s.1 ++ _).getD j []) l'; rw [e1, g1 j hk], by show (s.2 ++ _).getD _ 0 ≤ (s.2 ++ _).getD j 0 + 1; rw [e2, g2 j hk]; exact Int.le_refl _⟩
          · exact hold (.inr ⟨rfl, h2⟩)
      · rcases List.mem_append.1 hq with hq | hq
        · exact h.pat q hq
        · simp at hq; subst hq; exact hpn
theorem BI.lets (hv : validPz x = true) : ∀ {ls done : List Int} {s s' : Met16}, BI x tr k done s → k < s.1.length → (∀ l ∈ ls, l ∈ ltrs x.moves.length) → bLets x (s.1.getD k []) (s.2.getD k 0 + 1) ls s = some s' →
    ∃ done', BI x tr k done' s' ∧ k < s'.1.length ∧ (∀ l ∈ ls, l ∈ done') ∧ ∀ l ∈ done, l ∈ done'
  | [], done, s, s', h, hk, _, he => by
    unfold bLets at he; injection he with he; subst he
    exact ⟨done, h, hk, by simp, fun _ h => h⟩
  | l :: ls, done, s, s', h, hk, hl, he => by
    unfold bLets at he
    rw [Option.bind_eq_some_iff] at he
    obtain ⟨s1, e1, e2⟩ := he
    obtain ⟨b1, b2, b3, b4⟩ := h.meet hv hk (hl l (by simp)) e1
    rw [← b2, ← b3] at e2
    obtain ⟨done', c1, c2, c3, c4⟩ := BI.lets hv b1 b4 (fun l hl2 => hl l (by simp [hl2])) e2
    refine ⟨done', c1, c2, fun l' hl' => ?_, fun l' hl' => c4 l' (by simp [hl'])⟩
    rcases List.mem_cons.1 hl' with rfl | hl'
    · exact c4 _ (by simp)
    · exact c3 l' hl'
theorem BI.next (h : BI x tr k done s) (hk : k < s.1.length) (ha : ∀ l ∈ ltrs x.moves.length, l ∈ done) : BI x tr (k + 1) [] s := by
  refine ⟨h.nd, h.dl, h.p0, h.d0, h.ne, h.mono, fun h1 i hi => ?_, h.par, fun j l h1 h2 h3 => ?_, hk, h.pat⟩
  · have h2 := h.top hk i hi
    have h3 := h.mono k (k + 1) (by omega) h1
    omega
  · rcases h2 with h2 | ⟨-, h2⟩
    · by_cases hj : j < k
      · exact h.clo j l h1 (.inl hj) h3
      · obtain rfl : j = k := by omega
        exact h.clo j l h1 (.inr ⟨rfl, ha l h1⟩) h3
    · cases h2
theorem BI.from_ (hv : validPz x = true) : ∀ {n k : Nat} {s s' : Met16}, bFrom x n k s = some s' → BI x tr k [] s → s.1.length ≤ 3000 → 3001 ≤ n + k → BI x tr s'.1.length [] s'
  | 0, k, s, s', he, h, h1, h2 => by have := h.kl; omega
  | n + 1, k, s, s', he, h, h1, h2 => by
    unfold bFrom at he
    split at he
    · rename_i hk
      rw [Option.bind_eq_some_iff] at he
      obtain ⟨s1, e1, e2⟩ := he
      obtain ⟨done', c1, c2, c3, -⟩ := h.lets hv hk (fun l hl => hl) e1
      have hlen := bLets_len e1 h.dl.symm h1
      exact BI.from_ hv e2 (c1.next c2 c3) hlen.2.1 (by omega)
    · injection he with he; subst he
      have : k = s.1.length := by have := h.kl; omega
      subst this; exact h
end
/-- a table that was built -/
structure Built (x : Puzzle) (t : Table) : Prop where
  v : validPz x = true
  tk : trackB x.points t.tracked = true
  bi : BI x t.tracked t.patterns.length [] (t.patterns, t.distances)
  ll : t.patterns.length ≤ 3000
theorem bTab_built {x : Puzzle} {tr : List Int} {t : Table} (h : bTab x tr = some t) : Built x t ∧ t.tracked = tr := by
  obtain ⟨h1, h2, h3, h4, h5, h6, h7⟩ := bTab_facts h
  subst h3
  refine ⟨⟨h1, h2, ?_, h6⟩, rfl⟩
  rw [bfs16_yes (by rw [h1, h2]; rfl)] at h4
  exact BI.from_ h1 h4 (BI.start (trackB_pat h2)) (by simp) (by omega)
section
variable {x : Puzzle} {t : Table}
theorem Built.dep (h : Built x t) : ∀ i : Nat, i < t.patterns.length → 0 ≤ t.distances.getD i 0 ∧ t.distances.getD i 0 ≤ i ∧ (0 < i → 0 < t.distances.getD i 0) := by
  intro i
  induction i using Nat.strongRecOn with
  | ind i ih =>
    intro hi
    by_cases h0 : i = 0
    · subst h0
      have : t.distances.getD 0 0 = 0 := h.bi.d0
      omega
    · obtain ⟨j, l, a1, a2, a3, a4⟩ := h.bi.par i (by omega) hi
      have h1 := ih j a1 (Nat.lt_trans a1 hi)
      simp only at a4
      omega
/-- the entry of a letter -/
theorem Built.step (h : Built x t) {j : Nat} (hj : j < t.patterns.length) {l : Int} (hl : l ∈ ltrs x.moves.length) :
    ∃ i : Nat, i < t.patterns.length ∧ t.patterns.getD i [] = nxt x (t.patterns.getD j []) l ∧ t.distances.getD i 0 ≤ t.distances.getD j 0 + 1 ∧ t.distances.getD j 0 ≤ t.distances.getD i 0 + 1 := by
  obtain ⟨i, b1, b2, b3⟩ := h.bi.clo j l hl (.inl hj) hj
  obtain ⟨j', c1, c2, c3⟩ := h.bi.clo i (-l) (ltrs_neg hl) (.inl b1) b1
  simp only at b1 b2 b3 c1 c2 c3
  rw [b2, nxt_back h.v (h.bi.pat _ (by rw [getD_get hj]; exact List.getElem_mem hj)) hl] at c2
  have : j' = j := by
    rw [getD_get c1, getD_get hj] at c2
    have hnd : t.patterns.Nodup := h.bi.nd
    exact nodup_at hnd c1 hj c2
  subst this
  exact ⟨i, b1, b2, b3, c3⟩
theorem Built.idx (h : Built x t) {i : Nat} (hi : i < t.patterns.length) : idxL t.patterns (t.patterns.getD i []) = i := by
  refine idxF_some (j := i) hi (fun q hq => ?_) ?_
  · rw [List.mem_take_iff_getElem] at hq
    obtain ⟨k, hk, rfl⟩ := hq
    refine decide_eq_false fun e => ?_
    rw [getD_get hi] at e
    have hnd : t.patterns.Nodup := h.bi.nd
    have := nodup_at hnd (by omega) hi e
    omega
  · exact decide_eq_true (getD_get hi).symm
end
end Go.Proofs.YtclhblofchfglaaGreat

namespace Go.Proofs.YtclhblofchfglaaGreat
open Go.RowKit
set_option maxRecDepth 10000
/-- the patterns of reachable states are entries -/
theorem Built.reach {x : Puzzle} {t : Table} (h : Built x t) {s : List Int} (hs : reachB x s = true) : PM.comp t.tracked s ∈ t.patterns := by
  have hg := validPz_pn h.v
  have hf := validPz_facts h.v
  have htr := trackB_iff.1 h.tk
  have hG : PM.Grp x.points.toNat x.moves s := by
    unfold reachB memB at hs
    rw [Bool.and_eq_true] at hs
    exact @of_decide_eq_true _ (Classical.propDecidable _) hs.2
  have hr : ∀ z ∈ t.tracked, 0 ≤ z ∧ z < x.points.toNat := fun z hz => by have := htr.2.1 z hz; omega
  have h0 : t.patterns.getD 0 [] = t.tracked := h.bi.p0
  have hne : 0 < t.patterns.length := h.bi.ne
  have := PM.grp_sub (n := x.points.toNat) (G := x.moves) hg (S := fun p => PM.PN x.points.toNat p ∧ PM.comp t.tracked p ∈ t.patterns) (fun p hp => hp.1) ⟨PM.PN.id _, ?_⟩ ?_ hG
  · exact this.2
  · have e : PM.comp t.tracked (PM.pts x.points.toNat) = t.tracked := by
      unfold PM.comp
      refine (List.map_congr_left fun z hz => ?_).trans (List.map_id _)
      exact PM.at_pts (hr z hz).1 (hr z hz).2
    rw [e, ← h0, getD_get hne]
    exact List.getElem_mem hne
  · rintro p g ⟨hp, hm⟩ hgm
    refine ⟨hp.comp (hg g hgm), ?_⟩
    obtain ⟨k, hk, rfl⟩ := List.getElem_of_mem hgm
    obtain ⟨j, hj, e⟩ := List.getElem_of_mem hm
    have hl : ((k : Int) + 1) ∈ ltrs x.moves.length := mem_ltrs.2 ⟨by omega, by omega, by omega⟩
    obtain ⟨i, hi, e2, -⟩ := h.step hj hl
    have e3 : PM.comp t.tracked (PM.comp p x.moves[k]) = nxt x (PM.comp t.tracked p) ((k : Int) + 1) := by
      unfold nxt
      rw [mv_pos rfl hk]
      unfold PM.comp
      rw [List.map_map]
      refine List.map_congr_left fun z hz => ?_
      have := hr z hz
      exact PM.at_comp this.1 (by rw [hp.1]; omega)
    rw [e3, ← e, ← getD_get (z := []) hj, ← e2, getD_get hi]
    exact List.getElem_mem hi
end Go.Proofs.YtclhblofchfglaaGreat

namespace Go.Proofs.YtclhblofchfglaaGreat
open Go.RowKit
set_option maxRecDepth 10000

def Good (x : Puzzle) (t : Table) : Prop := ∀ i, i < t.patterns.length → entF x t i = []
theorem one_nil {b : Bool} {f : Fault} : one b f = [] ↔ b = false := by unfold one; cases b <;> simp
theorem descL_leads {x : Puzzle} {t : Table} {p : List Int} {d : Int} (h : descL x t p d ≠ 0) : descL x t p d ∈ ltrs x.moves.length ∧ leads x t p d (descL x t p d) = true := by
  unfold descL at h ⊢
  cases hf : (ltrs x.moves.length).find? (leads x t p d) with
  | none => rw [hf] at h; exact absurd rfl h
  | some l => exact ⟨List.mem_of_find?_eq_some hf, List.find?_some hf⟩
theorem descL_ne {x : Puzzle} {t : Table} {p : List Int} {d : Int} {l : Int} (hl : l ∈ ltrs x.moves.length) (h : leads x t p d l = true) : descL x t p d ≠ 0 := by
  unfold descL
  cases hf : (ltrs x.moves.length).find? (leads x t p d) with
  | none => have := List.find?_eq_none.1 hf l hl; rw [h] at this; exact absurd rfl this
  | some l' => exact (mem_ltrs.1 (List.mem_of_find?_eq_some hf)).1
theorem leads_iffD {x : Puzzle} {t : Table} {p : List Int} {d l : Int} : leads x t p d l = true ↔ 0 ≤ nextI x t p l ∧ atD t (nextI x t p l) = d := by
  unfold leads atD
  rw [Bool.and_eq_true, decide_eq_true_iff, decide_eq_true_iff]
section
variable {x : Puzzle} {t t' : Table}
/-- what an entry without faults says -/
theorem ent_nil {i : Nat} : entF x t i = [] ↔ (i = 0 → atD t 0 = 0 ∧ atP t 0 = t.tracked) ∧ (i : Int) ≤ idxL t.patterns (atP t i) ∧ (0 < i → atD t i ≠ 0) ∧
    (∀ l ∈ ltrs x.moves.length, 0 ≤ nextI x t (atP t i) l ∧ -1 ≤ atD t (nextI x t (atP t i) l) - atD t i ∧ atD t (nextI x t (atP t i) l) - atD t i ≤ 1) ∧ (0 < atD t i → descL x t (atP t i) (atD t i - 1) ≠ 0) := by
  unfold entF
  rw [List.append_eq_nil_iff, List.append_eq_nil_iff, List.append_eq_nil_iff, List.append_eq_nil_iff, one_nil, one_nil, one_nil, one_nil, List.flatMap_eq_nil_iff]
  have hl : ∀ l, letF x t i l = [] ↔ 0 ≤ nextI x t (atP t i) l ∧ -1 ≤ atD t (nextI x t (atP t i) l) - atD t i ∧ atD t (nextI x t (atP t i) l) - atD t i ≤ 1 := fun l => by
    unfold letF
    split
    · rename_i h; simp; omega
    · rename_i h
      split
      · rename_i h2; rw [inR_iff] at h2; simp; omega
      · rename_i h2; rw [inR_iff] at h2; simp; omega
  constructor
  · rintro ⟨a, b, c, d, e⟩
    refine ⟨fun h0 => ?_, ?_, fun h0 => ?_, fun l h => (hl l).1 (d l h), fun h0 h1 => ?_⟩
    · subst h0
      simp only [decide_true, Bool.true_and, Bool.or_eq_false_iff, decide_eq_false_iff_not] at a
      exact ⟨Decidable.of_not_not a.1, Decidable.of_not_not a.2⟩
    · have := of_decide_eq_false b; omega
    · intro h1; simp [h0, h1] at c
    · simp [h0, h1] at e
  · rintro ⟨a, b, c, d, e⟩
    refine ⟨?_, decide_eq_false (by omega), ?_, fun l h => (hl l).2 (d l h), ?_⟩
    · by_cases h0 : i = 0
      · subst h0; obtain ⟨a1, a2⟩ := a rfl
        simp [a1, a2]
      · simp [h0]
    · by_cases h0 : 0 < i
      · simp [h0, c h0]
      · simp [h0]
    · by_cases h0 : 0 < atD t i
      · simp [e h0]
      · simp [h0]
theorem atD_nat (i : Nat) : atD t i = t.distances.getD i 0 := by unfold atD; rw [Int.toNat_natCast]
theorem Built.good (h : Built x t) : Good x t := by
  intro i hi
  have hstep : ∀ l ∈ ltrs x.moves.length, ∃ i' : Nat, i' < t.patterns.length ∧ t.patterns.getD i' [] = nxt x (atP t i) l ∧ nextI x t (atP t i) l = i' ∧ atD t i' ≤ atD t i + 1 ∧ atD t i ≤ atD t i' + 1 := fun l hl => by
    obtain ⟨i', a1, a2, a3, a4⟩ := h.step hi hl
    refine ⟨i', a1, a2, ?_, by rw [atD_nat, atD_nat]; exact a3, by rw [atD_nat, atD_nat]; exact a4⟩
    show idxL t.patterns (nxt x (t.patterns.getD i []) l) = i'
    rw [← a2]; exact h.idx a1
  refine ent_nil.2 ⟨fun h0 => ?_, ?_, fun h0 => ?_, fun l hl => ?_, fun h0 => ?_⟩
  · have a := h.bi.d0; have b := h.bi.p0
    simp only at a b
    exact ⟨a, b⟩
  · rw [show atP t i = t.patterns.getD i [] from rfl, h.idx hi]; exact Int.le_refl _
  · have := (h.dep i hi).2.2 h0
    rw [atD_nat]; omega
  · obtain ⟨i', a1, a2, a3, a4, a5⟩ := hstep l hl
    rw [a3]; omega
  · have hi0 : 0 < i := by
      rcases Nat.eq_zero_or_pos i with h1 | h1
      · subst h1
        have := h.bi.d0
        simp only at this
        rw [atD_nat, this] at h0; omega
      · exact h1
    obtain ⟨j, l, a1, a2, a3, a4⟩ := h.bi.par i hi0 hi
    simp only at a3 a4
    have hj : j < t.patterns.length := by omega
    have hjm : t.patterns.getD j [] ∈ t.patterns := by rw [getD_get hj]; exact List.getElem_mem hj
    have hb : nxt x (atP t i) (-l) = t.patterns.getD j [] := by
      rw [show atP t i = t.patterns.getD i [] from rfl, ← a3]
      exact nxt_back h.v (h.bi.pat _ hjm) a2
    refine descL_ne (ltrs_neg a2) (leads_iffD.2 ?_)
    have hn : nextI x t (atP t i) (-l) = j := by
      show idxL t.patterns (nxt x (atP t i) (-l)) = j
      rw [hb]; exact h.idx hj
    rw [hn, atD_nat, atD_nat]
    omega
theorem Built.check (h : Built x t) : checkT x t = true := by
  obtain ⟨h1, h2, h3, h4⟩ := validPz_facts h.v
  have h5 := trackB_iff.1 h.tk
  have hd := h.bi.dl
  simp only at hd
  have h20 : ∀ p, patB x.points t.tracked.length p = true → patB 20 t.tracked.length p = true := fun p hp => by
    obtain ⟨a, b, c⟩ := patB_iff.1 hp
    exact patB_iff.2 ⟨a, fun y hy => by have := b y hy; omega, c⟩
  refine checkT_iff.2 ⟨h.v, wfT_iff.2 ⟨trackB_iff.2 ⟨h5.1, fun y hy => by have := h5.2.1 y hy; omega, h5.2.2⟩, ⟨?_, ?_⟩, hd, fun p hp => h20 p (h.bi.pat p hp), fun d hdm => ?_⟩, h.tk, h.bi.pat⟩
  · have := h.bi.ne; simp only at this; omega
  · have := h.ll; omega
  · obtain ⟨i, hi, rfl⟩ := List.getElem_of_mem hdm
    have hil : i < t.patterns.length := by omega
    have := h.dep i hil
    rw [getD_get hi] at this
    have := h.ll
    rw [inR_iff]; omega
theorem Good.dist0 (_ : Good x t) (hc : checkT x t = true) : ∀ i : Nat, i < t.patterns.length → 0 ≤ atD t i := fun i hi => by
  have hw := wfT_iff.1 (checkT_iff.1 hc).2.1
  have hi' : i < t.distances.length := by omega
  rw [atD_nat, getD_get hi']
  have := inR_iff.1 (hw.2.2.2.2 _ (List.getElem_mem hi')); omega
/-- two tables without faults, with the same patterns, have the same distances: one half -/
theorem Good.le (h : Good x t) (hc : checkT x t = true) (h' : Good x t') (hc' : checkT x t' = true) (hp : t'.patterns = t.patterns) : ∀ (n : Nat) (i : Nat), i < t.patterns.length → atD t i = n → atD t' i ≤ n
  | 0, i, hi, hd => by
    have e := ent_nil.1 (h i hi)
    have e' := ent_nil.1 (h' i (by rw [hp]; exact hi))
    have h0 : i = 0 := by
      rcases Nat.eq_zero_or_pos i with h1 | h1
      · exact h1
      · exact absurd (by simpa using hd) (e.2.2.1 h1)
    subst h0
    have := (e'.1 rfl).1
    have e0 : atD t' ((0 : Nat) : Int) = 0 := this
    rw [e0]; exact Int.le_refl _
  | n + 1, i, hi, hd => by
    have e := ent_nil.1 (h i hi)
    have e' := ent_nil.1 (h' i (by rw [hp]; exact hi))
    have hne := e.2.2.2.2 (by rw [hd]; omega)
    obtain ⟨hl, hlead⟩ := descL_leads hne
    obtain ⟨a1, a2⟩ := leads_iffD.1 hlead
    obtain ⟨b1, b2, b3⟩ := e'.2.2.2.1 _ hl
    have hn : nextI x t' (atP t' i) (descL x t (atP t i) (atD t i - 1)) = nextI x t (atP t i) (descL x t (atP t i) (atD t i - 1)) := by
      unfold nextI atP; rw [hp]
    have hlt := (idxL_lt (l := t.patterns) (p := nxt x (atP t i) (descL x t (atP t i) (atD t i - 1)))).2
    obtain ⟨j, hj⟩ : ∃ j : Nat, nextI x t (atP t i) (descL x t (atP t i) (atD t i - 1)) = j := ⟨_, (Int.toNat_of_nonneg a1).symm⟩
    have hjl : j < t.patterns.length := by unfold nextI at hj; omega
    rw [hn, hj] at b2 b3
    rw [hj] at a2
    have := Good.le h hc h' hc' hp n j hjl (by rw [a2, hd]; omega)
    omega
theorem Good.same (h : Good x t) (hc : checkT x t = true) (h' : Good x t') (hc' : checkT x t' = true) (hp : t'.patterns = t.patterns) {i : Nat} (hi : i < t.patterns.length) : atD t i = atD t' i := by
  have h1 := h.dist0 hc i hi
  have h2 := h'.dist0 hc' i (by rw [hp]; exact hi)
  have a := Good.le h hc h' hc' hp (atD t i).toNat i hi (by omega)
  have b := Good.le h' hc' h hc hp.symm (atD t' i).toNat i (by rw [hp]; exact hi) (by omega)
  omega
end
end Go.Proofs.YtclhblofchfglaaGreat
