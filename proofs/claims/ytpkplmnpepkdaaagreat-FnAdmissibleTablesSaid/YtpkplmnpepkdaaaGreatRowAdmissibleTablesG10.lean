/- The reference's search from a list on: its state (law 16). Maps from strings to numbers that a call makes; the key of a list of small numbers. The program's search of patterns: its state (law 16). A slice of numbers that a loop appends to, in fewer words. The library's sort of a slice of int64 (slices.Sort), laid at this program; the sorted slice is the call's own. (Printed by mksortlay.py.) The reference's way down a chain: insertSorted, choicesAt, withEntry (laws 33, 47). The reference's choicesAt, withEntry, RandomMember (laws 33, 35, 47). -/
import Derived.Test.YtpkplmnpepkdaaaGreatRowAdmissibleTablesG9
import Derived.Test.YtpkplmnpepkdaaaGreatRowAdmissibleTablesG7
import Derived.Maps.OwnSet
import Derived.StringKeys
import Derived.Laws.BytesArg
import Derived.Test.YtpkplmnpepkdaaaGreatRowAdmissibleTablesG1
import Derived.Deep.RegionLaw
import Derived.Shelf.SortM.Plain
import Derived.Sort.OwnSortedInts
import Derived.Test.YtpkplmnpepkdaaaGreatRowAdmissibleTablesG3
import Derived.Test.YtpkplmnpepkdaaaGreatRowAdmissibleTablesG4
import Derived.Test.YtpkplmnpepkdaaaGreatRowAdmissibleTablesG8
namespace Go.Proofs.YtpkplmnpepkdaaaGreat
open Go.RowKit
set_option maxRecDepth 10000

theorem bFrom_step {x : Puzzle} {k : Nat} {L : List (List Int)} {D : List Int} (hk : k < L.length) (h : L.length ≤ 3000) :
    bFrom x (3001 - k) k (L, D) = (bLets x (L.getD k []) (D.getD k 0 + 1) (ltrs x.moves.length) (L, D)).bind (bFrom x (3001 - (k + 1)) (k + 1)) := by
  have e : 3001 - k = (3001 - (k + 1)) + 1 := by omega
  rw [e]
  show (if k < L.length then _ else _) = _
  rw [if_pos hk]
theorem bFrom_end {x : Puzzle} {k : Nat} {L : List (List Int)} {D : List Int} (hk : ¬ k < L.length) (h : k ≤ 3000) : bFrom x (3001 - k) k (L, D) = some (L, D) := by
  have e : 3001 - k = (3001 - (k + 1)) + 1 := by omega
  rw [e]
  show (if k < L.length then _ else _) = _
  rw [if_neg hk]
theorem bLets_old {x : Puzzle} {q : List Int} {d l : Int} {ls : List Int} {L : List (List Int)} {D : List Int} (h : nxt x q l ∈ L) : bLets x q d (l :: ls) (L, D) = bLets x q d ls (L, D) := by
  show (bMeet (L, D) d (nxt x q l)).bind _ = _
  unfold bMeet
  rw [if_pos h]; rfl
theorem bLets_full {x : Puzzle} {q : List Int} {d l : Int} {ls : List Int} {L : List (List Int)} {D : List Int} (h : nxt x q l ∉ L) (hl : L.length = 3000) : bLets x q d (l :: ls) (L, D) = none := by
  show (bMeet (L, D) d (nxt x q l)).bind _ = _
  unfold bMeet
  rw [if_neg h, if_pos hl]; rfl
theorem bLets_new {x : Puzzle} {q : List Int} {d l : Int} {ls : List Int} {L : List (List Int)} {D : List Int} (h : nxt x q l ∉ L) (hl : L.length ≠ 3000) : bLets x q d (l :: ls) (L, D) = bLets x q d ls (L ++ [nxt x q l], D ++ [d]) := by
  show (bMeet (L, D) d (nxt x q l)).bind _ = _
  unfold bMeet
  rw [if_neg h, if_neg hl]; rfl
theorem getD_snoc {α : Type} {l : List α} {a z : α} {k : Nat} (h : k < l.length) : (l ++ [a]).getD k z = l.getD k z := by
  simp only [List.getD_eq_getElem?_getD, List.getElem?_append_left h]
/-- memory made behind a search waits to be taken in -/
theorem SrO.pend {B : Nat} {w w' : World} {v1 v2 v3 : Value} {L : List (List Int)} {D si : List Int} {fs : List (List Nat)} {f : List Nat} (h : SrO B w v1 v2 v3 L D si fs []) (ho : Only [] w w') (hB : B ≤ w.heap.size) (hF : Fresh w.heap.size w' f) : SrO B w' v1 v2 v3 L D si fs f := by
  have h' := h.keep ho
  refine ⟨h'.acc, h'.dep, h'.srt, ?_⟩
  have h1 := Fresh.append h'.fr hF hB (fun b hb => h.fr.lt b hb)
  have hp : ((v1.ownBlock.toList ++ ((fs.flatten ++ []) ++ (v2.ownBlock.toList ++ v3.ownBlock.toList))) ++ f).Perm (v1.ownBlock.toList ++ ((fs.flatten ++ f) ++ (v2.ownBlock.toList ++ v3.ownBlock.toList))) := by
    have := ((List.perm_append_comm (l₁ := v2.ownBlock.toList ++ v3.ownBlock.toList) (l₂ := f)).append_left fs.flatten).append_left v1.ownBlock.toList
    simpa only [List.append_assoc, List.append_nil] using this
  exact ⟨hp.nodup h1.nd, fun b hb => h1.ge b (hp.mem_iff.2 hb), h1.own.sub fun b hb => hp.mem_iff.2 hb⟩
/-- the search under way: w: the call's begin; W: the loops' begin; b: the search's box -/
structure SFi (x : Puzzle) (m : Nat) (w W : World) (b : Nat) (L : List (List Int)) (D : List Int) (wr : World) (A1 A2 A3 : Option Addr) (C1 C2 C3 : Nat) (so : List Nat) (fs : List (List Nat)) : Prop where
  blk : Blk wr b [.slice A1 L.length C1, .slice A2 D.length C2, .slice A3 so.length C3, .bool false]
  sro : SrO (w.heap.size + 2) wr (.slice A1 L.length C1) (.slice A2 D.length C2) (.slice A3 so.length C3) L D (soI so) fs []
  srt : Srt m L so
  dl : D.length = L.length
  ll : L.length ≤ 3000
  pat : ∀ q ∈ L, patB x.points m q = true
  dep : ∀ d ∈ D, 0 ≤ d ∧ d ≤ D.length
  ap : ∀ g ∈ (Value.slice A1 L.length C1).ownBlock.toList ++ ((Value.slice A2 D.length C2).ownBlock.toList ++ (Value.slice A3 so.length C3).ownBlock.toList), g < b ∨ W.heap.size ≤ g
  apf : ∀ g ∈ fs.flatten, g < b ∨ W.heap.size ≤ g
  keep : ∀ g, (g < w.heap.size + 2 ∨ (b < g ∧ g < W.heap.size)) → wr.heap[g]? = W.heap[g]?
  on : Only [] w wr
  sz : W.heap.size ≤ wr.heap.size
  bW : b < W.heap.size
  wb : w.heap.size + 2 ≤ b
theorem SFi.only {x : Puzzle} {m : Nat} {w W : World} {b : Nat} {L : List (List Int)} {D : List Int} {wr wr' : World} {A1 A2 A3 : Option Addr} {C1 C2 C3 : Nat} {so : List Nat} {fs : List (List Nat)} (h : SFi x m w W b L D wr A1 A2 A3 C1 C2 C3 so fs) (ho : Only [] wr wr') : SFi x m w W b L D wr' A1 A2 A3 C1 C2 C3 so fs :=
  ⟨h.blk.keep ho, h.sro.keep ho, h.srt, h.dl, h.ll, h.pat, h.dep, h.ap, h.apf, fun g hg => by
    have hb := h.bW; have hz := h.sz; have hw := h.wb
    rw [ho.block g (by omega) (by simp)]; exact h.keep g hg, h.on.trans ho, Nat.le_trans h.sz ho.size, h.bW, h.wb⟩
theorem SFi.oldBlk {x : Puzzle} {m : Nat} {w W : World} {b : Nat} {L : List (List Int)} {D : List Int} {wr : World} {A1 A2 A3 : Option Addr} {C1 C2 C3 : Nat} {so : List Nat} {fs : List (List Nat)} (h : SFi x m w W b L D wr A1 A2 A3 C1 C2 C3 so fs) {g : Nat} {cs : List Value} (hB : Blk W g cs) (hg : g < w.heap.size + 2) : Blk wr g cs := by
  obtain ⟨t, ht⟩ := hB
  exact ⟨t, (h.keep g (.inl hg)).trans ht⟩
/-- one list more, and the search's box anew -/
theorem SFi.step {x : Puzzle} {m : Nat} {w W : World} {b : Nat} {L : List (List Int)} {D : List Int} {wr w2 wf : World} {A1 A2 A3 A1' A2' A3' : Option Addr} {C1 C2 C3 C1' C2' C3' : Nat} {so so' : List Nat} {fs : List (List Nat)} {f : List Nat} {s : List Int} {d : Int} {fpw : List Nat}
    (h : SFi x m w W b L D wr A1 A2 A3 C1 C2 C3 so fs) (hf : ∀ g ∈ f, W.heap.size ≤ g) (hL : L.length < 3000) (hp : patB x.points m s = true) (hd : 0 ≤ d ∧ d ≤ D.length + 1)
    (h1 : SrO (w.heap.size + 2) w2 (.slice A1' (L.length + 1) C1') (.slice A2' (D.length + 1) C2') (.slice A3' (so.length + 1) C3') (L ++ [s]) (D ++ [d]) (soI so') (fs ++ [f]) []) (h2 : Srt m (L ++ [s]) so') (h3 : so'.length = so.length + 1)
    (h4 : Only ((Value.slice A1 L.length C1).ownBlock.toList ++ ((Value.slice A2 D.length C2).ownBlock.toList ++ (Value.slice A3 so.length C3).ownBlock.toList)) wr w2)
    (h5 : ∀ g ∈ (Value.slice A1' (L.length + 1) C1').ownBlock.toList ++ ((Value.slice A2' (D.length + 1) C2').ownBlock.toList ++ (Value.slice A3' (so.length + 1) C3').ownBlock.toList), g ∈ (Value.slice A1 L.length C1).ownBlock.toList ++ ((Value.slice A2 D.length C2).ownBlock.toList ++ (Value.slice A3 so.length C3).ownBlock.toList) ∨ wr.heap.size ≤ g)
    (h6 : Only fpw w2 wf) (hfp : ∀ g ∈ fpw, g = b) (h7 : Blk wf b [.slice A1' (L.length + 1) C1', .slice A2' (D.length + 1) C2', .slice A3' (so.length + 1) C3', .bool false]) :
    SFi x m w W b (L ++ [s]) (D ++ [d]) wf A1' A2' A3' C1' C2' C3' so' (fs ++ [f]) := by
  have hb := h.bW; have hz := h.sz; have hw := h.wb
  have hge := h.sro.fr.ge
  have hap' : ∀ g ∈ (Value.slice A1' (L.length + 1) C1').ownBlock.toList ++ ((Value.slice A2' (D.length + 1) C2').ownBlock.toList ++ (Value.slice A3' (so.length + 1) C3').ownBlock.toList), g < b ∨ W.heap.size ≤ g := fun g hg => by
    rcases h5 g hg with h8 | h8
    · exact h.ap g h8
    · right; omega
  have hapf' : ∀ g ∈ (fs ++ [f]).flatten, g < b ∨ W.heap.size ≤ g := fun g hg => by
    rw [List.flatten_append] at hg
    rcases List.mem_append.1 hg with hg | hg
    · exact h.apf g hg
    · exact .inr (hf g (by simpa using hg))
  have hs2 := h4.size
  have hnin : ∀ g ∈ (Value.slice A1 L.length C1).ownBlock.toList ++ ((Value.slice A2 D.length C2).ownBlock.toList ++ (Value.slice A3 so.length C3).ownBlock.toList), w.heap.size + 2 ≤ g := fun g hg => hge g (by
    simp only [List.mem_append] at hg ⊢
    rcases hg with hg | hg | hg
    · exact .inl hg
    · exact .inr (.inr (.inl hg))
    · exact .inr (.inr (.inr hg)))
  refine ⟨?_, ?_, h2, by simp [h.dl], by simp; omega, ?_, ?_, ?_, hapf', fun g hg => ?_, ?_, ?_, h.bW, h.wb⟩
  · simpa [h3] using h7
  · have := h1.only h6 (fun g hg hm => by
      have e := hfp g hm
      simp only [List.mem_append, List.append_nil] at hg
      rcases hg with hg | hg | hg | hg
      · have := hap' g (by simp only [List.mem_append]; exact .inl hg); omega
      · have := hapf' g hg; omega
      · have := hap' g (by simp only [List.mem_append]; exact .inr (.inl hg)); omega
      · have := hap' g (by simp only [List.mem_append]; exact .inr (.inr hg)); omega)
    simpa [h3] using this
  · intro q hq
    rcases List.mem_append.1 hq with hq | hq
    · exact h.pat q hq
    · simp at hq; subst hq; exact hp
  · intro q hq
    rw [List.length_append, List.length_singleton]
    rcases List.mem_append.1 hq with hq | hq
    · have := h.dep q hq; omega
    · simp at hq; subst hq; omega
  · rw [List.length_append, List.length_append, List.length_singleton, List.length_singleton, h3]; exact hap'
  · rw [h6.block g (by omega) (fun hm => by have := hfp g hm; omega), h4.block g (by omega) (fun hm => by have := hnin g hm; have := h.ap g hm; omega)]
    exact h.keep g hg
  · exact (h.on.then_ h4 (fun g hg hl => by have := hnin g hg; omega)).then_ h6 (fun g hg hl => by have := hfp g hg; omega)
  · exact Nat.le_trans hz (Nat.le_trans hs2 h6.size)
/-- what a search leaves to be read -/
theorem SFi.out {x : Puzzle} {m : Nat} {w W : World} {b : Nat} {L : List (List Int)} {D : List Int} {wr wf : World} {A1 A2 A3 : Option Addr} {C1 C2 C3 : Nat} {so : List Nat} {fs : List (List Nat)} {fpw : List Nat}
    (h : SFi x m w W b L D wr A1 A2 A3 C1 C2 C3 so fs) (ho : Only fpw wr wf) (hf : ∀ g ∈ fpw, g = b ∨ g = w.heap.size + 1) (hm : m ≤ 1000) : ∃ fL fD, Rd wf (.slice A1 L.length C1) L fL ∧ Rd wf (.slice A2 D.length C2) D fD ∧ Only [] w wf ∧ (∀ g ∈ fL ++ fD, w.heap.size ≤ g) ∧ L.length ≤ 3000 ∧ D.length ≤ 3000 ∧ ∀ q ∈ L, q.length ≤ 1000 := by
  have hb := h.bW; have hw := h.wb
  have hge := h.sro.fr.ge
  have h1 := h.sro.only ho (fun g hg hm => by
    have e := hf g hm
    have e2 := hge g hg
    simp only [List.mem_append, List.append_nil] at hg
    rcases hg with hg | hg | hg | hg
    · have := h.ap g (by simp only [List.mem_append]; exact .inl hg); omega
    · have := h.apf g hg; omega
    · have := h.ap g (by simp only [List.mem_append]; exact .inr (.inl hg)); omega
    · have := h.ap g (by simp only [List.mem_append]; exact .inr (.inr hg)); omega)
  have hD : ∀ z ∈ D, I64 z := fun z hz => by have := h.dep z hz; have := h.dl; have := h.ll; unfold I64; omega
  obtain ⟨a2, c2, hv2, -, hI2, -⟩ := own_ints h1.dep hD
  injection hv2 with e1 _ e2; subst e1; subst e2
  refine ⟨_, _, h1.acc.rd (by decide), hI2.rd, h.on.then_ ho (fun g hg hl => by have := hf g hg; omega), fun g hg => ?_, h.ll, by have := h.dl; have := h.ll; omega, fun q hq => by rw [(patB_iff.1 (h.pat q hq)).1]; exact hm⟩
  have := hge g (by
    simp only [List.mem_append] at hg ⊢
    rcases hg with (hg | hg) | hg
    · exact .inl hg
    · exact .inr (.inl (.inl hg))
    · exact .inr (.inr (.inl hg)))
  omega
theorem SFi.out2 {x : Puzzle} {m : Nat} {w W : World} {b : Nat} {L : List (List Int)} {D : List Int} {wr wf : World} {A1 A2 A3 : Option Addr} {C1 C2 C3 : Nat} {so : List Nat} {fs : List (List Nat)} {fpw : List Nat}
    (h : SFi x m w W b L D wr A1 A2 A3 C1 C2 C3 so fs) (ho : Only fpw wr wf) (hf : ∀ g ∈ fpw, g = b ∨ g = w.heap.size + 1) : ∃ ob fps fd fz, SrR wf A1 A2 A3 C1 C2 C3 L D so ob fps fd fz ∧ ∀ g ∈ (ob ++ fps.flatten) ++ (fd ++ fz), w.heap.size ≤ g := by
  have hb := h.bW; have hw := h.wb
  have hge := h.sro.fr.ge
  have h1 := h.sro.only ho (fun g hg hm => by
    have e := hf g hm
    have e2 := hge g hg
    simp only [List.mem_append, List.append_nil] at hg
    rcases hg with hg | hg | hg | hg
    · have := h.ap g (by simp only [List.mem_append]; exact .inl hg); omega
    · have := h.apf g hg; omega
    · have := h.ap g (by simp only [List.mem_append]; exact .inr (.inl hg)); omega
    · have := h.ap g (by simp only [List.mem_append]; exact .inr (.inr hg)); omega)
  obtain ⟨ob, fps, fd, fz, q1, q2⟩ := h1.srR2 (fun z hz => by have := h.dep z hz; have := h.dl; have := h.ll; unfold I64; omega) (fun i hi => by have := h.srt.in_ i hi; have := h.ll; omega)
  exact ⟨ob, fps, fd, fz, q1, fun g hg => by have := q2 g hg; omega⟩
end Go.Proofs.YtpkplmnpepkdaaaGreat

namespace Go.Proofs.YtpkplmnpepkdaaaGreat
open Go.RowKit
set_option maxRecDepth 10000
open Go.Maps (Keyed)

/-- the key of a list: a byte each -/
def kB (l : List Int) : ByteArray := strOfNums (l.map fun x => x % 256)
theorem kB_size (l : List Int) : (kB l).size = l.length := by unfold kB; rw [strOfNums_size, List.length_map]
theorem kB_inj : ∀ {l l' : List Int}, (∀ x ∈ l, 0 ≤ x ∧ x < 256) → (∀ x ∈ l', 0 ≤ x ∧ x < 256) → kB l = kB l' → l = l' := by
  intro l l' h h' he
  have hd : (kB l).data.toList = (kB l').data.toList := by rw [he]
  unfold kB at hd
  rw [strOfNums_data, strOfNums_data, List.map_map, List.map_map] at hd
  clear he
  induction l generalizing l' with
  | nil => cases l' with
    | nil => rfl
    | cons y l' => simp at hd
  | cons x l ih => cases l' with
    | nil => simp at hd
    | cons y l' =>
      simp only [List.map_cons, List.cons.injEq] at hd
      have hx := h x (by simp); have hy := h' y (by simp)
      have e1 : x % 256 = x := Int.emod_eq_of_lt hx.1 hx.2
      have e2 : y % 256 = y := Int.emod_eq_of_lt hy.1 hy.2
      have h1 := hd.1
      simp only [Function.comp, e1, e2] at h1
      have h2 := congrArg UInt8.toNat h1
      rw [UInt8.toNat_ofNat', UInt8.toNat_ofNat'] at h2
      have : x = y := by omega
      subst this
      rw [ih (fun z hz => h z (by simp [hz])) (fun z hz => h' z (by simp [hz])) hd.2]
theorem kB_eq {l l' : List Int} (h : ∀ x ∈ l, 0 ≤ x ∧ x < 256) (h' : ∀ x ∈ l', 0 ≤ x ∧ x < 256) : kB l = kB l' ↔ l = l' := ⟨kB_inj h h', fun e => by rw [e]⟩

theorem Tryz.lawStr : Keyed Tryz.prog 9 := Go.Maps.string_keyed Tryz.underlying9
theorem Tryz.zeroInt (w : World) : (zeroValue 3).run Tryz.prog w = .ok (.int .i64 0) w := by kernel_rfl
/-- block M is a map of at most k entries; g: what lies at a key -/
def Mp (w : World) (M k : Nat) (g : ByteArray → Option Int) : Prop :=
  ∃ D : DataW Unit, w.ownsMap Tryz.prog 9 (plainElem Tryz.prog 3) M k D ∧ ∀ s : ByteArray, s.size ≤ maxLen →
    Go.Maps.has D (.string s.data.toList) = (g s).isSome ∧ ∀ n, g s = some n → D.atKey (.string s.data.toList) (.lit (.int .i64 0)) = .lit (.int .i64 n)
theorem Mp.lt {w : World} {M k : Nat} {g : ByteArray → Option Int} (h : Mp w M k g) : M < w.heap.size := by
  obtain ⟨D, h1, -⟩ := h; exact h1.lt
theorem Mp.frame {w w' : World} {M k : Nat} {g : ByteArray → Option Int} (h : Mp w M k g) (hf : w'.heap[M]? = w.heap[M]?) : Mp w' M k g := by
  obtain ⟨D, ⟨es, c, h1, h2⟩, h3⟩ := h
  exact ⟨D, ⟨es, c, by rw [hf]; exact h1, h2⟩, h3⟩
theorem Mp.only {w w' : World} {fp : List Nat} {M k : Nat} {g : ByteArray → Option Int} (h : Mp w M k g) (ho : Only fp w w') (hn : M ∉ fp) : Mp w' M k g := h.frame (ho.block M h.lt hn)
theorem Mp.keep {w w' : World} {M k : Nat} {g : ByteArray → Option Int} (h : Mp w M k g) (ho : Only [] w w') : Mp w' M k g := h.only ho (by simp)
theorem Mp.made (w : World) {M : Nat} (hM : M = w.heap.size) : Mp (w.alloc (.map #[] 0)) M 0 (fun _ => none) := by
  subst hM
  exact ⟨.map [], World.ownsMap_made _ _ _ _, fun s _ => ⟨rfl, by simp⟩⟩
theorem Mp.congr {w : World} {M k : Nat} {g g' : ByteArray → Option Int} (h : Mp w M k g) (hg : ∀ s, g s = g' s) : Mp w M k g' := by
  have : g = g' := funext hg
  rw [← this]; exact h
section
variable {w : World} {M k : Nat} {g : ByteArray → Option Int}
/-- v, ok := m[k], as an equation -/
theorem Mp.run_ok (h : Mp w M k g) {s : ByteArray} (hs : s.size ≤ maxLen) : (Instr.lookup 83 (.map (some M)) (.string s) true).run Tryz.prog w = .ok (.tuple #[.int .i64 ((g s).getD 0), .bool (g s).isSome]) w := by
  obtain ⟨D, hown, hg⟩ := h
  obtain ⟨h1, h2⟩ := hg s hs
  obtain ⟨v, ps, hrun, hv⟩ := hown.look_ok Tryz.lawStr Tryz.underlying83 (Tryz.zeroInt w) (plainElem_int Tryz.underlying3 (by decide)) (Go.WideMaps.keyOf_string_mk Tryz.underlying9 hs)
  obtain ⟨c, rfl, hc, -⟩ := plainElem_int_inv Tryz.underlying3 hv
  have hc1 : D.atKey (.string s.data.toList) (.lit (.int .i64 0)) = .lit (.int .i64 c) := congrArg Prod.fst hc
  have hcv : c = (g s).getD 0 := by
    cases hgs : g s with
    | none =>
      rw [hgs] at h1
      rw [Go.Maps.atKey_of_not_has h1] at hc1
      injection hc1 with hc1; injection hc1 with _ hc1; simp [hc1]
    | some n =>
      rw [h2 n hgs] at hc1
      injection hc1 with hc1; injection hc1 with _ hc1; simp [hc1]
  rw [hrun, hcv, h1]
theorem Mp.run_no (h : Mp w M k g) {s : ByteArray} (hs : s.size ≤ maxLen) (hg : g s = none) : (Instr.lookup 83 (.map (some M)) (.string s) true).run Tryz.prog w = .ok (.tuple #[.int .i64 0, .bool false]) w := by
  rw [h.run_ok hs, hg]; rfl
theorem Mp.run_yes (h : Mp w M k g) {s : ByteArray} (hs : s.size ≤ maxLen) {n : Int} (hg : g s = some n) : (Instr.lookup 83 (.map (some M)) (.string s) true).run Tryz.prog w = .ok (.tuple #[.int .i64 n, .bool true]) w := by
  rw [h.run_ok hs, hg]; rfl
/-- m[k] -/
theorem Mp.run_at (h : Mp w M k g) {s : ByteArray} (hs : s.size ≤ maxLen) : (Instr.lookup 83 (.map (some M)) (.string s) false).run Tryz.prog w = .ok (.int .i64 ((g s).getD 0)) w := by
  obtain ⟨D, hown, hg⟩ := h
  obtain ⟨h1, h2⟩ := hg s hs
  obtain ⟨c, hrun, hc1, -⟩ := hown.lookup_int Tryz.lawStr Tryz.underlying83 Tryz.underlying3 (Tryz.zeroInt w) (Go.WideMaps.keyOf_string_mk Tryz.underlying9 hs)
  have hcv : c = (g s).getD 0 := by
    cases hgs : g s with
    | none =>
      rw [hgs] at h1
      rw [Go.Maps.atKey_of_not_has h1] at hc1
      injection hc1 with hc1; injection hc1 with _ hc1; simp [hc1]
    | some n =>
      rw [h2 n hgs] at hc1
      injection hc1 with hc1; injection hc1 with _ hc1; simp [hc1]
  rw [hrun, hcv]
theorem Mp.run_at_yes (h : Mp w M k g) {s : ByteArray} (hs : s.size ≤ maxLen) {n : Int} (hg : g s = some n) : (Instr.lookup 83 (.map (some M)) (.string s) false).run Tryz.prog w = .ok (.int .i64 n) w := by
  rw [h.run_at hs, hg]; rfl
/-- m[k] = v -/
theorem Mp.run_put (h : Mp w M k g) {s : ByteArray} (hs : s.size ≤ maxLen) {n : Int} (hn : I64 n) (hk : k < maxLen) :
    ∃ w', (Instr.mapUpdate 83 (.map (some M)) (.string s) (.int .i64 n)).run Tryz.prog w = .ok () w' ∧ Mp w' M (k + 1) (fun s' => if s' = s then some n else g s') ∧ Only [M] w w' := by
  obtain ⟨D, hown, hg⟩ := h
  have hwf : (Lit.int .i64 n).wf = true := WalkArith.wf_i64 hn
  obtain ⟨w', hrun, r1, r2⟩ := hown.store Tryz.lawStr Tryz.underlying83 hk (Go.WideMaps.keyOf_string_mk Tryz.underlying9 hs) (plainElem_int Tryz.underlying3 hwf)
  have hmap := hown.isMap
  refine ⟨w', hrun, ⟨_, r1, fun s' hs' => ?_⟩, ?_⟩
  · by_cases he : s' = s
    · subst he
      have hkl : WideAt.IsKeyLit (Lit.string s'.data.toList) := trivial
      exact ⟨by rw [Go.Maps.has_put_same hmap hkl]; simp, fun m' hm' => by
        rw [Go.Maps.atKey_put_same hmap hkl]; simp at hm'; rw [hm']⟩
    · have hne : (Lit.string s'.data.toList) ≠ .string s.data.toList := by
        intro e; injection e with e
        apply he
        have : s'.data = s.data := Array.toList_inj.1 e
        cases s'; cases s; simp at this; rw [this]
      obtain ⟨h1, h2⟩ := hg s' hs'
      exact ⟨by rw [Go.Maps.has_put_other hne, h1]; simp [he], fun m' hm' => by
        rw [Go.Maps.atKey_put_other hne]; simp [he] at hm'; exact h2 m' hm'⟩
  · exact (Only.refl _ _).grown r2.grown (by intro j hj _; injection hj with hj; subst hj; simp)
end
theorem Tryz.infoByte : (Tryz.prog.info? 5).map (fun i => (i.zero, i.size, i.bytes)) = some (some (.int .u8 0), 1, 1) := by kernel_rfl
theorem madeBytes (n : Nat) : (madeCells (Value.cells (.int .u8 0)) n).toList = List.replicate n (.int .u8 0) := by
  apply List.ext_getElem (by simp [madeCells])
  intro i h1 h2
  simp [madeCells, Value.cells, Nat.mod_one]
theorem step_bytes (l : List Int) (j : Nat) (hj : j < l.length) : ((l.take j).map (fun x => Value.int .u8 (x % 256)) ++ List.replicate (l.length - j) (Value.int .u8 0)).set j (.int .u8 (l[j] % 256)) = (l.take (j + 1)).map (fun x => Value.int .u8 (x % 256)) ++ List.replicate (l.length - (j + 1)) (.int .u8 0) := by
  have hl : ((l.take j).map (fun x => Value.int .u8 (x % 256))).length = j := by rw [List.length_map, List.length_take]; omega
  rw [show l.length - j = (l.length - (j + 1)) + 1 by omega, List.replicate_succ, List.set_append_right _ _ (by omega), hl, Nat.sub_self, take_succ_get l j hj]
  simp only [List.map_append, List.map_cons, List.map_nil, List.append_assoc, List.cons_append, List.nil_append, List.set_cons_zero]
set_option maxHeartbeats 1000000 in
theorem stateKey_rd (v : Value) (l : List Int) (fp : List Nat) (w : World) (h : Rd w v l fp) (hl : l.length ≤ 1000) :
    Calls Tryz.prog 42 #[v] w fun e w' => e = .returned (.string (kB l)) ∧ Only [] w w' := by
  obtain ⟨a, cap, rfl, hI⟩ := h.ints
  obtain ⟨i0, hi, hz0, hz1, hz2⟩ := info_parts Tryz.infoByte
  go_enter Tryz.func42, Tryz.ntmps42
  go_wp2_with (at_make; refine wpList_make_full _ rfl _ _ 22 rfl w.heap.size 5 i0 _ 1 Tryz.underlying22 hi hz0 hz1 _ _ _ _ l.length rfl rfl rfl rfl (by rw [hz2]; omega) (by unfold maxLen; omega) (Nat.le_refl _) ?_; intro w1 hown hg)
  rw [madeBytes, Nat.mul_one] at hown
  go_loopw [11] (fun i wr => ∃ j : Nat, j ≤ l.length ∧ i = .int .i64 j ∧
      wr.ownsRow w.heap.size 5 1 (.slice (some ⟨w.heap.size, 0, none⟩) l.length l.length) l.length ((l.take j).map (fun x => Value.int .u8 (x % 256)) ++ List.replicate (l.length - j) (.int .u8 0)) ∧ Only [] w wr)
    (fun i _ => l.length - (intOf i).toNat)
  case atStart => exact ⟨0, Nat.zero_le _, rfl, by simpa using hown, (Only.refl _ _).grown hg (by simp)⟩
  case round =>
    obtain ⟨j, hj, rfl, hO, hK⟩ := hrel
    by_cases hlt : j < l.length
    · obtain ⟨b, off, rfl, -, hc0⟩ := hI.at_ j hlt
      have hc := hK.cell (by simp) hc0
      have hO2 := (hO.stored j (.int .u8 (l[j] % 256))).1
      rw [step_bytes l j hlt] at hO2
      obtain ⟨z2, hc2⟩ : ∃ z, wr.cell? ⟨w.heap.size, j, none⟩ = some z := by
        rw [hO.cellAt j (by omega)]
        exact ⟨_, List.getElem?_eq_getElem (by simp; omega)⟩
      have hf2 := hO.frozenAt j
      have hK2 := hK.setCell (p := ⟨w.heap.size, j, none⟩) (by simp) (.int .u8 (l[j] % 256))
      have HO := Lib.hid hO2
      clear hO hO2 hown hc0
      go_wp2
      go_roundw
      case rel => exact ⟨j + 1, by omega, by go_num, HO.out, hK2⟩
      case measure => simp [intOf]; omega
    · have hjl : j = l.length := by omega
      rw [hjl] at hO
      simp only [Nat.sub_self, List.replicate_zero, List.append_nil, List.take_length] at hO
      have hcv := run_convert_bytes_arg (P := Tryz.prog) wr 22 5 Tryz.underlying22 Tryz.underlying5 w.heap.size 0 l.length l.length (l.map fun x => x % 256) (by simp) (fun i hi => by
        rw [Nat.zero_add, hO.cellAt i (by omega)]
        simp [hi]) 9 Tryz.underlying9
      have hKB : strOfNums (l.map fun x => x % 256) = kB l := rfl
      rw [hKB] at hcv
      clear hjl hO hown hKB
      go_wp2
      go_ret
      exact ⟨rfl, hK⟩
end Go.Proofs.YtpkplmnpepkdaaaGreat

namespace Go.Proofs.YtpkplmnpepkdaaaGreat
open Go.RowKit
set_option maxRecDepth 10000

/-- a literal of one element, to which a loop appends -/
theorem Acc.one {α : Type} [Rp α] {w : World} (B : Nat) (e : TypeId) {cs : List Value} {x : α} {fp : List Nat} (h : Rp.rep w cs x fp) {g : Nat} (hg : g = w.heap.size) (hB : B ≤ g) : Acc B e (w.alloc (.cells cs.toArray e)) (.slice (some ⟨g, 0, none⟩) 1 1) [x] [fp] := by
  subst hg
  have hk : Only [] w (w.alloc (.cells cs.toArray e)) := (Only.refl _ _).alloc _
  refine ⟨⟨[cs], ⟨by simp [Rp.len h], .inr ⟨w.heap.size, 1, cs.toArray, rfl, hB, heap_alloc_new w _, Nat.le_refl _, by unfold maxLen; omega, by simp [Rp.len h], by simpa using List.take_of_length_le (Nat.le_of_eq (Rp.len h))⟩⟩, rfl, fun k h1 h2 h3 => ?_⟩, rfl, ?_⟩
  · have : k = 0 := by simpa using h1
    subst this
    exact Rp.keep h hk
  · intro g hg hm
    simp only [Value.ownBlock, Option.some.injEq] at hg
    subst hg
    have := Rp.lt h _ (by simpa using hm)
    omega
section
variable {P : Program} {α : Type} [Rp α] {ops : Array Oper} {rest : List Oper} {o : Oper} {a : Act} {w : World} {Q : Exit → Act → World → Prop}
theorem wpList_push2w (hgd : o.guard = none) (s x : Operand) (t : TypeId)
    (ho : o.op = .call { callee := .builtin .append, args := #[s, x], argTypes := #[t, t] })
    (B : Nat) (e : TypeId) (i : TypeInfo) (z : Value) (bytes : Nat) (ht : P.underlying t = some (.slice e)) (hi : P.info? e = some i) (hz : i.zero = some z)
    (hsize : i.size = Rp.size α) (hby : i.bytes = bytes) (hzs : z.cells.size = Rp.size α) (hsz : 0 < Rp.size α) (hbb : bytes ≤ 65536)
    (w0 : World) (v : Value) (l : List α) (fs : List (List Nat)) (hs : a.eval s = v) (hA : Acc B e w0 v l fs) (hK0 : Only [] w0 w) (hB : B ≤ w0.heap.size)
    (g c : Nat) (cs : List Value) (y : α) (fp : List Nat) (hx : a.eval x = .slice (some ⟨g, 0, none⟩) 1 c) (hsrc : ∀ j u, cs[j]? = some u → w.cell? ⟨g, j, none⟩ = some u) (hcs : ∀ u ∈ cs, u.oneCell' = true)
    (hy : Rp.rep w cs y fp) (hap : ∀ b ∈ fp, v.ownBlock ≠ some b) (hlen : l.length + 1 ≤ 1073741824)
    (h : ∀ v' w', Acc B e w' v' (l ++ [y]) (fs ++ [fp]) → Only v.ownBlock.toList w w' → (∀ wz, Only [] wz w → wz.heap.size ≤ B → Only [] wz w') →
      (Fresh B w0 fs.flatten → Fresh w0.heap.size w fp → Fresh B w' (fs ++ [fp]).flatten) → (v'.ownBlock = v.ownBlock ∨ v'.ownBlock = some w.heap.size) → wpList P ops Q rest (a.put o.dst v') w') : wpList P ops Q (o :: rest) a w :=
  wpList_plain hgd fun _ hK => wp_push2 s x t ho B e i z bytes ht hi hz hsize hby hzs hsz hbb w0 v l fs hs hA hK0 hB g c cs y fp hx hsrc hcs hy hap hlen fun v' w' h1 h2 h3 h4 h5 => hK _ _ (h v' w' h1 h2 h3 h4 h5)
end
section
variable {x : Puzzle} {m : Nat} {w : World} {m1 : Nat} {W : World} {M : Nat} {L : List (List Int)} {D : List Int} {wr : World} {v1 v2 : Value} {fs fd : List (List Nat)}
end
end Go.Proofs.YtpkplmnpepkdaaaGreat

namespace Go.Proofs.YtpkplmnpepkdaaaGreat
open Go.RowKit
set_option maxRecDepth 10000

theorem step_push2w {P : Program} {α : Type} [Rp α] {ops : Array Oper} {o : Oper} {a : Act} {w : World} {Q : Exit → Act → World → Prop} {K : Act → World → Prop} {E : Prop} (hgd : o.guard = none) (s x : Operand) (t : TypeId)
    (ho : o.op = .call { callee := .builtin .append, args := #[s, x], argTypes := #[t, t] })
    (B : Nat) (e : TypeId) (i : TypeInfo) (z : Value) (bytes : Nat) (ht : P.underlying t = some (.slice e)) (hi : P.info? e = some i) (hz : i.zero = some z)
    (hsize : i.size = Rp.size α) (hby : i.bytes = bytes) (hzs : z.cells.size = Rp.size α) (hsz : 0 < Rp.size α) (hbb : bytes ≤ 65536)
    (w0 : World) (v : Value) (l : List α) (fs : List (List Nat)) (hs : a.eval s = v) (hA : Acc B e w0 v l fs) (hK0 : Only [] w0 w) (hB : B ≤ w0.heap.size)
    (g c : Nat) (cs : List Value) (y : α) (fp : List Nat) (hx : a.eval x = .slice (some ⟨g, 0, none⟩) 1 c) (hsrc : ∀ j u, cs[j]? = some u → w.cell? ⟨g, j, none⟩ = some u) (hcs : ∀ u ∈ cs, u.oneCell' = true)
    (hy : Rp.rep w cs y fp) (hap : ∀ b ∈ fp, v.ownBlock ≠ some b) (hlen : l.length + 1 ≤ 1073741824)
    (h : ∀ v' w', Acc B e w' v' (l ++ [y]) (fs ++ [fp]) → Only v.ownBlock.toList w w' → (v'.ownBlock = v.ownBlock ∨ v'.ownBlock = some w.heap.size) → K (a.put o.dst v') w') : if Region.wanted o (yielded ops a.tmps) = true then Oper.wp P o a w K Q else E := by
  rw [if_pos (by simp [Region.wanted, hgd])]
  exact wp_push2 s x t ho B e i z bytes ht hi hz hsize hby hzs hsz hbb w0 v l fs hs hA hK0 hB g c cs y fp hx hsrc hcs hy hap hlen fun v' w' h1 h2 _ _ h5 => h v' w' h1 h2 h5
theorem Acc.flat0 {B : Nat} {e : TypeId} {w : World} {v : Value} {l : List Int} {fs : List (List Nat)} (h : Acc B e w v l fs) : fs.flatten = [] := by
  obtain ⟨css, ho, hcl, hr⟩ := h.own
  have hl := h.fl
  have : fs = List.replicate fs.length [] := by
    apply List.ext_getElem (by simp)
    intro k h1 h2
    have := (hr k (by omega) (by omega) h1).2.2
    simpa using this
  rw [this]; exact flatten_nil _
/-- v is a slice of numbers of the call's own -/
def AccI (B : Nat) (e : TypeId) (w : World) (v : Value) (l : List Int) : Prop := ∃ fs, Acc B e w v l fs
section
variable {w w' : World} {B : Nat} {e : TypeId} {v : Value} {l : List Int}
theorem AccI.only {fp : List Nat} (h : AccI B e w v l) (ho : Only fp w w') (hv : ∀ g, v.ownBlock = some g → g ∉ fp) : AccI B e w' v l := by
  obtain ⟨fs, h⟩ := h
  exact ⟨fs, h.only ho (by rw [h.flat0]; simp) hv⟩
theorem AccI.keep (h : AccI B e w v l) (ho : Only [] w w') : AccI B e w' v l := h.only ho (by simp)
theorem AccI.form (h : AccI B e w v l) : ∃ a c, v = .slice a l.length c := by
  obtain ⟨fs, h⟩ := h; exact h.form
theorem AccI.rd (h : AccI B e w v l) : Rd w v l v.ownBlock.toList := by
  obtain ⟨fs, h⟩ := h
  have := h.rd (by decide)
  rwa [h.flat0, List.append_nil] at this
theorem AccI.fresh (h : AccI B e w v l) : Fresh B w v.ownBlock.toList := by
  obtain ⟨fs, h⟩ := h
  have := h.fresh (by rw [h.flat0]; exact Fresh.nil _ _)
  rwa [h.flat0, List.append_nil] at this
theorem AccI.ownlt (h : AccI B e w v l) : ∀ g, v.ownBlock = some g → B ≤ g ∧ g < w.heap.size := by
  obtain ⟨fs, h⟩ := h; exact h.ownlt
theorem AccI.made (w : World) (B : Nat) (e : TypeId) {g : Nat} (hg : g = w.heap.size) (hB : B ≤ g) : AccI B e (w.alloc (.cells #[] e)) (.slice (some ⟨g, 0, none⟩) 0 0) [] := ⟨[], Acc.made w B e hg hB⟩
theorem AccI.one {n : Int} (hn : I64 n) (w : World) (B : Nat) (e : TypeId) {g : Nat} (hg : g = w.heap.size) (hB : B ≤ g) : AccI B e (w.alloc (.cells #[.int .i64 n] e)) (.slice (some ⟨g, 0, none⟩) 1 1) [n] :=
  ⟨[[]], Acc.one (cs := [.int .i64 n]) B e (int_rd w hn) hg hB⟩
end
section
variable {P : Program} {ops : Array Oper} {rest : List Oper} {o : Oper} {a : Act} {w : World} {Q : Exit → Act → World → Prop} {K : Act → World → Prop}
theorem wpList_pushI (hgd : o.guard = none) (s x : Operand) (t : TypeId)
    (ho : o.op = .call { callee := .builtin .append, args := #[s, x], argTypes := #[t, t] })
    (B : Nat) (e : TypeId) (i : TypeInfo) (z : Value) (ht : P.underlying t = some (.slice e)) (hi : P.info? e = some i) (hz : i.zero = some z)
    (hsize : i.size = 1) (hby : i.bytes = 8) (hzs : z.cells.size = 1)
    (w0 : World) (v : Value) (l : List Int) (hs : a.eval s = v) (hA : AccI B e w0 v l) (hK0 : Only [] w0 w) (hB : B ≤ w0.heap.size)
    (g c : Nat) (n : Int) (hx : a.eval x = .slice (some ⟨g, 0, none⟩) 1 c) (hsrc : w.cell? ⟨g, 0, none⟩ = some (.int .i64 n)) (hn : I64 n) (hlen : l.length + 1 ≤ 1073741824)
    (h : ∀ v' w', AccI B e w' v' (l ++ [n]) → Only v.ownBlock.toList w w' → (∀ wz, Only [] wz w → wz.heap.size ≤ B → Only [] wz w') → (v'.ownBlock = v.ownBlock ∨ v'.ownBlock = some w.heap.size) → wpList P ops Q rest (a.put o.dst v') w') : wpList P ops Q (o :: rest) a w := by
  obtain ⟨fs, hA⟩ := hA
  refine wpList_push2w (α := Int) hgd s x t ho B e i z 8 ht hi hz hsize hby hzs (by decide) (by decide) w0 v l fs hs hA hK0 hB g c [.int .i64 n] n [] hx ?_ (by intro u hu; simp at hu; subst hu; rfl) (int_rd w hn) (by simp) hlen fun v' w' h1 h2 h3 _ h5 => h v' w' ⟨_, h1⟩ h2 h3 h5
  intro j u hu
  cases j with
  | zero => simp at hu; subst hu; exact hsrc
  | succ j => simp at hu
theorem step_pushI {E : Prop} (hgd : o.guard = none) (s x : Operand) (t : TypeId)
    (ho : o.op = .call { callee := .builtin .append, args := #[s, x], argTypes := #[t, t] })
    (B : Nat) (e : TypeId) (i : TypeInfo) (z : Value) (ht : P.underlying t = some (.slice e)) (hi : P.info? e = some i) (hz : i.zero = some z)
    (hsize : i.size = 1) (hby : i.bytes = 8) (hzs : z.cells.size = 1)
    (w0 : World) (v : Value) (l : List Int) (hs : a.eval s = v) (hA : AccI B e w0 v l) (hK0 : Only [] w0 w) (hB : B ≤ w0.heap.size)
    (g c : Nat) (n : Int) (hx : a.eval x = .slice (some ⟨g, 0, none⟩) 1 c) (hsrc : w.cell? ⟨g, 0, none⟩ = some (.int .i64 n)) (hn : I64 n) (hlen : l.length + 1 ≤ 1073741824)
    (h : ∀ v' w', AccI B e w' v' (l ++ [n]) → Only v.ownBlock.toList w w' → (v'.ownBlock = v.ownBlock ∨ v'.ownBlock = some w.heap.size) → K (a.put o.dst v') w') : if Region.wanted o (yielded ops a.tmps) = true then Oper.wp P o a w K Q else E := by
  obtain ⟨fs, hA⟩ := hA
  refine step_push2w (α := Int) hgd s x t ho B e i z 8 ht hi hz hsize hby hzs (by decide) (by decide) w0 v l fs hs hA hK0 hB g c [.int .i64 n] n [] hx ?_ (by intro u hu; simp at hu; subst hu; rfl) (int_rd w hn) (by simp) hlen fun v' w' h1 h2 h5 => h v' w' ⟨_, h1⟩ h2 h5
  intro j u hu
  cases j with
  | zero => simp at hu; subst hu; exact hsrc
  | succ j => simp at hu
end
/-- the one cell of a literal -/
theorem lit1 (w : World) (u : Value) (e : TypeId) {g : Nat} (hg : g = w.heap.size) : (w.alloc (.cells #[u] e)).cell? ⟨g, 0, none⟩ = some u := lit_src w [u] e hg 0 u rfl
section
variable {w W wr w' wa wb : World} {G : List Nat} {e : TypeId} {o o' : Value} {l : List Int} {n : Int}
end
end Go.Proofs.YtpkplmnpepkdaaaGreat

namespace Go.Proofs.YtpkplmnpepkdaaaGreat
open Go.RowKit Go.Shelf Go.Sort Go.Proofs
set_option maxRecDepth 10000


theorem map_one_flatten (l : List Int) : (l.map fun x => [Value.int .i64 x]).flatten = l.map (Value.int .i64) := by
  induction l with
  | nil => rfl
  | cons x l ih => simp only [List.map_cons, List.flatten_cons, ih, List.cons_append, List.nil_append]
theorem AccI.row {B : Nat} {e : TypeId} {w : World} {v : Value} {l : List Int} (h : AccI B e w v l) : w.ownsRow B e 1 v l.length (l.map (Value.int .i64)) ∧ ∀ x ∈ l, I64 x := by
  obtain ⟨fs, h⟩ := h
  obtain ⟨css, ho, hcl, hr⟩ := h.own
  have hfl := h.fl
  have hc : css = l.map fun x => [Value.int .i64 x] := by
    apply List.ext_getElem (by simp [hcl])
    intro k h1 h2
    have hk : k < l.length := by omega
    have := (hr k h1 hk (by omega)).1
    rw [this]; simp
  refine ⟨?_, fun x hx => ?_⟩
  · rw [hc, map_one_flatten] at ho; exact ho
  · obtain ⟨k, hk, rfl⟩ := List.getElem_of_mem hx
    exact (hr k (by omega) hk (by omega)).2.1
theorem AccI.ofRow {B : Nat} {e : TypeId} {w : World} {v : Value} {l : List Int} (h : w.ownsRow B e 1 v l.length (l.map (Value.int .i64))) (hI : ∀ x ∈ l, I64 x) : AccI B e w v l := by
  have hf : ∀ n : Nat, (List.replicate n ([] : List Nat)).flatten = [] := fun n => by induction n with | zero => rfl | succ n ih => simp [List.replicate_succ, ih]
  refine ⟨List.replicate l.length [], ⟨l.map fun x => [Value.int .i64 x], ?_, by simp, fun k h1 h2 h3 => ?_⟩, by simp, fun g _ => by rw [hf]; simp⟩
  · rw [map_one_flatten]; exact h
  · exact ⟨by simp, hI _ (List.getElem_mem h2), by simp⟩
end Go.Proofs.YtpkplmnpepkdaaaGreat

namespace Go.Proofs.YtpkplmnpepkdaaaGreat
open Go.RowKit
set_option maxRecDepth 10000

/-- how many are less -/
def below (v : Int) : List Int → Nat
  | [] => 0
  | x :: l => if x < v then below v l + 1 else 0
theorem below_le (v : Int) : ∀ l : List Int, below v l ≤ l.length
  | [] => Nat.le_refl _
  | x :: l => by unfold below; split; exact Nat.succ_le_succ (below_le v l); exact Nat.zero_le _
theorem below_lt (v : Int) : ∀ (l : List Int) (j : Nat) (h : j < l.length), j < below v l → l[j] < v
  | x :: l, j, h, hj => by
    unfold below at hj
    by_cases hx : x < v
    · rw [if_pos hx] at hj
      cases j with
      | zero => exact hx
      | succ j => exact below_lt v l j (by simpa using h) (by omega)
    · rw [if_neg hx] at hj; omega
theorem below_at (v : Int) : ∀ (l : List Int) (h : below v l < l.length), ¬ l[below v l] < v
  | x :: l, h => by
    by_cases hx : x < v
    · have e : below v (x :: l) = below v l + 1 := by show (if x < v then _ else _) = _; rw [if_pos hx]
      have h2 : below v l < l.length := by rw [e] at h; simpa using h
      have := below_at v l h2
      simp only [e, List.getElem_cons_succ]
      exact this
    · have e : below v (x :: l) = 0 := by show (if x < v then _ else _) = _; rw [if_neg hx]
      simp only [e, List.getElem_cons_zero]
      exact hx
theorem insU_there {v : Int} : ∀ {l : List Int} (h : below v l < l.length), l[below v l] = v → PM.insU v l = l
  | x :: l, h, he => by
    by_cases hx : x < v
    · have e : below v (x :: l) = below v l + 1 := by show (if x < v then _ else _) = _; rw [if_pos hx]
      have h2 : below v l < l.length := by rw [e] at h; simpa using h
      simp only [e, List.getElem_cons_succ] at he
      show (if x < v then x :: PM.insU v l else _) = _
      rw [if_pos hx, insU_there h2 he]
    · have e : below v (x :: l) = 0 := by show (if x < v then _ else _) = _; rw [if_neg hx]
      simp only [e, List.getElem_cons_zero] at he
      show (if x < v then _ else if x = v then x :: l else _) = _
      rw [if_neg hx, if_pos he]
theorem insU_new {v : Int} : ∀ {l : List Int}, (∀ h : below v l < l.length, l[below v l] ≠ v) → PM.insU v l = (l.take (below v l) ++ [v]) ++ l.drop (below v l)
  | [], _ => rfl
  | x :: l, hn => by
    by_cases hx : x < v
    · have e : below v (x :: l) = below v l + 1 := by show (if x < v then _ else _) = _; rw [if_pos hx]
      show (if x < v then x :: PM.insU v l else _) = _
      rw [if_pos hx, e, insU_new (l := l) (fun h => by
        have h1 := hn (by rw [e]; simpa using h)
        simp only [e, List.getElem_cons_succ] at h1
        exact h1)]
      simp
    · have e : below v (x :: l) = 0 := by show (if x < v then _ else _) = _; rw [if_neg hx]
      have h1 := hn (by rw [e]; simp)
      simp only [e, List.getElem_cons_zero] at h1
      show (if x < v then _ else if x = v then _ else v :: x :: l) = _
      rw [if_neg hx, if_neg h1, e]
      simp
theorem IntsA.drp {w : World} {b off cap : Nat} {l : List Int} {fp : List Nat} (h : IntsA w (some ⟨b, off, none⟩) cap l fp) {k : Nat} (hk : k ≤ l.length) : IntsA w (some ⟨b, off + k, none⟩) (cap - k) (l.drop k) fp := by
  have hl := h.len
  have hc := h.cap
  refine ⟨by rw [List.length_drop]; omega, by omega, fun x hx => h.wf x (List.mem_of_mem_drop hx), fun i hi => ?_, h.lt, h.one⟩
  rw [List.length_drop] at hi
  obtain ⟨b', off', ha, hf, hcell⟩ := h.at_ (k + i) (by omega)
  injection ha with ha; injection ha with e1 e2; subst e1; subst e2
  refine ⟨b, off + k, rfl, hf, ?_⟩
  rw [Nat.add_assoc, List.getElem_drop]
  exact hcell
theorem copyInts_aI (v : Value) (l : List Int) (fp : List Nat) (w : World) (h : Rd w v l fp) (hl : l.length ≤ 1073741824) :
    Calls Tryz.prog 36 #[v] w fun e w' => ∃ v, e = .returned v ∧ AccI w.heap.size 2 w' v l ∧ Only [] w w' := by
  obtain ⟨a, cap, rfl, hI⟩ := h.ints
  obtain ⟨i0, hi, hz0, hz1, hz2⟩ := info_parts Tryz.info2
  obtain ⟨q1, q2⟩ := ints_src (hI.keep ((Only.refl _ w).alloc (.cells #[] 2)))
  go_enter Tryz.func36, Tryz.ntmps36
  go_wp2_with (at_builtin; refine wpList_app _ rfl _ _ 27 rfl w.heap.size 2 i0 _ 1 8 Tryz.underlying27 hi hz0 hz1 hz2 rfl (by omega) (.slice (some ⟨w.heap.size, 0, none⟩) 0 0) 0 [] rfl (World.ownsRow_made w #[] 0 (Nat.le_refl _) (by unfold maxLen; omega) rfl) a l.length cap (l.map (Value.int .i64)) rfl (by simp) q1 q2 (ints_one l) (by unfold maxLen; omega) (by omega) (by simp) ?_; intro v1 w1 hO hg hb)
  rw [Nat.zero_add, List.nil_append] at hO
  have hK : Only [] w w1 := ((Only.refl _ _).alloc _).grown hg (by simp [Value.ownBlock])
  have hA : AccI w.heap.size 2 w1 v1 l := AccI.ofRow hO hI.wf
  have HA := Lib.hid hA
  clear hO hg hb q1 q2 hA
  go_wp2
  go_ret
  exact ⟨_, rfl, HA.out, hK⟩
set_option maxHeartbeats 4000000 in
theorem insertSorted_any (b off c : Nat) (l : List Int) (fp : List Nat) (k : Int) (w : World) (I : IntsA w (some ⟨b, off, none⟩) c l fp) (hl : l.length ≤ 1000) (hk : I64 k) :
    Calls Tryz.prog 89 #[.slice (some ⟨b, off, none⟩) l.length c, .int .i64 k] w fun e w' => ∃ b' o' c' fp', e = .returned (.slice (some ⟨b', o', none⟩) (PM.insU k l).length c') ∧ IntsA w' (some ⟨b', o', none⟩) c' (PM.insU k l) fp' ∧ (fp' = fp ∨ Fresh w.heap.size w' fp') ∧ Only [] w w' := by
  obtain ⟨i0, hi, hz0, hz1, hz2⟩ := info_parts Tryz.info2
  have hbl := below_le k l
  have hIH := Lib.hid I
  have HI := Lib.hid hk
  have hcap := I.len
  clear I hk
  obtain ⟨R, hR⟩ : ∃ R, R = PM.insU k l := ⟨_, rfl⟩
  rw [← hR]
  have HR := Lib.hid hR
  clear hR
  go_enter Tryz.func89, Tryz.ntmps89
  go_wp2
  go_loopw [5] (fun i wr => ∃ (j : Nat), j ≤ below k l ∧ i = .int .i64 j ∧ Only [] w wr)
    (fun i _ => l.length + 1 - (intOf i).toNat)
  case atStart => exact ⟨0, Nat.zero_le _, rfl, Only.refl _ _⟩
  case round =>
    obtain ⟨w3, hnew⟩ : ∃ W, W = wr := ⟨_, rfl⟩
    subst hnew
    obtain ⟨j, hj, rfl, hK⟩ := hrel
    have I3 := hIH.out.keep hK
    by_cases hlt : j < below k l
    · have hjl : j < l.length := by omega
      obtain ⟨b2, o2, e2, -, c2⟩ := I3.at_ j hjl
      injection e2 with e2; injection e2 with e3 e4; subst e3; subst e4
      have hv := below_lt k l j hjl hlt
      obtain ⟨x, hx⟩ : ∃ x, x = l[j] := ⟨_, rfl⟩
      rw [← hx] at c2 hv
      clear hx
      have hji : (j : Int) < (l.length : Int) := by omega
      go_wp2
      go_roundw
      case rel => exact ⟨j + 1, by omega, by go_num, hK⟩
      case measure => simp [intOf]; omega
    · have hje : j = below k l := by omega
      have hjl : j ≤ l.length := by omega
      have hkc : j ≤ c := by omega
      have hjl' : (j : Int) ≤ (l.length : Int) := by omega
      have hkc' : (j : Int) ≤ (c : Int) := by omega
      have hc0 : (l.length : Int) ≤ (c : Int) := by omega
      have hj0 : (0 : Int) ≤ (j : Int) := by omega
      have hsz3 := hK.size
      have hlk : (l.take j).length = j := by rw [List.length_take]; omega
      have hTk : Rd w3 (.slice (some ⟨b, off, none⟩) j c) (l.take j) fp := by
        have := (I3.take j).rd
        rwa [hlk] at this
      have hTl : (l.take j).length ≤ 1073741824 := by omega
      have HK := Lib.hid hlk
      have hnewR : (∀ h : below k l < l.length, l[below k l] ≠ k) → ∀ v6 w6, w6.ownsRow w3.heap.size 2 1 v6 (j + 1 + (l.length - j)) (((l.take j).map (Value.int .i64) ++ [.int .i64 k]) ++ (l.drop j).map (Value.int .i64)) → Only [] w3 w6 →
          ∃ b' o' c' fp', v6 = .slice (some ⟨b', o', none⟩) R.length c' ∧ IntsA w6 (some ⟨b', o', none⟩) c' R fp' ∧ Fresh w.heap.size w6 fp' ∧ Only [] w w6 := fun hn v6 w6 hO ho => by
        have hRe : R = (l.take j ++ [k]) ++ l.drop j := by rw [HR.out, insU_new hn, ← hje]
        have hcells : ((l.take j).map (Value.int .i64) ++ [Value.int .i64 k]) ++ (l.drop j).map (Value.int .i64) = R.map (Value.int .i64) := by
          rw [hRe]; simp
        have hlen : R.length = j + 1 + (l.length - j) := by rw [hRe, List.length_append, List.length_append, HK.out, List.length_drop]; rfl
        rw [hcells, ← hlen] at hO
        obtain ⟨a6, c6, hv6, -, I6, F6⟩ := own_ints hO (fun x hx => by
          rw [hRe] at hx
          rcases List.mem_append.1 hx with hx | hx
          · rcases List.mem_append.1 hx with hx | hx
            · exact hIH.out.wf x (List.mem_of_mem_take hx)
            · simp at hx; subst hx; exact HI.out
          · exact hIH.out.wf x (List.mem_of_mem_drop hx))
        obtain ⟨b6, o6, ha6, -, -⟩ := I6.at_ 0 (by rw [hlen]; omega)
        subst ha6
        exact ⟨b6, o6, c6, _, hv6, I6, F6.mono hsz3, hK.trans ho⟩
      have HN := Lib.hid hnewR
      clear hlk hnewR
      by_cases hin : j < l.length
      · obtain ⟨b2, o2, e2, -, c2⟩ := I3.at_ j hin
        injection e2 with e2; injection e2 with e3 e4; subst e3; subst e4
        have hnl : ¬ l[j] < k := by subst hje; exact below_at k l hin
        have hji : (j : Int) < (l.length : Int) := by omega
        by_cases heq : l[j] = k
        · have hRl : R = l := by rw [HR.out]; subst hje; exact insU_there hin heq
          have HRl := Lib.hid hRl
          rw [heq] at c2 hnl
          clear heq hRl hje hlt
          go_wp2
          go_ret
          rw [HRl.out]
          exact ⟨_, _, c, rfl, fp, I3, .inl rfl, hK⟩
        · have hend := HN.out (fun h => by subst hje; exact heq)
          have hcj : ¬ (c = j) := by omega
          obtain ⟨x, hx⟩ : ∃ x, x = l[j] := ⟨_, rfl⟩
          rw [← hx] at c2 hnl heq
          clear hx hje hlt
          go_wp2_with (first
            | (go_at_call 36; (with_reducible refine (copyInts_aI (.slice (some ⟨b, off, none⟩) j c) (l.take j) fp w3 hTk hTl).mono ?_); rintro en w4 ⟨v4, rfl, hA4, o4⟩; have hO4 := hA4.row.1; rw [HK.out] at hO4; obtain ⟨a4, q4, e4⟩ := hA4.form; rw [HK.out] at e4; subst e4; have m4 := lit_srcA w4 [.int .i64 k] 2 rfl)
            | (at_builtin; refine wpList_app _ rfl _ _ 27 rfl w3.heap.size 2 i0 _ 1 8 Tryz.underlying27 hi hz0 hz1 hz2 rfl (by omega) (.slice a4 j q4) j ((l.take j).map (Value.int .i64)) rfl (hO4.alloc _) (some ⟨w4.heap.size, 0, none⟩) 1 1 [.int .i64 k] rfl rfl m4 (by intro hh; cases hh) (by intro u hu; simp at hu; subst hu; rfl) (by unfold maxLen; omega) (by omega) (Nat.le_trans o4.size ((Only.refl [] w4).alloc _).size) ?_; intro v5 w5 hO5 hg5 hb5; have o5 : Only [] w3 w5 := (o4.alloc _).grown hg5 (by intro z hz hzl; have := (hO4.lt z hz).1; omega); have ID := (I3.keep o5).drp hjl; have s5 := ints_src ID; have hdl : ((l.drop j).map (Value.int .i64)).length = (l.length - j) * 1 := (by simp); have Hdl := Lib.hid hdl; clear hdl)
            | (at_builtin; refine wpList_app _ rfl _ _ 27 rfl w3.heap.size 2 i0 _ 1 8 Tryz.underlying27 hi hz0 hz1 hz2 rfl (by omega) v5 (j + 1) ((l.take j).map (Value.int .i64) ++ [.int .i64 k]) rfl hO5 (some ⟨b, off + j, none⟩) (l.length - j) (c - j) ((l.drop j).map (Value.int .i64)) rfl Hdl.out s5.1 (by intro hh; cases hh) (ints_one _) (by unfold maxLen; omega) (by omega) o5.size ?_; intro v6 w6 hO6 hg6 hb6)
            | fail "no arm")
          have hfin := hend v6 w6 hO6 (o5.grown hg6 (by intro z hz hzl; have := (hO5.lt z hz).1; omega))
          obtain ⟨b', o', c', fp', rfl, h1, h2, h3⟩ := hfin
          go_ret
          exact ⟨b', o', c', fp', rfl, h1, .inr h2, h3⟩
      · have hend := HN.out (fun h => absurd h (by omega))
        have hji : ¬ ((j : Int) < (l.length : Int)) := by omega
        by_cases hcj : c = j
        · subst hcj
          have hd0 : l.drop c = [] := List.drop_eq_nil_of_le (by omega)
          have Hd0 := Lib.hid hd0
          clear hd0 hje hlt
          go_wp2_with (first
            | (go_at_call 36; (with_reducible refine (copyInts_aI (.slice (some ⟨b, off, none⟩) c c) (l.take c) fp w3 hTk hTl).mono ?_); rintro en w4 ⟨v4, rfl, hA4, o4⟩; have hO4 := hA4.row.1; rw [HK.out] at hO4; obtain ⟨a4, q4, e4⟩ := hA4.form; rw [HK.out] at e4; subst e4; have m4 := lit_srcA w4 [.int .i64 k] 2 rfl)
            | (at_builtin; refine wpList_app _ rfl _ _ 27 rfl w3.heap.size 2 i0 _ 1 8 Tryz.underlying27 hi hz0 hz1 hz2 rfl (by omega) (.slice a4 c q4) c ((l.take c).map (Value.int .i64)) rfl (hO4.alloc _) (some ⟨w4.heap.size, 0, none⟩) 1 1 [.int .i64 k] rfl rfl m4 (by intro hh; cases hh) (by intro u hu; simp at hu; subst hu; rfl) (by unfold maxLen; omega) (by omega) (Nat.le_trans o4.size ((Only.refl [] w4).alloc _).size) ?_; intro v5 w5 hO5 hg5 hb5; have o5 : Only [] w3 w5 := (o4.alloc _).grown hg5 (by intro z hz hzl; have := (hO4.lt z hz).1; omega))
            | (at_builtin; refine wpList_app _ rfl _ _ 27 rfl w3.heap.size 2 i0 _ 1 8 Tryz.underlying27 hi hz0 hz1 hz2 rfl (by omega) v5 (c + 1) ((l.take c).map (Value.int .i64) ++ [.int .i64 k]) rfl hO5 (some ⟨b, off, none⟩) 0 0 [] rfl rfl (by intro ad hh j1 u hu; simp at hu) (by intro hh; cases hh) (by intro u hu; simp at hu) (by unfold maxLen; omega) (by omega) o5.size ?_; intro v6 w6 hO6 hg6 hb6)
            | fail "no arm")
          have hfin := hend v6 w6 (by have e : l.length - c = 0 := (by omega); rw [e, Hd0.out]; simpa using hO6) (o5.grown hg6 (by intro z hz hzl; have := (hO5.lt z hz).1; omega))
          obtain ⟨b', o', c', fp', rfl, h1, h2, h3⟩ := hfin
          go_ret
          exact ⟨b', o', c', fp', rfl, h1, .inr h2, h3⟩
        · clear hje hlt
          go_wp2_with (first
            | (go_at_call 36; (with_reducible refine (copyInts_aI (.slice (some ⟨b, off, none⟩) j c) (l.take j) fp w3 hTk hTl).mono ?_); rintro en w4 ⟨v4, rfl, hA4, o4⟩; have hO4 := hA4.row.1; rw [HK.out] at hO4; obtain ⟨a4, q4, e4⟩ := hA4.form; rw [HK.out] at e4; subst e4; have m4 := lit_srcA w4 [.int .i64 k] 2 rfl)
            | (at_builtin; refine wpList_app _ rfl _ _ 27 rfl w3.heap.size 2 i0 _ 1 8 Tryz.underlying27 hi hz0 hz1 hz2 rfl (by omega) (.slice a4 j q4) j ((l.take j).map (Value.int .i64)) rfl (hO4.alloc _) (some ⟨w4.heap.size, 0, none⟩) 1 1 [.int .i64 k] rfl rfl m4 (by intro hh; cases hh) (by intro u hu; simp at hu; subst hu; rfl) (by unfold maxLen; omega) (by omega) (Nat.le_trans o4.size ((Only.refl [] w4).alloc _).size) ?_; intro v5 w5 hO5 hg5 hb5; have o5 : Only [] w3 w5 := (o4.alloc _).grown hg5 (by intro z hz hzl; have := (hO4.lt z hz).1; omega); have ID := (I3.keep o5).drp hjl; have s5 := ints_src ID; have hdl : ((l.drop j).map (Value.int .i64)).length = (l.length - j) * 1 := (by simp); have Hdl := Lib.hid hdl; clear hdl)
            | (at_builtin; refine wpList_app _ rfl _ _ 27 rfl w3.heap.size 2 i0 _ 1 8 Tryz.underlying27 hi hz0 hz1 hz2 rfl (by omega) v5 (j + 1) ((l.take j).map (Value.int .i64) ++ [.int .i64 k]) rfl hO5 (some ⟨b, off + j, none⟩) (l.length - j) (c - j) ((l.drop j).map (Value.int .i64)) rfl Hdl.out s5.1 (by intro hh; cases hh) (ints_one _) (by unfold maxLen; omega) (by omega) o5.size ?_; intro v6 w6 hO6 hg6 hb6)
            | fail "no arm")
          have hfin := hend v6 w6 hO6 (o5.grown hg6 (by intro z hz hzl; have := (hO5.lt z hz).1; omega))
          obtain ⟨b', o', c', fp', rfl, h1, h2, h3⟩ := hfin
          go_ret
          exact ⟨b', o', c', fp', rfl, h1, .inr h2, h3⟩
end Go.Proofs.YtpkplmnpepkdaaaGreat

namespace Go.Proofs.YtpkplmnpepkdaaaGreat
open Go.RowKit
set_option maxRecDepth 10000

theorem choTo_succ (m : List Int) (j : Nat) (T : PM.Rows) (k : Nat) : PM.choO m (orbTo (j + 1) T k) = if PM.tr T k (j : Int) = [] then PM.choO m (orbTo j T k) else PM.insU (PM.at_ m (j : Int)) (PM.choO m (orbTo j T k)) := by
  rw [orbTo_succ]
  by_cases h : PM.tr T k (j : Int) = []
  · rw [if_pos h, if_pos h]
  · rw [if_neg h, if_neg h, PM.choO_snoc]
theorem choO_len {n : Nat} {m : List Int} (hm : PM.PN n m) {ys : List Int} (hy : ∀ y ∈ ys, 0 ≤ y ∧ y < n) : (PM.choO m ys).length ≤ n := by
  have h1 : (PM.choO m ys).length ≤ (PM.pts n).length := PM.nodup_sub_len (PM.choO_asc m ys).nodup fun v hv => by
    obtain ⟨y, hy1, rfl⟩ := PM.mem_choO.1 hv
    obtain ⟨h0, h1⟩ := hy y hy1
    exact PM.mem_pts.2 (hm.rng h0 h1)
  rwa [PM.pts_len] at h1
theorem orbTo_rng {j n : Nat} (hj : j ≤ n) {T : PM.Rows} {k : Nat} : ∀ y ∈ orbTo j T k, 0 ≤ y ∧ y < (n : Int) := fun y hy => by
  unfold orbTo at hy
  have := PM.mem_pts.1 (List.mem_filter.1 hy).1
  omega
set_option maxHeartbeats 2000000 in
theorem choicesAt_any {e : TypeId} {B : Nat} {L : Lay} {gv : Nat → Value} {n : Nat} {G : PM.Gens} {T : PM.Rows} {M F : List Nat} (w : World) (hC : Ch e B w L gv n G T M F) (hT : L.oT = 1) (i : Nat) (hi : i < n) (v : Value) (m : List Int) (fm : List Nat)
    (hv : Rd w v m fm) (hm : PM.PN n m) :
    Calls Tryz.prog 62 #[.pointer (some ⟨L.g, 0, none⟩), .int .i64 i, v] w fun e w' => ∃ b o c f, e = .returned (.slice (some ⟨b, o, none⟩) (PM.cho n T i m).length c) ∧ IntsA w' (some ⟨b, o, none⟩) c (PM.cho n T i m) f ∧ Fresh w.heap.size w' f ∧ Only [] w w' := by
  obtain ⟨A, C, rfl, IM⟩ := hv.ints
  have hn20 := hC.le
  have hml := hm.1
  have cn := hC.cn
  have ct := hC.ct
  rw [hT] at ct
  have cr := hC.row i hi
  obtain ⟨R, hR⟩ : ∃ R, R = PM.cho n T i m := ⟨_, rfl⟩
  rw [← hR]
  have HR := Lib.hid hR
  have HC := Lib.hid hC
  have Hm := Lib.hid hm
  have HIM := Lib.hid IM
  have Hml := Lib.hid hml
  clear hC hm IM hml hR
  go_enter Tryz.func62, Tryz.ntmps62
  go_wp2
  go_loopw [7, 8] (fun o y wr => ∃ (j : Nat) (l : List Int) (b o' c : Nat) (f : List Nat), j ≤ n ∧ y = .int .i64 j ∧ Hid (l = PM.choO m (orbTo j T i)) ∧ o = .slice (some ⟨b, o', none⟩) l.length c ∧ IntsA wr (some ⟨b, o', none⟩) c l f ∧ Fresh w.heap.size wr f ∧ Only [] w wr)
    (fun _ y _ => n - (intOf y).toNat)
  case atStart => exact ⟨0, [], w.heap.size, 0, 0, [], Nat.zero_le _, rfl, Lib.hid rfl, rfl, IntsA.nil _ _ (by simp [maxLen]), Fresh.nil _ _, (Only.refl _ _).alloc _⟩
  case round =>
    obtain ⟨W2, hnew⟩ : ∃ W, W = wr := ⟨_, rfl⟩
    subst hnew
    obtain ⟨j, l, b, o', c, f, hj, rfl, hl, rfl, hI, hF, hO⟩ := hrel
    have y0 := hO.cell (by simp) cn
    by_cases hlt : j < n
    · have yt := hO.cell (by simp) ct
      have yr := hO.cell (by simp) cr
      have hC2 := HC.out.keep hO
      have hsu := choTo_succ m j T i
      rw [← hl.out] at hsu
      have Hsu := Lib.hid hsu
      have hll : l.length ≤ 1000 := by
        rw [hl.out]
        have := choO_len Hm.out (orbTo_rng (j := j) (n := n) (by omega) (T := T) (k := i))
        omega
      have hltI : (j : Int) < (n : Int) := by omega
      clear hsu
      by_cases ht : PM.tr T i (j : Int) = []
      · have c4 := hC2.at_nil hi (y := (j : Int)) (by omega) (by omega) ht
        simp only [Int.toNat_natCast] at c4
        have Ht := Lib.hid ht
        clear ht hC2
        go_wp2
        go_roundw
        case rel => exact ⟨j + 1, l, b, o', c, f, by omega, by go_num, Lib.hid (by rw [Hsu.out, if_pos Ht.out]), rfl, hI, hF, hO⟩
        case measure => simp [intOf]; omega
      · obtain ⟨b4, off4, cap4, f4, c4, -, -⟩ := hC2.at_some hi (y := (j : Int)) (by omega) (by omega) ht
        simp only [Int.toNat_natCast] at c4
        obtain ⟨b3, o3, rfl, -, c3⟩ := (HIM.out.keep hO).at_pm (x := (j : Int)) (by omega) (by rw [Hml.out]; omega)
        simp only [Int.toNat_natCast] at c3
        have hpos : (0 : Int) < ((PM.tr T i (j : Int)).length : Int) := by have := List.length_pos_iff.2 ht; omega
        have hjm : (j : Int) < (m.length : Int) := by rw [Hml.out]; omega
        have hmr := Hm.out.rng (x := (j : Int)) (by omega) (by omega)
        have HmI := Lib.hid (show I64 (PM.at_ m (j : Int)) by unfold I64; omega)
        have Ht := Lib.hid ht
        have hsz := hO.size
        clear ht hC2 hmr
        go_wp2_with (first
          | (go_at_call 89; (with_reducible refine (insertSorted_any b o' c l f (PM.at_ m (j : Int)) W2 hI hll HmI.out).mono ?_); rintro en w3 ⟨b5, o5, c5, f5, rfl, hI5, hf5, t5⟩)
          | fail "no arm")
        have hF5 : Fresh w.heap.size w3 f5 := by
          rcases hf5 with h | h
          · rw [h]; exact hF.keep t5
          · exact h.mono hsz
        go_roundw
        case rel => exact ⟨j + 1, _, b5, o5, c5, f5, by omega, by go_num, Lib.hid (by rw [Hsu.out, if_neg Ht.out]), rfl, hI5, hF5, hO.trans t5⟩
        case measure => simp [intOf]; omega
    · obtain rfl : j = n := by omega
      have hRl : R = l := by rw [HR.out, hl.out]; rfl
      have HRl := Lib.hid hRl
      have hge : ¬ ((j : Int) < (j : Int)) := by omega
      clear hRl hl
      go_wp2
      go_ret
      rw [HRl.out]
      exact ⟨b, o', c, rfl, f, hI, hF, hO⟩
set_option maxHeartbeats 4000000 in
theorem withEntry_any {e : TypeId} {B : Nat} {L : Lay} {gv : Nat → Value} {n : Nat} {G : PM.Gens} {T : PM.Rows} {M F : List Nat} (w : World) (hC : Ch e B w L gv n G T M F) (hw : PM.WF n T) (hT : L.oT = 1) (i : Nat) (hi : i < n) (v : Value) (m : List Int) (fm : List Nat)
    (hv : Rd w v m fm) (hm : PM.PN n m) (vv : Int) (hvv : vv ∈ PM.cho n T i m) :
    Calls Tryz.prog 63 #[.pointer (some ⟨L.g, 0, none⟩), .int .i64 i, v, .int .i64 vv] w fun e w' => ∃ v' f', e = .returned v' ∧ Rd w' v' (PM.putV T i m vv) f' ∧ Fresh w.heap.size w' f' ∧ Only [] w w' := by
  have hn20 := hC.le
  obtain ⟨hv0, hv1, hp0, hp1, hp2, hp3⟩ := PM.cho_pre hm hvv
  obtain ⟨A, C, rfl, IM⟩ := hv.ints
  obtain ⟨y, hy⟩ : ∃ y, y = PM.at_ (PM.inv m) vv := ⟨_, rfl⟩
  rw [← hy] at hp0 hp1 hp2 hp3
  have hput : PM.putV T i m vv = PM.comp (PM.tr T i y) m := by unfold PM.putV; rw [← hy]
  have ct := hC.ct
  rw [hT] at ct
  have cr := hC.row i hi
  obtain ⟨bt, ot, capt, ft, crt, hrt, -⟩ := hC.at_some hi hp0 hp1 hp2
  have htp := hw.pn i y hi hp2
  have hil : ((PM.inv m).length : Int) = (n : Int) := by rw [hm.inv.1]
  have Hm := Lib.hid hm
  have Hp := Lib.hid hput
  have Htp := Lib.hid htp
  have Hy := Lib.hid hy
  have Hil := Lib.hid hil
  have hvl : vv < ((PM.inv m).length : Int) := by rw [hil]; exact hv1
  clear hC hm hvv hy hput hp2 hp3 htp IM hil
  go_enter Tryz.func63, Tryz.ntmps63
  go_wp2_with fail
  have kd : Only [] w w.drew := (Only.refl _ _).drew
  have dt := kd.cell (by simp) ct
  have dr := kd.cell (by simp) cr
  have dy := kd.cell (by simp) crt
  have HcI := Lib.hid (fun (W : World) (hW : Only [] w W) => specInv_rd n _ m _ W (Rp.keep hv hW) Hm.out (by omega))
  have HcC := Lib.hid (fun (W : World) (hW : Only [] w W) => specCompose_rd n _ _ (PM.tr T i y) m _ _ W (Rp.keep hrt hW) (Rp.keep hv hW) Htp.out Hm.out (by omega))
  clear kd
  go_region_law (first
    | (go_simp; go_at_call 91; (with_reducible refine (HcI.out _ (by with_reducible repeat (first | exact Only.refl _ _ | refine Only.drew ?_))).mono ?_); rintro e w3 ⟨v3, f3, rfl, r3, F3, t3⟩; have k3 : Only [] w w3 := Only.trans (by with_reducible repeat (first | exact Only.refl _ _ | refine Only.drew ?_)) t3; obtain ⟨a3, c3, rfl, I3⟩ := r3.ints; obtain ⟨b3, o3, rfl, -, x3⟩ := I3.at_pm (x := vv) hv0 hvl; rw [← Hy.out] at x3; have et := k3.cell (by simp) ct; have er := k3.cell (by simp) cr; have ey := k3.cell (by simp) crt)
    | (go_simp; go_at_call 90; (with_reducible refine (HcC.out _ (by with_reducible first | exact k3 | exact k3.drew)).mono ?_); rintro e w5 ⟨v5, f5, rfl, r5, F5, t5⟩; have k5 : Only [] w w5 := Only.trans (by with_reducible first | exact k3 | exact k3.drew) t5)
    | fail "no arm")
  all_goals have hF5 : Fresh w.heap.size w5 f5 := F5.mono (by have := k3.size; (try simp); omega)
  all_goals go_wp2
  all_goals go_ret
  all_goals exact ⟨v5, f5, rfl, by rw [Hp.out]; exact r5, hF5, k5⟩


end Go.Proofs.YtpkplmnpepkdaaaGreat
