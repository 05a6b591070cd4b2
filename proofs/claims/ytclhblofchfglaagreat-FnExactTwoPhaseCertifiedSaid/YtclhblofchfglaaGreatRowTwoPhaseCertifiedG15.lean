/- The program's search of all states: its memory under way (laws 20, 38). (Printed by mkxe.py.) The states that the letters lead to: the program's neighbors (laws 20, 38). The search of all states, step by step towards its end (laws 20, 38). -/
import Derived.Test.YtclhblofchfglaaGreatRowTwoPhaseCertifiedG12
import Derived.Test.YtclhblofchfglaaGreatRowTwoPhaseCertifiedG14
import Derived.Test.YtclhblofchfglaaGreatRowTwoPhaseCertifiedG11
import Derived.Test.YtclhblofchfglaaGreatRowTwoPhaseCertifiedG6
import Derived.Test.YtclhblofchfglaaGreatRowTwoPhaseCertifiedG5
import Derived.Test.YtclhblofchfglaaGreatRowTwoPhaseCertifiedG10
namespace Go.Proofs.YtclhblofchfglaaGreat
open Go.RowKit
set_option maxRecDepth 10000

def xeF (g M : Nat) (us ud up uy un ur : Value) : List (List Nat) := [[g], [M], us.ownBlock.toList, ud.ownBlock.toList, up.ownBlock.toList, uy.ownBlock.toList, un.ownBlock.toList, ur.ownBlock.toList]
theorem ro_set {cs : List (List Nat)} {i b n : Nat} {c c' : List Nat} (h : b < n ∧ ∀ d ∈ cs, b ∉ d) (hi : cs[i]? = some c) (hn : ∀ b ∈ c', b ∈ c ∨ n ≤ b) : ∀ d ∈ cs.set i c', b ∉ d := by
  intro d hd hb
  rcases List.mem_or_eq_of_mem_set hd with h1 | rfl
  · exact h.2 d h1 hb
  · rcases hn b hb with h2 | h2
    · exact h.2 c (List.mem_of_getElem? hi) h2
    · omega
theorem own_nodup (v : Value) : v.ownBlock.toList.Nodup := by cases v.ownBlock <;> simp
/-- the exploration under way: its box g, its map M, its slices, the row at hand -/
structure XE (x : Puzzle) (v2 : Value) (w : World) (g M : Nat) (LM LS : List (List Int)) (D P Y : List Int) (N : List (List Int)) (R : List Int) (wr : World) (us ud up uy un ur : Value) (fs fn : List (List Nat)) (ex : List Nat) (W : World) : Prop where
  blk : Blk wr g [.int .i64 x.points, .string x.names, v2, us, ud, .map (some M), up, uy, un]
  st : Acc w.heap.size 25 wr us LS fs
  dp : AccI w.heap.size 2 wr ud D
  pa : AccI w.heap.size 2 wr up P
  by_ : AccI w.heap.size 2 wr uy Y
  nx : Acc w.heap.size 25 wr un N fn
  rw_ : AccI w.heap.size 2 wr ur R
  mp : Mq wr M LM.length (firstG LM)
  fam : Fam w.heap.size wr (xeF g M us ud up uy un ur)
  ro : ∀ b ∈ fs.flatten ++ fn.flatten ++ ex, b < wr.heap.size ∧ ∀ c ∈ xeF g M us ud up uy un ur, b ∉ c
  kp : ∀ b ∈ ex, wr.heap[b]? = W.heap[b]?
  on : Only [] w wr
section
variable {x : Puzzle} {v2 : Value} {w : World} {g M : Nat} {LM LS : List (List Int)} {D P Y : List Int} {N : List (List Int)} {R : List Int} {wa wb wr w' : World} {us ud up uy un ur : Value} {fs fn : List (List Nat)} {ex : List Nat} {W : World}
theorem XE.keep (h : XE x v2 w g M LM LS D P Y N R wr us ud up uy un ur fs fn ex W) (ho : Only [] wr w') : XE x v2 w g M LM LS D P Y N R w' us ud up uy un ur fs fn ex W :=
  ⟨h.blk.keep ho, h.st.keep ho, h.dp.keep ho, h.pa.keep ho, h.by_.keep ho, h.nx.keep ho, h.rw_.keep ho, h.mp.keep ho, h.fam.keep ho.size, fun b hb => ⟨Nat.lt_of_lt_of_le (h.ro b hb).1 ho.size, (h.ro b hb).2⟩, fun b hb => (ho.block b (h.ro b (List.mem_append_right _ hb)).1 (by simp)).trans (h.kp b hb), h.on.trans ho⟩

theorem XE.push_us {us' : Value} {y : List Int} {f : List Nat} (h : XE x v2 w g M LM LS D P Y N R wa us ud up uy un ur fs fn ex W) (hA : Acc w.heap.size 25 wb us' (LS ++ [y]) (fs ++ [f])) (oA : Only us.ownBlock.toList wa wb) (nA : us'.ownBlock = us.ownBlock ∨ us'.ownBlock = some wa.heap.size) (hf : ∀ b ∈ f, b < wa.heap.size ∧ ∀ c ∈ xeF g M us ud up uy un ur, b ∉ c) : XE x v2 w g M LM (LS ++ [y]) D P Y N R (wb.setCell ⟨g, 3, none⟩ us') us' ud up uy un ur (fs ++ [f]) fn ex W := by
  have hB := h.on.size
  have hsz := oA.size
  have hd : ∀ (j : Nat) (c : List Nat), j ≠ 2 → (xeF g M us ud up uy un ur)[j]? = some c → ∀ b ∈ c, b ∉ us.ownBlock.toList := fun j c hj hc => h.fam.disj j 2 hj hc rfl
  have hn : ∀ b ∈ us'.ownBlock.toList, b ∈ us.ownBlock.toList ∨ (wa.heap.size ≤ b ∧ b < wb.heap.size) := fun b hb => by
    have hb' : us'.ownBlock = some b := by simpa using hb
    have hl := (hA.ownlt b hb').2
    rcases nA with e | e
    · left; rw [← e]; exact hb
    · right; rw [e] at hb'; injection hb' with hb'; omega
  have hro : ∀ b ∈ fs.flatten ++ fn.flatten ++ ex, b ∉ us.ownBlock.toList := fun b hb => (h.ro b hb).2 _ (List.mem_of_getElem? (i := 2) rfl)
  have f1 : Fam w.heap.size wb ((xeF g M us ud up uy un ur).set 2 us'.ownBlock.toList) := h.fam.set hsz hB 2 rfl (own_nodup _) hn

  have hro2 : ∀ b ∈ (fs ++ [f]).flatten ++ fn.flatten ++ ex, b < wb.heap.size ∧ ∀ c ∈ (xeF g M us ud up uy un ur).set 2 us'.ownBlock.toList, b ∉ c := fun b hb => by
    have hb2 : b < wa.heap.size ∧ ∀ c ∈ xeF g M us ud up uy un ur, b ∉ c := by
      rw [List.flatten_append] at hb
      simp only [List.flatten_cons, List.flatten_nil, List.append_nil, List.mem_append] at hb
      rcases hb with ((hb | hb) | hb) | hb
      · exact h.ro b (List.mem_append_left _ (List.mem_append_left _ hb))
      · exact hf b hb
      · exact h.ro b (List.mem_append_left _ (List.mem_append_right _ hb))
      · exact h.ro b (List.mem_append_right _ hb)
    exact ⟨by omega, ro_set (i := 2) hb2 rfl (fun q hq => (hn q hq).imp id (fun hh => hh.1))⟩
  have hkp : ∀ b ∈ ex, wb.heap[b]? = W.heap[b]? := fun b hb => (oA.block b (h.ro b (List.mem_append_right _ hb)).1 (hro b (List.mem_append_right _ hb))).trans (h.kp b hb)
  have hon : Only [] w wb := h.on.then_ oA (fun b hb hl => by have := h.fam.ge 2 rfl hb; omega)
  have hs : Only [g] wb (wb.setCell ⟨g, 3, none⟩ us') := (Only.refl _ _).setCell (by simp) _
  have hg0 : ∀ (j : Nat) (c : List Nat), j ≠ 0 → ((xeF g M us ud up uy un ur).set 2 us'.ownBlock.toList)[j]? = some c → ∀ b ∈ c, b ∉ [g] := fun j c hj hc => f1.disj j 0 hj hc rfl
  have hb9 := (h.blk.only oA (fun hm => hd 0 _ (by decide) rfl g (by simp) hm)).set 3 us'
  simp only [List.set] at hb9
  refine ⟨hb9, hA.only hs (fun b hb hm => (hro2 b (by first | exact List.mem_append_left _ (List.mem_append_left _ hb) | exact List.mem_append_left _ (List.mem_append_right _ hb))).2 [g] (List.mem_of_getElem? (i := 0) rfl) hm) (fun q hq hm => hg0 2 _ (by decide) rfl q (by simp [hq]) hm), (h.dp.only oA (fun q hq hm => hd 3 _ (by decide) rfl q (by simp [hq]) hm)).only hs (fun q hq hm => hg0 3 _ (by decide) rfl q (by simp [hq]) hm), (h.pa.only oA (fun q hq hm => hd 4 _ (by decide) rfl q (by simp [hq]) hm)).only hs (fun q hq hm => hg0 4 _ (by decide) rfl q (by simp [hq]) hm), (h.by_.only oA (fun q hq hm => hd 5 _ (by decide) rfl q (by simp [hq]) hm)).only hs (fun q hq hm => hg0 5 _ (by decide) rfl q (by simp [hq]) hm), (h.nx.only oA (fun b hb hm => hro b (by first | exact List.mem_append_left _ (List.mem_append_left _ hb) | exact List.mem_append_left _ (List.mem_append_right _ hb)) hm) (fun q hq hm => hd 6 _ (by decide) rfl q (by simp [hq]) hm)).only hs (fun b hb hm => (hro2 b (by first | exact List.mem_append_left _ (List.mem_append_left _ hb) | exact List.mem_append_left _ (List.mem_append_right _ hb))).2 [g] (List.mem_of_getElem? (i := 0) rfl) hm) (fun q hq hm => hg0 6 _ (by decide) rfl q (by simp [hq]) hm), (h.rw_.only oA (fun q hq hm => hd 7 _ (by decide) rfl q (by simp [hq]) hm)).only hs (fun q hq hm => hg0 7 _ (by decide) rfl q (by simp [hq]) hm), (h.mp.only oA (fun hm => hd 1 _ (by decide) rfl M (by simp) hm)).only hs (fun hm => hg0 1 _ (by decide) rfl M (by simp) hm), f1.keep hs.size, fun b hb => ⟨Nat.lt_of_lt_of_le (hro2 b hb).1 hs.size, (hro2 b hb).2⟩, fun b hb => (hs.block b (hro2 b (List.mem_append_right _ hb)).1 (fun hm => (hro2 b (List.mem_append_right _ hb)).2 [g] (List.mem_of_getElem? (i := 0) rfl) hm)).trans (hkp b hb), hon.then_ hs (fun b hb hl => by have := h.fam.ge 0 rfl (b := g) (by simp); simp at hb; omega)⟩
theorem XE.push_ud {ud' : Value} {n : Int} (h : XE x v2 w g M LM LS D P Y N R wa us ud up uy un ur fs fn ex W) (hA : AccI w.heap.size 2 wb ud' (D ++ [n])) (oA : Only ud.ownBlock.toList wa wb) (nA : ud'.ownBlock = ud.ownBlock ∨ ud'.ownBlock = some wa.heap.size) : XE x v2 w g M LM LS (D ++ [n]) P Y N R (wb.setCell ⟨g, 4, none⟩ ud') us ud' up uy un ur fs fn ex W := by
  have hB := h.on.size
  have hsz := oA.size
  have hd : ∀ (j : Nat) (c : List Nat), j ≠ 3 → (xeF g M us ud up uy un ur)[j]? = some c → ∀ b ∈ c, b ∉ ud.ownBlock.toList := fun j c hj hc => h.fam.disj j 3 hj hc rfl
  have hn : ∀ b ∈ ud'.ownBlock.toList, b ∈ ud.ownBlock.toList ∨ (wa.heap.size ≤ b ∧ b < wb.heap.size) := fun b hb => by
    have hb' : ud'.ownBlock = some b := by simpa using hb
    have hl := (hA.ownlt b hb').2
    rcases nA with e | e
    · left; rw [← e]; exact hb
    · right; rw [e] at hb'; injection hb' with hb'; omega
  have hro : ∀ b ∈ fs.flatten ++ fn.flatten ++ ex, b ∉ ud.ownBlock.toList := fun b hb => (h.ro b hb).2 _ (List.mem_of_getElem? (i := 3) rfl)
  have f1 : Fam w.heap.size wb ((xeF g M us ud up uy un ur).set 3 ud'.ownBlock.toList) := h.fam.set hsz hB 3 rfl (own_nodup _) hn

  have hro2 : ∀ b ∈ fs.flatten ++ fn.flatten ++ ex, b < wb.heap.size ∧ ∀ c ∈ (xeF g M us ud up uy un ur).set 3 ud'.ownBlock.toList, b ∉ c := fun b hb => by
    have h2 := (h.ro b hb).1
    exact ⟨by omega, ro_set (i := 3) (h.ro b hb) rfl (fun q hq => (hn q hq).imp id (fun hh => hh.1))⟩
  have hkp : ∀ b ∈ ex, wb.heap[b]? = W.heap[b]? := fun b hb => (oA.block b (h.ro b (List.mem_append_right _ hb)).1 (hro b (List.mem_append_right _ hb))).trans (h.kp b hb)
  have hon : Only [] w wb := h.on.then_ oA (fun b hb hl => by have := h.fam.ge 3 rfl hb; omega)
  have hs : Only [g] wb (wb.setCell ⟨g, 4, none⟩ ud') := (Only.refl _ _).setCell (by simp) _
  have hg0 : ∀ (j : Nat) (c : List Nat), j ≠ 0 → ((xeF g M us ud up uy un ur).set 3 ud'.ownBlock.toList)[j]? = some c → ∀ b ∈ c, b ∉ [g] := fun j c hj hc => f1.disj j 0 hj hc rfl
  have hb9 := (h.blk.only oA (fun hm => hd 0 _ (by decide) rfl g (by simp) hm)).set 4 ud'
  simp only [List.set] at hb9
  refine ⟨hb9, (h.st.only oA (fun b hb hm => hro b (by first | exact List.mem_append_left _ (List.mem_append_left _ hb) | exact List.mem_append_left _ (List.mem_append_right _ hb)) hm) (fun q hq hm => hd 2 _ (by decide) rfl q (by simp [hq]) hm)).only hs (fun b hb hm => (hro2 b (by first | exact List.mem_append_left _ (List.mem_append_left _ hb) | exact List.mem_append_left _ (List.mem_append_right _ hb))).2 [g] (List.mem_of_getElem? (i := 0) rfl) hm) (fun q hq hm => hg0 2 _ (by decide) rfl q (by simp [hq]) hm), hA.only hs (fun q hq hm => hg0 3 _ (by decide) rfl q (by simp [hq]) hm), (h.pa.only oA (fun q hq hm => hd 4 _ (by decide) rfl q (by simp [hq]) hm)).only hs (fun q hq hm => hg0 4 _ (by decide) rfl q (by simp [hq]) hm), (h.by_.only oA (fun q hq hm => hd 5 _ (by decide) rfl q (by simp [hq]) hm)).only hs (fun q hq hm => hg0 5 _ (by decide) rfl q (by simp [hq]) hm), (h.nx.only oA (fun b hb hm => hro b (by first | exact List.mem_append_left _ (List.mem_append_left _ hb) | exact List.mem_append_left _ (List.mem_append_right _ hb)) hm) (fun q hq hm => hd 6 _ (by decide) rfl q (by simp [hq]) hm)).only hs (fun b hb hm => (hro2 b (by first | exact List.mem_append_left _ (List.mem_append_left _ hb) | exact List.mem_append_left _ (List.mem_append_right _ hb))).2 [g] (List.mem_of_getElem? (i := 0) rfl) hm) (fun q hq hm => hg0 6 _ (by decide) rfl q (by simp [hq]) hm), (h.rw_.only oA (fun q hq hm => hd 7 _ (by decide) rfl q (by simp [hq]) hm)).only hs (fun q hq hm => hg0 7 _ (by decide) rfl q (by simp [hq]) hm), (h.mp.only oA (fun hm => hd 1 _ (by decide) rfl M (by simp) hm)).only hs (fun hm => hg0 1 _ (by decide) rfl M (by simp) hm), f1.keep hs.size, fun b hb => ⟨Nat.lt_of_lt_of_le (hro2 b hb).1 hs.size, (hro2 b hb).2⟩, fun b hb => (hs.block b (hro2 b (List.mem_append_right _ hb)).1 (fun hm => (hro2 b (List.mem_append_right _ hb)).2 [g] (List.mem_of_getElem? (i := 0) rfl) hm)).trans (hkp b hb), hon.then_ hs (fun b hb hl => by have := h.fam.ge 0 rfl (b := g) (by simp); simp at hb; omega)⟩
theorem XE.push_up {up' : Value} {n : Int} (h : XE x v2 w g M LM LS D P Y N R wa us ud up uy un ur fs fn ex W) (hA : AccI w.heap.size 2 wb up' (P ++ [n])) (oA : Only up.ownBlock.toList wa wb) (nA : up'.ownBlock = up.ownBlock ∨ up'.ownBlock = some wa.heap.size) : XE x v2 w g M LM LS D (P ++ [n]) Y N R (wb.setCell ⟨g, 6, none⟩ up') us ud up' uy un ur fs fn ex W := by
  have hB := h.on.size
  have hsz := oA.size
  have hd : ∀ (j : Nat) (c : List Nat), j ≠ 4 → (xeF g M us ud up uy un ur)[j]? = some c → ∀ b ∈ c, b ∉ up.ownBlock.toList := fun j c hj hc => h.fam.disj j 4 hj hc rfl
  have hn : ∀ b ∈ up'.ownBlock.toList, b ∈ up.ownBlock.toList ∨ (wa.heap.size ≤ b ∧ b < wb.heap.size) := fun b hb => by
    have hb' : up'.ownBlock = some b := by simpa using hb
    have hl := (hA.ownlt b hb').2
    rcases nA with e | e
    · left; rw [← e]; exact hb
    · right; rw [e] at hb'; injection hb' with hb'; omega
  have hro : ∀ b ∈ fs.flatten ++ fn.flatten ++ ex, b ∉ up.ownBlock.toList := fun b hb => (h.ro b hb).2 _ (List.mem_of_getElem? (i := 4) rfl)
  have f1 : Fam w.heap.size wb ((xeF g M us ud up uy un ur).set 4 up'.ownBlock.toList) := h.fam.set hsz hB 4 rfl (own_nodup _) hn

  have hro2 : ∀ b ∈ fs.flatten ++ fn.flatten ++ ex, b < wb.heap.size ∧ ∀ c ∈ (xeF g M us ud up uy un ur).set 4 up'.ownBlock.toList, b ∉ c := fun b hb => by
    have h2 := (h.ro b hb).1
    exact ⟨by omega, ro_set (i := 4) (h.ro b hb) rfl (fun q hq => (hn q hq).imp id (fun hh => hh.1))⟩
  have hkp : ∀ b ∈ ex, wb.heap[b]? = W.heap[b]? := fun b hb => (oA.block b (h.ro b (List.mem_append_right _ hb)).1 (hro b (List.mem_append_right _ hb))).trans (h.kp b hb)
  have hon : Only [] w wb := h.on.then_ oA (fun b hb hl => by have := h.fam.ge 4 rfl hb; omega)
  have hs : Only [g] wb (wb.setCell ⟨g, 6, none⟩ up') := (Only.refl _ _).setCell (by simp) _
  have hg0 : ∀ (j : Nat) (c : List Nat), j ≠ 0 → ((xeF g M us ud up uy un ur).set 4 up'.ownBlock.toList)[j]? = some c → ∀ b ∈ c, b ∉ [g] := fun j c hj hc => f1.disj j 0 hj hc rfl
  have hb9 := (h.blk.only oA (fun hm => hd 0 _ (by decide) rfl g (by simp) hm)).set 6 up'
  simp only [List.set] at hb9
  refine ⟨hb9, (h.st.only oA (fun b hb hm => hro b (by first | exact List.mem_append_left _ (List.mem_append_left _ hb) | exact List.mem_append_left _ (List.mem_append_right _ hb)) hm) (fun q hq hm => hd 2 _ (by decide) rfl q (by simp [hq]) hm)).only hs (fun b hb hm => (hro2 b (by first | exact List.mem_append_left _ (List.mem_append_left _ hb) | exact List.mem_append_left _ (List.mem_append_right _ hb))).2 [g] (List.mem_of_getElem? (i := 0) rfl) hm) (fun q hq hm => hg0 2 _ (by decide) rfl q (by simp [hq]) hm), (h.dp.only oA (fun q hq hm => hd 3 _ (by decide) rfl q (by simp [hq]) hm)).only hs (fun q hq hm => hg0 3 _ (by decide) rfl q (by simp [hq]) hm), hA.only hs (fun q hq hm => hg0 4 _ (by decide) rfl q (by simp [hq]) hm), (h.by_.only oA (fun q hq hm => hd 5 _ (by decide) rfl q (by simp [hq]) hm)).only hs (fun q hq hm => hg0 5 _ (by decide) rfl q (by simp [hq]) hm), (h.nx.only oA (fun b hb hm => hro b (by first | exact List.mem_append_left _ (List.mem_append_left _ hb) | exact List.mem_append_left _ (List.mem_append_right _ hb)) hm) (fun q hq hm => hd 6 _ (by decide) rfl q (by simp [hq]) hm)).only hs (fun b hb hm => (hro2 b (by first | exact List.mem_append_left _ (List.mem_append_left _ hb) | exact List.mem_append_left _ (List.mem_append_right _ hb))).2 [g] (List.mem_of_getElem? (i := 0) rfl) hm) (fun q hq hm => hg0 6 _ (by decide) rfl q (by simp [hq]) hm), (h.rw_.only oA (fun q hq hm => hd 7 _ (by decide) rfl q (by simp [hq]) hm)).only hs (fun q hq hm => hg0 7 _ (by decide) rfl q (by simp [hq]) hm), (h.mp.only oA (fun hm => hd 1 _ (by decide) rfl M (by simp) hm)).only hs (fun hm => hg0 1 _ (by decide) rfl M (by simp) hm), f1.keep hs.size, fun b hb => ⟨Nat.lt_of_lt_of_le (hro2 b hb).1 hs.size, (hro2 b hb).2⟩, fun b hb => (hs.block b (hro2 b (List.mem_append_right _ hb)).1 (fun hm => (hro2 b (List.mem_append_right _ hb)).2 [g] (List.mem_of_getElem? (i := 0) rfl) hm)).trans (hkp b hb), hon.then_ hs (fun b hb hl => by have := h.fam.ge 0 rfl (b := g) (by simp); simp at hb; omega)⟩
theorem XE.push_uy {uy' : Value} {n : Int} (h : XE x v2 w g M LM LS D P Y N R wa us ud up uy un ur fs fn ex W) (hA : AccI w.heap.size 2 wb uy' (Y ++ [n])) (oA : Only uy.ownBlock.toList wa wb) (nA : uy'.ownBlock = uy.ownBlock ∨ uy'.ownBlock = some wa.heap.size) : XE x v2 w g M LM LS D P (Y ++ [n]) N R (wb.setCell ⟨g, 7, none⟩ uy') us ud up uy' un ur fs fn ex W := by
  have hB := h.on.size
  have hsz := oA.size
  have hd : ∀ (j : Nat) (c : List Nat), j ≠ 5 → (xeF g M us ud up uy un ur)[j]? = some c → ∀ b ∈ c, b ∉ uy.ownBlock.toList := fun j c hj hc => h.fam.disj j 5 hj hc rfl
  have hn : ∀ b ∈ uy'.ownBlock.toList, b ∈ uy.ownBlock.toList ∨ (wa.heap.size ≤ b ∧ b < wb.heap.size) := fun b hb => by
    have hb' : uy'.ownBlock = some b := by simpa using hb
    have hl := (hA.ownlt b hb').2
    rcases nA with e | e
    · left; rw [← e]; exact hb
    · right; rw [e] at hb'; injection hb' with hb'; omega
  have hro : ∀ b ∈ fs.flatten ++ fn.flatten ++ ex, b ∉ uy.ownBlock.toList := fun b hb => (h.ro b hb).2 _ (List.mem_of_getElem? (i := 5) rfl)
  have f1 : Fam w.heap.size wb ((xeF g M us ud up uy un ur).set 5 uy'.ownBlock.toList) := h.fam.set hsz hB 5 rfl (own_nodup _) hn

  have hro2 : ∀ b ∈ fs.flatten ++ fn.flatten ++ ex, b < wb.heap.size ∧ ∀ c ∈ (xeF g M us ud up uy un ur).set 5 uy'.ownBlock.toList, b ∉ c := fun b hb => by
    have h2 := (h.ro b hb).1
    exact ⟨by omega, ro_set (i := 5) (h.ro b hb) rfl (fun q hq => (hn q hq).imp id (fun hh => hh.1))⟩
  have hkp : ∀ b ∈ ex, wb.heap[b]? = W.heap[b]? := fun b hb => (oA.block b (h.ro b (List.mem_append_right _ hb)).1 (hro b (List.mem_append_right _ hb))).trans (h.kp b hb)
  have hon : Only [] w wb := h.on.then_ oA (fun b hb hl => by have := h.fam.ge 5 rfl hb; omega)
  have hs : Only [g] wb (wb.setCell ⟨g, 7, none⟩ uy') := (Only.refl _ _).setCell (by simp) _
  have hg0 : ∀ (j : Nat) (c : List Nat), j ≠ 0 → ((xeF g M us ud up uy un ur).set 5 uy'.ownBlock.toList)[j]? = some c → ∀ b ∈ c, b ∉ [g] := fun j c hj hc => f1.disj j 0 hj hc rfl
  have hb9 := (h.blk.only oA (fun hm => hd 0 _ (by decide) rfl g (by simp) hm)).set 7 uy'
  simp only [List.set] at hb9
  refine ⟨hb9, (h.st.only oA (fun b hb hm => hro b (by first | exact List.mem_append_left _ (List.mem_append_left _ hb) | exact List.mem_append_left _ (List.mem_append_right _ hb)) hm) (fun q hq hm => hd 2 _ (by decide) rfl q (by simp [hq]) hm)).only hs (fun b hb hm => (hro2 b (by first | exact List.mem_append_left _ (List.mem_append_left _ hb) | exact List.mem_append_left _ (List.mem_append_right _ hb))).2 [g] (List.mem_of_getElem? (i := 0) rfl) hm) (fun q hq hm => hg0 2 _ (by decide) rfl q (by simp [hq]) hm), (h.dp.only oA (fun q hq hm => hd 3 _ (by decide) rfl q (by simp [hq]) hm)).only hs (fun q hq hm => hg0 3 _ (by decide) rfl q (by simp [hq]) hm), (h.pa.only oA (fun q hq hm => hd 4 _ (by decide) rfl q (by simp [hq]) hm)).only hs (fun q hq hm => hg0 4 _ (by decide) rfl q (by simp [hq]) hm), hA.only hs (fun q hq hm => hg0 5 _ (by decide) rfl q (by simp [hq]) hm), (h.nx.only oA (fun b hb hm => hro b (by first | exact List.mem_append_left _ (List.mem_append_left _ hb) | exact List.mem_append_left _ (List.mem_append_right _ hb)) hm) (fun q hq hm => hd 6 _ (by decide) rfl q (by simp [hq]) hm)).only hs (fun b hb hm => (hro2 b (by first | exact List.mem_append_left _ (List.mem_append_left _ hb) | exact List.mem_append_left _ (List.mem_append_right _ hb))).2 [g] (List.mem_of_getElem? (i := 0) rfl) hm) (fun q hq hm => hg0 6 _ (by decide) rfl q (by simp [hq]) hm), (h.rw_.only oA (fun q hq hm => hd 7 _ (by decide) rfl q (by simp [hq]) hm)).only hs (fun q hq hm => hg0 7 _ (by decide) rfl q (by simp [hq]) hm), (h.mp.only oA (fun hm => hd 1 _ (by decide) rfl M (by simp) hm)).only hs (fun hm => hg0 1 _ (by decide) rfl M (by simp) hm), f1.keep hs.size, fun b hb => ⟨Nat.lt_of_lt_of_le (hro2 b hb).1 hs.size, (hro2 b hb).2⟩, fun b hb => (hs.block b (hro2 b (List.mem_append_right _ hb)).1 (fun hm => (hro2 b (List.mem_append_right _ hb)).2 [g] (List.mem_of_getElem? (i := 0) rfl) hm)).trans (hkp b hb), hon.then_ hs (fun b hb hl => by have := h.fam.ge 0 rfl (b := g) (by simp); simp at hb; omega)⟩
theorem XE.push_un {un' : Value} (h : XE x v2 w g M LM LS D P Y N R wa us ud up uy un ur fs fn ex W) (hA : Acc w.heap.size 25 wb un' (N ++ [R]) (fn ++ [ur.ownBlock.toList])) (oA : Only un.ownBlock.toList wa wb) (nA : un'.ownBlock = un.ownBlock ∨ un'.ownBlock = some wa.heap.size) : XE x v2 w g M LM LS D P Y (N ++ [R]) [] (wb.setCell ⟨g, 8, none⟩ un') us ud up uy un' (.slice none 0 0) fs (fn ++ [ur.ownBlock.toList]) ex W := by
  have hB := h.on.size
  have hsz := oA.size
  have hd : ∀ (j : Nat) (c : List Nat), j ≠ 6 → (xeF g M us ud up uy un ur)[j]? = some c → ∀ b ∈ c, b ∉ un.ownBlock.toList := fun j c hj hc => h.fam.disj j 6 hj hc rfl
  have hn : ∀ b ∈ un'.ownBlock.toList, b ∈ un.ownBlock.toList ∨ (wa.heap.size ≤ b ∧ b < wb.heap.size) := fun b hb => by
    have hb' : un'.ownBlock = some b := by simpa using hb
    have hl := (hA.ownlt b hb').2
    rcases nA with e | e
    · left; rw [← e]; exact hb
    · right; rw [e] at hb'; injection hb' with hb'; omega
  have hro : ∀ b ∈ fs.flatten ++ fn.flatten ++ ex, b ∉ un.ownBlock.toList := fun b hb => (h.ro b hb).2 _ (List.mem_of_getElem? (i := 6) rfl)
  have f1 : Fam w.heap.size wb ((xeF g M us ud up uy un ur).set 6 un'.ownBlock.toList) := h.fam.set hsz hB 6 rfl (own_nodup _) hn

  have f2 : Fam w.heap.size wb (((xeF g M us ud up uy un ur).set 6 un'.ownBlock.toList).set 7 []) := f1.set (Nat.le_refl _) (by omega) 7 rfl (by simp) (by simp)
  have hur : ∀ b ∈ ur.ownBlock.toList, b < wb.heap.size ∧ ∀ c ∈ ((xeF g M us ud up uy un ur).set 6 un'.ownBlock.toList).set 7 [], b ∉ c := fun b hb => by
    refine ⟨f1.lt 7 rfl hb, fun c hc hm => ?_⟩
    obtain ⟨j, hj⟩ := List.getElem?_of_mem hc
    by_cases h7 : j = 7
    · subst h7
      have : c = [] := by simpa [xeF] using hj.symm
      subst this; cases hm
    · rw [List.getElem?_set_ne (by omega)] at hj
      exact f1.disj 7 j (by omega) rfl hj b hb hm
  have hro2 : ∀ b ∈ fs.flatten ++ (fn ++ [ur.ownBlock.toList]).flatten ++ ex, b < wb.heap.size ∧ ∀ c ∈ ((xeF g M us ud up uy un ur).set 6 un'.ownBlock.toList).set 7 [], b ∉ c := fun b hb => by
    rw [List.flatten_append] at hb
    simp only [List.flatten_cons, List.flatten_nil, List.append_nil, List.mem_append] at hb
    have hold : b ∈ fs.flatten ++ fn.flatten ++ ex → b < wb.heap.size ∧ ∀ c ∈ ((xeF g M us ud up uy un ur).set 6 un'.ownBlock.toList).set 7 [], b ∉ c := fun hb => by
      have h1 := ro_set (i := 6) (c' := un'.ownBlock.toList) (h.ro b hb) rfl (fun q hq => (hn q hq).imp id (fun hh => hh.1))
      have h2 := (h.ro b hb).1
      refine ⟨by omega, fun c hc hm => ?_⟩
      rcases List.mem_or_eq_of_mem_set hc with h3 | rfl
      · exact h1 c h3 hm
      · cases hm
    rcases hb with (hb | hb | hb) | hb
    · exact hold (List.mem_append_left _ (List.mem_append_left _ hb))
    · exact hold (List.mem_append_left _ (List.mem_append_right _ hb))
    · exact hur b hb
    · exact hold (List.mem_append_right _ hb)
  have hkp : ∀ b ∈ ex, wb.heap[b]? = W.heap[b]? := fun b hb => (oA.block b (h.ro b (List.mem_append_right _ hb)).1 (hro b (List.mem_append_right _ hb))).trans (h.kp b hb)
  have hon : Only [] w wb := h.on.then_ oA (fun b hb hl => by have := h.fam.ge 6 rfl hb; omega)
  have hs : Only [g] wb (wb.setCell ⟨g, 8, none⟩ un') := (Only.refl _ _).setCell (by simp) _
  have hg0 : ∀ (j : Nat) (c : List Nat), j ≠ 0 → (((xeF g M us ud up uy un ur).set 6 un'.ownBlock.toList).set 7 [])[j]? = some c → ∀ b ∈ c, b ∉ [g] := fun j c hj hc => f2.disj j 0 hj hc rfl
  have hb9 := (h.blk.only oA (fun hm => hd 0 _ (by decide) rfl g (by simp) hm)).set 8 un'
  simp only [List.set] at hb9
  refine ⟨hb9, (h.st.only oA (fun b hb hm => hro b (by first | exact List.mem_append_left _ (List.mem_append_left _ hb) | exact List.mem_append_left _ (List.mem_append_right _ hb)) hm) (fun q hq hm => hd 2 _ (by decide) rfl q (by simp [hq]) hm)).only hs (fun b hb hm => (hro2 b (by first | exact List.mem_append_left _ (List.mem_append_left _ hb) | exact List.mem_append_left _ (List.mem_append_right _ hb))).2 [g] (List.mem_of_getElem? (i := 0) rfl) hm) (fun q hq hm => hg0 2 _ (by decide) rfl q (by simp [hq]) hm), (h.dp.only oA (fun q hq hm => hd 3 _ (by decide) rfl q (by simp [hq]) hm)).only hs (fun q hq hm => hg0 3 _ (by decide) rfl q (by simp [hq]) hm), (h.pa.only oA (fun q hq hm => hd 4 _ (by decide) rfl q (by simp [hq]) hm)).only hs (fun q hq hm => hg0 4 _ (by decide) rfl q (by simp [hq]) hm), (h.by_.only oA (fun q hq hm => hd 5 _ (by decide) rfl q (by simp [hq]) hm)).only hs (fun q hq hm => hg0 5 _ (by decide) rfl q (by simp [hq]) hm), hA.only hs (fun b hb hm => (hro2 b (by first | exact List.mem_append_left _ (List.mem_append_left _ hb) | exact List.mem_append_left _ (List.mem_append_right _ hb))).2 [g] (List.mem_of_getElem? (i := 0) rfl) hm) (fun q hq hm => hg0 6 _ (by decide) rfl q (by simp [hq]) hm), AccI.nil _ _ _, (h.mp.only oA (fun hm => hd 1 _ (by decide) rfl M (by simp) hm)).only hs (fun hm => hg0 1 _ (by decide) rfl M (by simp) hm), f2.keep hs.size, fun b hb => ⟨Nat.lt_of_lt_of_le (hro2 b hb).1 hs.size, (hro2 b hb).2⟩, fun b hb => (hs.block b (hro2 b (List.mem_append_right _ hb)).1 (fun hm => (hro2 b (List.mem_append_right _ hb)).2 [g] (List.mem_of_getElem? (i := 0) rfl) hm)).trans (hkp b hb), hon.then_ hs (fun b hb hl => by have := h.fam.ge 0 rfl (b := g) (by simp); simp at hb; omega)⟩
theorem XE.push_ur {ur' : Value} {n : Int} (h : XE x v2 w g M LM LS D P Y N R wa us ud up uy un ur fs fn ex W) (hA : AccI w.heap.size 2 wb ur' (R ++ [n])) (oA : Only ur.ownBlock.toList wa wb) (nA : ur'.ownBlock = ur.ownBlock ∨ ur'.ownBlock = some wa.heap.size) : XE x v2 w g M LM LS D P Y N (R ++ [n]) wb us ud up uy un ur' fs fn ex W := by
  have hB := h.on.size
  have hsz := oA.size
  have hd : ∀ (j : Nat) (c : List Nat), j ≠ 7 → (xeF g M us ud up uy un ur)[j]? = some c → ∀ b ∈ c, b ∉ ur.ownBlock.toList := fun j c hj hc => h.fam.disj j 7 hj hc rfl
  have hn : ∀ b ∈ ur'.ownBlock.toList, b ∈ ur.ownBlock.toList ∨ (wa.heap.size ≤ b ∧ b < wb.heap.size) := fun b hb => by
    have hb' : ur'.ownBlock = some b := by simpa using hb
    have hl := (hA.ownlt b hb').2
    rcases nA with e | e
    · left; rw [← e]; exact hb
    · right; rw [e] at hb'; injection hb' with hb'; omega
  have hro : ∀ b ∈ fs.flatten ++ fn.flatten ++ ex, b ∉ ur.ownBlock.toList := fun b hb => (h.ro b hb).2 _ (List.mem_of_getElem? (i := 7) rfl)
  have f1 : Fam w.heap.size wb ((xeF g M us ud up uy un ur).set 7 ur'.ownBlock.toList) := h.fam.set hsz hB 7 rfl (own_nodup _) hn

  have hro2 : ∀ b ∈ fs.flatten ++ fn.flatten ++ ex, b < wb.heap.size ∧ ∀ c ∈ (xeF g M us ud up uy un ur).set 7 ur'.ownBlock.toList, b ∉ c := fun b hb => by
    have h2 := (h.ro b hb).1
    exact ⟨by omega, ro_set (i := 7) (h.ro b hb) rfl (fun q hq => (hn q hq).imp id (fun hh => hh.1))⟩
  have hkp : ∀ b ∈ ex, wb.heap[b]? = W.heap[b]? := fun b hb => (oA.block b (h.ro b (List.mem_append_right _ hb)).1 (hro b (List.mem_append_right _ hb))).trans (h.kp b hb)
  have hon : Only [] w wb := h.on.then_ oA (fun b hb hl => by have := h.fam.ge 7 rfl hb; omega)
  exact ⟨(h.blk.only oA (fun hm => hd 0 _ (by decide) rfl g (by simp) hm)), (h.st.only oA (fun b hb hm => hro b (by first | exact List.mem_append_left _ (List.mem_append_left _ hb) | exact List.mem_append_left _ (List.mem_append_right _ hb)) hm) (fun q hq hm => hd 2 _ (by decide) rfl q (by simp [hq]) hm)), (h.dp.only oA (fun q hq hm => hd 3 _ (by decide) rfl q (by simp [hq]) hm)), (h.pa.only oA (fun q hq hm => hd 4 _ (by decide) rfl q (by simp [hq]) hm)), (h.by_.only oA (fun q hq hm => hd 5 _ (by decide) rfl q (by simp [hq]) hm)), (h.nx.only oA (fun b hb hm => hro b (by first | exact List.mem_append_left _ (List.mem_append_left _ hb) | exact List.mem_append_left _ (List.mem_append_right _ hb)) hm) (fun q hq hm => hd 6 _ (by decide) rfl q (by simp [hq]) hm)), hA, (h.mp.only oA (fun hm => hd 1 _ (by decide) rfl M (by simp) hm)), f1, hro2, hkp, hon⟩
theorem XE.put {LM' : List (List Int)} (h : XE x v2 w g M LM LS D P Y N R wa us ud up uy un ur fs fn ex W) (ho : Only [M] wa wb) (hm : Mq wb M LM'.length (firstG LM')) : XE x v2 w g M LM' LS D P Y N R wb us ud up uy un ur fs fn ex W := by
  have hsz := ho.size
  have hd : ∀ (j : Nat) (c : List Nat), j ≠ 1 → (xeF g M us ud up uy un ur)[j]? = some c → ∀ b ∈ c, b ∉ [M] := fun j c hj hc => h.fam.disj j 1 hj hc rfl
  have hro : ∀ b ∈ fs.flatten ++ fn.flatten ++ ex, b ∉ [M] := fun b hb => (h.ro b hb).2 _ (List.mem_of_getElem? (i := 1) rfl)
  exact ⟨(h.blk.only ho (fun hm => hd 0 _ (by decide) rfl g (by simp) hm)), (h.st.only ho (fun b hb hm => hro b (by first | exact List.mem_append_left _ (List.mem_append_left _ hb) | exact List.mem_append_left _ (List.mem_append_right _ hb)) hm) (fun q hq hm => hd 2 _ (by decide) rfl q (by simp [hq]) hm)), (h.dp.only ho (fun q hq hm => hd 3 _ (by decide) rfl q (by simp [hq]) hm)), (h.pa.only ho (fun q hq hm => hd 4 _ (by decide) rfl q (by simp [hq]) hm)), (h.by_.only ho (fun q hq hm => hd 5 _ (by decide) rfl q (by simp [hq]) hm)), (h.nx.only ho (fun b hb hm => hro b (by first | exact List.mem_append_left _ (List.mem_append_left _ hb) | exact List.mem_append_left _ (List.mem_append_right _ hb)) hm) (fun q hq hm => hd 6 _ (by decide) rfl q (by simp [hq]) hm)), (h.rw_.only ho (fun q hq hm => hd 7 _ (by decide) rfl q (by simp [hq]) hm)), hm, h.fam.keep hsz, fun b hb => ⟨Nat.lt_of_lt_of_le (h.ro b hb).1 hsz, (h.ro b hb).2⟩, fun b hb => (ho.block b (h.ro b (List.mem_append_right _ hb)).1 (hro b (List.mem_append_right _ hb))).trans (h.kp b hb), h.on.then_ ho (fun b hb hl => by have := h.fam.ge 1 rfl (b := M) (by simp); simp at hb; omega)⟩
theorem XE.row0 (h : XE x v2 w g M LM LS D P Y N R wr us ud up uy un ur fs fn ex W) : XE x v2 w g M LM LS D P Y N [] wr us ud up uy un (.slice none 0 0) fs fn ex W := by
  refine ⟨h.blk, h.st, h.dp, h.pa, h.by_, h.nx, AccI.nil _ _ _, h.mp, ?_, fun b hb => ⟨(h.ro b hb).1, fun c hc => ?_⟩, h.kp, h.on⟩
  · exact h.fam.set (c' := []) (Nat.le_refl _) h.on.size 7 rfl (by simp) (by simp)
  · have hc' : c ∈ (xeF g M us ud up uy un ur).set 7 [] := hc
    rcases List.mem_or_eq_of_mem_set hc' with h3 | rfl
    · exact (h.ro b hb).2 c h3
    · simp
/-- more memory that stays as it is -/
theorem XE.hold (h : XE x v2 w g M LM LS D P Y N R wr us ud up uy un ur fs fn ex W) (ho : Only [] wr w') {f : List Nat} (hf : ∀ b ∈ f, wr.heap.size ≤ b ∧ b < w'.heap.size) : XE x v2 w g M LM LS D P Y N R w' us ud up uy un ur fs fn (ex ++ f) w' := by
  have h1 := h.keep ho
  refine ⟨h1.blk, h1.st, h1.dp, h1.pa, h1.by_, h1.nx, h1.rw_, h1.mp, h1.fam, fun b hb => ?_, fun _ _ => rfl, h1.on⟩
  rw [← List.append_assoc] at hb
  rcases List.mem_append.1 hb with hb | hb
  · exact h1.ro b hb
  · refine ⟨(hf b hb).2, fun c hc hm => ?_⟩
    obtain ⟨j, hj⟩ := List.getElem?_of_mem hc
    have := h.fam.lt j hj hm
    have := (hf b hb).1
    omega
theorem XE.drop {f : List Nat} {W' : World} (h : XE x v2 w g M LM LS D P Y N R wr us ud up uy un ur fs fn (ex ++ f) W') (hW : ∀ b ∈ ex, W'.heap[b]? = W.heap[b]?) : XE x v2 w g M LM LS D P Y N R wr us ud up uy un ur fs fn ex W :=
  ⟨h.blk, h.st, h.dp, h.pa, h.by_, h.nx, h.rw_, h.mp, h.fam, fun b hb => h.ro b (by rw [← List.append_assoc]; exact List.mem_append_left _ hb), fun b hb => (h.kp b (List.mem_append_left _ hb)).trans (hW b hb), h.on⟩
theorem XE.held (h : XE x v2 w g M LM LS D P Y N R wr us ud up uy un ur fs fn ex W) {α : Type} [Rp α] {cs : List Value} {y : α} {fp : List Nat} (hr : Rp.rep W cs y fp) (hf : ∀ b ∈ fp, b ∈ ex) : Rp.rep wr cs y fp := Rp.frame hr fun b hb => h.kp b (hf b hb)
theorem XE.blkA {v : Value} {i : Nat} (h : XE x v2 w g M LM LS D P Y N R wa us ud up uy un ur fs fn ex W) (hi : (xeF g M us ud up uy un ur)[i]? = some v.ownBlock.toList) (h0 : 0 ≠ i) (oA : Only v.ownBlock.toList wa wb) : Blk wb g [.int .i64 x.points, .string x.names, v2, us, ud, .map (some M), up, uy, un] :=
  h.blk.only oA (fun hm => h.fam.disj 0 i h0 rfl hi g (by simp) hm)
theorem XE.exA {v : Value} {i b : Nat} (h : XE x v2 w g M LM LS D P Y N R wa us ud up uy un ur fs fn ex W) (hi : (xeF g M us ud up uy un ur)[i]? = some v.ownBlock.toList) (hb : b ∈ ex) : v.ownBlock ≠ some b := fun e =>
  (h.ro b (List.mem_append_right _ hb)).2 _ (List.mem_of_getElem? hi) (by rw [e]; simp)
/-- older memory -/
theorem XE.old (h : XE x v2 w g M LM LS D P Y N R wr us ud up uy un ur fs fn ex W) {cs : List Value} {α : Type} [Rp α] {y : α} {fp : List Nat} (hr : Rp.rep w cs y fp) : Rp.rep wr cs y fp := Rp.keep hr h.on
end
end Go.Proofs.YtclhblofchfglaaGreat

namespace Go.Proofs.YtclhblofchfglaaGreat
open Go.RowKit
set_option maxRecDepth 10000

set_option maxHeartbeats 2000000 in
theorem neighbors_any (cs : List Value) (x : Puzzle) (fp : List Nat) (v : Value) (s : List Int) (f2 : List Nat) (w : World) (h : Rp.rep w cs x fp) (h2 : Rd w v s f2)
    (hv : validPz x = true) (hs : PM.PN x.points.toNat s) :
    Calls Tryz.prog 161 #[.agg cs.toArray, v] w fun e w' => ∃ v fp', e = .returned v ∧ Rd w' v ((ltrs x.moves.length).map (nxt x s)) fp' ∧ Fresh w.heap.size w' fp' ∧ Only [] w w' := by
  obtain ⟨v2, rfl, p0, p1, hm⟩ := h
  obtain ⟨AG, CG, ob, fps, rfl, -, -⟩ := hm.open_
  obtain ⟨g1, g2, g3, g4⟩ := validPz_facts hv
  obtain ⟨iL, hi, hz0, hz1, hz2⟩ := info_parts Tryz.info22
  have X0 := Blk.new w [.int .i64 x.points, .string x.names, .slice AG x.moves.length CG] 33
  simp only [List.toArray] at X0
  have x0 := X0.cell 2 rfl
  have hmv : ∀ g ∈ x.moves, PM.IsP g ∧ g.length ≤ 1000 := fun g hg => by have := g4 g hg; have := (permB_iff.1 this.2); exact ⟨this.2, by omega⟩
  have hpm := validPz_pn hv
  have Hpm := Lib.hid hpm
  have Hs := Lib.hid hs
  have hml : x.moves.length ≤ 1000 := by omega
  have hpt : x.points.toNat ≤ 1000 := by omega
  clear p0 p1 hv g4 hpm hs
  go_enter Tryz.func161, Tryz.ntmps161
  go_wp2_with (first
    | (go_at_call 118; (with_reducible refine (letters_any x.moves.length _ (by omega)).mono ?_); rintro e w1 ⟨u1, f1, rfl, r1, F1, t1⟩; obtain ⟨a1, c1, rfl, I1⟩ := r1.ints)
    | fail "no arm")
  have K1 : Only [] w w1 := (by with_reducible repeat (first | exact Only.refl _ _ | assumption | refine Only.drewN ?_ _ | refine Only.drew ?_ | refine Only.alloc ?_ _ | refine Only.setCell ?_ (by intro hh; exfalso; simp at hh; try omega) _ | refine Only.trans ?_ (by assumption)))
  have X1 := X0.keep t1
  obtain ⟨ls, hls⟩ : ∃ ls, ls = ltrs x.moves.length := ⟨_, rfl⟩
  rw [← hls] at I1 ⊢
  have Hls := Lib.hid hls
  have hll : ls.length ≤ 1000 := by rw [hls, ltrs_len]; omega
  clear hls r1 F1 x0
  go_loopw [5, 13] (fun o i wr => ∃ (j : Nat) (fs : List (List Nat)), j ≤ ls.length ∧ i = .int .i64 j ∧ Acc w1.heap.size 25 wr o ((ls.take j).map (nxt x s)) fs ∧ Fresh w1.heap.size wr fs.flatten ∧ Only [] w1 wr)
    (fun _ i _ => ls.length - (intOf i).toNat)
  case atStart => exact ⟨0, [], Nat.zero_le _, rfl, Acc.nil _ _ _, Fresh.nil _ _, Only.refl _ _⟩
  case round =>
    obtain ⟨W2, hnew⟩ : ∃ W, W = wr := ⟨_, rfl⟩
    subst hnew
    obtain ⟨j, fs, hj, rfl, hA, hF, hK⟩ := hrel
    by_cases hlt : j < ls.length
    · obtain ⟨b, off, rfl, -, hc0⟩ := I1.at_ j hlt
      have hc := hK.cell (by simp) hc0
      have hlj : ls[j] ∈ ltrs x.moves.length := by rw [← Hls.out]; exact List.getElem_mem hlt
      have Hlj := Lib.hid hlj
      have Hmp := Lib.hid (mv_pn Hpm.out hlj)
      have x0 := (X1.keep hK).cell 2 rfl
      have hh2 := Rp.keep hm (K1.trans hK)
      have hs2 := Rp.keep h2 (K1.trans hK)
      have Hsn := Lib.hid (show (ls.take (j + 1)).map (nxt x s) = (ls.take j).map (nxt x s) ++ [nxt x s ls[j]] by rw [take_succ_get ls j hlt, List.map_append]; rfl)
      have hB2 : w1.heap.size ≤ W2.heap.size := hK.size
      have hal : ((ls.take j).map (nxt x s)).length + 1 ≤ 1073741824 := by simp; omega
      clear hlj hc0
      go_wp2_with (first
        | (go_at_call 191; (with_reducible refine (letterOf_rd (.slice AG x.moves.length CG) x.moves ls[j] _ _ (Rp.keep hh2 (by with_reducible repeat (first | exact Only.refl _ _ | assumption | refine Only.drewN ?_ _ | refine Only.drew ?_ | refine Only.alloc ?_ _ | refine Only.setCell ?_ (by intro hh; exfalso; simp at hh; try omega) _ | refine Only.trans ?_ (by assumption)))) hmv Hlj.out hml).mono ?_); rintro e w5 ⟨u5, f5, rfl, r5, F5, t5⟩)
        | (go_at_call 190; (with_reducible refine (implCompose_rd x.points.toNat _ _ s (mv x.moves ls[j]) _ _ _ (Rp.keep hs2 (by with_reducible repeat (first | exact Only.refl _ _ | assumption | refine Only.drewN ?_ _ | refine Only.drew ?_ | refine Only.alloc ?_ _ | refine Only.setCell ?_ (by intro hh; exfalso; simp at hh; try omega) _ | refine Only.trans ?_ (by assumption)))) (Rp.keep r5 (by with_reducible repeat (first | exact Only.refl _ _ | assumption | refine Only.drewN ?_ _ | refine Only.drew ?_ | refine Only.alloc ?_ _ | refine Only.setCell ?_ (by intro hh; exfalso; simp at hh; try omega) _ | refine Only.trans ?_ (by assumption)))) Hs.out Hmp.out hpt).mono ?_); rintro e w6 ⟨u6, f6, rfl, r6, F6, t6⟩; obtain ⟨a6, c6, rfl, I6⟩ := r6.ints; clear I6; have r6' := Rp.keep r6 ((Only.refl [] w6).alloc (.cells #[.slice a6 (PM.comp s (mv x.moves ls[j])).length c6] 25)); have F6' := (F6.mono (B' := W2.heap.size) t5.size).keep ((Only.refl [] w6).alloc (.cells #[.slice a6 (PM.comp s (mv x.moves ls[j])).length c6] 25)); have k6 : Only [] W2 w6 := t5.trans t6; have kz := (hK.trans k6).alloc (.cells #[.slice a6 (PM.comp s (mv x.moves ls[j])).length c6] 25))
        | (at_builtin; refine wpList_pushF rfl _ _ 22 rfl w1.heap.size 25 iL _ 24 Tryz.underlying22 hi hz0 hz1 hz2 rfl (by decide) (by decide) W2 _ ((ls.take j).map (nxt x s)) fs rfl hA hF (k6.alloc _) hB2 w6.heap.size 1 [.slice a6 (PM.comp s (mv x.moves ls[j])).length c6] (PM.comp s (mv x.moves ls[j])) f6 rfl (lit_src w6 [.slice a6 (PM.comp s (mv x.moves ls[j])).length c6] _ rfl) (by intro u hu; simp at hu; subst hu; rfl) r6' F6' hal w1 kz (Nat.le_refl _) ?_; intro v9 w9 hA9 hF9 hK9 hW9)
        | fail "no arm")
      go_roundw
      case rel => exact ⟨j + 1, _, by omega, by go_num, by rw [Hsn.out]; exact hA9, hF9, hK9⟩
      case measure => simp [intOf]; omega
    · obtain rfl : j = ls.length := by omega
      rw [List.take_length] at hA
      have HA := Lib.hid hA
      clear hA
      go_wp2
      go_ret
      exact ⟨_, _, rfl, by rw [← Hls.out]; exact HA.out.rd (by decide), (HA.out.fresh hF).mono K1.size, K1.trans hK⟩
end Go.Proofs.YtclhblofchfglaaGreat

namespace Go.Proofs.YtclhblofchfglaaGreat
open Go.RowKit
set_option maxRecDepth 10000

theorem expl_bfs {x : Puzzle} {t : Table} (he : expl x = some t) : bFrom x 3001 0 ([PM.pts x.points.toNat], [0]) = some (t.patterns, t.distances) := by
  obtain ⟨hb, -⟩ := expl_built he
  obtain ⟨-, -, -, h4, -⟩ := bTab_facts he
  rwa [bfs16_yes (by rw [hb.v, pts_track hb.v]; rfl)] at h4
theorem bMeet_pre {s s' : Met16} {d : Int} {y : List Int} (h : bMeet s d y = some s') : s.1 <+: s'.1 ∧ s.2 <+: s'.2 := by
  unfold bMeet at h
  split at h
  · injection h with h; subst h; exact ⟨List.prefix_rfl, List.prefix_rfl⟩
  · split at h
    · cases h
    · injection h with h; subst h; exact ⟨List.prefix_append _ _, List.prefix_append _ _⟩
theorem bLets_pre {x : Puzzle} {q : List Int} {d : Int} : ∀ {ls : List Int} {s s' : Met16}, bLets x q d ls s = some s' → s.1 <+: s'.1 ∧ s.2 <+: s'.2
  | [], s, s', h => by unfold bLets at h; injection h with h; subst h; exact ⟨List.prefix_rfl, List.prefix_rfl⟩
  | l :: ls, s, s', h => by
    unfold bLets at h
    rw [Option.bind_eq_some_iff] at h
    obtain ⟨s1, e1, e2⟩ := h
    have a := bMeet_pre e1
    have b := bLets_pre e2
    exact ⟨a.1.trans b.1, a.2.trans b.2⟩
theorem bFrom_pre {x : Puzzle} : ∀ {n k : Nat} {s s' : Met16}, bFrom x n k s = some s' → s.1 <+: s'.1 ∧ s.2 <+: s'.2
  | 0, k, s, s', h => by unfold bFrom at h; injection h with h; subst h; exact ⟨List.prefix_rfl, List.prefix_rfl⟩
  | n + 1, k, s, s', h => by
    unfold bFrom at h
    split at h
    · rw [Option.bind_eq_some_iff] at h
      obtain ⟨s1, e1, e2⟩ := h
      have a := bLets_pre e1
      have b := bFrom_pre e2
      exact ⟨a.1.trans b.1, a.2.trans b.2⟩
    · injection h with h; subst h; exact ⟨List.prefix_rfl, List.prefix_rfl⟩
theorem bind_pre {x : Puzzle} {q : List Int} {d : Int} {ls : List Int} {n k : Nat} {s s' : Met16} (h : some s' = (bLets x q d ls s).bind (bFrom x n k)) : s.1 <+: s'.1 ∧ s.2 <+: s'.2 := by
  have h := h.symm
  rw [Option.bind_eq_some_iff] at h
  obtain ⟨s1, e1, e2⟩ := h
  have a := bLets_pre e1
  have b := bFrom_pre e2
  exact ⟨a.1.trans b.1, a.2.trans b.2⟩
theorem pre_getD {α : Type} {L T : List α} {i : Nat} {z : α} (h : L <+: T) (hi : i < L.length) : T.getD i z = L.getD i z := by
  obtain ⟨r, rfl⟩ := h
  rw [List.getD_eq_getElem?_getD, List.getD_eq_getElem?_getD, List.getElem?_append_left hi]
theorem idxL_at {L : List (List Int)} (hn : L.Nodup) {i : Nat} (hi : i < L.length) : idxL L (L.getD i []) = i := by
  refine idxF_some (j := i) hi (fun q hq => ?_) ?_
  · rw [List.mem_take_iff_getElem] at hq
    obtain ⟨k, hk, rfl⟩ := hq
    refine decide_eq_false fun e => ?_
    rw [getD_get hi] at e
    have := nodup_at hn (by omega) hi e
    omega
  · exact decide_eq_true (getD_get hi).symm
theorem firstG_put {L : List (List Int)} {s : List Int} (h : firstG L (kB s) = none) (z : ByteArray) : (if z = kB s then some (L.length : Int) else firstG L z) = firstG (L ++ [s]) z := by
  rw [firstG_snoc]
  by_cases e : z = kB s
  · subst e; rw [h]
  · rw [if_neg e]
    cases firstG L z with
    | some i => rfl
    | none => simp [e]
/-- the entries that a state's letters lead to -/
def rowT (x : Puzzle) (t : Table) (p : List Int) : List Int := (ltrs x.moves.length).map fun l => idxL t.patterns (nxt x p l)
section
variable {x : Puzzle} {t : Table} {L : List (List Int)} {s : List Int}
theorem expl_byt (he : expl x = some t) {p : List Int} (hp : p ∈ t.patterns) : Byt p := by
  obtain ⟨hb, -⟩ := expl_built he
  obtain ⟨i, hi, rfl⟩ := List.getElem_of_mem hp
  have := expl_pat he hi
  rw [getD_get hi] at this
  exact patB_byt this (by have := validPz_facts hb.v; omega)
theorem pre_in (he : expl x = some t) (hp : L <+: t.patterns) (hs : s ∈ L) : ∃ i : Nat, i < L.length ∧ idxL t.patterns s = i ∧ firstG L (kB s) = some (i : Int) := by
  obtain ⟨hb, -⟩ := expl_built he
  have hnd : t.patterns.Nodup := hb.bi.nd
  have hndL : L.Nodup := List.Sublist.nodup hp.sublist hnd
  obtain ⟨i, hi, rfl⟩ := List.getElem_of_mem hs
  have hiT : i < t.patterns.length := Nat.lt_of_lt_of_le hi hp.length_le
  have e : t.patterns.getD i [] = L[i] := by rw [pre_getD hp hi, getD_get hi]
  have e2 : L.getD i [] = L[i] := getD_get hi
  refine ⟨i, hi, by rw [← e]; exact hb.idx hiT, ?_⟩
  rw [firstG_idx (fun p hp' => expl_byt he (hp.subset hp')) (expl_byt he (hp.subset hs)), ← e2, idxL_at hndL hi, if_pos (by omega)]
theorem pre_out (he : expl x = some t) (hp : L <+: t.patterns) (hs : s ∉ L) (hby : Byt s) : firstG L (kB s) = none := by
  rw [firstG_idx (fun p hp' => expl_byt he (hp.subset hp')) hby, if_neg]
  intro h
  exact hs (idxL_mem h).1
theorem pre_new (he : expl x = some t) (hp : L ++ [s] <+: t.patterns) : idxL t.patterns s = L.length := by
  obtain ⟨hb, -⟩ := expl_built he
  have hl : L.length < t.patterns.length := by have := hp.length_le; simp at this; omega
  have e : t.patterns.getD L.length [] = s := by
    rw [pre_getD hp (by simp), List.getD_eq_getElem?_getD]; simp
  rw [← e]; exact hb.idx hl
theorem expl_pn (he : expl x = some t) {i : Nat} (hi : i < t.patterns.length) : PM.PN x.points.toNat (t.patterns.getD i []) := by
  obtain ⟨hb, -⟩ := expl_built he
  exact PM.Grp.pn (validPz_pn hb.v) ((expl_mem he).1 (hb.mem_of hi))
theorem expl_nxt (he : expl x = some t) {i : Nat} (hi : i < t.patterns.length) {l : Int} (hl : l ∈ ltrs x.moves.length) : nxt x (t.patterns.getD i []) l ∈ t.patterns := by
  obtain ⟨hb, -⟩ := expl_built he
  obtain ⟨i', a, b, -, -⟩ := hb.step hi hl
  rw [← b]; exact hb.mem_of a
end
end Go.Proofs.YtclhblofchfglaaGreat
