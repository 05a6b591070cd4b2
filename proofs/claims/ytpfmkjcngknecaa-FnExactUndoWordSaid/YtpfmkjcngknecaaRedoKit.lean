/- Words taken back from a history: what both RedoWord and UndoWord need. (Printed by mkredo.py.) -/
import Derived.Test.YtpfmkjcngknecaaPlay
import Derived.Deep.RegionLaw
namespace Go.Proofs.Ytpfmkjcngknecaa
open Go.RowKit
set_option maxRecDepth 10000

/-- the last word; what is ahead of it -/
def lastW (ws : List (List Int)) : List Int := ws.getD (ws.length - 1) []
def restW (ws : List (List Int)) : List (List Int) := ws.take (ws.length - 1)
theorem lastW_get {ws : List (List Int)} (h : 0 < ws.length) : lastW ws = ws[ws.length - 1] := by
  unfold lastW; rw [List.getD_eq_getElem?_getD, List.getElem?_eq_getElem (by omega)]; rfl
theorem lastW_mem {ws : List (List Int)} (h : 0 < ws.length) : lastW ws ∈ ws := by rw [lastW_get h]; exact List.getElem_mem _
theorem validSe_letters {x : Session} (h : validSe x = true) (l : List Int) (hl : l ∈ x.history ∨ l ∈ x.future) : validW x.puzzle.moves.length l = true := by
  unfold validSe at h
  rw [Bool.and_eq_true, Bool.and_eq_true] at h
  rcases hl with hl | hl
  · exact (wordsB_len h.2.1).2 l hl
  · exact (wordsB_len h.2.2).2 l hl
theorem restW_len (ws : List (List Int)) : (restW ws).length = ws.length - 1 := by simp [restW]
theorem restW_mem {ws : List (List Int)} {y : List Int} (h : y ∈ restW ws) : y ∈ ws := List.mem_of_mem_take h
section
variable {B : Nat} {e : TypeId} {w : World} {v : Value} {l : List (List Int)} {fs : List (List Nat)}
/-- the last word of a history of the call's own, and the history without it -/
theorem Acc.last (h : Acc B e w v l fs) (hF : Fresh B w fs.flatten) (hl : 0 < l.length) :
    ∃ g c u fu fr, v = .slice (some ⟨g, 0, none⟩) l.length c ∧ l.length ≤ c ∧ c ≤ maxLen ∧ w.cell? ⟨g, l.length - 1, none⟩ = some u ∧ Rd w u (lastW l) fu ∧ (∀ b ∈ fu, b ∈ fs.flatten) ∧
      SeqA w (some ⟨g, 0, none⟩) c l v.ownBlock.toList fs ∧ Rd w (.slice (some ⟨g, 0, none⟩) (l.length - 1) c) (restW l) fr ∧ Fresh B w fr ∧ fr.Sublist (v.ownBlock.toList ++ fs.flatten) := by
  obtain ⟨css, ho, hcl, hr⟩ := h.own
  obtain ⟨a, cap, hv, -, hI⟩ := own_seq (xs := l) (fps := fs) ho (by decide) hcl h.fl hr
  obtain ⟨b, off, u, e1, e2, hc, hu⟩ := hI.atRow (l.length - 1) (by omega)
  have e3 : off = 0 := by
    rcases ho.2 with ⟨h1, h2⟩ | ⟨g, cp, cur, h1, -⟩
    · omega
    · rw [hv] at h1
      injection h1 with h1 _ _
      rw [e1] at h1
      injection h1 with h1
      injection h1
  subst e1
  subst e3
  rw [Nat.zero_add] at hc
  have hsub : (v.ownBlock.toList ++ (fs.take (l.length - 1)).flatten).Sublist (v.ownBlock.toList ++ fs.flatten) := List.Sublist.append (List.Sublist.refl _) (flatten_take fs _)
  refine ⟨b, cap, u, _, _, hv, hI.len, hI.cap, hc, by rw [lastW_get hl]; exact hu, fun x hx => mem_flatten_get (j := l.length - 1) (by rw [h.fl]; omega) hx, hI, ?_, (h.fresh hF).sublist hsub, hsub⟩
  have := (hI.take (l.length - 1)).rd
  rwa [show (l.take (l.length - 1)).length = l.length - 1 by simp] at this
end
section
variable {B : Nat} {w w' : World} {a b c d m' fpw : List Nat}
theorem Fresh.at2 (h : Fresh B w (a ++ (b ++ (c ++ d)))) (ho : Only fpw w w') (hf : ∀ x ∈ fpw, x ∈ b) (F' : Fresh B w' m') (hs : ∀ x ∈ m', x ∈ b ∨ w.heap.size ≤ x) : Fresh B w' (a ++ (m' ++ (c ++ d))) := h.repl ho hf F' hs
theorem Fresh.at3 (h : Fresh B w (a ++ (b ++ (c ++ d)))) (ho : Only fpw w w') (hf : ∀ x ∈ fpw, x ∈ c) (F' : Fresh B w' m') (hs : ∀ x ∈ m', x ∈ c ∨ w.heap.size ≤ x) : Fresh B w' (a ++ (b ++ (m' ++ d))) := by
  have := Fresh.repl (pre := a ++ b) (mid := c) (post := d) (by simpa [List.append_assoc] using h) ho hf F' hs
  simpa [List.append_assoc] using this
theorem Fresh.at4 (h : Fresh B w (a ++ (b ++ (c ++ d)))) (ho : Only fpw w w') (hf : ∀ x ∈ fpw, x ∈ d) (F' : Fresh B w' m') (hs : ∀ x ∈ m', x ∈ d ∨ w.heap.size ≤ x) : Fresh B w' (a ++ (b ++ (c ++ m'))) := by
  have := Fresh.repl (pre := a ++ (b ++ c)) (mid := d) (post := []) (by simpa [List.append_assoc] using h) ho hf F' hs
  simpa [List.append_assoc] using this
theorem Fresh.parts (h : Fresh B w (a ++ (b ++ (c ++ d)))) : (∀ x ∈ a, x ∉ c ∧ x ∉ d) ∧ (∀ x ∈ b, x ∉ c ∧ x ∉ d) ∧ (∀ x ∈ c, x ∉ d) := by
  have n1 := List.nodup_append.1 h.nd
  have n2 := List.nodup_append.1 n1.2.1
  have n3 := List.nodup_append.1 n2.2.1
  refine ⟨fun x hx => ⟨fun hm => n1.2.2 x hx x (by simp [hm]) rfl, fun hm => n1.2.2 x hx x (by simp [hm]) rfl⟩, fun x hx => ⟨fun hm => n2.2.2 x hx x (by simp [hm]) rfl, fun hm => n2.2.2 x hx x (by simp [hm]) rfl⟩, fun x hx hm => n3.2.2 x hx x hm rfl⟩
/-- own memory of four parts -/
theorem Fresh.of4 (Fa : Fresh B w a) (Fb : Fresh B w b) (Fc : Fresh B w c) (Fd : Fresh B w d) (ab : ∀ x ∈ a, x ∉ b) (ac : ∀ x ∈ a, x ∉ c) (ad : ∀ x ∈ a, x ∉ d) (bc : ∀ x ∈ b, x ∉ c) (bd : ∀ x ∈ b, x ∉ d) (cd : ∀ x ∈ c, x ∉ d) : Fresh B w (a ++ (b ++ (c ++ d))) := by
  have mk : ∀ {p q : List Nat}, Fresh B w p → Fresh B w q → (∀ x ∈ p, x ∉ q) → Fresh B w (p ++ q) := fun hp hq hd =>
    ⟨List.nodup_append.2 ⟨hp.nd, hq.nd, fun x hx y hy e => hd x hx (e ▸ hy)⟩, fun x hx => (List.mem_append.1 hx).elim (hp.ge x) (hq.ge x), hp.own.append hq.own⟩
  refine mk Fa (mk Fb (mk Fc Fd cd) fun x hx hm => ?_) fun x hx hm => ?_
  · rcases List.mem_append.1 hm with h | h
    · exact bc x hx h
    · exact bd x hx h
  · rcases List.mem_append.1 hm with h | h
    · exact ab x hx h
    · rcases List.mem_append.1 h with h | h
      · exact ac x hx h
      · exact ad x hx h
end
set_option maxHeartbeats 1000000 in
theorem popped_any (b cap : Nat) (l : List (List Int)) (u : Value) (w : World) (hl : 0 < l.length) (hc : l.length ≤ cap) (hm : cap ≤ maxLen) (hu : w.cell? ⟨b, l.length - 1, none⟩ = some u) :
    Calls Try.prog 73 #[.slice (some ⟨b, 0, none⟩) l.length cap] w fun e w' => e = .returned (.tuple #[.slice (some ⟨b, 0, none⟩) (l.length - 1) cap, u]) ∧ Drew w w' := by
  unfold maxLen at hm
  have e1 : (0 : Int) ≤ (l.length : Int) - 1 := by omega
  have e2 : ((l.length : Int) - 1).toNat = l.length - 1 := by omega
  have e3 : (l.length : Int) - 1 < (l.length : Int) := by omega
  have e4 : (l.length : Int) - 1 ≤ (cap : Int) := by omega
  have e5 : (1 : Int) ≤ (l.length : Int) := by omega
  go_enter Try.func73, Try.ntmps73
  go_wp2
  go_quiet (fail)
  go_wp2
  go_ret2
  exact ⟨rfl, ⟨nq, rfl⟩⟩
end Go.Proofs.Ytpfmkjcngknecaa
