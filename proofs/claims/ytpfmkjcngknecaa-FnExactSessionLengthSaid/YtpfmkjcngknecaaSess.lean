/- A new session: the reference's and the program's. -/
import Derived.Test.YtpfmkjcngknecaaPuzzle
import Derived.Test.YtpfmkjcngknecaaIdent
import Derived.Test.YtpfmkjcngknecaaCopy
import Derived.Test.YtpfmkjcngknecaaLawSession
import Derived.StillTailTactics
import Derived.Deep.RegionHeld3
import Derived.Deep.DeepCutAuto
namespace Go.Proofs.Ytpfmkjcngknecaa
open Go.RowKit
set_option maxRecDepth 10000

theorem Only.own1 {w W0 w' : World} {g : Nat} (h0 : Only [] w W0) (h : Only [g] W0 w') (hg : w.heap.size ≤ g) : Only [] w w' :=
  h0.then_ h (fun b hb hl => by simp at hb; omega)
set_option maxHeartbeats 1000000 in
theorem copyPuzzle_any (cs : List Value) (x : Puzzle) (fp : List Nat) (w : World) (h : Rp.rep w cs x fp) (hl : x.moves.length ≤ 2097152) (hl2 : ∀ y ∈ x.moves, y.length ≤ 2097152) :
    Calls Try.prog 99 #[.agg cs.toArray] w fun e w' => ∃ cs' fp', e = .returned (.agg cs'.toArray) ∧ Rp.rep w' cs' x fp' ∧ Fresh w.heap.size w' fp' ∧ Only [] w w' := by
  obtain ⟨v2, rfl, p0, p1, h2⟩ := h
  obtain ⟨A2, C2, _, _, rfl, -⟩ := h2.open_
  have hW0 : Only [] w ((w.alloc (.cells #[.int .i64 x.points, .string x.names, .slice A2 x.moves.length C2] 30)).alloc (.cells #[.int .i64 0, .string ⟨#[]⟩, .slice none 0 0] 30)) := ((Only.refl _ _).alloc _).alloc _
  have hB : Blk ((w.alloc (.cells #[.int .i64 x.points, .string x.names, .slice A2 x.moves.length C2] 30)).alloc (.cells #[.int .i64 0, .string ⟨#[]⟩, .slice none 0 0] 30)) w.heap.size [.int .i64 x.points, .string x.names, .slice A2 x.moves.length C2] := Blk.keep (Blk.new_at rfl) ((Only.refl _ _).alloc _)
  have HB := Lib.hid hB; clear hB
  go_enter Try.func99, Try.ntmps99
  go_wp2
  go_region_held3 (fun w' => Only [w.heap.size + 1] ((w.alloc (.cells #[.int .i64 x.points, .string x.names, .slice A2 x.moves.length C2] 30)).alloc (.cells #[.int .i64 0, .string ⟨#[]⟩, .slice none 0 0] 30)) w' ∧ w'.cell? ⟨w.heap.size, 0, none⟩ = some (.int .i64 x.points) ∧ w'.cell? ⟨w.heap.size, 1, none⟩ = some (.string x.names) ∧ w'.cell? ⟨w.heap.size, 2, none⟩ = some (.slice A2 x.moves.length C2)) ((refine and_of ?_ (fun h__ => ⟨(Blk.only HB.out h__ (by simp)).cell 0 rfl, (Blk.only HB.out h__ (by simp)).cell 1 rfl, (Blk.only HB.out h__ (by simp)).cell 2 rfl⟩); first | exact (Only.refl _ _).drew | exact Only.keepThen (And.left (by assumption)) (by assumption) | exact Only.setCell (Only.setCell (Only.setCell (And.left (by assumption)) (by intro _; simp) _) (by intro _; simp) _) (by intro _; simp) _)) (first
    | (go_at_call 96; (with_reducible refine (copyLists_rd _ x.moves _ _ (Rp.keep h2 (Only.own1 hW0 (And.left (by assumption)) (Nat.le_succ _))) hl hl2).mono ?_); rintro e w1 ⟨u1, f1, rfl, r1, F1, t1⟩; obtain ⟨A1, C1, _, _, rfl, -⟩ := r1.open_; have y1 := t1.cells_eq (w.heap.size + 1) (by simp) (by simp); have z1 := t1.frozen_eq (w.heap.size + 1) (by simp) (by simp); have s1 : w.heap.size + 1 < w1.heap.size := (by have := t1.size; simp at this; omega))
    | fail "no arm")
  go_wp2
  have HG : ∀ b' ∈ f1, w.heap.size + 2 ≤ b' := fun b' hb => by have := F1.ge b' hb; simp at this; omega
  refine bodyPost_ret (v := .agg #[.int .i64 x.points, .string x.names, .slice A1 x.moves.length C1]) (by simp [results, Try.results99, go_sem, y1]) rfl ⟨[.int .i64 x.points, .string x.names, .slice A1 x.moves.length C1], f1, rfl, ⟨_, rfl, p0, p1, Rp.only (fp' := [w.heap.size + 1]) r1 (by with_reducible repeat (first | exact Only.refl _ _ | assumption | refine Only.drewN ?_ _ | refine Only.drew ?_ | refine Only.alloc ?_ _ | refine Only.setCell ?_ (by intro _; simp) _ | refine Only.trans ?_ (Only.weaken (by assumption) _))) (fun b' hb hm => by have := HG b' hb; simp at hm; omega)⟩, Fresh.mono (F1.only (fp' := [w.heap.size + 1]) (by with_reducible repeat (first | exact Only.refl _ _ | assumption | refine Only.drewN ?_ _ | refine Only.drew ?_ | refine Only.alloc ?_ _ | refine Only.setCell ?_ (by intro _; simp) _ | refine Only.trans ?_ (Only.weaken (by assumption) _))) (fun b' hb hm => by have := HG b' hb; simp at hm; omega)) (by simp; omega), (by with_reducible repeat (first | exact Only.refl _ _ | assumption | refine Only.drewN ?_ _ | refine Only.drew ?_ | refine Only.alloc ?_ _ | refine Only.setCell ?_ (by intro hh; exfalso; simp at hh; try omega) _ | refine Only.trans ?_ (by assumption)))⟩
set_option maxHeartbeats 1000000 in
theorem clonePuzzle_any (cs : List Value) (x : Puzzle) (fp : List Nat) (w : World) (h : Rp.rep w cs x fp) (hl : x.moves.length ≤ 2097152) (hl2 : ∀ y ∈ x.moves, y.length ≤ 2097152) :
    Calls Try.prog 102 #[.agg cs.toArray] w fun e w' => ∃ cs' fp', e = .returned (.agg cs'.toArray) ∧ Rp.rep w' cs' x fp' ∧ Fresh w.heap.size w' fp' ∧ Only [] w w' := by
  obtain ⟨v2, rfl, p0, p1, h2⟩ := h
  obtain ⟨A2, C2, _, _, rfl, -⟩ := h2.open_
  have hW0 : Only [] w ((w.alloc (.cells #[.int .i64 x.points, .string x.names, .slice A2 x.moves.length C2] 30)).alloc (.cells #[.int .i64 0, .string ⟨#[]⟩, .slice none 0 0] 30)) := ((Only.refl _ _).alloc _).alloc _
  have hB : Blk ((w.alloc (.cells #[.int .i64 x.points, .string x.names, .slice A2 x.moves.length C2] 30)).alloc (.cells #[.int .i64 0, .string ⟨#[]⟩, .slice none 0 0] 30)) w.heap.size [.int .i64 x.points, .string x.names, .slice A2 x.moves.length C2] := Blk.keep (Blk.new_at rfl) ((Only.refl _ _).alloc _)
  have HB := Lib.hid hB; clear hB
  go_enter Try.func102, Try.ntmps102
  go_wp2
  go_region_held3 (fun w' => Only [w.heap.size + 1] ((w.alloc (.cells #[.int .i64 x.points, .string x.names, .slice A2 x.moves.length C2] 30)).alloc (.cells #[.int .i64 0, .string ⟨#[]⟩, .slice none 0 0] 30)) w' ∧ w'.cell? ⟨w.heap.size, 0, none⟩ = some (.int .i64 x.points) ∧ w'.cell? ⟨w.heap.size, 1, none⟩ = some (.string x.names) ∧ w'.cell? ⟨w.heap.size, 2, none⟩ = some (.slice A2 x.moves.length C2)) ((refine and_of ?_ (fun h__ => ⟨(Blk.only HB.out h__ (by simp)).cell 0 rfl, (Blk.only HB.out h__ (by simp)).cell 1 rfl, (Blk.only HB.out h__ (by simp)).cell 2 rfl⟩); first | exact (Only.refl _ _).drew | exact Only.keepThen (And.left (by assumption)) (by assumption) | exact Only.setCell (Only.setCell (Only.setCell (And.left (by assumption)) (by intro _; simp) _) (by intro _; simp) _) (by intro _; simp) _)) (first
    | (go_at_call 74; (with_reducible refine (cloneLists_rd _ x.moves _ _ (Rp.keep h2 (Only.own1 hW0 (And.left (by assumption)) (Nat.le_succ _))) hl hl2).mono ?_); rintro e w1 ⟨u1, f1, rfl, r1, F1, t1⟩; obtain ⟨A1, C1, _, _, rfl, -⟩ := r1.open_; have y1 := t1.cells_eq (w.heap.size + 1) (by simp) (by simp); have z1 := t1.frozen_eq (w.heap.size + 1) (by simp) (by simp); have s1 : w.heap.size + 1 < w1.heap.size := (by have := t1.size; simp at this; omega))
    | fail "no arm")
  go_wp2
  have HG : ∀ b' ∈ f1, w.heap.size + 2 ≤ b' := fun b' hb => by have := F1.ge b' hb; simp at this; omega
  refine bodyPost_ret (v := .agg #[.int .i64 x.points, .string x.names, .slice A1 x.moves.length C1]) (by simp [results, Try.results102, go_sem, y1]) rfl ⟨[.int .i64 x.points, .string x.names, .slice A1 x.moves.length C1], f1, rfl, ⟨_, rfl, p0, p1, Rp.only (fp' := [w.heap.size + 1]) r1 (by with_reducible repeat (first | exact Only.refl _ _ | assumption | refine Only.drewN ?_ _ | refine Only.drew ?_ | refine Only.alloc ?_ _ | refine Only.setCell ?_ (by intro _; simp) _ | refine Only.trans ?_ (Only.weaken (by assumption) _))) (fun b' hb hm => by have := HG b' hb; simp at hm; omega)⟩, Fresh.mono (F1.only (fp' := [w.heap.size + 1]) (by with_reducible repeat (first | exact Only.refl _ _ | assumption | refine Only.drewN ?_ _ | refine Only.drew ?_ | refine Only.alloc ?_ _ | refine Only.setCell ?_ (by intro _; simp) _ | refine Only.trans ?_ (Only.weaken (by assumption) _))) (fun b' hb hm => by have := HG b' hb; simp at hm; omega)) (by simp; omega), (by with_reducible repeat (first | exact Only.refl _ _ | assumption | refine Only.drewN ?_ _ | refine Only.drew ?_ | refine Only.alloc ?_ _ | refine Only.setCell ?_ (by intro hh; exfalso; simp at hh; try omega) _ | refine Only.trans ?_ (by assumption)))⟩
def noSess : Session := ⟨⟨0, ⟨#[]⟩, []⟩, [], [], []⟩
def newSess (x : Puzzle) : Session := if validPz x then ⟨x, PM.pts x.points.toNat, [], []⟩ else noSess
theorem noSess_rep (w : World) : Rp.rep w [.int .i64 0, .string ⟨#[]⟩, .slice none 0 0, .slice none 0 0, .slice none 0 0, .slice none 0 0] noSess [] :=
  ⟨[.int .i64 0, .string ⟨#[]⟩, .slice none 0 0], _, _, _, [], [], [], [], rfl, rfl, ⟨_, rfl, ⟨by simp [noSess], by simp [noSess]⟩, by simp [noSess, maxLen, ByteArray.size], nil_rd w⟩, nil_rd w, nil_rd w, nil_rd w⟩
theorem validPz_gens {x : Puzzle} (h : validPz x = true) : 1 ≤ x.points ∧ x.points ≤ 20 ∧ x.moves.length ≤ 8 ∧ ∀ y ∈ x.moves, (y.length : Int) = x.points ∧ permB y = true := by
  unfold validPz at h
  rw [Bool.and_eq_true] at h
  have h1 := h.1
  unfold gensB at h1
  rw [Bool.and_eq_true, Bool.and_eq_true, inR_iff, decide_eq_true_iff, List.all_eq_true] at h1
  refine ⟨h1.1.1.1, h1.1.1.2, h1.1.2, fun y hy => ?_⟩
  have := h1.2 y hy
  unfold genB at this
  rw [Bool.and_eq_true, decide_eq_true_iff] at this
  exact this
end Go.Proofs.Ytpfmkjcngknecaa
