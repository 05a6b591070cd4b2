/- A new session: the reference's and the program's. -/
import Derived.Test.YtmilmbgnkpkmnaaPuzzle
import Derived.Test.YtmilmbgnkpkmnaaIdent
import Derived.Test.YtmilmbgnkpkmnaaCopy
import Derived.Test.YtmilmbgnkpkmnaaLawSession
import Derived.StillTailTactics
import Derived.Deep.RegionHeld3
import Derived.Deep.DeepCutAuto
namespace Go.Proofs.Ytmilmbgnkpkmnaa
open Go.RowKit
set_option maxRecDepth 10000

theorem Only.own1 {w W0 w' : World} {g : Nat} (h0 : Only [] w W0) (h : Only [g] W0 w') (hg : w.heap.size ≤ g) : Only [] w w' :=
  h0.then_ h (fun b hb hl => by simp at hb; omega)
set_option maxHeartbeats 1000000 in
theorem copyPuzzle_any (cs : List Value) (x : Puzzle) (fp : List Nat) (w : World) (h : Rp.rep w cs x fp) (hl : x.moves.length ≤ 2097152) (hl2 : ∀ y ∈ x.moves, y.length ≤ 2097152) :
    Calls Try.prog 50 #[.agg cs.toArray] w fun e w' => ∃ cs' fp', e = .returned (.agg cs'.toArray) ∧ Rp.rep w' cs' x fp' ∧ Fresh w.heap.size w' fp' ∧ Only [] w w' := by
  obtain ⟨v2, rfl, p0, p1, h2⟩ := h
  obtain ⟨A2, C2, _, _, rfl, -⟩ := h2.open_
  have hW0 : Only [] w ((w.alloc (.cells #[.int .i64 x.points, .string x.names, .slice A2 x.moves.length C2] 26)).alloc (.cells #[.int .i64 0, .string ⟨#[]⟩, .slice none 0 0] 26)) := ((Only.refl _ _).alloc _).alloc _
  have hB : Blk ((w.alloc (.cells #[.int .i64 x.points, .string x.names, .slice A2 x.moves.length C2] 26)).alloc (.cells #[.int .i64 0, .string ⟨#[]⟩, .slice none 0 0] 26)) w.heap.size [.int .i64 x.points, .string x.names, .slice A2 x.moves.length C2] := Blk.keep (Blk.new_at rfl) ((Only.refl _ _).alloc _)
  have HB := Lib.hid hB; clear hB
  go_enter Try.func50, Try.ntmps50
  go_wp2
  go_region_held3 (fun w' => Only [w.heap.size + 1] ((w.alloc (.cells #[.int .i64 x.points, .string x.names, .slice A2 x.moves.length C2] 26)).alloc (.cells #[.int .i64 0, .string ⟨#[]⟩, .slice none 0 0] 26)) w' ∧ w'.cell? ⟨w.heap.size, 0, none⟩ = some (.int .i64 x.points) ∧ w'.cell? ⟨w.heap.size, 1, none⟩ = some (.string x.names) ∧ w'.cell? ⟨w.heap.size, 2, none⟩ = some (.slice A2 x.moves.length C2)) ((refine and_of ?_ (fun h__ => ⟨(Blk.only HB.out h__ (by simp)).cell 0 rfl, (Blk.only HB.out h__ (by simp)).cell 1 rfl, (Blk.only HB.out h__ (by simp)).cell 2 rfl⟩); first | exact (Only.refl _ _).drew | exact Only.keepThen (And.left (by assumption)) (by assumption) | exact Only.setCell (Only.setCell (Only.setCell (And.left (by assumption)) (by intro _; simp) _) (by intro _; simp) _) (by intro _; simp) _)) (first
    | (go_at_call 79; (with_reducible refine (copyLists_rd _ x.moves _ _ (Rp.keep h2 (Only.own1 hW0 (And.left (by assumption)) (Nat.le_succ _))) hl hl2).mono ?_); rintro e w1 ⟨u1, f1, rfl, r1, F1, t1⟩; obtain ⟨A1, C1, _, _, rfl, -⟩ := r1.open_; have y1 := t1.cells_eq (w.heap.size + 1) (by simp) (by simp); have z1 := t1.frozen_eq (w.heap.size + 1) (by simp) (by simp); have s1 : w.heap.size + 1 < w1.heap.size := (by have := t1.size; simp at this; omega))
    | fail "no arm")
  go_wp2
  have HG : ∀ b' ∈ f1, w.heap.size + 2 ≤ b' := fun b' hb => by have := F1.ge b' hb; simp at this; omega
  refine bodyPost_ret (v := .agg #[.int .i64 x.points, .string x.names, .slice A1 x.moves.length C1]) (by simp [results, Try.results50, go_sem, y1]) rfl ⟨[.int .i64 x.points, .string x.names, .slice A1 x.moves.length C1], f1, rfl, ⟨_, rfl, p0, p1, Rp.only (fp' := [w.heap.size + 1]) r1 (by with_reducible repeat (first | exact Only.refl _ _ | assumption | refine Only.drewN ?_ _ | refine Only.drew ?_ | refine Only.alloc ?_ _ | refine Only.setCell ?_ (by intro _; simp) _ | refine Only.trans ?_ (Only.weaken (by assumption) _))) (fun b' hb hm => by have := HG b' hb; simp at hm; omega)⟩, Fresh.mono (F1.only (fp' := [w.heap.size + 1]) (by with_reducible repeat (first | exact Only.refl _ _ | assumption | refine Only.drewN ?_ _ | refine Only.drew ?_ | refine Only.alloc ?_ _ | refine Only.setCell ?_ (by intro _; simp) _ | refine Only.trans ?_ (Only.weaken (by assumption) _))) (fun b' hb hm => by have := HG b' hb; simp at hm; omega)) (by simp; omega), (by with_reducible repeat (first | exact Only.refl _ _ | assumption | refine Only.drewN ?_ _ | refine Only.drew ?_ | refine Only.alloc ?_ _ | refine Only.setCell ?_ (by intro hh; exfalso; simp at hh; try omega) _ | refine Only.trans ?_ (by assumption)))⟩
set_option maxHeartbeats 1000000 in
theorem clonePuzzle_any (cs : List Value) (x : Puzzle) (fp : List Nat) (w : World) (h : Rp.rep w cs x fp) (hl : x.moves.length ≤ 2097152) (hl2 : ∀ y ∈ x.moves, y.length ≤ 2097152) :
    Calls Try.prog 82 #[.agg cs.toArray] w fun e w' => ∃ cs' fp', e = .returned (.agg cs'.toArray) ∧ Rp.rep w' cs' x fp' ∧ Fresh w.heap.size w' fp' ∧ Only [] w w' := by
  obtain ⟨v2, rfl, p0, p1, h2⟩ := h
  obtain ⟨A2, C2, _, _, rfl, -⟩ := h2.open_
  have hW0 : Only [] w ((w.alloc (.cells #[.int .i64 x.points, .string x.names, .slice A2 x.moves.length C2] 26)).alloc (.cells #[.int .i64 0, .string ⟨#[]⟩, .slice none 0 0] 26)) := ((Only.refl _ _).alloc _).alloc _
  have hB : Blk ((w.alloc (.cells #[.int .i64 x.points, .string x.names, .slice A2 x.moves.length C2] 26)).alloc (.cells #[.int .i64 0, .string ⟨#[]⟩, .slice none 0 0] 26)) w.heap.size [.int .i64 x.points, .string x.names, .slice A2 x.moves.length C2] := Blk.keep (Blk.new_at rfl) ((Only.refl _ _).alloc _)
  have HB := Lib.hid hB; clear hB
  go_enter Try.func82, Try.ntmps82
  go_wp2
  go_region_held3 (fun w' => Only [w.heap.size + 1] ((w.alloc (.cells #[.int .i64 x.points, .string x.names, .slice A2 x.moves.length C2] 26)).alloc (.cells #[.int .i64 0, .string ⟨#[]⟩, .slice none 0 0] 26)) w' ∧ w'.cell? ⟨w.heap.size, 0, none⟩ = some (.int .i64 x.points) ∧ w'.cell? ⟨w.heap.size, 1, none⟩ = some (.string x.names) ∧ w'.cell? ⟨w.heap.size, 2, none⟩ = some (.slice A2 x.moves.length C2)) ((refine and_of ?_ (fun h__ => ⟨(Blk.only HB.out h__ (by simp)).cell 0 rfl, (Blk.only HB.out h__ (by simp)).cell 1 rfl, (Blk.only HB.out h__ (by simp)).cell 2 rfl⟩); first | exact (Only.refl _ _).drew | exact Only.keepThen (And.left (by assumption)) (by assumption) | exact Only.setCell (Only.setCell (Only.setCell (And.left (by assumption)) (by intro _; simp) _) (by intro _; simp) _) (by intro _; simp) _)) (first
    | (go_at_call 108; (with_reducible refine (cloneLists_rd _ x.moves _ _ (Rp.keep h2 (Only.own1 hW0 (And.left (by assumption)) (Nat.le_succ _))) hl hl2).mono ?_); rintro e w1 ⟨u1, f1, rfl, r1, F1, t1⟩; obtain ⟨A1, C1, _, _, rfl, -⟩ := r1.open_; have y1 := t1.cells_eq (w.heap.size + 1) (by simp) (by simp); have z1 := t1.frozen_eq (w.heap.size + 1) (by simp) (by simp); have s1 : w.heap.size + 1 < w1.heap.size := (by have := t1.size; simp at this; omega))
    | fail "no arm")
  go_wp2
  have HG : ∀ b' ∈ f1, w.heap.size + 2 ≤ b' := fun b' hb => by have := F1.ge b' hb; simp at this; omega
  refine bodyPost_ret (v := .agg #[.int .i64 x.points, .string x.names, .slice A1 x.moves.length C1]) (by simp [results, Try.results82, go_sem, y1]) rfl ⟨[.int .i64 x.points, .string x.names, .slice A1 x.moves.length C1], f1, rfl, ⟨_, rfl, p0, p1, Rp.only (fp' := [w.heap.size + 1]) r1 (by with_reducible repeat (first | exact Only.refl _ _ | assumption | refine Only.drewN ?_ _ | refine Only.drew ?_ | refine Only.alloc ?_ _ | refine Only.setCell ?_ (by intro _; simp) _ | refine Only.trans ?_ (Only.weaken (by assumption) _))) (fun b' hb hm => by have := HG b' hb; simp at hm; omega)⟩, Fresh.mono (F1.only (fp' := [w.heap.size + 1]) (by with_reducible repeat (first | exact Only.refl _ _ | assumption | refine Only.drewN ?_ _ | refine Only.drew ?_ | refine Only.alloc ?_ _ | refine Only.setCell ?_ (by intro _; simp) _ | refine Only.trans ?_ (Only.weaken (by assumption) _))) (fun b' hb hm => by have := HG b' hb; simp at hm; omega)) (by simp; omega), (by with_reducible repeat (first | exact Only.refl _ _ | assumption | refine Only.drewN ?_ _ | refine Only.drew ?_ | refine Only.alloc ?_ _ | refine Only.setCell ?_ (by intro hh; exfalso; simp at hh; try omega) _ | refine Only.trans ?_ (by assumption)))⟩
set_option maxHeartbeats 1000000 in
theorem newSession_any (cs : List Value) (x : Puzzle) (fp : List Nat) (v : Value) (s : List Int) (fs : List Nat) (w : World) (h : Rp.rep w cs x fp) (hv : Rd w v s fs) (hl : x.moves.length ≤ 2097152) (hl2 : ∀ y ∈ x.moves, y.length ≤ 2097152) (hs : s.length ≤ 1000000) :
    Calls Try.prog 53 #[.agg cs.toArray, v] w fun e w' => ∃ cs' fp', e = .returned (.agg cs'.toArray) ∧ Rp.rep w' cs' (⟨x, s, [], []⟩ : Session) fp' ∧ Fresh w.heap.size w' fp' ∧ Only [] w w' := by
  have h0 := h
  obtain ⟨v2, rfl, p0, p1, h2⟩ := h
  obtain ⟨A2, C2, _, _, rfl, -⟩ := h2.open_
  go_enter Try.func53, Try.ntmps53
  go_wp2_with (first
    | (go_at_call 82; (with_reducible refine (clonePuzzle_any [.int .i64 x.points, .string x.names, .slice A2 x.moves.length C2] x _ _ (Rp.keep h0 (by with_reducible repeat (first | exact Only.refl _ _ | assumption | refine Only.drewN ?_ _ | refine Only.drew ?_ | refine Only.alloc ?_ _ | refine Only.setCell ?_ (by intro hh; exfalso; simp at hh; try omega) _ | refine Only.trans ?_ (by assumption)))) hl hl2).mono ?_); rintro e w1 ⟨u1, f1, rfl, r1, F1, t1⟩; have q1 := r1; obtain ⟨v1, rfl, -, -, k1⟩ := q1; obtain ⟨A1, C1, _, _, rfl, -⟩ := k1.open_; have y1 := t1.cells_eq (w.heap.size + 1) (by simp) (by simp); have z1 := t1.frozen_eq (w.heap.size + 1) (by simp) (by simp); have s1 : w.heap.size + 1 < w1.heap.size := (by have := t1.size; simp at this; omega))
    | (go_at_call 83; (with_reducible refine (Clone_rd v s _ _ (Rp.keep hv (by with_reducible repeat (first | exact Only.refl _ _ | assumption | refine Only.drewN ?_ _ | refine Only.drew ?_ | refine Only.alloc ?_ _ | refine Only.setCell ?_ (by intro hh; exfalso; simp at hh; try omega) _ | refine Only.trans ?_ (by assumption)))) (by omega)).mono ?_); rintro e w2 ⟨u2, f2, rfl, r2, F2, t2⟩; obtain ⟨A2', C2', _, _, rfl, -⟩ := r2.open_; have y2 := t2.cells_eq (w.heap.size + 1) s1 (by simp); have z2 := t2.frozen_eq (w.heap.size + 1) s1 (by simp); have s2 : w.heap.size + 1 < w2.heap.size := Nat.lt_of_lt_of_le s1 t2.size))
  have G1 : ∀ b' ∈ f1, w.heap.size + 2 ≤ b' := fun b' hb => by have := F1.ge b' hb; simp at this; omega
  have G2 : ∀ b' ∈ f2, w.heap.size + 2 ≤ b' := fun b' hb => by have := F2.ge b' hb; omega
  have hW : Only [w.heap.size + 1] w2 ((((((w2.setCell ⟨w.heap.size + 1, 0, none⟩ (.int .i64 x.points)).setCell ⟨w.heap.size + 1, 1, none⟩ (.string x.names)).setCell ⟨w.heap.size + 1, 2, none⟩ (.slice A1 x.moves.length C1)).setCell ⟨w.heap.size + 1, 3, none⟩ (.slice A2' s.length C2')).setCell ⟨w.heap.size + 1, 4, none⟩ (.slice none 0 0)).setCell ⟨w.heap.size + 1, 5, none⟩ (.slice none 0 0)) := (by with_reducible repeat (first | exact Only.refl _ _ | assumption | refine Only.drewN ?_ _ | refine Only.drew ?_ | refine Only.alloc ?_ _ | refine Only.setCell ?_ (by intro _; simp) _ | refine Only.trans ?_ (Only.weaken (by assumption) _)))
  have n1 := Rp.only (Rp.keep r1 t2) hW (fun b' hb hm => by have := G1 b' hb; simp at hm; omega)
  have n2 := Rp.only r2 hW (fun b' hb hm => by have := G2 b' hb; simp at hm; omega)
  have n3 := (Fresh.append (F1.keep t2) F2 t1.size (fun b' hb => F1.lt b' hb)).only hW (fun b' hb hm => by
    simp at hm
    rcases List.mem_append.1 hb with hb | hb
    · have := G1 b' hb; omega
    · have := G2 b' hb; omega)
  refine bodyPost_ret (v := .agg #[.int .i64 x.points, .string x.names, .slice A1 x.moves.length C1, .slice A2' s.length C2', .slice none 0 0, .slice none 0 0]) (by simp [results, Try.results53, go_sem, y2, y1, s1, s2]) rfl ⟨[.int .i64 x.points, .string x.names, .slice A1 x.moves.length C1, .slice A2' s.length C2', .slice none 0 0, .slice none 0 0], f1 ++ (f2 ++ ([] ++ [])), rfl, ⟨_, _, _, _, f1, f2, [], [], rfl, rfl, n1, n2, nil_rd _, nil_rd _⟩, by simpa using Fresh.mono n3 (by simp; omega), (by with_reducible repeat (first | exact Only.refl _ _ | assumption | refine Only.drewN ?_ _ | refine Only.drew ?_ | refine Only.alloc ?_ _ | refine Only.setCell ?_ (by intro hh; exfalso; simp at hh; try omega) _ | refine Only.trans ?_ (by assumption)))⟩
def noSess : Session := ⟨⟨0, ⟨#[]⟩, []⟩, [], [], []⟩
def newSess (x : Puzzle) : Session := if validPz x then ⟨x, PM.pts x.points.toNat, [], []⟩ else noSess
theorem noSess_rep (w : World) : Rp.rep w [.int .i64 0, .string ⟨#[]⟩, .slice none 0 0, .slice none 0 0, .slice none 0 0, .slice none 0 0] noSess [] :=
  ⟨[.int .i64 0, .string ⟨#[]⟩, .slice none 0 0], _, _, _, [], [], [], [], rfl, rfl, ⟨_, rfl, ⟨by simp [noSess], by simp [noSess]⟩, by simp [noSess, maxLen, ByteArray.size], nil_rd w⟩, nil_rd w, nil_rd w, nil_rd w⟩
theorem validPz_gens {x : Puzzle} (h : validPz x = true) : 1 ≤ x.points ∧ x.points ≤ 20 ∧ x.moves.length ≤ 8 ∧ ∀ y ∈ x.moves, (y.length : Int) = x.points ∧ permB y = true := by
  unfold validPz at h
  rw [Bool.and_eq_true] at h
  have h1 := h.1
  unfold gensB at h1
  rw [Bool.and_eq_true, Bool.and_eq_true, inR_iff, decide_eq_true_iff, List.all_eq_true] at h1
  refine ⟨h1.1.1.1, h1.1.1.2, h1.1.2, fun y hy => ?_⟩
  have := h1.2 y hy
  unfold genB at this
  rw [Bool.and_eq_true, decide_eq_true_iff] at this
  exact this
set_option maxHeartbeats 2000000 in
theorem specNewSession_any (cs : List Value) (x : Puzzle) (fp : List Nat) (w : World) (h : Rp.rep w cs x fp) :
    Calls Try.prog 11 #[.agg cs.toArray] w fun e w' => ∃ cs' fp', e = .returned (.tuple #[.agg cs'.toArray, .bool (validPz x)]) ∧ Rp.rep w' cs' (newSess x) fp' ∧ Fresh w.heap.size w' fp' ∧ Only [] w w' := by
  have h0 := h
  obtain ⟨v2, rfl, p0, p1, h2⟩ := h
  obtain ⟨A2, C2, _, _, rfl, -⟩ := h2.open_
  rcases hq : validPz x
  · have hp : newSess x = noSess := by unfold newSess; rw [if_neg (by simp [hq])]
    have Hp := Lib.hid hp; clear hp
    go_enter Try.func11, Try.ntmps11
    go_wp2_with ((go_at_call 49; (with_reducible refine (specIsValidPuzzle_any [.int .i64 x.points, .string x.names, .slice A2 x.moves.length C2] x _ _ (Rp.keep h0 (by with_reducible repeat (first | exact Only.refl _ _ | assumption | refine Only.drewN ?_ _ | refine Only.drew ?_ | refine Only.alloc ?_ _ | refine Only.setCell ?_ (by intro hh; exfalso; simp at hh; try omega) _ | refine Only.trans ?_ (by assumption))))).mono ?_); rintro e w1 ⟨rfl, t1⟩; have y1 := t1.cells_eq (w.heap.size + 1) (by simp) (by simp); have z1 := t1.frozen_eq (w.heap.size + 1) (by simp) (by simp); have s1 : w.heap.size + 1 < w1.heap.size := (by have := t1.size; simp at this; omega)))
    refine bodyPost_ret (v := .tuple #[.agg #[.int .i64 0, .string ⟨#[]⟩, .slice none 0 0, .slice none 0 0, .slice none 0 0, .slice none 0 0], .bool false]) (by simp [results, Try.results11, go_sem, y1]) rfl ⟨[.int .i64 0, .string ⟨#[]⟩, .slice none 0 0, .slice none 0 0, .slice none 0 0, .slice none 0 0], [], rfl, ?_, Fresh.nil _ _, (by with_reducible repeat (first | exact Only.refl _ _ | assumption | refine Only.drewN ?_ _ | refine Only.drew ?_ | refine Only.alloc ?_ _ | refine Only.setCell ?_ (by intro hh; exfalso; simp at hh; try omega) _ | refine Only.trans ?_ (by assumption)))⟩
    rw [Hp.out]; exact noSess_rep _
  have hp : newSess x = ⟨x, PM.pts x.points.toNat, [], []⟩ := by unfold newSess; rw [if_pos hq]
  obtain ⟨g1, g2, g3, g4⟩ := validPz_gens hq
  have hl : x.moves.length ≤ 2097152 := by omega
  have hl2 : ∀ y ∈ x.moves, y.length ≤ 2097152 := fun y hy => by have := (g4 y hy).1; omega
  have Hp := Lib.hid hp; clear hp g4
  go_enter Try.func11, Try.ntmps11
  go_wp2_with fail
  with_reducible refine (specIsValidPuzzle_any [.int .i64 x.points, .string x.names, .slice A2 x.moves.length C2] x _ _ (Rp.keep h0 (by with_reducible repeat (first | exact Only.refl _ _ | assumption | refine Only.drewN ?_ _ | refine Only.drew ?_ | refine Only.alloc ?_ _ | refine Only.setCell ?_ (by intro hh; exfalso; simp at hh; try omega) _ | refine Only.trans ?_ (by assumption))))).mono ?_
  rintro e w1 ⟨rfl, t1⟩
  have T1 : Only [] w w1 := (by with_reducible repeat (first | exact Only.refl _ _ | assumption | refine Only.drewN ?_ _ | refine Only.drew ?_ | refine Only.alloc ?_ _ | refine Only.setCell ?_ (by intro hh; exfalso; simp at hh; try omega) _ | refine Only.trans ?_ (by assumption)))
  have hB : Blk w1 w.heap.size [.int .i64 x.points, .string x.names, .slice A2 x.moves.length C2] := Blk.keep (Blk.keep (Blk.new_at rfl) ((Only.refl _ _).alloc _)) t1
  have HB := Lib.hid hB; clear hB
  have y1 := t1.cells_eq (w.heap.size + 1) (by simp) (by simp)
  have z1 := t1.frozen_eq (w.heap.size + 1) (by simp) (by simp)
  have s1 : w.heap.size + 1 < w1.heap.size := by have := t1.size; simp at this; omega
  rw [hq]
  go_upto_region 3 with fail
  go_region_held3 (fun w' => Only [w.heap.size + 1] w1 w' ∧ w'.cell? ⟨w.heap.size, 0, none⟩ = some (.int .i64 x.points) ∧ w'.cell? ⟨w.heap.size, 1, none⟩ = some (.string x.names) ∧ w'.cell? ⟨w.heap.size, 2, none⟩ = some (.slice A2 x.moves.length C2)) ((refine and_of ?_ (fun h__ => ⟨(Blk.only HB.out h__ (by simp)).cell 0 rfl, (Blk.only HB.out h__ (by simp)).cell 1 rfl, (Blk.only HB.out h__ (by simp)).cell 2 rfl⟩); first | exact (Only.refl _ _).drew | exact Only.keepThen (And.left (by assumption)) (by assumption) | exact Only.setCell (Only.setCell (Only.setCell (Only.setCell (Only.setCell (Only.setCell (And.left (by assumption)) (by intro _; simp) _) (by intro _; simp) _) (by intro _; simp) _) (by intro _; simp) _) (by intro _; simp) _) (by intro _; simp) _)) (first
    | (go_at_call 50; (with_reducible refine (copyPuzzle_any [.int .i64 x.points, .string x.names, .slice A2 x.moves.length C2] x _ _ (Rp.keep h0 (Only.own1 T1 (And.left (by assumption)) (Nat.le_succ _))) hl hl2).mono ?_); rintro e w2 ⟨u1, f1, rfl, r1, F1, t2⟩; have q1 := r1; obtain ⟨v1, rfl, -, -, k1⟩ := q1; obtain ⟨A1, C1, _, _, rfl, -⟩ := k1.open_; have y2 := t2.cells_eq (w.heap.size + 1) s1 (by simp); have z2 := t2.frozen_eq (w.heap.size + 1) s1 (by simp); have s2 : w.heap.size + 1 < w2.heap.size := Nat.lt_of_lt_of_le s1 t2.size)
    | (go_at_call 51; (with_reducible refine (specIdentity_i x.points _ (by omega) (by omega)).mono ?_); rintro e w3 ⟨u2, f2, rfl, r2, F2, t3⟩; obtain ⟨A2', C2', _, _, rfl, -⟩ := r2.open_; have y3 := t3.cells_eq (w.heap.size + 1) s2 (by simp); have z3 := t3.frozen_eq (w.heap.size + 1) s2 (by simp); have s3 : w.heap.size + 1 < w3.heap.size := Nat.lt_of_lt_of_le s2 t3.size)
    | fail "no arm")
  go_wp2
  have G1 : ∀ b' ∈ f1, w.heap.size + 2 ≤ b' := fun b' hb => by have := F1.ge b' hb; simp at this; omega
  have G2 : ∀ b' ∈ f2, w.heap.size + 2 ≤ b' := fun b' hb => by have := F2.ge b' hb; omega
  have T3 : Only [] w w3 := T1.trans (((Only.refl _ _).drew.trans t2).trans t3)
  have hW : Only [w.heap.size + 1] w3 ((((((w3.setCell ⟨w.heap.size + 1, 0, none⟩ (.int .i64 x.points)).setCell ⟨w.heap.size + 1, 1, none⟩ (.string x.names)).setCell ⟨w.heap.size + 1, 2, none⟩ (.slice A1 x.moves.length C1)).setCell ⟨w.heap.size + 1, 3, none⟩ (.slice A2' (PM.pts x.points.toNat).length C2')).setCell ⟨w.heap.size + 1, 4, none⟩ (.slice none 0 0)).setCell ⟨w.heap.size + 1, 5, none⟩ (.slice none 0 0)) := (by with_reducible repeat (first | exact Only.refl _ _ | assumption | refine Only.drewN ?_ _ | refine Only.drew ?_ | refine Only.alloc ?_ _ | refine Only.setCell ?_ (by intro _; simp) _ | refine Only.trans ?_ (Only.weaken (by assumption) _)))
  have n1 := Rp.only (Rp.keep r1 t3) hW (fun b' hb hm => by have := G1 b' hb; simp at hm; omega)
  have n2 := Rp.only r2 hW (fun b' hb hm => by have := G2 b' hb; simp at hm; omega)
  have n3 := (Fresh.append (F1.keep t3) F2 t2.size (fun b' hb => F1.lt b' hb)).only hW (fun b' hb hm => by
    simp at hm
    rcases List.mem_append.1 hb with hb | hb
    · have := G1 b' hb; omega
    · have := G2 b' hb; omega)
  refine bodyPost_ret (v := .tuple #[.agg #[.int .i64 x.points, .string x.names, .slice A1 x.moves.length C1, .slice A2' (PM.pts x.points.toNat).length C2', .slice none 0 0, .slice none 0 0], .bool true]) (by simp [results, Try.results11, go_sem, y3, y2, y1, s1, s2, s3]) rfl ⟨[.int .i64 x.points, .string x.names, .slice A1 x.moves.length C1, .slice A2' (PM.pts x.points.toNat).length C2', .slice none 0 0, .slice none 0 0], f1 ++ (f2 ++ ([] ++ [])), rfl, ?_, by simpa using Fresh.mono n3 (by simp; omega), Only.own1 T3 hW (Nat.le_succ _)⟩
  rw [Hp.out]
  exact ⟨_, _, _, _, f1, f2, [], [], rfl, rfl, n1, n2, nil_rd _, nil_rd _⟩
set_option maxHeartbeats 2000000 in
theorem implNewSession_any (cs : List Value) (x : Puzzle) (fp : List Nat) (w : World) (h : Rp.rep w cs x fp) :
    Calls Try.prog 13 #[.agg cs.toArray] w fun e w' => ∃ cs' fp', e = .returned (.tuple #[.agg cs'.toArray, .bool (validPz x)]) ∧ Rp.rep w' cs' (newSess x) fp' ∧ Fresh w.heap.size w' fp' ∧ Only [] w w' := by
  have h0 := h
  obtain ⟨v2, rfl, p0, p1, h2⟩ := h
  obtain ⟨A2, C2, _, _, rfl, -⟩ := h2.open_
  rcases hq : validPz x
  · have hp : newSess x = noSess := by unfold newSess; rw [if_neg (by simp [hq])]
    have Hp := Lib.hid hp; clear hp
    go_enter Try.func13, Try.ntmps13
    go_wp2_with ((go_at_call 52; (with_reducible refine (implIsValidPuzzle_any [.int .i64 x.points, .string x.names, .slice A2 x.moves.length C2] x _ _ (Rp.keep h0 (by with_reducible repeat (first | exact Only.refl _ _ | assumption | refine Only.drewN ?_ _ | refine Only.drew ?_ | refine Only.alloc ?_ _ | refine Only.setCell ?_ (by intro hh; exfalso; simp at hh; try omega) _ | refine Only.trans ?_ (by assumption))))).mono ?_); rintro e w1 ⟨rfl, t1⟩; have y1 := t1.cells_eq (w.heap.size + 1) (by simp) (by simp); have z1 := t1.frozen_eq (w.heap.size + 1) (by simp) (by simp); have s1 : w.heap.size + 1 < w1.heap.size := (by have := t1.size; simp at this; omega)))
    refine bodyPost_ret (v := .tuple #[.agg #[.int .i64 0, .string ⟨#[]⟩, .slice none 0 0, .slice none 0 0, .slice none 0 0, .slice none 0 0], .bool false]) (by simp [results, Try.results13, go_sem, y1]) rfl ⟨[.int .i64 0, .string ⟨#[]⟩, .slice none 0 0, .slice none 0 0, .slice none 0 0, .slice none 0 0], [], rfl, ?_, Fresh.nil _ _, (by with_reducible repeat (first | exact Only.refl _ _ | assumption | refine Only.drewN ?_ _ | refine Only.drew ?_ | refine Only.alloc ?_ _ | refine Only.setCell ?_ (by intro hh; exfalso; simp at hh; try omega) _ | refine Only.trans ?_ (by assumption)))⟩
    rw [Hp.out]; exact noSess_rep _
  have hp : newSess x = ⟨x, PM.pts x.points.toNat, [], []⟩ := by unfold newSess; rw [if_pos hq]
  obtain ⟨g1, g2, g3, g4⟩ := validPz_gens hq
  have hl : x.moves.length ≤ 2097152 := by omega
  have hl2 : ∀ y ∈ x.moves, y.length ≤ 2097152 := fun y hy => by have := (g4 y hy).1; omega
  have Hp := Lib.hid hp; clear hp g4
  go_enter Try.func13, Try.ntmps13
  go_wp2_with fail
  with_reducible refine (implIsValidPuzzle_any [.int .i64 x.points, .string x.names, .slice A2 x.moves.length C2] x _ _ (Rp.keep h0 (by with_reducible repeat (first | exact Only.refl _ _ | assumption | refine Only.drewN ?_ _ | refine Only.drew ?_ | refine Only.alloc ?_ _ | refine Only.setCell ?_ (by intro hh; exfalso; simp at hh; try omega) _ | refine Only.trans ?_ (by assumption))))).mono ?_
  rintro e w1 ⟨rfl, t1⟩
  have T1 : Only [] w w1 := (by with_reducible repeat (first | exact Only.refl _ _ | assumption | refine Only.drewN ?_ _ | refine Only.drew ?_ | refine Only.alloc ?_ _ | refine Only.setCell ?_ (by intro hh; exfalso; simp at hh; try omega) _ | refine Only.trans ?_ (by assumption)))
  have hB : Blk w1 w.heap.size [.int .i64 x.points, .string x.names, .slice A2 x.moves.length C2] := Blk.keep (Blk.keep (Blk.new_at rfl) ((Only.refl _ _).alloc _)) t1
  have HB := Lib.hid hB; clear hB
  have y1 := t1.cells_eq (w.heap.size + 1) (by simp) (by simp)
  have z1 := t1.frozen_eq (w.heap.size + 1) (by simp) (by simp)
  have s1 : w.heap.size + 1 < w1.heap.size := by have := t1.size; simp at this; omega
  rw [hq]
  go_upto_region 3 with fail
  go_region_held3 (fun w' => Only [w.heap.size + 1] w1 w' ∧ w'.cell? ⟨w.heap.size, 0, none⟩ = some (.int .i64 x.points) ∧ w'.cell? ⟨w.heap.size, 1, none⟩ = some (.string x.names) ∧ w'.cell? ⟨w.heap.size, 2, none⟩ = some (.slice A2 x.moves.length C2)) ((refine and_of ?_ (fun h__ => ⟨(Blk.only HB.out h__ (by simp)).cell 0 rfl, (Blk.only HB.out h__ (by simp)).cell 1 rfl, (Blk.only HB.out h__ (by simp)).cell 2 rfl⟩); first | exact (Only.refl _ _).drew | exact Only.keepThen (And.left (by assumption)) (by assumption) | exact Only.setCell (Only.setCell (Only.setCell (Only.setCell (Only.setCell (Only.setCell (And.left (by assumption)) (by intro _; simp) _) (by intro _; simp) _) (by intro _; simp) _) (by intro _; simp) _) (by intro _; simp) _) (by intro _; simp) _)) (first
    | (go_at_call 54; (with_reducible refine (implIdentity_i x.points _ (by omega) (by omega)).mono ?_); rintro e w2 ⟨u2, f2, rfl, r2, F2, t2⟩; have hl3 : (PM.pts x.points.toNat).length ≤ 1000000 := (by rw [PM.pts_len]; omega); have y2 := t2.cells_eq (w.heap.size + 1) s1 (by simp); have z2 := t2.frozen_eq (w.heap.size + 1) s1 (by simp); have s2 : w.heap.size + 1 < w2.heap.size := Nat.lt_of_lt_of_le s1 t2.size)
    | (go_at_call 53; (with_reducible refine (newSession_any [.int .i64 x.points, .string x.names, .slice A2 x.moves.length C2] x _ u2 (PM.pts x.points.toNat) f2 _ (Rp.keep h0 (Only.own1 T1 (And.left (by assumption)) (Nat.le_succ _))) (Rp.keep r2 (by first | exact Only.refl _ _ | assumption)) hl hl2 hl3).mono ?_); rintro e w3 ⟨u1, f1, rfl, r1, F1, t3⟩; have q1 := r1; obtain ⟨c0, a1, a2, a3, _, _, _, _, rfl, -, b0, b1, b2, b3⟩ := q1; obtain ⟨b4, rfl, -, -, b5⟩ := b0; obtain ⟨A4, C4, _, _, rfl, -⟩ := b5.open_; obtain ⟨A5, C5, _, _, rfl, -⟩ := b1.open_; obtain ⟨A6, C6, _, _, rfl, -⟩ := b2.open_; obtain ⟨A7, C7, _, _, rfl, -⟩ := b3.open_; have y3 := t3.cells_eq (w.heap.size + 1) s2 (by simp); have z3 := t3.frozen_eq (w.heap.size + 1) s2 (by simp); have s3 : w.heap.size + 1 < w3.heap.size := Nat.lt_of_lt_of_le s2 t3.size)
    | fail "no arm")
  go_wp2
  have G1 : ∀ b' ∈ f1, w.heap.size + 2 ≤ b' := fun b' hb => by have := F1.ge b' hb; omega
  have T3 : Only [] w w3 := T1.trans (((Only.refl _ _).drew.trans t2).trans t3)
  have hW : Only [w.heap.size + 1] w3 ((((((w3.setCell ⟨w.heap.size + 1, 0, none⟩ (.int .i64 x.points)).setCell ⟨w.heap.size + 1, 1, none⟩ (.string x.names)).setCell ⟨w.heap.size + 1, 2, none⟩ (.slice A4 x.moves.length C4)).setCell ⟨w.heap.size + 1, 3, none⟩ (.slice A5 (PM.pts x.points.toNat).length C5)).setCell ⟨w.heap.size + 1, 4, none⟩ (.slice A6 ([] : List (List Int)).length C6)).setCell ⟨w.heap.size + 1, 5, none⟩ (.slice A7 ([] : List (List Int)).length C7)) := (by with_reducible repeat (first | exact Only.refl _ _ | assumption | refine Only.drewN ?_ _ | refine Only.drew ?_ | refine Only.alloc ?_ _ | refine Only.setCell ?_ (by intro _; simp) _ | refine Only.trans ?_ (Only.weaken (by assumption) _)))
  have n1 := Rp.only r1 hW (fun b' hb hm => by have := G1 b' hb; simp at hm; omega)
  have n3 := F1.only hW (fun b' hb hm => by have := G1 b' hb; simp at hm; omega)
  refine bodyPost_ret (v := .tuple #[.agg #[.int .i64 x.points, .string x.names, .slice A4 x.moves.length C4, .slice A5 (PM.pts x.points.toNat).length C5, .slice A6 ([] : List (List Int)).length C6, .slice A7 ([] : List (List Int)).length C7], .bool true]) (by simp [results, Try.results13, go_sem, y3, y2, y1, s1, s2, s3]) rfl ⟨[.int .i64 x.points, .string x.names, .slice A4 x.moves.length C4, .slice A5 (PM.pts x.points.toNat).length C5, .slice A6 ([] : List (List Int)).length C6, .slice A7 ([] : List (List Int)).length C7], f1, rfl, ?_, Fresh.mono n3 (by omega), Only.own1 T3 hW (Nat.le_succ _)⟩
  rw [Hp.out]
  exact n1
end Go.Proofs.Ytmilmbgnkpkmnaa
