/- The program's phases: a puzzle with a move subset (laws 46, 51, 57, 58). The program's phases: finding a state, membership, the second phase (laws 46, 51, 57, 58). The program's second phase: the word of the subset, mapped in place (laws 46, 51, 57, 58). The word of the second phase, by the reference (laws 46, 51, 57, 58). A method's goals grow: told by their places (laws 41, 51, 57, 58). The program's method: its check, its words (laws 41, 51, 57, 58). Whether a word solves a state: the reference's and the program's functions (laws 42, 43). The program's search of patterns (law 16). The reference's BuildTables (law 16). The program's ReachablePatterns, BuildTable, BuildTables (law 16). Valid tables, sets of tables: the reference's and the program's functions (laws 40, 42, 43, 52). (Printed by mkvtab.py.) The reference's LowerBound (laws 40, 42, 43, 52). The program's LowerBound (laws 40, 42, 43, 52). Claim: plain data, how it lies in memory, the law's own comparison. -/
import Derived.Test.YtclhblofchfglaaGreatRowTwoPhaseCertifiedG12
import Derived.Test.YtclhblofchfglaaGreatRowTwoPhaseCertifiedG18
import Derived.Test.YtclhblofchfglaaGreatRowTwoPhaseCertifiedG11
import Derived.Deep.DeepCutAuto
import Derived.Test.YtclhblofchfglaaGreatRowTwoPhaseCertifiedG8
import Derived.Test.YtclhblofchfglaaGreatRowTwoPhaseCertifiedG5
import Derived.Deep.RegionHeld3
import Derived.Test.YtclhblofchfglaaGreatRowTwoPhaseCertifiedG10
import Derived.Test.YtclhblofchfglaaGreatRowTwoPhaseCertifiedG4
import Derived.Test.YtclhblofchfglaaGreatRowTwoPhaseCertifiedG14
import Derived.Deep.RegionLaw
namespace Go.Proofs.YtclhblofchfglaaGreat
open Go.RowKit
set_option maxRecDepth 10000

/-- h is a puzzle with a move subset, both explored -/
def Phs (w : World) (x : Puzzle) (t ts : Table) (sub : List Int) (h : Value) : Prop :=
  ∃ g ve vs vsub f, h = .pointer (some ⟨g, 0, none⟩) ∧ Blk w g [ve, vsub, vs] ∧ Exp w x t ve ∧ Rd w vsub sub f ∧ Exp w (subP x sub) ts vs
theorem Phs.keep {w w' : World} {x : Puzzle} {t ts : Table} {sub : List Int} {h : Value} (hp : Phs w x t ts sub h) (ho : Only [] w w') : Phs w' x t ts sub h := by
  obtain ⟨g, ve, vs, vsub, f, h1, h2, h3, h4, h5⟩ := hp
  exact ⟨g, ve, vs, vsub, f, h1, h2.keep ho, h3.keep ho, Rp.keep h4 ho, h5.keep ho⟩
theorem Exp.ptr {w : World} {x : Puzzle} {t : Table} {v : Value} (h : Exp w x t v) : ∃ g, v = .pointer (some ⟨g, 0, none⟩) := by
  obtain ⟨g, _, _, _, _, _, _, _, _, _, _, _, _, hv, -⟩ := h
  exact ⟨g, hv⟩
/-- the cell of a state -/
theorem Exp.state {w : World} {x : Puzzle} {t : Table} {v : Value} (h : Exp w x t v) {i : Nat} (hi : i < t.patterns.length) : ∃ (g b o c a1 : _) (cc : Nat) (fu : List Nat), v = .pointer (some ⟨g, 0, none⟩) ∧ w.cell? ⟨g, 3, none⟩ = some (.slice (some ⟨b, o, none⟩) t.patterns.length c) ∧ t.patterns.length ≤ 9223372036854775807 ∧
    w.cell? ⟨b, o + i, none⟩ = some (.slice a1 (t.patterns.getD i []).length cc) ∧ Rd w (.slice a1 (t.patterns.getD i []).length cc) (t.patterns.getD i []) fu := by
  obtain ⟨g, M, v2, us, ud, up, uy, un, fm, f1, f2, f3, km, rfl, hB, -, hS, -, -, -⟩ := h
  obtain ⟨aS, cS, obS, fpS, rfl, -, SS⟩ := hS.open_
  obtain ⟨bS, oS, ur, rfl, -, hcS, hur⟩ := SS.atRow i hi
  rw [show t.patterns[i] = t.patterns.getD i [] from (getD_get hi).symm] at hur
  obtain ⟨au, cu, rfl, Iu⟩ := hur.ints
  exact ⟨g, bS, oS, cS, au, cu, _, rfl, hB.cell 3 rfl, SS.bound, hcS, Iu.rd⟩
set_option maxHeartbeats 1000000 in
theorem implIsMoveSubset_any (cs : List Value) (x : Puzzle) (fp : List Nat) (v : Value) (sub : List Int) (fs0 : List Nat) (w : World) (h : Rp.rep w cs x fp) (hs : Rd w v sub fs0) :
    Calls Tryz.prog 168 #[.agg cs.toArray, v] w fun e w' => e = .returned (.bool (validPz x && trackB x.moves.length sub)) ∧ Only [] w w' := by
  have h0 := h
  obtain ⟨v2, rfl, p0, p1, h2⟩ := h
  have X0 : Blk (w.alloc (.cells #[.int .i64 x.points, .string x.names, v2] 33)) w.heap.size [.int .i64 x.points, .string x.names, v2] := Blk.new w [.int .i64 x.points, .string x.names, v2] 33
  rcases hv : validPz x
  · have Hv := Lib.hid hv
    clear hv p0 p1
    go_enter Tryz.func168, Tryz.ntmps168
    go_wp2_with (first
      | (go_at_call 85; (with_reducible refine (implIsValidPuzzle_any [.int .i64 x.points, .string x.names, v2] x _ _ (Rp.keep h0 (by with_reducible repeat (first | exact Only.refl _ _ | assumption | refine Only.drewN ?_ _ | refine Only.drew ?_ | refine Only.alloc ?_ _ | refine Only.setCell ?_ (by intro hh; exfalso; simp at hh; try omega) _ | refine Only.trans ?_ (by assumption))))).mono ?_); rintro e w1 ⟨he, t1⟩; rw [Hv.out] at he; subst he)
      | fail "no arm")
    go_ret
    exact ⟨rfl, (by with_reducible repeat (first | exact Only.refl _ _ | assumption | refine Only.drewN ?_ _ | refine Only.drew ?_ | refine Only.alloc ?_ _ | refine Only.setCell ?_ (by intro hh; exfalso; simp at hh; try omega) _ | refine Only.trans ?_ (by assumption)))⟩
  · obtain ⟨q1, q20, q8, -⟩ := validPz_facts hv
    have Hv := Lib.hid hv
    obtain ⟨r, hr⟩ : ∃ r, r = trackB x.moves.length sub := ⟨_, rfl⟩
    have Hr := Lib.hid hr
    rw [← hr]
    clear hv hr p0 p1
    go_enter Tryz.func168, Tryz.ntmps168
    go_wp2_with (first
      | (go_at_call 85; (with_reducible refine (implIsValidPuzzle_any [.int .i64 x.points, .string x.names, v2] x _ _ (Rp.keep h0 (by with_reducible repeat (first | exact Only.refl _ _ | assumption | refine Only.drewN ?_ _ | refine Only.drew ?_ | refine Only.alloc ?_ _ | refine Only.setCell ?_ (by intro hh; exfalso; simp at hh; try omega) _ | refine Only.trans ?_ (by assumption))))).mono ?_); rintro e w1 ⟨he, t1⟩; rw [Hv.out] at he; subst he; have X1 := X0.keep t1; have x2 := X1.cell 2 rfl; have K1 : Only [] w w1 := (by with_reducible repeat (first | exact Only.refl _ _ | assumption | refine Only.drewN ?_ _ | refine Only.drew ?_ | refine Only.alloc ?_ _ | refine Only.setCell ?_ (by intro hh; exfalso; simp at hh; try omega) _ | refine Only.trans ?_ (by assumption))))
      | (go_at_call 97; (with_reducible refine (lengthRows_rd v2 x.moves _ w1 (Rp.keep h2 K1)).mono ?_); rintro e w1 ⟨rfl, rfl⟩)
      | (go_at_call 114; (with_reducible refine (isTracked_rd (x.moves.length : Int) v sub _ w1 (Rp.keep hs K1) (by omega) (by omega)).mono ?_); rintro e w3 ⟨he, d3⟩; rw [← Hr.out] at he; subst he; have t3 := d3.only [])
      | fail "no arm")
    go_ret
    exact ⟨rfl, K1.trans t3⟩
set_option maxHeartbeats 2000000 in
theorem newPhases_none (cs : List Value) (x : Puzzle) (fp : List Nat) (v : Value) (sub : List Int) (fs0 : List Nat) (w : World) (h : Rp.rep w cs x fp) (hs : Rd w v sub fs0) (hn : ((expl x).isSome && trackB x.moves.length sub) = false) :
    Calls Tryz.prog 129 #[.agg cs.toArray, v] w fun e w' => e = .returned (.tuple #[.pointer none, .bool false]) ∧ Only [] w w' := by
  have h0 := h
  obtain ⟨v2, rfl, p0, p1, h2⟩ := h
  clear p0 p1 h2
  have X0 : Blk (w.alloc (.cells #[.int .i64 x.points, .string x.names, v2] 33)) w.heap.size [.int .i64 x.points, .string x.names, v2] := Blk.new w [.int .i64 x.points, .string x.names, v2] 33
  rcases he : expl x with _ | t
  · have He := Lib.hid he
    clear he hn
    go_enter Tryz.func129, Tryz.ntmps129
    go_wp2_with (first
      | (go_at_call 112; (with_reducible refine (explore_none [.int .i64 x.points, .string x.names, v2] x _ _ (Rp.keep h0 (by with_reducible repeat (first | exact Only.refl _ _ | assumption | refine Only.drewN ?_ _ | refine Only.drew ?_ | refine Only.alloc ?_ _ | refine Only.setCell ?_ (by intro hh; exfalso; simp at hh; try omega) _ | refine Only.trans ?_ (by assumption)))) He.out).mono ?_); rintro e w1 ⟨rfl, t1⟩)
      | fail "no arm")
    exact bodyPost_ret (v := .tuple #[.pointer none, .bool false]) (by simp [results, Tryz.results129, go_sem]) rfl ⟨rfl, (by with_reducible repeat (first | exact Only.refl _ _ | assumption | refine Only.drewN ?_ _ | refine Only.drew ?_ | refine Only.alloc ?_ _ | refine Only.setCell ?_ (by intro hh; exfalso; simp at hh; try omega) _ | refine Only.trans ?_ (by assumption)))⟩
  · rw [he] at hn
    have hq : (validPz x && trackB x.moves.length sub) = false := by
      have : trackB x.moves.length sub = false := by simpa using hn
      rw [this]; simp
    have Hq := Lib.hid hq
    have He := Lib.hid he
    clear he hn hq
    go_enter Tryz.func129, Tryz.ntmps129
    go_wp2_with (first
      | (go_at_call 112; (with_reducible refine (explore_some [.int .i64 x.points, .string x.names, v2] x t _ _ (Rp.keep h0 (by with_reducible repeat (first | exact Only.refl _ _ | assumption | refine Only.drewN ?_ _ | refine Only.drew ?_ | refine Only.alloc ?_ _ | refine Only.setCell ?_ (by intro hh; exfalso; simp at hh; try omega) _ | refine Only.trans ?_ (by assumption)))) He.out).mono ?_); rintro e w1 ⟨z, rfl, hX, t1⟩; have X1 := X0.keep t1; have x0 := X1.cell 0 rfl; have x1 := X1.cell 1 rfl; have x2 := X1.cell 2 rfl)
      | (go_at_call 168; (with_reducible refine (implIsMoveSubset_any [.int .i64 x.points, .string x.names, v2] x _ v sub _ _ (Rp.keep h0 (by with_reducible repeat (first | exact Only.refl _ _ | assumption | refine Only.drewN ?_ _ | refine Only.drew ?_ | refine Only.alloc ?_ _ | refine Only.setCell ?_ (by intro hh; exfalso; simp at hh; try omega) _ | refine Only.trans ?_ (by assumption)))) (Rp.keep hs (by with_reducible repeat (first | exact Only.refl _ _ | assumption | refine Only.drewN ?_ _ | refine Only.drew ?_ | refine Only.alloc ?_ _ | refine Only.setCell ?_ (by intro hh; exfalso; simp at hh; try omega) _ | refine Only.trans ?_ (by assumption))))).mono ?_); rintro e w2 ⟨he, t2⟩; rw [Hq.out] at he; subst he)
      | fail "no arm")
    exact bodyPost_ret (v := .tuple #[.pointer none, .bool false]) (by simp [results, Tryz.results129, go_sem]) rfl ⟨rfl, (by with_reducible repeat (first | exact Only.refl _ _ | assumption | refine Only.drewN ?_ _ | refine Only.drew ?_ | refine Only.alloc ?_ _ | refine Only.setCell ?_ (by intro hh; exfalso; simp at hh; try omega) _ | refine Only.trans ?_ (by assumption)))⟩
set_option maxHeartbeats 2000000 in
theorem newPhases_some (cs : List Value) (x : Puzzle) (t ts : Table) (fp : List Nat) (v : Value) (sub : List Int) (fs0 : List Nat) (w : World) (h : Rp.rep w cs x fp) (hs : Rd w v sub fs0) (he : expl x = some t) (ht : trackB x.moves.length sub = true) (h2 : expl (subP x sub) = some ts) :
    Calls Tryz.prog 129 #[.agg cs.toArray, v] w fun e w' => ∃ z, e = .returned (.tuple #[z, .bool true]) ∧ Phs w' x t ts sub z ∧ Only [] w w' := by
  have h0 := h
  obtain ⟨v2, rfl, p0, p1, hm⟩ := h
  obtain ⟨a, cap, rfl, I⟩ := hs.ints
  clear p0 p1 hm
  obtain ⟨hb, -⟩ := expl_built he
  have X0 : Blk (w.alloc (.cells #[.int .i64 x.points, .string x.names, v2] 33)) w.heap.size [.int .i64 x.points, .string x.names, v2] := Blk.new w [.int .i64 x.points, .string x.names, v2] 33
  have Hq := Lib.hid (show (validPz x && trackB x.moves.length sub) = true by rw [hb.v, ht]; rfl)
  have Hv := Lib.hid hb.v
  have Ht := Lib.hid ht
  have He := Lib.hid he
  have H2 := Lib.hid h2
  clear he ht h2 hb
  go_enter Tryz.func129, Tryz.ntmps129
  go_wp2_with (first
    | (go_at_call 112; (with_reducible refine (explore_some [.int .i64 x.points, .string x.names, v2] x t _ _ (Rp.keep h0 (by with_reducible repeat (first | exact Only.refl _ _ | assumption | refine Only.drewN ?_ _ | refine Only.drew ?_ | refine Only.alloc ?_ _ | refine Only.setCell ?_ (by intro hh; exfalso; simp at hh; try omega) _ | refine Only.trans ?_ (by assumption)))) He.out).mono ?_); rintro e w1 ⟨z, rfl, hX, t1⟩; obtain ⟨gz, rfl⟩ := hX.ptr; have X1 := X0.keep t1; have x0 := X1.cell 0 rfl; have x1 := X1.cell 1 rfl; have x2 := X1.cell 2 rfl)
    | (go_at_call 168; (with_reducible refine (implIsMoveSubset_any [.int .i64 x.points, .string x.names, v2] x _ _ sub _ _ (Rp.keep h0 (by with_reducible repeat (first | exact Only.refl _ _ | assumption | refine Only.drewN ?_ _ | refine Only.drew ?_ | refine Only.alloc ?_ _ | refine Only.setCell ?_ (by intro hh; exfalso; simp at hh; try omega) _ | refine Only.trans ?_ (by assumption)))) (Rp.keep hs (by with_reducible repeat (first | exact Only.refl _ _ | assumption | refine Only.drewN ?_ _ | refine Only.drew ?_ | refine Only.alloc ?_ _ | refine Only.setCell ?_ (by intro hh; exfalso; simp at hh; try omega) _ | refine Only.trans ?_ (by assumption))))).mono ?_); rintro e w2 ⟨he, t2⟩; rw [Hq.out] at he; subst he; have X2 := X1.keep t2; have y0 := X2.cell 0 rfl; have y1 := X2.cell 1 rfl; have y2 := X2.cell 2 rfl)
    | (go_at_call 169; (with_reducible refine (subsetPuzzle_any [.int .i64 x.points, .string x.names, v2] x _ _ sub _ _ (Rp.keep h0 (by with_reducible repeat (first | exact Only.refl _ _ | assumption | refine Only.drewN ?_ _ | refine Only.drew ?_ | refine Only.alloc ?_ _ | refine Only.setCell ?_ (by intro hh; exfalso; simp at hh; try omega) _ | refine Only.trans ?_ (by assumption)))) (Rp.keep hs (by with_reducible repeat (first | exact Only.refl _ _ | assumption | refine Only.drewN ?_ _ | refine Only.drew ?_ | refine Only.alloc ?_ _ | refine Only.setCell ?_ (by intro hh; exfalso; simp at hh; try omega) _ | refine Only.trans ?_ (by assumption)))) Hv.out Ht.out).mono ?_); rintro e w3 ⟨cs3, f3, rfl, r3, t3⟩)
    | (go_at_call 112; (with_reducible refine (explore_some cs3 (subP x sub) ts _ w3 r3 H2.out).mono ?_); rintro e w4 ⟨z4, rfl, hX4, t4⟩; obtain ⟨g4, rfl⟩ := hX4.ptr)
    | fail "no arm")
  have K4 : Only [] w w4 := (by with_reducible repeat (first | exact Only.refl _ _ | assumption | refine Only.drewN ?_ _ | refine Only.drew ?_ | refine Only.alloc ?_ _ | refine Only.setCell ?_ (by intro hh; exfalso; simp at hh; try omega) _ | refine Only.trans ?_ (by assumption)))
  have k14 : Only [] w1 w4 := (t2.trans t3).trans t4
  have ka : Only [] w4 (w4.alloc (.cells #[.pointer (some ⟨gz, 0, none⟩), .slice a sub.length cap, .pointer (some ⟨g4, 0, none⟩)] 98)) := (Only.refl _ _).alloc _
  exact bodyPost_ret (v := .tuple #[.pointer (some ⟨w4.heap.size, 0, none⟩), .bool true]) (by simp [results, Tryz.results129, go_sem]) rfl ⟨_, rfl, ⟨w4.heap.size, _, _, _, _, rfl, Blk.new w4 _ _, (hX.keep k14).keep ka, Rp.keep hs (K4.trans ka), hX4.keep ka⟩, K4.trans ka⟩
end Go.Proofs.YtclhblofchfglaaGreat

namespace Go.Proofs.YtclhblofchfglaaGreat
open Go.RowKit
set_option maxRecDepth 10000

set_option maxHeartbeats 2000000 in
theorem isIn_any (x : Puzzle) (t ts : Table) (sub : List Int) (h : Value) (i : Nat) (w : World) (hp : Phs w x t ts sub h) (h2 : expl (subP x sub) = some ts) (hi : i < t.patterns.length) :
    Calls Tryz.prog 79 #[h, .int .i64 i] w fun e w' => e = .returned (.bool (subS ts (t.patterns.getD i []))) ∧ Only [] w w' := by
  obtain ⟨gh, ve, vs, vsub, f, rfl, hB, hE, -, hS⟩ := hp
  obtain ⟨ge, b, o, c, a1, cc, fu, rfl, y3, hlen, hcS, hu⟩ := hE.state hi
  obtain ⟨gs, rfl⟩ := hS.ptr
  have x0 := hB.cell 0 rfl
  have x2 := hB.cell 2 rfl
  have hil : (i : Int) < t.patterns.length := by omega
  obtain ⟨s, hs⟩ : ∃ s, s = t.patterns.getD i [] := ⟨_, rfl⟩
  rw [← hs] at hcS hu ⊢
  clear hs
  by_cases hm : s ∈ ts.patterns
  · obtain ⟨j, hj, hjs⟩ := List.getElem_of_mem hm
    have hf := Lib.hid (fun (W : World) (hW : Only [] w W) => find_yes (subP x sub) ts (.pointer (some ⟨gs, 0, none⟩)) (.slice a1 s.length cc) s _ j W (hS.keep hW) h2 (Rp.keep hu hW) hj (by rw [getD_get hj, hjs]))
    have Hfin := Lib.hid (show true = subS ts s by unfold subS; rw [decide_eq_true hm])
    clear hm hj hjs h2 hE
    go_enter Tryz.func79, Tryz.ntmps79
    go_wp2
    go_region_held3 (fun w' => Only [] w w' ∧ w'.cell? ⟨gh, 2, none⟩ = some (.pointer (some ⟨gs, 0, none⟩)) ∧ w'.cell? ⟨gh, 0, none⟩ = some (.pointer (some ⟨ge, 0, none⟩)) ∧ w'.cell? ⟨ge, 3, none⟩ = some (.slice (some ⟨b, o, none⟩) t.patterns.length c) ∧ w'.cell? ⟨b, o + i, none⟩ = some (.slice a1 s.length cc)) (((refine and_of ?_ (fun h__ => ⟨h__.cell (by simp) x2, h__.cell (by simp) x0, h__.cell (by simp) y3, h__.cell (by simp) hcS⟩)); first | exact (Only.refl _ _).drew | exact ((Only.refl _ _).drewN _).drew | exact Only.trans (And.left (by assumption)) (by assumption) | exact Only.alloc (And.left (by assumption)) _ | assumption)) (first | (go_at_call 113; (with_reducible refine (hf.out _ (And.left (by assumption))).mono ?_); rintro e w5 ⟨rfl, t5⟩) | fail "no arm")
    have k5 : Only [] w w5 := (Only.refl [] w).trans (And.left (by assumption))
    go_wp2
    go_ret
    exact ⟨ret_bool Hfin.out, k5⟩
  · have hf := Lib.hid (fun (W : World) (hW : Only [] w W) => find_no (subP x sub) ts (.pointer (some ⟨gs, 0, none⟩)) (.slice a1 s.length cc) s _ W (hS.keep hW) h2 (Rp.keep hu hW) hm)
    have Hfin := Lib.hid (show false = subS ts s by unfold subS; rw [decide_eq_false hm])
    clear hm h2 hE
    go_enter Tryz.func79, Tryz.ntmps79
    go_wp2
    go_region_held3 (fun w' => Only [] w w' ∧ w'.cell? ⟨gh, 2, none⟩ = some (.pointer (some ⟨gs, 0, none⟩)) ∧ w'.cell? ⟨gh, 0, none⟩ = some (.pointer (some ⟨ge, 0, none⟩)) ∧ w'.cell? ⟨ge, 3, none⟩ = some (.slice (some ⟨b, o, none⟩) t.patterns.length c) ∧ w'.cell? ⟨b, o + i, none⟩ = some (.slice a1 s.length cc)) (((refine and_of ?_ (fun h__ => ⟨h__.cell (by simp) x2, h__.cell (by simp) x0, h__.cell (by simp) y3, h__.cell (by simp) hcS⟩)); first | exact (Only.refl _ _).drew | exact ((Only.refl _ _).drewN _).drew | exact Only.trans (And.left (by assumption)) (by assumption) | exact Only.alloc (And.left (by assumption)) _ | assumption)) (first | (go_at_call 113; (with_reducible refine (hf.out _ (And.left (by assumption))).mono ?_); rintro e w5 ⟨rfl, t5⟩) | fail "no arm")
    have k5 : Only [] w w5 := (Only.refl [] w).trans (And.left (by assumption))
    go_wp2
    go_ret
    exact ⟨ret_bool Hfin.out, k5⟩
set_option maxHeartbeats 2000000 in
theorem phasesOf_bad (cs : List Value) (x : Puzzle) (fp : List Nat) (v : Value) (sub : List Int) (fs0 : List Nat) (u : Value) (w : World) (h : Rp.rep w cs x fp) (hs : Rd w v sub fs0) (hn : ((expl x).isSome && trackB x.moves.length sub) = false) :
    Calls Tryz.prog 77 #[.agg cs.toArray, v, u] w fun e w' => e = .returned (.tuple #[.pointer none, .int .i64 0, .bool false]) ∧ Only [] w w' := by
  have h0 := h
  obtain ⟨v2, rfl, p0, p1, h2⟩ := h
  clear p0 p1 h2
  have X0 : Blk (w.alloc (.cells #[.int .i64 x.points, .string x.names, v2] 33)) w.heap.size [.int .i64 x.points, .string x.names, v2] := Blk.new w [.int .i64 x.points, .string x.names, v2] 33
  have Hn := Lib.hid hn
  clear hn
  go_enter Tryz.func77, Tryz.ntmps77
  go_wp2_with (first
    | (go_at_call 129; (with_reducible refine (newPhases_none [.int .i64 x.points, .string x.names, v2] x _ _ sub _ _ (Rp.keep h0 (by with_reducible repeat (first | exact Only.refl _ _ | assumption | refine Only.drewN ?_ _ | refine Only.drew ?_ | refine Only.alloc ?_ _ | refine Only.setCell ?_ (by intro hh; exfalso; simp at hh; try omega) _ | refine Only.trans ?_ (by assumption)))) (Rp.keep hs (by with_reducible repeat (first | exact Only.refl _ _ | assumption | refine Only.drewN ?_ _ | refine Only.drew ?_ | refine Only.alloc ?_ _ | refine Only.setCell ?_ (by intro hh; exfalso; simp at hh; try omega) _ | refine Only.trans ?_ (by assumption)))) Hn.out).mono ?_); rintro e w1 ⟨rfl, t1⟩)
    | fail "no arm")
  exact bodyPost_ret (v := .tuple #[.pointer none, .int .i64 0, .bool false]) (by simp [results, Tryz.results77, go_sem]) rfl ⟨rfl, (by with_reducible repeat (first | exact Only.refl _ _ | assumption | refine Only.drewN ?_ _ | refine Only.drew ?_ | refine Only.alloc ?_ _ | refine Only.setCell ?_ (by intro hh; exfalso; simp at hh; try omega) _ | refine Only.trans ?_ (by assumption)))⟩
/-- the exploration of the puzzle is the first field -/
theorem Phs.fst {w : World} {x : Puzzle} {t ts : Table} {sub : List Int} {h : Value} (hp : Phs w x t ts sub h) : ∃ g ge gs vsub f, h = .pointer (some ⟨g, 0, none⟩) ∧ Blk w g [.pointer (some ⟨ge, 0, none⟩), vsub, .pointer (some ⟨gs, 0, none⟩)] ∧ Exp w x t (.pointer (some ⟨ge, 0, none⟩)) ∧ Rd w vsub sub f ∧ Exp w (subP x sub) ts (.pointer (some ⟨gs, 0, none⟩)) := by
  obtain ⟨g, ve, vs, vsub, f, h1, h2, h3, h4, h5⟩ := hp
  obtain ⟨ge, rfl⟩ := h3.ptr
  obtain ⟨gs, rfl⟩ := h5.ptr
  exact ⟨g, ge, gs, vsub, f, h1, h2, h3, h4, h5⟩
set_option maxHeartbeats 2000000 in
theorem phasesOf_no (cs : List Value) (x : Puzzle) (t ts : Table) (fp : List Nat) (v : Value) (sub : List Int) (fs0 : List Nat) (u : Value) (s : List Int) (fs1 : List Nat) (w : World) (h : Rp.rep w cs x fp) (hs : Rd w v sub fs0) (hu : Rd w u s fs1) (he : expl x = some t) (ht : trackB x.moves.length sub = true) (h2 : expl (subP x sub) = some ts) (hm : s ∉ t.patterns) :
    Calls Tryz.prog 77 #[.agg cs.toArray, v, u] w fun e w' => (∃ z, e = .returned (.tuple #[z, .int .i64 0, .bool false])) ∧ Only [] w w' := by
  have h0 := h
  obtain ⟨v2, rfl, p0, p1, h3⟩ := h
  clear p0 p1 h3
  have X0 : Blk (w.alloc (.cells #[.int .i64 x.points, .string x.names, v2] 33)) w.heap.size [.int .i64 x.points, .string x.names, v2] := Blk.new w [.int .i64 x.points, .string x.names, v2] 33
  have He := Lib.hid he
  have Ht := Lib.hid ht
  have H2 := Lib.hid h2
  have Hm := Lib.hid hm
  clear he ht h2 hm
  go_enter Tryz.func77, Tryz.ntmps77
  go_wp2_with (first
    | (go_at_call 129; (with_reducible refine (newPhases_some [.int .i64 x.points, .string x.names, v2] x t ts _ _ sub _ _ (Rp.keep h0 (by with_reducible repeat (first | exact Only.refl _ _ | assumption | refine Only.drewN ?_ _ | refine Only.drew ?_ | refine Only.alloc ?_ _ | refine Only.setCell ?_ (by intro hh; exfalso; simp at hh; try omega) _ | refine Only.trans ?_ (by assumption)))) (Rp.keep hs (by with_reducible repeat (first | exact Only.refl _ _ | assumption | refine Only.drewN ?_ _ | refine Only.drew ?_ | refine Only.alloc ?_ _ | refine Only.setCell ?_ (by intro hh; exfalso; simp at hh; try omega) _ | refine Only.trans ?_ (by assumption)))) He.out Ht.out H2.out).mono ?_); rintro e w1 ⟨z, rfl, hP, t1⟩; obtain ⟨g, ge, gs, vsub, f, rfl, hB, hE, -, -⟩ := hP.fst; have x0 := hB.cell 0 rfl; have K1 : Only [] w w1 := (by with_reducible repeat (first | exact Only.refl _ _ | assumption | refine Only.drewN ?_ _ | refine Only.drew ?_ | refine Only.alloc ?_ _ | refine Only.setCell ?_ (by intro hh; exfalso; simp at hh; try omega) _ | refine Only.trans ?_ (by assumption))))
    | (go_at_call 113; (with_reducible refine (find_no x t _ u s _ w1 hE He.out (Rp.keep hu K1) Hm.out).mono ?_); rintro e w2 ⟨rfl, t2⟩)
    | fail "no arm")
  exact bodyPost_ret (v := .tuple #[.pointer (some ⟨g, 0, none⟩), .int .i64 0, .bool false]) (by simp [results, Tryz.results77, go_sem]) rfl ⟨⟨_, rfl⟩, K1.trans t2⟩
set_option maxHeartbeats 2000000 in
theorem phasesOf_yes (cs : List Value) (x : Puzzle) (t ts : Table) (fp : List Nat) (v : Value) (sub : List Int) (fs0 : List Nat) (u : Value) (s : List Int) (fs1 : List Nat) (i : Nat) (w : World) (h : Rp.rep w cs x fp) (hs : Rd w v sub fs0) (hu : Rd w u s fs1) (he : expl x = some t) (ht : trackB x.moves.length sub = true) (h2 : expl (subP x sub) = some ts) (hi : i < t.patterns.length) (his : t.patterns.getD i [] = s) :
    Calls Tryz.prog 77 #[.agg cs.toArray, v, u] w fun e w' => ∃ z, e = .returned (.tuple #[z, .int .i64 i, .bool true]) ∧ Phs w' x t ts sub z ∧ Only [] w w' := by
  have h0 := h
  obtain ⟨v2, rfl, p0, p1, h3⟩ := h
  clear p0 p1 h3
  have X0 : Blk (w.alloc (.cells #[.int .i64 x.points, .string x.names, v2] 33)) w.heap.size [.int .i64 x.points, .string x.names, v2] := Blk.new w [.int .i64 x.points, .string x.names, v2] 33
  have He := Lib.hid he
  have Ht := Lib.hid ht
  have H2 := Lib.hid h2
  have Hm := Lib.hid his
  clear he ht h2 his
  go_enter Tryz.func77, Tryz.ntmps77
  go_wp2_with (first
    | (go_at_call 129; (with_reducible refine (newPhases_some [.int .i64 x.points, .string x.names, v2] x t ts _ _ sub _ _ (Rp.keep h0 (by with_reducible repeat (first | exact Only.refl _ _ | assumption | refine Only.drewN ?_ _ | refine Only.drew ?_ | refine Only.alloc ?_ _ | refine Only.setCell ?_ (by intro hh; exfalso; simp at hh; try omega) _ | refine Only.trans ?_ (by assumption)))) (Rp.keep hs (by with_reducible repeat (first | exact Only.refl _ _ | assumption | refine Only.drewN ?_ _ | refine Only.drew ?_ | refine Only.alloc ?_ _ | refine Only.setCell ?_ (by intro hh; exfalso; simp at hh; try omega) _ | refine Only.trans ?_ (by assumption)))) He.out Ht.out H2.out).mono ?_); rintro e w1 ⟨z, rfl, hP, t1⟩; obtain ⟨g, ge, gs, vsub, f, rfl, hB, hE, -, -⟩ := hP.fst; have x0 := hB.cell 0 rfl; have K1 : Only [] w w1 := (by with_reducible repeat (first | exact Only.refl _ _ | assumption | refine Only.drewN ?_ _ | refine Only.drew ?_ | refine Only.alloc ?_ _ | refine Only.setCell ?_ (by intro hh; exfalso; simp at hh; try omega) _ | refine Only.trans ?_ (by assumption))))
    | (go_at_call 113; (with_reducible refine (find_yes x t _ u s _ i w1 hE He.out (Rp.keep hu K1) hi Hm.out).mono ?_); rintro e w2 ⟨rfl, t2⟩)
    | fail "no arm")
  exact bodyPost_ret (v := .tuple #[.pointer (some ⟨g, 0, none⟩), .int .i64 i, .bool true]) (by simp [results, Tryz.results77, go_sem]) rfl ⟨_, rfl, hP.keep t2, K1.trans t2⟩
end Go.Proofs.YtclhblofchfglaaGreat

namespace Go.Proofs.YtclhblofchfglaaGreat
open Go.RowKit
set_option maxRecDepth 10000

/-- a list being mapped, the first j entries done -/
def mixW (g : Int → Int) (l : List Int) (j : Nat) : List Int := (l.take j).map g ++ l.drop j
theorem mixW_len (g : Int → Int) (l : List Int) (j : Nat) : (mixW g l j).length = l.length := by
  unfold mixW
  rw [List.length_append, List.length_map, List.length_take, List.length_drop]; omega
theorem mixW_at (g : Int → Int) (l : List Int) {j : Nat} (hj : j < l.length) : (mixW g l j)[j]'(by rw [mixW_len]; exact hj) = l[j] := by
  unfold mixW
  rw [List.getElem_append_right (by simp; omega)]
  simp [Nat.min_eq_left (Nat.le_of_lt hj)]
theorem mixW_set (g : Int → Int) (l : List Int) {j : Nat} (hj : j < l.length) : (mixW g l j).set j (g l[j]) = mixW g l (j + 1) := by
  unfold mixW
  apply List.ext_getElem (by simp; omega)
  intro k h1 h2
  have h1' : k < l.length := by simp at h1; omega
  rw [List.getElem_set]
  simp only [List.getElem_append, List.length_map, List.length_take, List.getElem_map, List.getElem_take, List.getElem_drop]
  by_cases e1 : j = k
  · subst e1
    rw [if_pos rfl, dif_pos (by omega)]
  · rw [if_neg e1]
    by_cases e2 : k < j
    · rw [dif_pos (by omega), dif_pos (by omega)]
    · rw [dif_neg (by omega), dif_neg (by omega)]
      congr 1; omega
theorem mixW_zero (g : Int → Int) (l : List Int) : mixW g l 0 = l := by unfold mixW; simp
theorem mixW_end (g : Int → Int) (l : List Int) : mixW g l l.length = l.map g := by unfold mixW; simp
/-- an entry of a row of the call's own is written over -/
theorem IntsA.put {w : World} {a : Option Addr} {cap : Nat} {l : List Int} {fp : List Nat} {B : Nat} (h : IntsA w a cap l fp) (F : Fresh B w fp) {i : Nat} (hi : i < l.length) {x : Int} (hx : I64 x) :
    ∃ b o, a = some ⟨b, o, none⟩ ∧ w.cell? ⟨b, o + i, none⟩ = some (.int .i64 l[i]) ∧ w.frozen? ⟨b, o + i, none⟩ = false ∧ IntsA (w.setCell ⟨b, o + i, none⟩ (.int .i64 x)) a cap (l.set i x) fp ∧ Fresh B (w.setCell ⟨b, o + i, none⟩ (.int .i64 x)) fp ∧ Only fp w (w.setCell ⟨b, o + i, none⟩ (.int .i64 x)) := by
  obtain ⟨b, o, rfl, hf, hc⟩ := h.at_ i hi
  have hb : b ∈ fp := by rw [hf]; simp
  exact ⟨b, o, rfl, hc, F.own.frozen hb, h.set hx, ⟨F.nd, F.ge, F.own.setCell _ _⟩, (Only.refl _ _).setCell (fun _ => hb) _⟩
set_option maxHeartbeats 2000000 in
theorem phaseTwo_far (x : Puzzle) (t ts : Table) (sub : List Int) (h : Value) (i j : Nat) (w : World) (hp : Phs w x t ts sub h) (h2 : expl (subP x sub) = some ts) (hi : i < t.patterns.length) (hj : j < ts.patterns.length) (hij : ts.patterns.getD j [] = t.patterns.getD i []) (hN : 200 < ts.distances.getD j 0) :
    Calls Tryz.prog 80 #[h, .int .i64 i] w fun e w' => e = .returned (.tuple #[.slice none 0 0, .bool false]) ∧ Only [] w w' := by
  obtain ⟨gh, ge, gs, vsub, f, rfl, hB, hE, -, hS⟩ := hp.fst
  obtain ⟨ge', b, o, c, a1, cc, fu, e9, y3, hlen, hcS, hu⟩ := hE.state hi
  injection e9 with e9; injection e9 with e9; injection e9 with e9; subst e9
  have x0 := hB.cell 0 rfl
  have x2 := hB.cell 2 rfl
  have hil : (i : Int) < t.patterns.length := by omega
  obtain ⟨s, hs⟩ : ∃ s, s = t.patterns.getD i [] := ⟨_, rfl⟩
  rw [← hs] at hcS hu hij
  have hf := Lib.hid (fun (W : World) (hW : Only [] w W) => find_yes (subP x sub) ts (.pointer (some ⟨gs, 0, none⟩)) (.slice a1 s.length cc) s _ j W (hS.keep hW) h2 (Rp.keep hu hW) hj hij)
  have hO := Lib.hid (fun (W : World) (hW : Only [] w W) => optimalWord_far (subP x sub) ts (.pointer (some ⟨gs, 0, none⟩)) j W (hS.keep hW) h2 hj hN)
  clear hs h2 hij hN hE
  go_enter Tryz.func80, Tryz.ntmps80
  go_wp2
  go_region_held3 (fun w' => Only [] w w' ∧ w'.cell? ⟨gh, 2, none⟩ = some (.pointer (some ⟨gs, 0, none⟩)) ∧ w'.cell? ⟨gh, 0, none⟩ = some (.pointer (some ⟨ge, 0, none⟩)) ∧ w'.cell? ⟨ge, 3, none⟩ = some (.slice (some ⟨b, o, none⟩) t.patterns.length c) ∧ w'.cell? ⟨b, o + i, none⟩ = some (.slice a1 s.length cc)) (((refine and_of ?_ (fun h__ => ⟨h__.cell (by simp) x2, h__.cell (by simp) x0, h__.cell (by simp) y3, h__.cell (by simp) hcS⟩)); first | exact (Only.refl _ _).drew | exact ((Only.refl _ _).drewN _).drew | exact Only.trans (And.left (by assumption)) (by assumption) | exact Only.alloc (And.left (by assumption)) _ | assumption)) (first | (go_at_call 113; (with_reducible refine (hf.out _ (And.left (by assumption))).mono ?_); rintro e w5 ⟨rfl, t5⟩) | fail "no arm")
  have k5 : Only [] w w5 := (Only.refl [] w).trans (And.left (by assumption))
  have x2' := k5.cell (by simp) x2
  go_wp2_with (first
    | (go_at_call 87; (with_reducible refine (hO.out _ k5).mono ?_); rintro e w6 ⟨rfl, t6⟩)
    | fail "no arm")
  exact bodyPost_ret (v := .tuple #[.slice none 0 0, .bool false]) (by simp [results, Tryz.results80, go_sem]) rfl ⟨rfl, k5.trans t6⟩
theorem mapL_i64 {sub : List Int} {l : Int} {n : Nat} (h0 : ∀ k ∈ sub, 0 ≤ k ∧ k < n) (hl : l ∈ ltrs sub.length) :
    ∃ (k : Nat) (y : Int), ∃ hk : k < sub.length, sub[k] = y ∧ 0 ≤ y ∧ y < n ∧ (0 < l → l - 1 = k ∧ mapL sub l = y + 1) ∧ (¬ 0 < l → -l - 1 = k ∧ mapL sub l = -(y + 1)) := by
  have h1 := mem_ltrs.1 hl
  by_cases hp : 0 < l
  · have hk : (l - 1).toNat < sub.length := by omega
    have := h0 _ (List.getElem_mem hk)
    refine ⟨(l - 1).toNat, sub[(l - 1).toNat], hk, rfl, this.1, this.2, fun _ => ⟨by omega, ?_⟩, fun h => absurd hp h⟩
    unfold mapL; rw [if_pos hp, getD_get hk]
  · have hk : (-l - 1).toNat < sub.length := by omega
    have := h0 _ (List.getElem_mem hk)
    refine ⟨(-l - 1).toNat, sub[(-l - 1).toNat], hk, rfl, this.1, this.2, fun h => absurd h hp, fun _ => ⟨by omega, ?_⟩⟩
    unfold mapL; rw [if_neg hp, getD_get hk]
set_option maxHeartbeats 4000000 in
theorem phaseTwo_any (x : Puzzle) (t ts : Table) (sub : List Int) (h : Value) (i j N : Nat) (w : World) (hp : Phs w x t ts sub h) (hv : validPz x = true) (ht : trackB x.moves.length sub = true) (h2 : expl (subP x sub) = some ts) (hi : i < t.patterns.length) (hj : j < ts.patterns.length) (hij : ts.patterns.getD j [] = t.patterns.getD i []) (hN : ts.distances.getD j 0 = N) (h200 : N ≤ 200)
    (hls : ∀ l ∈ oW (subP x sub) ts N (t.patterns.getD i []), l ∈ ltrs (subP x sub).moves.length) :
    Calls Tryz.prog 80 #[h, .int .i64 i] w fun e w' => ∃ u f, e = .returned (.tuple #[u, .bool true]) ∧ Rd w' u ((oW (subP x sub) ts N (t.patterns.getD i [])).map (mapL sub)) f ∧ Fresh w.heap.size w' f ∧ Only [] w w' := by
  obtain ⟨gh, ge, gs, vsub, f, rfl, hB, hE, hsub, hS⟩ := hp.fst
  obtain ⟨aS, cS, rfl, IS⟩ := hsub.ints
  obtain ⟨ge', b, o, c, a1, cc, fu, e9, y3, hlen, hcS, hu⟩ := hE.state hi
  injection e9 with e9; injection e9 with e9; injection e9 with e9; subst e9
  have x0 := hB.cell 0 rfl
  have x1 := hB.cell 1 rfl
  have x2 := hB.cell 2 rfl
  have hil : (i : Int) < t.patterns.length := by omega
  have h8 : x.moves.length ≤ 8 := (sub_len hv ht).2.2
  have hsl : sub.length ≤ 8 := Nat.le_trans (sub_len hv ht).2.1 h8
  rw [show (subP x sub).moves.length = sub.length by show (List.map _ sub).length = _; rw [List.length_map]] at hls
  obtain ⟨s, hs⟩ : ∃ s, s = t.patterns.getD i [] := ⟨_, rfl⟩
  rw [← hs] at hcS hu hij hls ⊢
  obtain ⟨wd, hwd⟩ : ∃ wd, wd = oW (subP x sub) ts N s := ⟨_, rfl⟩
  have hwl : wd.length ≤ 200 := by rw [hwd, oW_len]; exact h200
  have hf := Lib.hid (fun (W : World) (hW : Only [] w W) => find_yes (subP x sub) ts (.pointer (some ⟨gs, 0, none⟩)) (.slice a1 s.length cc) s _ j W (hS.keep hW) h2 (Rp.keep hu hW) hj hij)
  have hO := Lib.hid (fun (W : World) (hW : Only [] w W) => by
    have := optimalWord_any (subP x sub) ts (.pointer (some ⟨gs, 0, none⟩)) j N W (hS.keep hW) h2 hj hN h200
    rw [hij, ← hwd] at this; exact this)
  rw [← hwd] at hls ⊢
  have Hm := Lib.hid (fun l hl => mapL_i64 (trackB_iff.1 ht).2.1 (hls l hl))
  clear hs h2 hij hN hE hwd ht hv hls hp
  go_enter Tryz.func80, Tryz.ntmps80
  go_wp2
  go_region_held3 (fun w' => Only [] w w' ∧ w'.cell? ⟨gh, 2, none⟩ = some (.pointer (some ⟨gs, 0, none⟩)) ∧ w'.cell? ⟨gh, 0, none⟩ = some (.pointer (some ⟨ge, 0, none⟩)) ∧ w'.cell? ⟨ge, 3, none⟩ = some (.slice (some ⟨b, o, none⟩) t.patterns.length c) ∧ w'.cell? ⟨b, o + i, none⟩ = some (.slice a1 s.length cc)) (((refine and_of ?_ (fun h__ => ⟨h__.cell (by simp) x2, h__.cell (by simp) x0, h__.cell (by simp) y3, h__.cell (by simp) hcS⟩)); first | exact (Only.refl _ _).drew | exact ((Only.refl _ _).drewN _).drew | exact Only.trans (And.left (by assumption)) (by assumption) | exact Only.alloc (And.left (by assumption)) _ | assumption)) (first | (go_at_call 113; (with_reducible refine (hf.out _ (And.left (by assumption))).mono ?_); rintro e w5 ⟨rfl, t5⟩) | fail "no arm")
  have k5 : Only [] w w5 := (Only.refl [] w).trans (And.left (by assumption))
  have x2' := k5.cell (by simp) x2
  go_upto_region 7 with (first
    | (go_at_call 87; (with_reducible refine (hO.out _ k5).mono ?_); rintro e w6 ⟨u6, f6, rfl, r6, F6, t6⟩; obtain ⟨a6, c6, rfl, I6⟩ := r6.ints)
    | fail "no arm")
  have k6 := k5.trans t6
  have F6' := F6.mono k5.size
  have hIb := I6.bound
  have Hf := Lib.hid hf
  clear hf hO r6 t5 x2' x0 x2 F6 hcS hu y3
  go_wp2
  go_loopw [44] (fun i wr => ∃ k : Nat, k ≤ wd.length ∧ i = .int .i64 k ∧ IntsA wr a6 c6 (mixW (mapL sub) wd k) f6 ∧ Fresh w.heap.size wr f6 ∧ Only [] w wr)
    (fun i _ => wd.length - (intOf i).toNat)
  case atStart => exact ⟨0, Nat.zero_le _, rfl, by rw [mixW_zero]; exact I6, F6', k6⟩
  case round =>
    obtain ⟨W3, hnew⟩ : ∃ W, W = wr := ⟨_, rfl⟩
    subst hnew
    obtain ⟨k, hk, rfl, hI, hF, hK⟩ := hrel
    by_cases hlt : k < wd.length
    · obtain ⟨k1, y, hk1, hy, hy0, hyn, hpos, hneg⟩ := Hm.out _ (List.getElem_mem hlt)
      obtain ⟨z, hz⟩ : ∃ z, z = mapL sub wd[k] := ⟨_, rfl⟩
      have hzI : I64 z := by
        unfold I64
        by_cases hp : 0 < wd[k]
        · have := hpos hp; omega
        · have := hneg (by omega); omega
      obtain ⟨b6, o6, rfl, q1, q2, q3, q4, q5⟩ := hI.put hF (i := k) (by rw [mixW_len]; exact hlt) hzI
      rw [mixW_at _ _ hlt] at q1
      rw [hz, mixW_set _ _ hlt] at q3
      rw [← hz] at q3 hpos hneg
      have hK4 : Only [] w (W3.setCell ⟨b6, o6 + k, none⟩ (.int .i64 z)) := hK.then_ q5 (fun b hb hlt => by have := hF.ge b hb; omega)
      obtain ⟨l, hl⟩ : ∃ l, l = wd[k] := ⟨_, rfl⟩
      rw [← hl] at q1 hpos hneg
      have IS3 := IS.keep hK
      obtain ⟨bS, oS, rfl, -, hcs⟩ := IS3.at_ k1 hk1
      rw [hy] at hcs
      have x1w := hK.cell (by simp) x1
      have hki : (k1 : Int) < sub.length := by omega
      have hki0 : (0 : Int) ≤ (k1 : Int) := by omega
      have Q3 := Lib.hid q3
      have Q4 := Lib.hid q4
      have HK4 := Lib.hid hK4
      have Hz := Lib.hid hz
      have Hl := Lib.hid hl
      clear q3 q4 q5 hK4 hz hl hI hF hzI
      by_cases hp : 0 < l
      · obtain ⟨e1, e2⟩ := hpos hp
        have w1 : IntKind.i64.wrap (l - 1) = (k1 : Int) := by rw [e1, IntKind.wrap_i64]; omega
        have w2 : IntKind.i64.wrap (y + 1) = z := by rw [e2, IntKind.wrap_i64]; omega
        have Hg := Lib.hid hpos
        have Hg2 := Lib.hid hneg
        have He := Lib.hid e1
        clear e1 e2 hpos hneg hy
        go_wp2
        go_roundw
        case rel => exact ⟨k + 1, by omega, by go_num, Q3.out, Q4.out, HK4.out⟩
        case measure => simp [intOf]; omega
      · obtain ⟨e1, e2⟩ := hneg (by omega)
        obtain ⟨m, hm⟩ : ∃ m, m = -l := ⟨_, rfl⟩
        have w0 : IntKind.i64.wrap (-l) = m := by rw [hm, IntKind.wrap_i64]; omega
        have w1 : IntKind.i64.wrap (m - 1) = (k1 : Int) := by rw [hm, e1, IntKind.wrap_i64]; omega
        obtain ⟨y1, hy1⟩ : ∃ y1, y1 = y + 1 := ⟨_, rfl⟩
        have w2 : IntKind.i64.wrap (y + 1) = y1 := by rw [hy1, IntKind.wrap_i64]; omega
        have w3 : IntKind.i64.wrap (-y1) = z := by rw [e2, hy1, IntKind.wrap_i64]; omega
        have Hg := Lib.hid hpos
        have Hg2 := Lib.hid hneg
        have He := Lib.hid e1
        have He2 := Lib.hid e2
        have Hm1 := Lib.hid hm
        have Hy1 := Lib.hid hy1
        clear e1 e2 hpos hneg hy hm hy1
        go_wp2
        go_roundw
        case rel => exact ⟨k + 1, by omega, by go_num, Q3.out, Q4.out, HK4.out⟩
        case measure => simp [intOf]; omega
    · obtain rfl : wd.length = k := by omega
      rw [mixW_end] at hI
      have HI := Lib.hid hI
      clear hI
      go_wp2
      exact bodyPost_ret (v := .tuple #[.slice a6 wd.length c6, .bool true]) (by simp [results, Tryz.results80, go_sem]) rfl ⟨_, f6, rfl, by have := HI.out.rd; rwa [List.length_map] at this, hF, hK⟩
end Go.Proofs.YtclhblofchfglaaGreat

namespace Go.Proofs.YtclhblofchfglaaGreat
open Go.RowKit
set_option maxRecDepth 10000

set_option maxHeartbeats 4000000 in
theorem phaseTwoWord_any (cs : List Value) (x : Puzzle) (ts : Table) (sub : List Int) (fp : List Nat) (v : Value) (fs0 : List Nat) (B : Nat) (A4 A5 A6 : Option Addr) (n4 n5 n6 C4 C5 C6 : Nat) (wg : Bool) (u : Value) (fu : List Nat) (j N : Nat) (w : World) (h : Rp.rep w cs x fp) (hs : Rd w v sub fs0)
    (hG : SrF B w (subP x sub) ts (.agg #[.slice A4 n4 C4, .slice A5 n5 C5, .slice A6 n6 C6, .bool wg])) (hv : validPz x = true) (ht : trackB x.moves.length sub = true) (h2 : expl (subP x sub) = some ts) (hj : j < ts.patterns.length) (hu : Rd w u (ts.patterns.getD j []) fu) (hN : ts.distances.getD j 0 = N) (hN3 : N ≤ 3000)
    (hls : ∀ l ∈ oW (subP x sub) ts N (ts.patterns.getD j []), l ∈ ltrs (subP x sub).moves.length) :
    Calls Tryz.prog 75 #[.agg cs.toArray, v, .agg #[.slice A4 n4 C4, .slice A5 n5 C5, .slice A6 n6 C6, .bool wg], u] w fun e w' => ∃ z f, e = .returned z ∧ Rd w' z ((oW (subP x sub) ts N (ts.patterns.getD j [])).map (mapL sub)) f ∧ Fresh w.heap.size w' f ∧ Only [] w w' := by
  have h0 := h
  obtain ⟨v2, rfl, p0, p1, h3⟩ := h
  clear p0 p1 h3
  obtain ⟨aS, cS, rfl, IS⟩ := hs.ints
  have h8 : x.moves.length ≤ 8 := (sub_len hv ht).2.2
  have hsl : sub.length ≤ 8 := Nat.le_trans (sub_len hv ht).2.1 h8
  rw [show (subP x sub).moves.length = sub.length by show (List.map _ sub).length = _; rw [List.length_map]] at hls
  obtain ⟨wd, hwd⟩ : ∃ wd, wd = oW (subP x sub) ts N (ts.patterns.getD j []) := ⟨_, rfl⟩
  have hwl : wd.length ≤ 3000 := by rw [hwd, oW_len]; exact hN3
  have X0 : Blk ((w.alloc (.cells #[.int .i64 x.points, .string x.names, v2] 33)).alloc (.cells #[.slice A4 n4 C4, .slice A5 n5 C5, .slice A6 n6 C6, .bool wg] 85)) w.heap.size [.int .i64 x.points, .string x.names, v2] := (Blk.new w [.int .i64 x.points, .string x.names, v2] 33).keep ((Only.refl _ _).alloc _)
  have Y0 : Blk ((w.alloc (.cells #[.int .i64 x.points, .string x.names, v2] 33)).alloc (.cells #[.slice A4 n4 C4, .slice A5 n5 C5, .slice A6 n6 C6, .bool wg] 85)) (w.heap.size + 1) [.slice A4 n4 C4, .slice A5 n5 C5, .slice A6 n6 C6, .bool wg] := Blk.new_at (by simp)
  obtain ⟨W0, hW0⟩ : ∃ W0, W0 = ((w.alloc (.cells #[.int .i64 x.points, .string x.names, v2] 33)).alloc (.cells #[.slice A4 n4 C4, .slice A5 n5 C5, .slice A6 n6 C6, .bool wg] 85)) := ⟨_, rfl⟩
  have K0 : Only [] w W0 := by rw [hW0]; exact ((Only.refl _ _).alloc _).alloc _
  have HW0 := Lib.hid hW0
  rw [← hW0] at X0 Y0
  have Hr := Lib.hid (fun (W : World) (hW : Only [] W0 W) => restrictMoves_any [.int .i64 x.points, .string x.names, v2] x _ _ sub _ W (Rp.keep h0 (K0.trans hW)) (Rp.keep hs (K0.trans hW)) hv ht)
  have Hd := Lib.hid (fun (W : World) (cs3 : List Value) (f3 : List Nat) (hW : Only [] W0 W) (hr : Rp.rep W cs3 (subP x sub) f3) => by
    have := descendWord_any cs3 (subP x sub) f3 ts B A4 A5 A6 n4 n5 n6 C4 C5 C6 wg u fu j N W hr (SrF.keep hG (K0.trans hW)) h2 hj (Rp.keep hu (K0.trans hW)) hN
    rw [← hwd] at this; exact this)
  rw [← hwd] at hls ⊢
  have Hm := Lib.hid (fun l hl => mapL_i64 (trackB_iff.1 ht).2.1 (hls l hl))
  have x0 := X0.cell 0 rfl
  have x1 := X0.cell 1 rfl
  have x2 := X0.cell 2 rfl
  have y0 := Y0.cell 0 rfl
  have y1 := Y0.cell 1 rfl
  have y2 := Y0.cell 2 rfl
  have y3 := Y0.cell 3 rfl
  clear hwd ht hv hls hN h2 hW0
  go_enter Tryz.func75, Tryz.ntmps75
  go_upto_region 1 with fail
  rw [← HW0.out]
  go_region_held3 (fun w' => Only [] W0 w' ∧ w'.cell? ⟨w.heap.size, 0, none⟩ = some (.int .i64 x.points) ∧ w'.cell? ⟨w.heap.size, 1, none⟩ = some (.string x.names) ∧ w'.cell? ⟨w.heap.size, 2, none⟩ = some (v2) ∧ w'.cell? ⟨w.heap.size + 1, 0, none⟩ = some (.slice A4 n4 C4) ∧ w'.cell? ⟨w.heap.size + 1, 1, none⟩ = some (.slice A5 n5 C5) ∧ w'.cell? ⟨w.heap.size + 1, 2, none⟩ = some (.slice A6 n6 C6) ∧ w'.cell? ⟨w.heap.size + 1, 3, none⟩ = some (.bool wg)) (((refine and_of ?_ (fun h__ => ⟨h__.cell (by simp) x0, h__.cell (by simp) x1, h__.cell (by simp) x2, h__.cell (by simp) y0, h__.cell (by simp) y1, h__.cell (by simp) y2, h__.cell (by simp) y3⟩)); first | exact (Only.refl _ _).drew | exact ((Only.refl _ _).drewN _).drew | exact Only.trans (And.left (by assumption)) (by assumption) | exact Only.alloc (And.left (by assumption)) _ | assumption)) (first | (go_at_call 125; (with_reducible refine (Hr.out _ (And.left (by assumption))).mono ?_); rintro e w5 ⟨cs5, f5, rfl, r5, t5⟩) | (go_at_call 84; (with_reducible refine (Hd.out _ cs5 f5 (And.left (by assumption)) (Rp.keep r5 (by with_reducible repeat (first | exact Only.refl _ _ | assumption | refine Only.drewN ?_ _ | refine Only.drew ?_ | refine Only.alloc ?_ _ | refine Only.setCell ?_ (by intro hh; exfalso; simp at hh; try omega) _ | refine Only.trans ?_ (by assumption))))).mono ?_); rintro e w6 ⟨u6, f6, rfl, r6, F6, t6⟩; have F6' := F6.mono ((Only.trans (Only.refl [] W0) (And.left (by assumption))).size); obtain ⟨a6, c6, rfl, I6⟩ := r6.ints) | fail "no arm")
  have k6 : Only [] W0 w6 := (Only.refl [] W0).trans (And.left (by assumption))
  have hIb := I6.bound
  have F7 := F6'.mono K0.size
  have k7 := K0.trans k6
  clear r6 F6 F6' t5 t6 k6 r5 x0 x1 x2 y0 y1 y2 y3
  go_wp2
  go_loopw [10] (fun i wr => ∃ k : Nat, k ≤ wd.length ∧ i = .int .i64 k ∧ IntsA wr a6 c6 (mixW (mapL sub) wd k) f6 ∧ Fresh w.heap.size wr f6 ∧ Only [] w wr)
    (fun i _ => wd.length - (intOf i).toNat)
  case atStart => exact ⟨0, Nat.zero_le _, rfl, by rw [mixW_zero]; exact I6, F7, k7⟩
  case round =>
    obtain ⟨W3, hnew⟩ : ∃ W, W = wr := ⟨_, rfl⟩
    subst hnew
    obtain ⟨k, hk, rfl, hI, hF, hK⟩ := hrel
    by_cases hlt : k < wd.length
    · obtain ⟨k1, y, hk1, hy, hy0, hyn, hpos, hneg⟩ := Hm.out _ (List.getElem_mem hlt)
      obtain ⟨z, hz⟩ : ∃ z, z = mapL sub wd[k] := ⟨_, rfl⟩
      have hzI : I64 z := by
        unfold I64
        by_cases hp : 0 < wd[k]
        · have := hpos hp; omega
        · have := hneg (by omega); omega
      obtain ⟨b6, o6, rfl, q1, q2, q3, q4, q5⟩ := hI.put hF (i := k) (by rw [mixW_len]; exact hlt) hzI
      rw [mixW_at _ _ hlt] at q1
      rw [hz, mixW_set _ _ hlt] at q3
      rw [← hz] at q3 hpos hneg
      have hK4 : Only [] w (W3.setCell ⟨b6, o6 + k, none⟩ (.int .i64 z)) := hK.then_ q5 (fun b hb hlt => by have := hF.ge b hb; omega)
      obtain ⟨l, hl⟩ : ∃ l, l = wd[k] := ⟨_, rfl⟩
      rw [← hl] at q1 hpos hneg
      have IS3 := IS.keep hK
      obtain ⟨bS, oS, rfl, -, hcs⟩ := IS3.at_ k1 hk1
      rw [hy] at hcs
      have hki : (k1 : Int) < sub.length := by omega
      have hki0 : (0 : Int) ≤ (k1 : Int) := by omega
      have hkw : (k : Int) < wd.length := by omega
      have Q3 := Lib.hid q3
      have Q4 := Lib.hid q4
      have HK4 := Lib.hid hK4
      have Hz := Lib.hid hz
      have Hl := Lib.hid hl
      clear q3 q4 q5 hK4 hz hl hI hF hzI
      by_cases hp : 0 < l
      · obtain ⟨e1, e2⟩ := hpos hp
        have w1 : IntKind.i64.wrap (l - 1) = (k1 : Int) := by rw [e1, IntKind.wrap_i64]; omega
        have w2 : IntKind.i64.wrap (y + 1) = z := by rw [e2, IntKind.wrap_i64]; omega
        have Hg := Lib.hid hpos
        have Hg2 := Lib.hid hneg
        have He := Lib.hid e1
        clear e1 e2 hpos hneg hy
        go_wp2
        go_roundw
        case rel => exact ⟨k + 1, by omega, by go_num, Q3.out, Q4.out, HK4.out⟩
        case measure => simp [intOf]; omega
      · obtain ⟨e1, e2⟩ := hneg (by omega)
        obtain ⟨m, hm⟩ : ∃ m, m = -l := ⟨_, rfl⟩
        have w0 : IntKind.i64.wrap (-l) = m := by rw [hm, IntKind.wrap_i64]; omega
        have w1 : IntKind.i64.wrap (m - 1) = (k1 : Int) := by rw [hm, e1, IntKind.wrap_i64]; omega
        obtain ⟨y1, hy1⟩ : ∃ y1, y1 = -y := ⟨_, rfl⟩
        have w2 : IntKind.i64.wrap (-y) = y1 := by rw [hy1, IntKind.wrap_i64]; omega
        have w3 : IntKind.i64.wrap (y1 - 1) = z := by rw [e2, hy1, IntKind.wrap_i64]; omega
        have Hg := Lib.hid hpos
        have Hg2 := Lib.hid hneg
        have He := Lib.hid e1
        have He2 := Lib.hid e2
        have Hm1 := Lib.hid hm
        have Hy1 := Lib.hid hy1
        clear e1 e2 hpos hneg hy hm hy1
        go_wp2
        go_roundw
        case rel => exact ⟨k + 1, by omega, by go_num, Q3.out, Q4.out, HK4.out⟩
        case measure => simp [intOf]; omega
    · obtain rfl : wd.length = k := by omega
      rw [mixW_end] at hI
      have HI := Lib.hid hI
      clear hI
      go_wp2
      go_ret
      exact ⟨_, f6, rfl, by have := HI.out.rd; rwa [List.length_map] at this, hF, hK⟩
end Go.Proofs.YtclhblofchfglaaGreat

namespace Go.Proofs.YtclhblofchfglaaGreat
open Go.RowKit
set_option maxRecDepth 10000

/-- a goal and the next -/
def pairB (a b : List Int) : Bool := decide (a.length < b.length) && a.all (fun z => decide (z ∈ b))
/-- the first j goals are right -/
def okTo (x : Puzzle) (goals : List (List Int)) (j : Nat) : Prop := ∀ i : Nat, i < j → trackB x.points (goals.getD i []) = true ∧ (0 < i → pairB (goals.getD (i - 1) []) (goals.getD i []) = true)
theorem okTo.next {x : Puzzle} {goals : List (List Int)} {j : Nat} (h : okTo x goals j) (h1 : trackB x.points (goals.getD j []) = true) (h2 : 0 < j → pairB (goals.getD (j - 1) []) (goals.getD j []) = true) : okTo x goals (j + 1) := fun i hi => by
  rcases Nat.lt_or_ge i j with h3 | h3
  · exact h i h3
  · obtain rfl : i = j := by omega
    exact ⟨h1, h2⟩
end Go.Proofs.YtclhblofchfglaaGreat

namespace Go.Proofs.YtclhblofchfglaaGreat
open Go.RowKit
set_option maxRecDepth 10000
end Go.Proofs.YtclhblofchfglaaGreat

namespace Go.Proofs.YtclhblofchfglaaGreat
open Go.RowKit
set_option maxRecDepth 10000
end Go.Proofs.YtclhblofchfglaaGreat

namespace Go.Proofs.YtclhblofchfglaaGreat
open Go.RowKit
set_option maxRecDepth 10000
end Go.Proofs.YtclhblofchfglaaGreat

namespace Go.Proofs.YtclhblofchfglaaGreat
open Go.RowKit
set_option maxRecDepth 10000
/-- a table and the word whether there is one, behind the call of BuildTable: the variable's block g -/
def BT1 (W wx : World) (s8 s9 : Value) (t : Option Table) : Prop :=
  ∃ g A1 A2 A3 C1 C2 C3 f, s8 = .pointer (some ⟨g, 0, none⟩) ∧ s9 = .bool t.isSome ∧ Blk wx g [.slice A1 (t.getD noTab).tracked.length C1, .slice A2 (t.getD noTab).patterns.length C2, .slice A3 (t.getD noTab).distances.length C3] ∧
    Rp.rep wx [.slice A1 (t.getD noTab).tracked.length C1, .slice A2 (t.getD noTab).patterns.length C2, .slice A3 (t.getD noTab).distances.length C3] (t.getD noTab) f ∧ Fresh W.heap.size wx f ∧ Only [] W wx
theorem BT1.of {W w5 : World} {t : Option Table} {g : Nat} {A1 A2 A3 : Option Addr} {n1 n2 n3 C1 C2 C3 : Nat} {f : List Nat} {cs : List Value} (hz : Blk w5 g cs) (hcs : cs.length = 3) (hK : Only [] W w5) (e1 : n1 = (t.getD noTab).tracked.length) (e2 : n2 = (t.getD noTab).patterns.length) (e3 : n3 = (t.getD noTab).distances.length)
    (hr : Rp.rep w5 [.slice A1 n1 C1, .slice A2 n2 C2, .slice A3 n3 C3] (t.getD noTab) f) (hF : Fresh W.heap.size w5 f) (hg : g ∉ f) (hW : W.heap.size ≤ g) :
    BT1 W (((w5.setCell ⟨g, 0, none⟩ (.slice A1 n1 C1)).setCell ⟨g, 1, none⟩ (.slice A2 n2 C2)).setCell ⟨g, 2, none⟩ (.slice A3 n3 C3)) (.pointer (some ⟨g, 0, none⟩)) (.bool t.isSome) t := by
  subst e1; subst e2; subst e3
  have ho : Only [g] w5 (((w5.setCell ⟨g, 0, none⟩ (.slice A1 (t.getD noTab).tracked.length C1)).setCell ⟨g, 1, none⟩ (.slice A2 (t.getD noTab).patterns.length C2)).setCell ⟨g, 2, none⟩ (.slice A3 (t.getD noTab).distances.length C3)) := (((Only.refl _ _).setCell (by simp) _).setCell (by simp) _).setCell (by simp) _
  have hb := ((hz.set 0 (.slice A1 (t.getD noTab).tracked.length C1)).set 1 (.slice A2 (t.getD noTab).patterns.length C2)).set 2 (.slice A3 (t.getD noTab).distances.length C3)
  have hnf : ∀ b ∈ f, b ∉ [g] := fun b hm1 hm => by simp at hm; subst hm; exact hg hm1
  refine ⟨g, A1, A2, A3, C1, C2, C3, f, rfl, rfl, ?_, Rp.only hr ho hnf, hF.only ho hnf, hK.then_ ho (by intro b hm hl; simp at hm; omega)⟩
  obtain ⟨u0, u1, u2, rfl⟩ : ∃ u0 u1 u2, cs = [u0, u1, u2] := by
    match cs, hcs with
    | [u0, u1, u2], _ => exact ⟨u0, u1, u2, rfl⟩
  simpa only [List.set] using hb
theorem BT1.of2 {W w5 : World} {t : Option Table} {g : Nat} {A1 A2 A3 : Option Addr} {n1 n2 n3 C1 C2 C3 : Nat} {f : List Nat} {e : TypeId} (hK : Only [] W w5) (e1 : n1 = (t.getD noTab).tracked.length) (e2 : n2 = (t.getD noTab).patterns.length) (e3 : n3 = (t.getD noTab).distances.length)
    (hr : Rp.rep w5 [.slice A1 n1 C1, .slice A2 n2 C2, .slice A3 n3 C3] (t.getD noTab) f) (hF : Fresh W.heap.size w5 f) (hg : g = w5.heap.size) :
    BT1 W (w5.alloc (.cells #[.slice A1 n1 C1, .slice A2 n2 C2, .slice A3 n3 C3] e)) (.pointer (some ⟨g, 0, none⟩)) (.bool t.isSome) t := by
  subst e1; subst e2; subst e3; subst hg
  have ho : Only [] w5 (w5.alloc (.cells #[.slice A1 (t.getD noTab).tracked.length C1, .slice A2 (t.getD noTab).patterns.length C2, .slice A3 (t.getD noTab).distances.length C3] e)) := (Only.refl _ _).alloc _
  exact ⟨_, A1, A2, A3, C1, C2, C3, f, rfl, rfl, Blk.new w5 [.slice A1 (t.getD noTab).tracked.length C1, .slice A2 (t.getD noTab).patterns.length C2, .slice A3 (t.getD noTab).distances.length C3] e, Rp.keep hr ho, hF.keep ho, hK.trans ho⟩
end Go.Proofs.YtclhblofchfglaaGreat

namespace Go.Proofs.YtclhblofchfglaaGreat
open Go.RowKit
set_option maxRecDepth 10000
end Go.Proofs.YtclhblofchfglaaGreat

namespace Go.Proofs.YtclhblofchfglaaGreat
open Go.RowKit
set_option maxRecDepth 10000
end Go.Proofs.YtclhblofchfglaaGreat

namespace Go.Proofs.YtclhblofchfglaaGreat
open Go.RowKit
set_option maxRecDepth 10000
end Go.Proofs.YtclhblofchfglaaGreat

namespace Go.Proofs.YtclhblofchfglaaGreat
open Go.RowKit
set_option maxRecDepth 10000

/-- the entries of a table's map, of the first j patterns -/
def tabG (t : Table) (j : Nat) (s : ByteArray) : Option Int := (firstG (t.patterns.take j) s).map fun i => t.distances.getD i.toNat 0
def kmOf (t : Table) : KM := ⟨tabG t t.patterns.length⟩
/-- the bounds of tables in memory: the box at g -/
def BD (w : World) (g : Nat) (ts : List Table) (ft : List Nat) : Prop :=
  ∃ vt vm fm, Blk w g [vt, vm] ∧ Rd w vt ts ft ∧ Rd w vm (ts.map kmOf) fm
theorem BD.keep {w w' : World} {g : Nat} {ts : List Table} {ft : List Nat} (h : BD w g ts ft) (ho : Only [] w w') : BD w' g ts ft := by
  obtain ⟨vt, vm, fm, a, b, c⟩ := h
  exact ⟨vt, vm, fm, a.keep ho, Rp.keep b ho, Rp.keep c ho⟩
end Go.Proofs.YtclhblofchfglaaGreat

namespace Go.Proofs.YtclhblofchfglaaGreat
open Go.RowKit
set_option maxRecDepth 10000

structure Claim where
  kind : Int
  value : Int
instance : Rp Claim where
  size := 2
  rep _ cs x fp := cs = [Value.int .i64 x.kind, Value.int .i64 x.value] ∧ I64 x.kind ∧ I64 x.value ∧ fp = []
  len h := by rw [h.1]; rfl
  frame h _ := h
  lt h := by rw [h.2.2.2]; simp
theorem Claim.eq_iff {x y : Claim} : x = y ↔ x.kind = y.kind ∧ x.value = y.value := by
  cases x; cases y; simp
end Go.Proofs.YtclhblofchfglaaGreat
