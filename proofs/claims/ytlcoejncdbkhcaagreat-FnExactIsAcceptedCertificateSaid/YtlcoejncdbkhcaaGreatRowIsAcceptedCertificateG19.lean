/- CheckCertificate, IsAcceptedCertificate: the reference's and the program's (laws 42, 43). (Printed by mkchk2.py.) CheckCertificate as the law's walk wants it; sizes (laws 42, 43). The law on IsAcceptedCertificate: its walk. (Printed by gen_exact.py.) From the row's own reading of an argument to 'rep'. From the row's own reading of an argument that is a struct, or a slice of structs, to 'rep'. (Printed by gen_conv.py.) FnExactIsAcceptedCertificate: for every argument that can be read, the call returns true, and the arguments read afterwards as before. No condition. (Printed by gen_row.py.) -/
import Derived.Test.YtlcoejncdbkhcaaGreatRowIsAcceptedCertificateG18
import Derived.Deep.RegionHeld3
import Derived.Deep.DeepCutAuto
import Derived.Test.YtlcoejncdbkhcaaGreatRowIsAcceptedCertificateG1
import Derived.ProofKit
import Derived.OpenShut
import Derived.Deep.Slices
import Derived.Test.YtlcoejncdbkhcaaGreatRowIsAcceptedCertificateG9
import Derived.Test.YtlcoejncdbkhcaaGreatRowIsAcceptedCertificateG16
import Derived.ShutString
import Derived.ChangeOld
namespace Go.Proofs.YtlcoejncdbkhcaaGreat
open Go.RowKit
set_option maxRecDepth 10000

set_option maxHeartbeats 4000000 in
theorem specCheck_any (cs ds : List Value) (x : Puzzle) (c : Certificate) (fp fc : List Nat) (u : Value) (s : List Int) (fs0 : List Nat) (w : World) (h : Rp.rep w cs x fp) (hu : Rd w u s fs0) (hc : Rp.rep w ds c fc) (hsm : ∀ t ∈ c.tables, t.tracked.length ≤ 2097152) :
    Calls Tryz.prog 47 #[.agg cs.toArray, u, .agg ds.toArray] w fun e w' => e = .returned (.tuple #[.agg #[.int .i64 ((chkC x s c).getD noClaim).kind, .int .i64 ((chkC x s c).getD noClaim).value], .bool (chkC x s c).isSome]) ∧ Only [] w w' := by
  have h0 := h
  have hc0 := hc
  obtain ⟨v2, rfl, p0, p1, h2⟩ := h
  obtain ⟨A3, C3, _, _, rfl, -, -⟩ := h2.open_
  obtain ⟨v1, v2, v3, f1, f2, f3, rfl, rfl, p2, i1, i2, i3⟩ := hc
  simp only [List.cons_append, List.nil_append] at hc0 ⊢
  obtain ⟨B1, D1, _, _, rfl, -, -⟩ := i1.open_
  obtain ⟨B2, D2, _, _, rfl, -, -⟩ := i2.open_
  obtain ⟨B3, D3, _, _, rfl, -, -⟩ := i3.open_
  clear h2 p0 p1 p2
  have X0 : Blk (((w.alloc (.cells #[.int .i64 x.points, .string x.names, .slice A3 x.moves.length C3] 37)).alloc (.cells #[.int .i64 c.kind, .slice B1 c.numbers.length D1, .slice B2 c.words.length D2, .slice B3 c.tables.length D3] 51)).alloc (.cells #[.int .i64 0, .int .i64 0] 73)) w.heap.size [.int .i64 x.points, .string x.names, .slice A3 x.moves.length C3] := ((Blk.new w [.int .i64 x.points, .string x.names, .slice A3 x.moves.length C3] 37).keep ((Only.refl _ _).alloc _)).keep ((Only.refl _ _).alloc _)
  have Y0 : Blk (((w.alloc (.cells #[.int .i64 x.points, .string x.names, .slice A3 x.moves.length C3] 37)).alloc (.cells #[.int .i64 c.kind, .slice B1 c.numbers.length D1, .slice B2 c.words.length D2, .slice B3 c.tables.length D3] 51)).alloc (.cells #[.int .i64 0, .int .i64 0] 73)) (w.heap.size + 1) [.int .i64 c.kind, .slice B1 c.numbers.length D1, .slice B2 c.words.length D2, .slice B3 c.tables.length D3] := (Blk.new_at (by simp)).keep ((Only.refl _ _).alloc _)
  have R0 : Blk (((w.alloc (.cells #[.int .i64 x.points, .string x.names, .slice A3 x.moves.length C3] 37)).alloc (.cells #[.int .i64 c.kind, .slice B1 c.numbers.length D1, .slice B2 c.words.length D2, .slice B3 c.tables.length D3] 51)).alloc (.cells #[.int .i64 0, .int .i64 0] 73)) (w.heap.size + 1 + 1) [.int .i64 0, .int .i64 0] := Blk.new_at (by simp)
  rcases hst : stateB x s
  · have Ha := Lib.hid (by unfold chkC; rw [hst]; rfl : chkC x s c = none)
    go_enter Tryz.func47, Tryz.ntmps47
    go_wp2_with (first
      | (go_at_call 68; (with_reducible refine (specIsState_any [.int .i64 x.points, .string x.names, .slice A3 x.moves.length C3] x _ u s _ _ (Rp.keep h0 (by with_reducible repeat (first | exact Only.refl _ _ | assumption | refine Only.drewN ?_ _ | refine Only.drew ?_ | refine Only.alloc ?_ _ | refine Only.setCell ?_ (by intro hh; exfalso; simp at hh; try omega) _ | refine Only.trans ?_ (by assumption)))) (Rp.keep hu (by with_reducible repeat (first | exact Only.refl _ _ | assumption | refine Only.drewN ?_ _ | refine Only.drew ?_ | refine Only.alloc ?_ _ | refine Only.setCell ?_ (by intro hh; exfalso; simp at hh; try omega) _ | refine Only.trans ?_ (by assumption))))).mono ?_); rintro e w1 ⟨he, t1⟩; rw [hst] at he; subst he; have RL := R0.keep t1; have g0 := RL.cell 0 rfl; have g1 := RL.cell 1 rfl; have q0 := RL.frozen 0; have q1 := RL.frozen 1)
      | fail "no arm")
    have KL : Only [] w w1 := (by with_reducible repeat (first | exact Only.refl _ _ | assumption | refine Only.drewN ?_ _ | refine Only.drew ?_ | refine Only.alloc ?_ _ | refine Only.setCell ?_ (by intro hh; exfalso; simp at hh; try omega) _ | refine Only.trans ?_ (by assumption)))
    have Rf := (RL.set 0 (.int .i64 0)).set 1 (.int .i64 0)
    simp only [List.set] at Rf
    have z0 := Rf.cell 0 rfl
    have z1 := Rf.cell 1 rfl
    have Kf : Only [] w ((w1.setCell ⟨w.heap.size + 1 + 1, 0, none⟩ (.int .i64 0)).setCell ⟨w.heap.size + 1 + 1, 1, none⟩ (.int .i64 0)) := (KL.setCell (by simp; omega) _).setCell (by simp; omega) _
    refine bodyPost_ret (v := .tuple #[.agg #[.int .i64 0, .int .i64 0], .bool false]) (by simp [results, Tryz.results47, go_sem, z0, z1]) rfl ⟨by rw [Ha.out]; rfl, Kf⟩
  · have Ha := Lib.hid (by unfold chkC; rw [if_pos hst] : chkC x s c = accC x s c)
    go_enter Tryz.func47, Tryz.ntmps47
    go_wp2_with (first
      | (go_at_call 68; (with_reducible refine (specIsState_any [.int .i64 x.points, .string x.names, .slice A3 x.moves.length C3] x _ u s _ _ (Rp.keep h0 (by with_reducible repeat (first | exact Only.refl _ _ | assumption | refine Only.drewN ?_ _ | refine Only.drew ?_ | refine Only.alloc ?_ _ | refine Only.setCell ?_ (by intro hh; exfalso; simp at hh; try omega) _ | refine Only.trans ?_ (by assumption)))) (Rp.keep hu (by with_reducible repeat (first | exact Only.refl _ _ | assumption | refine Only.drewN ?_ _ | refine Only.drew ?_ | refine Only.alloc ?_ _ | refine Only.setCell ?_ (by intro hh; exfalso; simp at hh; try omega) _ | refine Only.trans ?_ (by assumption))))).mono ?_); rintro e w1 ⟨he, t1⟩; rw [hst] at he; subst he; have XL := X0.keep t1; have YL := Y0.keep t1; have n0 := XL.cell 0 rfl; have n1 := XL.cell 1 rfl; have n2 := XL.cell 2 rfl; have m0 := YL.cell 0 rfl; have m1 := YL.cell 1 rfl; have m2 := YL.cell 2 rfl; have m3 := YL.cell 3 rfl)
      | (go_at_call 94; (with_reducible refine (specAcc_any [.int .i64 x.points, .string x.names, .slice A3 x.moves.length C3] [.int .i64 c.kind, .slice B1 c.numbers.length D1, .slice B2 c.words.length D2, .slice B3 c.tables.length D3] x c _ _ u s _ _ (Rp.keep h0 (by with_reducible repeat (first | exact Only.refl _ _ | assumption | refine Only.drewN ?_ _ | refine Only.drew ?_ | refine Only.alloc ?_ _ | refine Only.setCell ?_ (by intro hh; exfalso; simp at hh; try omega) _ | refine Only.trans ?_ (by assumption)))) (Rp.keep hu (by with_reducible repeat (first | exact Only.refl _ _ | assumption | refine Only.drewN ?_ _ | refine Only.drew ?_ | refine Only.alloc ?_ _ | refine Only.setCell ?_ (by intro hh; exfalso; simp at hh; try omega) _ | refine Only.trans ?_ (by assumption)))) (Rp.keep hc0 (by with_reducible repeat (first | exact Only.refl _ _ | assumption | refine Only.drewN ?_ _ | refine Only.drew ?_ | refine Only.alloc ?_ _ | refine Only.setCell ?_ (by intro hh; exfalso; simp at hh; try omega) _ | refine Only.trans ?_ (by assumption)))) hst hsm).mono ?_); rintro e w2 ⟨rfl, t2⟩; have RL := (R0.keep t1).keep t2; have g0 := RL.cell 0 rfl; have g1 := RL.cell 1 rfl; have q0 := RL.frozen 0; have q1 := RL.frozen 1)
      | fail "no arm")
    have KL : Only [] w w2 := (by with_reducible repeat (first | exact Only.refl _ _ | assumption | refine Only.drewN ?_ _ | refine Only.drew ?_ | refine Only.alloc ?_ _ | refine Only.setCell ?_ (by intro hh; exfalso; simp at hh; try omega) _ | refine Only.trans ?_ (by assumption)))
    have Rf := (RL.set 0 (.int .i64 ((accC x s c).getD noClaim).kind)).set 1 (.int .i64 ((accC x s c).getD noClaim).value)
    simp only [List.set] at Rf
    have z0 := Rf.cell 0 rfl
    have z1 := Rf.cell 1 rfl
    have Kf : Only [] w ((w2.setCell ⟨w.heap.size + 1 + 1, 0, none⟩ (.int .i64 ((accC x s c).getD noClaim).kind)).setCell ⟨w.heap.size + 1 + 1, 1, none⟩ (.int .i64 ((accC x s c).getD noClaim).value)) := (KL.setCell (by simp; omega) _).setCell (by simp; omega) _
    refine bodyPost_ret (v := .tuple #[.agg #[.int .i64 ((accC x s c).getD noClaim).kind, .int .i64 ((accC x s c).getD noClaim).value], .bool (accC x s c).isSome]) (by simp [results, Tryz.results47, go_sem, z0, z1]) rfl ⟨by rw [Ha.out], Kf⟩
set_option maxHeartbeats 4000000 in
theorem specAccepted_any (cs ds : List Value) (x : Puzzle) (c : Certificate) (fp fc : List Nat) (u : Value) (s : List Int) (fs0 : List Nat) (w : World) (h : Rp.rep w cs x fp) (hu : Rd w u s fs0) (hc : Rp.rep w ds c fc) (hsm : ∀ t ∈ c.tables, t.tracked.length ≤ 2097152) :
    Calls Tryz.prog 44 #[.agg cs.toArray, u, .agg ds.toArray] w fun e w' => e = .returned (.bool (chkC x s c).isSome) ∧ Only [] w w' := by
  have h0 := h
  have hc0 := hc
  obtain ⟨v2, rfl, p0, p1, h2⟩ := h
  obtain ⟨A3, C3, _, _, rfl, -, -⟩ := h2.open_
  obtain ⟨v1, v2, v3, f1, f2, f3, rfl, rfl, p2, i1, i2, i3⟩ := hc
  simp only [List.cons_append, List.nil_append] at hc0 ⊢
  obtain ⟨B1, D1, _, _, rfl, -, -⟩ := i1.open_
  obtain ⟨B2, D2, _, _, rfl, -, -⟩ := i2.open_
  obtain ⟨B3, D3, _, _, rfl, -, -⟩ := i3.open_
  clear h2 p0 p1 p2
  go_enter Tryz.func44, Tryz.ntmps44
  go_wp2_with (first
    | (go_at_call 47; (with_reducible refine (specCheck_any [.int .i64 x.points, .string x.names, .slice A3 x.moves.length C3] [.int .i64 c.kind, .slice B1 c.numbers.length D1, .slice B2 c.words.length D2, .slice B3 c.tables.length D3] x c _ _ u s _ _ (Rp.keep h0 (by with_reducible repeat (first | exact Only.refl _ _ | assumption | refine Only.drewN ?_ _ | refine Only.drew ?_ | refine Only.alloc ?_ _ | refine Only.setCell ?_ (by intro hh; exfalso; simp at hh; try omega) _ | refine Only.trans ?_ (by assumption)))) (Rp.keep hu (by with_reducible repeat (first | exact Only.refl _ _ | assumption | refine Only.drewN ?_ _ | refine Only.drew ?_ | refine Only.alloc ?_ _ | refine Only.setCell ?_ (by intro hh; exfalso; simp at hh; try omega) _ | refine Only.trans ?_ (by assumption)))) (Rp.keep hc0 (by with_reducible repeat (first | exact Only.refl _ _ | assumption | refine Only.drewN ?_ _ | refine Only.drew ?_ | refine Only.alloc ?_ _ | refine Only.setCell ?_ (by intro hh; exfalso; simp at hh; try omega) _ | refine Only.trans ?_ (by assumption)))) hsm).mono ?_); rintro e w1 ⟨rfl, t1⟩; have Z := Blk.new w1 [.int .i64 0, .int .i64 0] 73; have g0 := Z.cell 0 rfl; have g1 := Z.cell 1 rfl; have q0 := Z.frozen 0; have q1 := Z.frozen 1)
    | fail "no arm")
  go_ret
  exact ⟨rfl, (by with_reducible repeat (first | exact Only.refl _ _ | assumption | refine Only.drewN ?_ _ | refine Only.drew ?_ | refine Only.alloc ?_ _ | refine Only.setCell ?_ (by intro hh; exfalso; simp at hh; try omega) _ | refine Only.trans ?_ (by assumption)))⟩
set_option maxHeartbeats 4000000 in
theorem implCheck_any (cs ds : List Value) (x : Puzzle) (c : Certificate) (fp fc : List Nat) (u : Value) (s : List Int) (fs0 : List Nat) (w : World) (h : Rp.rep w cs x fp) (hu : Rd w u s fs0) (hc : Rp.rep w ds c fc) (hsm : ∀ t ∈ c.tables, t.tracked.length ≤ 2097152) :
    Calls Tryz.prog 48 #[.agg cs.toArray, u, .agg ds.toArray] w fun e w' => e = .returned (.tuple #[.agg #[.int .i64 ((chkC x s c).getD noClaim).kind, .int .i64 ((chkC x s c).getD noClaim).value], .bool (chkC x s c).isSome]) ∧ Only [] w w' := by
  have h0 := h
  have hc0 := hc
  obtain ⟨v2, rfl, p0, p1, h2⟩ := h
  obtain ⟨A3, C3, _, _, rfl, -, -⟩ := h2.open_
  obtain ⟨v1, v2, v3, f1, f2, f3, rfl, rfl, p2, i1, i2, i3⟩ := hc
  simp only [List.cons_append, List.nil_append] at hc0 ⊢
  obtain ⟨B1, D1, _, _, rfl, -, -⟩ := i1.open_
  obtain ⟨B2, D2, _, _, rfl, -, -⟩ := i2.open_
  obtain ⟨B3, D3, _, _, rfl, -, -⟩ := i3.open_
  clear h2 p0 p1 p2
  have X0 : Blk (((w.alloc (.cells #[.int .i64 x.points, .string x.names, .slice A3 x.moves.length C3] 37)).alloc (.cells #[.int .i64 c.kind, .slice B1 c.numbers.length D1, .slice B2 c.words.length D2, .slice B3 c.tables.length D3] 51)).alloc (.cells #[.int .i64 0, .int .i64 0] 73)) w.heap.size [.int .i64 x.points, .string x.names, .slice A3 x.moves.length C3] := ((Blk.new w [.int .i64 x.points, .string x.names, .slice A3 x.moves.length C3] 37).keep ((Only.refl _ _).alloc _)).keep ((Only.refl _ _).alloc _)
  have Y0 : Blk (((w.alloc (.cells #[.int .i64 x.points, .string x.names, .slice A3 x.moves.length C3] 37)).alloc (.cells #[.int .i64 c.kind, .slice B1 c.numbers.length D1, .slice B2 c.words.length D2, .slice B3 c.tables.length D3] 51)).alloc (.cells #[.int .i64 0, .int .i64 0] 73)) (w.heap.size + 1) [.int .i64 c.kind, .slice B1 c.numbers.length D1, .slice B2 c.words.length D2, .slice B3 c.tables.length D3] := (Blk.new_at (by simp)).keep ((Only.refl _ _).alloc _)
  have R0 : Blk (((w.alloc (.cells #[.int .i64 x.points, .string x.names, .slice A3 x.moves.length C3] 37)).alloc (.cells #[.int .i64 c.kind, .slice B1 c.numbers.length D1, .slice B2 c.words.length D2, .slice B3 c.tables.length D3] 51)).alloc (.cells #[.int .i64 0, .int .i64 0] 73)) (w.heap.size + 1 + 1) [.int .i64 0, .int .i64 0] := Blk.new_at (by simp)
  rcases hst : stateB x s
  · have Ha := Lib.hid (by unfold chkC; rw [hst]; rfl : chkC x s c = none)
    go_enter Tryz.func48, Tryz.ntmps48
    go_wp2_with (first
      | (go_at_call 74; (with_reducible refine (implIsState_any [.int .i64 x.points, .string x.names, .slice A3 x.moves.length C3] x _ u s _ _ (Rp.keep h0 (by with_reducible repeat (first | exact Only.refl _ _ | assumption | refine Only.drewN ?_ _ | refine Only.drew ?_ | refine Only.alloc ?_ _ | refine Only.setCell ?_ (by intro hh; exfalso; simp at hh; try omega) _ | refine Only.trans ?_ (by assumption)))) (Rp.keep hu (by with_reducible repeat (first | exact Only.refl _ _ | assumption | refine Only.drewN ?_ _ | refine Only.drew ?_ | refine Only.alloc ?_ _ | refine Only.setCell ?_ (by intro hh; exfalso; simp at hh; try omega) _ | refine Only.trans ?_ (by assumption))))).mono ?_); rintro e w1 ⟨he, t1⟩; rw [hst] at he; subst he; have RL := R0.keep t1; have g0 := RL.cell 0 rfl; have g1 := RL.cell 1 rfl; have q0 := RL.frozen 0; have q1 := RL.frozen 1)
      | fail "no arm")
    have KL : Only [] w w1 := (by with_reducible repeat (first | exact Only.refl _ _ | assumption | refine Only.drewN ?_ _ | refine Only.drew ?_ | refine Only.alloc ?_ _ | refine Only.setCell ?_ (by intro hh; exfalso; simp at hh; try omega) _ | refine Only.trans ?_ (by assumption)))
    have Rf := (RL.set 0 (.int .i64 0)).set 1 (.int .i64 0)
    simp only [List.set] at Rf
    have z0 := Rf.cell 0 rfl
    have z1 := Rf.cell 1 rfl
    have Kf : Only [] w ((w1.setCell ⟨w.heap.size + 1 + 1, 0, none⟩ (.int .i64 0)).setCell ⟨w.heap.size + 1 + 1, 1, none⟩ (.int .i64 0)) := (KL.setCell (by simp; omega) _).setCell (by simp; omega) _
    refine bodyPost_ret (v := .tuple #[.agg #[.int .i64 0, .int .i64 0], .bool false]) (by simp [results, Tryz.results48, go_sem, z0, z1]) rfl ⟨by rw [Ha.out]; rfl, Kf⟩
  · have Ha := Lib.hid (by unfold chkC; rw [if_pos hst] : chkC x s c = accC x s c)
    rw [Ha.out]
    exact implAcc_any [.int .i64 x.points, .string x.names, .slice A3 x.moves.length C3] [.int .i64 c.kind, .slice B1 c.numbers.length D1, .slice B2 c.words.length D2, .slice B3 c.tables.length D3] x c _ _ u s _ w h0 hu hc0 hst hsm
set_option maxHeartbeats 4000000 in
theorem implAccepted_any (cs ds : List Value) (x : Puzzle) (c : Certificate) (fp fc : List Nat) (u : Value) (s : List Int) (fs0 : List Nat) (w : World) (h : Rp.rep w cs x fp) (hu : Rd w u s fs0) (hc : Rp.rep w ds c fc) (hsm : ∀ t ∈ c.tables, t.tracked.length ≤ 2097152) :
    Calls Tryz.prog 46 #[.agg cs.toArray, u, .agg ds.toArray] w fun e w' => e = .returned (.bool (chkC x s c).isSome) ∧ Only [] w w' := by
  have h0 := h
  have hc0 := hc
  obtain ⟨v2, rfl, p0, p1, h2⟩ := h
  obtain ⟨A3, C3, _, _, rfl, -, -⟩ := h2.open_
  obtain ⟨v1, v2, v3, f1, f2, f3, rfl, rfl, p2, i1, i2, i3⟩ := hc
  simp only [List.cons_append, List.nil_append] at hc0 ⊢
  obtain ⟨B1, D1, _, _, rfl, -, -⟩ := i1.open_
  obtain ⟨B2, D2, _, _, rfl, -, -⟩ := i2.open_
  obtain ⟨B3, D3, _, _, rfl, -, -⟩ := i3.open_
  clear h2 p0 p1 p2
  go_enter Tryz.func46, Tryz.ntmps46
  go_wp2_with (first
    | (go_at_call 48; (with_reducible refine (implCheck_any [.int .i64 x.points, .string x.names, .slice A3 x.moves.length C3] [.int .i64 c.kind, .slice B1 c.numbers.length D1, .slice B2 c.words.length D2, .slice B3 c.tables.length D3] x c _ _ u s _ _ (Rp.keep h0 (by with_reducible repeat (first | exact Only.refl _ _ | assumption | refine Only.drewN ?_ _ | refine Only.drew ?_ | refine Only.alloc ?_ _ | refine Only.setCell ?_ (by intro hh; exfalso; simp at hh; try omega) _ | refine Only.trans ?_ (by assumption)))) (Rp.keep hu (by with_reducible repeat (first | exact Only.refl _ _ | assumption | refine Only.drewN ?_ _ | refine Only.drew ?_ | refine Only.alloc ?_ _ | refine Only.setCell ?_ (by intro hh; exfalso; simp at hh; try omega) _ | refine Only.trans ?_ (by assumption)))) (Rp.keep hc0 (by with_reducible repeat (first | exact Only.refl _ _ | assumption | refine Only.drewN ?_ _ | refine Only.drew ?_ | refine Only.alloc ?_ _ | refine Only.setCell ?_ (by intro hh; exfalso; simp at hh; try omega) _ | refine Only.trans ?_ (by assumption)))) hsm).mono ?_); rintro e w1 ⟨rfl, t1⟩; have Z := Blk.new w1 [.int .i64 0, .int .i64 0] 73; have g0 := Z.cell 0 rfl; have g1 := Z.cell 1 rfl; have q0 := Z.frozen 0; have q1 := Z.frozen 1)
    | fail "no arm")
  go_ret
  exact ⟨rfl, (by with_reducible repeat (first | exact Only.refl _ _ | assumption | refine Only.drewN ?_ _ | refine Only.drew ?_ | refine Only.alloc ?_ _ | refine Only.setCell ?_ (by intro hh; exfalso; simp at hh; try omega) _ | refine Only.trans ?_ (by assumption)))⟩
end Go.Proofs.YtlcoejncdbkhcaaGreat

namespace Go.Proofs.YtlcoejncdbkhcaaGreat
open Go.RowKit
set_option maxRecDepth 10000

theorem sm_tabs {c : Certificate} (h : Sm.sm c) : ∀ t ∈ c.tables, t.tracked.length ≤ 2097152 := by
  intro t ht
  obtain ⟨-, -, h3⟩ := h
  obtain ⟨-, h4⟩ := h3
  obtain ⟨h5, -, -⟩ := h4 t ht
  exact h5.1
end Go.Proofs.YtlcoejncdbkhcaaGreat

namespace Go.Proofs.YtlcoejncdbkhcaaGreat
open Go.RowKit
set_option maxRecDepth 10000

set_option maxHeartbeats 4000000 in
theorem FnExactIsAcceptedCertificate_any (w : World) (caP : List Value) (aP : Puzzle) (faP : List Nat) (raP : Rp.rep w caP aP faP) (vaS : Value) (aS : List Int) (faS : List Nat) (raS : Rd w vaS aS faS) (caC : List Value) (aC : Certificate) (faC : List Nat) (raC : Rp.rep w caC aC faC) :
    Calls Tryz.prog 9 #[.agg caP.toArray, vaS, .agg caC.toArray] w fun e w' => e = .returned (.bool true) ∧ Only [] w w' := by
  have qaP := raP
  obtain ⟨uaP2, rfl, -, -, zaP2⟩ := qaP
  obtain ⟨AaP2, CaP2, _, _, rfl, -⟩ := zaP2.open_
  have LaP := Rp.lt raP
  obtain ⟨AaS, CaS, _, _, rfl, -⟩ := raS.open_
  have LaS := Rp.lt raS
  have hbaS : aS.length ≤ 9223372036854775807 := by obtain ⟨_, _, _, _, hq, -, hs⟩ := raS.open_; have := hs.bound; exact this
  have qaC := raC
  obtain ⟨uaC1, uaC2, uaC3, _, _, _, rfl, -, -, zaC1, zaC2, zaC3⟩ := qaC
  obtain ⟨AaC1, CaC1, _, _, rfl, -⟩ := zaC1.open_
  obtain ⟨AaC2, CaC2, _, _, rfl, -⟩ := zaC2.open_
  obtain ⟨AaC3, CaC3, _, _, rfl, -⟩ := zaC3.open_
  have LaC := Rp.lt raC
  by_cases lenaS : 1048576 < aS.length
  · go_enter Tryz.func9, Tryz.ntmps9
    go_wp2
    go_ret
    exact ⟨rfl, (by with_reducible repeat (first | exact Only.refl _ _ | assumption | refine Only.drewN ?_ _ | refine Only.drew ?_ | refine Only.alloc ?_ _ | refine Only.setCell ?_ (by intro hh; exfalso; simp at hh; try omega) _ | refine Only.trans ?_ (by assumption)))⟩
  have smaS : Sm.sm aS := ⟨by omega, fun _ _ => trivial⟩
  have csaS : Mk.cnt aS ≤ 1048576 := by simp only [Mk.cnt, cntL_ints]; omega
  rcases szV_cases (1048576) aP with ⟨esaP, msaP⟩ | ⟨esaP, psaP, msaP⟩
  · go_enter Tryz.func9, Tryz.ntmps9
    go_wp2_with (with_reducible refine (szPuzzle_any [.int .i64 aP.points, .string aP.names, .slice AaP2 aP.moves.length CaP2] aP _ (1048576) _ (Rp.keep raP (((Only.refl [] _).alloc (.cells #[.int .i64 aP.points, .string aP.names, .slice AaP2 aP.moves.length CaP2] 24)).alloc (.cells #[.int .i64 aC.kind, .slice AaC1 aC.numbers.length CaC1, .slice AaC2 aC.words.length CaC2, .slice AaC3 aC.tables.length CaC3] 67))) (by omega) (by omega)).mono ?_; rintro e w1 ⟨rfl, t0⟩)
    go_ret
    exact ⟨rfl, (by with_reducible repeat (first | exact Only.refl _ _ | assumption | refine Only.drewN ?_ _ | refine Only.drew ?_ | refine Only.alloc ?_ _ | refine Only.setCell ?_ (by intro hh; exfalso; simp at hh; try omega) _ | refine Only.trans ?_ (by assumption)))⟩
  have smaP : Sm.sm aP := SzSm.of_ _ (by omega)
  have csaP : Mk.cnt aP ≤ 1048576 := Nat.le_trans (CntSz.le aP) (by omega)
  rcases szV_cases (1048576 - (Sz.sz aP : Nat)) aC with ⟨esaC, msaC⟩ | ⟨esaC, psaC, msaC⟩
  · go_enter Tryz.func9, Tryz.ntmps9
    go_wp2_with fail
    with_reducible refine (szPuzzle_any [.int .i64 aP.points, .string aP.names, .slice AaP2 aP.moves.length CaP2] aP _ (1048576) _ (Rp.keep raP (((Only.refl [] _).alloc (.cells #[.int .i64 aP.points, .string aP.names, .slice AaP2 aP.moves.length CaP2] 24)).alloc (.cells #[.int .i64 aC.kind, .slice AaC1 aC.numbers.length CaC1, .slice AaC2 aC.words.length CaC2, .slice AaC3 aC.tables.length CaC3] 67))) (by omega) (by omega)).mono ?_
    rintro e w1 ⟨rfl, t0⟩
    rw [esaP]
    have T0 : Only [] w w1 := (((Only.refl [] _).alloc (.cells #[.int .i64 aP.points, .string aP.names, .slice AaP2 aP.moves.length CaP2] 24)).alloc (.cells #[.int .i64 aC.kind, .slice AaC1 aC.numbers.length CaC1, .slice AaC2 aC.words.length CaC2, .slice AaC3 aC.tables.length CaC3] 67)).trans t0
    have S0 : w.heap.size + 2 ≤ w1.heap.size := by have := t0.size; simp at this; omega
    have BaP : Blk w1 w.heap.size [.int .i64 aP.points, .string aP.names, .slice AaP2 aP.moves.length CaP2] := (Blk.keep (Blk.keep (Blk.new_at (by simp)) ((Only.refl _ _).alloc _)) t0)
    have LBaP : w.heap.size < w1.heap.size := BaP.lt
    have HBaP := Lib.hid BaP; clear BaP
    have BaC : Blk w1 (w.heap.size + 1) [.int .i64 aC.kind, .slice AaC1 aC.numbers.length CaC1, .slice AaC2 aC.words.length CaC2, .slice AaC3 aC.tables.length CaC3] := (Blk.keep (Blk.new_at (by simp)) t0)
    have LBaC : (w.heap.size + 1) < w1.heap.size := BaC.lt
    have HBaC := Lib.hid BaC; clear BaC
    have caC_1_0 := (HBaC.out).cell 0 rfl
    have caC_1_1 := (HBaC.out).cell 1 rfl
    have caC_1_2 := (HBaC.out).cell 2 rfl
    have caC_1_3 := (HBaC.out).cell 3 rfl
    go_wp2_with (with_reducible refine (szCertificate_any [.int .i64 aC.kind, .slice AaC1 aC.numbers.length CaC1, .slice AaC2 aC.words.length CaC2, .slice AaC3 aC.tables.length CaC3] aC _ (1048576 - (Sz.sz aP : Nat)) _ (Rp.keep raC T0) (by omega) (by omega)).mono ?_; rintro e w2 ⟨rfl, t1⟩)
    go_ret
    exact ⟨rfl, (by with_reducible repeat (first | exact Only.refl _ _ | assumption | refine Only.drewN ?_ _ | refine Only.drew ?_ | refine Only.alloc ?_ _ | refine Only.setCell ?_ (by intro hh; exfalso; simp at hh; try omega) _ | refine Only.trans ?_ (by assumption)))⟩
  have smaC : Sm.sm aC := SzSm.of_ _ (by omega)
  have csaC : Mk.cnt aC ≤ 1048576 := Nat.le_trans (CntSz.le aC) (by omega)
  go_enter Tryz.func9, Tryz.ntmps9
  go_wp2_with fail
  with_reducible refine (szPuzzle_any [.int .i64 aP.points, .string aP.names, .slice AaP2 aP.moves.length CaP2] aP _ (1048576) _ (Rp.keep raP (((Only.refl [] _).alloc (.cells #[.int .i64 aP.points, .string aP.names, .slice AaP2 aP.moves.length CaP2] 24)).alloc (.cells #[.int .i64 aC.kind, .slice AaC1 aC.numbers.length CaC1, .slice AaC2 aC.words.length CaC2, .slice AaC3 aC.tables.length CaC3] 67))) (by omega) (by omega)).mono ?_
  rintro e w1 ⟨rfl, t0⟩
  rw [esaP]
  have T0 : Only [] w w1 := (((Only.refl [] _).alloc (.cells #[.int .i64 aP.points, .string aP.names, .slice AaP2 aP.moves.length CaP2] 24)).alloc (.cells #[.int .i64 aC.kind, .slice AaC1 aC.numbers.length CaC1, .slice AaC2 aC.words.length CaC2, .slice AaC3 aC.tables.length CaC3] 67)).trans t0
  have S0 : w.heap.size + 2 ≤ w1.heap.size := by have := t0.size; simp at this; omega
  have BaP : Blk w1 w.heap.size [.int .i64 aP.points, .string aP.names, .slice AaP2 aP.moves.length CaP2] := (Blk.keep (Blk.keep (Blk.new_at (by simp)) ((Only.refl _ _).alloc _)) t0)
  have LBaP : w.heap.size < w1.heap.size := BaP.lt
  have HBaP := Lib.hid BaP; clear BaP
  have BaC : Blk w1 (w.heap.size + 1) [.int .i64 aC.kind, .slice AaC1 aC.numbers.length CaC1, .slice AaC2 aC.words.length CaC2, .slice AaC3 aC.tables.length CaC3] := (Blk.keep (Blk.new_at (by simp)) t0)
  have LBaC : (w.heap.size + 1) < w1.heap.size := BaC.lt
  have HBaC := Lib.hid BaC; clear BaC
  have caC_1_0 := (HBaC.out).cell 0 rfl
  have caC_1_1 := (HBaC.out).cell 1 rfl
  have caC_1_2 := (HBaC.out).cell 2 rfl
  have caC_1_3 := (HBaC.out).cell 3 rfl
  go_wp2_with fail
  with_reducible refine (szCertificate_any [.int .i64 aC.kind, .slice AaC1 aC.numbers.length CaC1, .slice AaC2 aC.words.length CaC2, .slice AaC3 aC.tables.length CaC3] aC _ (1048576 - (Sz.sz aP : Nat)) _ (Rp.keep raC T0) (by omega) (by omega)).mono ?_
  rintro e w2 ⟨rfl, t1⟩
  rw [esaC]
  have T1 : Only [] w1 w2 := t1
  have S1 : w1.heap.size + 0 ≤ w2.heap.size := by have := T1.size; omega
  clear caC_1_0 caC_1_1 caC_1_2 caC_1_3
  go_upto_region 10 with fail
  go_region_held3 (fun w' => Only [] w2 w' ∧ w'.cell? ⟨w.heap.size, 0, none⟩ = some (.int .i64 aP.points) ∧ w'.cell? ⟨w.heap.size, 1, none⟩ = some (.string aP.names) ∧ w'.cell? ⟨w.heap.size, 2, none⟩ = some (.slice AaP2 aP.moves.length CaP2) ∧ w'.cell? ⟨(w.heap.size + 1), 0, none⟩ = some (.int .i64 aC.kind) ∧ w'.cell? ⟨(w.heap.size + 1), 1, none⟩ = some (.slice AaC1 aC.numbers.length CaC1) ∧ w'.cell? ⟨(w.heap.size + 1), 2, none⟩ = some (.slice AaC2 aC.words.length CaC2) ∧ w'.cell? ⟨(w.heap.size + 1), 3, none⟩ = some (.slice AaC3 aC.tables.length CaC3)) ((refine and_of ?_ (fun h__ => ⟨(Blk.keep (Blk.keep HBaP.out T1) h__).cell 0 rfl, (Blk.keep (Blk.keep HBaP.out T1) h__).cell 1 rfl, (Blk.keep (Blk.keep HBaP.out T1) h__).cell 2 rfl, (Blk.keep (Blk.keep HBaC.out T1) h__).cell 0 rfl, (Blk.keep (Blk.keep HBaC.out T1) h__).cell 1 rfl, (Blk.keep (Blk.keep HBaC.out T1) h__).cell 2 rfl, (Blk.keep (Blk.keep HBaC.out T1) h__).cell 3 rfl⟩); first | exact (Only.refl _ _).drew | exact Only.trans (And.left (by assumption)) (by assumption))) (first
    | (go_at_call 15; (with_reducible refine (toPuzzle_any [.int .i64 aP.points, .string aP.names, .slice AaP2 aP.moves.length CaP2] aP _ _ (Rp.keep (Rp.keep (Rp.keep raP T0) T1) (And.left (by assumption))) smaP).mono ?_); rintro e w3 ⟨u1, f1, rfl, r1, F1, t2⟩)
    | (go_at_call 30; (with_reducible refine (toInt64S_sm (.slice AaS aS.length CaS) aS _ _ (Rp.keep (Rp.keep (Rp.keep raS T0) T1) (And.left (by assumption))) smaS).mono ?_); rintro e w4 ⟨v2, f2, rfl, r2, F2, t3⟩)
    | (go_at_call 45; (with_reducible refine (toCertificate_any [.int .i64 aC.kind, .slice AaC1 aC.numbers.length CaC1, .slice AaC2 aC.words.length CaC2, .slice AaC3 aC.tables.length CaC3] aC _ _ (Rp.keep (Rp.keep (Rp.keep raC T0) T1) (And.left (by assumption))) smaC).mono ?_); rintro e w5 ⟨u3, f3, rfl, r3, F3, t4⟩)
    | (go_at_call 44; (with_reducible refine (specAccepted_any u1 u3 aP aC _ _ v2 aS _ _ (Rp.keep r1 (by first | exact Only.refl _ _ | assumption | exact Only.trans (by assumption) (by assumption))) (Rp.keep r2 (by first | exact Only.refl _ _ | assumption | exact Only.trans (by assumption) (by assumption))) (Rp.keep r3 (by first | exact Only.refl _ _ | assumption | exact Only.trans (by assumption) (by assumption))) (sm_tabs smaC)).mono ?_); rintro e w6 ⟨rfl, t5⟩)
    | fail "no arm")
  have T2 : Only [] w2 w3 := ((Only.refl _ _).drew).trans t2
  have S2 : w2.heap.size + 0 ≤ w3.heap.size := by have := T2.size; omega
  have L1 := Rp.lt r1
  have G1 : ∀ b ∈ f1, w2.heap.size ≤ b := fun b hb => by have := F1.ge b hb; first | omega | (simp at this; omega)
  have T3 : Only [] w3 w4 := t3
  have S3 : w3.heap.size + 0 ≤ w4.heap.size := by have := T3.size; omega
  have L2 := Rp.lt r2
  have G2 : ∀ b ∈ f2, w3.heap.size ≤ b := fun b hb => by have := F2.ge b hb; first | omega | (simp at this; omega)
  have T4 : Only [] w4 w5 := t4
  have S4 : w4.heap.size + 0 ≤ w5.heap.size := by have := T4.size; omega
  have L3 := Rp.lt r3
  have G3 : ∀ b ∈ f3, w4.heap.size ≤ b := fun b hb => by have := F3.ge b hb; first | omega | (simp at this; omega)
  have T5 : Only [] w5 w6 := t5
  have S5 : w5.heap.size + 0 ≤ w6.heap.size := by have := T5.size; omega
  have caP_6_0 := ((Blk.keep (Blk.keep (Blk.keep (Blk.keep (Blk.keep HBaP.out T1) T2) T3) T4) T5)).cell 0 rfl
  have caP_6_1 := ((Blk.keep (Blk.keep (Blk.keep (Blk.keep (Blk.keep HBaP.out T1) T2) T3) T4) T5)).cell 1 rfl
  have caP_6_2 := ((Blk.keep (Blk.keep (Blk.keep (Blk.keep (Blk.keep HBaP.out T1) T2) T3) T4) T5)).cell 2 rfl
  go_wp2_with fail
  with_reducible refine (toPuzzle_any [.int .i64 aP.points, .string aP.names, .slice AaP2 aP.moves.length CaP2] aP _ _ (Rp.keep (Rp.keep (Rp.keep (Rp.keep (Rp.keep (Rp.keep raP T0) T1) T2) T3) T4) T5) smaP).mono ?_
  rintro e w7 ⟨u4, f4, rfl, r4, F4, t6⟩
  have T6 : Only [] w6 w7 := t6
  have S6 : w6.heap.size + 0 ≤ w7.heap.size := by have := T6.size; omega
  clear caP_6_0 caP_6_1 caP_6_2
  have q4 := r4
  obtain ⟨u42, rfl, -, -, z42⟩ := q4
  obtain ⟨A42, C42, _, _, rfl, -⟩ := z42.open_
  have L4 := Rp.lt r4
  have G4 : ∀ b ∈ f4, w6.heap.size ≤ b := fun b hb => by have := F4.ge b hb; omega
  go_wp2_with fail
  with_reducible refine (toInt64S_sm (.slice AaS aS.length CaS) aS _ _ (Rp.keep (Rp.keep (Rp.keep (Rp.keep (Rp.keep (Rp.keep (Rp.keep (Rp.keep raS T0) T1) T2) T3) T4) T5) T6) ((Only.refl [] _).alloc (.cells #[.int .i64 aP.points, .string aP.names, .slice A42 aP.moves.length C42] 37))) smaS).mono ?_
  rintro e w8 ⟨v5, f5, rfl, r5, F5, t7⟩
  have T7 : Only [] w7 w8 := ((Only.refl [] _).alloc (.cells #[.int .i64 aP.points, .string aP.names, .slice A42 aP.moves.length C42] 37)).trans t7
  have S7 : w7.heap.size + 1 ≤ w8.heap.size := by have := t7.size; simp at this; omega
  have B4 : Blk w8 w7.heap.size [.int .i64 aP.points, .string aP.names, .slice A42 aP.moves.length C42] := (Blk.keep (Blk.new_at (by simp)) t7)
  have LB4 : w7.heap.size < w8.heap.size := B4.lt
  have HB4 := Lib.hid B4; clear B4
  have L5 := Rp.lt r5
  have G5 : ∀ b ∈ f5, w7.heap.size + 1 ≤ b := fun b hb => by have := F5.ge b hb; simp at this; omega
  have caC_8_0 := ((Blk.keep (Blk.keep (Blk.keep (Blk.keep (Blk.keep (Blk.keep (Blk.keep HBaC.out T1) T2) T3) T4) T5) T6) T7)).cell 0 rfl
  have caC_8_1 := ((Blk.keep (Blk.keep (Blk.keep (Blk.keep (Blk.keep (Blk.keep (Blk.keep HBaC.out T1) T2) T3) T4) T5) T6) T7)).cell 1 rfl
  have caC_8_2 := ((Blk.keep (Blk.keep (Blk.keep (Blk.keep (Blk.keep (Blk.keep (Blk.keep HBaC.out T1) T2) T3) T4) T5) T6) T7)).cell 2 rfl
  have caC_8_3 := ((Blk.keep (Blk.keep (Blk.keep (Blk.keep (Blk.keep (Blk.keep (Blk.keep HBaC.out T1) T2) T3) T4) T5) T6) T7)).cell 3 rfl
  go_wp2_with fail
  with_reducible refine (toCertificate_any [.int .i64 aC.kind, .slice AaC1 aC.numbers.length CaC1, .slice AaC2 aC.words.length CaC2, .slice AaC3 aC.tables.length CaC3] aC _ _ (Rp.keep (Rp.keep (Rp.keep (Rp.keep (Rp.keep (Rp.keep (Rp.keep (Rp.keep raC T0) T1) T2) T3) T4) T5) T6) T7) smaC).mono ?_
  rintro e w9 ⟨u6, f6, rfl, r6, F6, t8⟩
  have T8 : Only [] w8 w9 := t8
  have S8 : w8.heap.size + 0 ≤ w9.heap.size := by have := T8.size; omega
  clear caC_8_0 caC_8_1 caC_8_2 caC_8_3
  have q6 := r6
  obtain ⟨u61, u62, u63, _, _, _, rfl, -, -, z61, z62, z63⟩ := q6
  obtain ⟨A61, C61, _, _, rfl, -⟩ := z61.open_
  obtain ⟨A62, C62, _, _, rfl, -⟩ := z62.open_
  obtain ⟨A63, C63, _, _, rfl, -⟩ := z63.open_
  have L6 := Rp.lt r6
  have G6 : ∀ b ∈ f6, w8.heap.size ≤ b := fun b hb => by have := F6.ge b hb; omega
  have c4_9_0 := ((Only.refl [] _).alloc (.cells #[.int .i64 aC.kind, .slice A61 aC.numbers.length C61, .slice A62 aC.words.length C62, .slice A63 aC.tables.length C63] 51)).cell (by simp) (((Blk.keep HB4.out T8)).cell 0 rfl)
  have c4_9_1 := ((Only.refl [] _).alloc (.cells #[.int .i64 aC.kind, .slice A61 aC.numbers.length C61, .slice A62 aC.words.length C62, .slice A63 aC.tables.length C63] 51)).cell (by simp) (((Blk.keep HB4.out T8)).cell 1 rfl)
  have c4_9_2 := ((Only.refl [] _).alloc (.cells #[.int .i64 aC.kind, .slice A61 aC.numbers.length C61, .slice A62 aC.words.length C62, .slice A63 aC.tables.length C63] 51)).cell (by simp) (((Blk.keep HB4.out T8)).cell 2 rfl)
  go_wp2_with fail
  with_reducible refine (implAccepted_any [.int .i64 aP.points, .string aP.names, .slice A42 aP.moves.length C42] [.int .i64 aC.kind, .slice A61 aC.numbers.length C61, .slice A62 aC.words.length C62, .slice A63 aC.tables.length C63] aP aC _ _ v5 aS _ _ (Rp.keep (Rp.keep (Rp.keep r4 T7) T8) ((Only.refl [] _).alloc (.cells #[.int .i64 aC.kind, .slice A61 aC.numbers.length C61, .slice A62 aC.words.length C62, .slice A63 aC.tables.length C63] 51))) (Rp.keep (Rp.keep r5 T8) ((Only.refl [] _).alloc (.cells #[.int .i64 aC.kind, .slice A61 aC.numbers.length C61, .slice A62 aC.words.length C62, .slice A63 aC.tables.length C63] 51))) (Rp.keep r6 ((Only.refl [] _).alloc (.cells #[.int .i64 aC.kind, .slice A61 aC.numbers.length C61, .slice A62 aC.words.length C62, .slice A63 aC.tables.length C63] 51))) (sm_tabs smaC)).mono ?_
  rintro e w10 ⟨rfl, t9⟩
  have T9 : Only [] w9 w10 := ((Only.refl [] _).alloc (.cells #[.int .i64 aC.kind, .slice A61 aC.numbers.length C61, .slice A62 aC.words.length C62, .slice A63 aC.tables.length C63] 51)).trans t9
  have S9 : w9.heap.size + 1 ≤ w10.heap.size := by have := t9.size; simp at this; omega
  have B6 : Blk w10 w9.heap.size [.int .i64 aC.kind, .slice A61 aC.numbers.length C61, .slice A62 aC.words.length C62, .slice A63 aC.tables.length C63] := (Blk.keep (Blk.new_at (by simp)) t9)
  have LB6 : w9.heap.size < w10.heap.size := B6.lt
  have HB6 := Lib.hid B6; clear B6
  clear c4_9_0 c4_9_1 c4_9_2
  go_upto_region 17 with fail
  have e11 : eqV aP aP = true := eqV_yes rfl
  go_region_held3 (fun w' => Only [] w10 w' ∧ w'.cell? ⟨w7.heap.size, 0, none⟩ = some (.int .i64 aP.points) ∧ w'.cell? ⟨w7.heap.size, 1, none⟩ = some (.string aP.names) ∧ w'.cell? ⟨w7.heap.size, 2, none⟩ = some (.slice A42 aP.moves.length C42) ∧ w'.cell? ⟨w.heap.size, 0, none⟩ = some (.int .i64 aP.points) ∧ w'.cell? ⟨w.heap.size, 1, none⟩ = some (.string aP.names) ∧ w'.cell? ⟨w.heap.size, 2, none⟩ = some (.slice AaP2 aP.moves.length CaP2)) ((refine and_of ?_ (fun h__ => ⟨(Blk.keep (Blk.keep (Blk.keep HB4.out T8) T9) h__).cell 0 rfl, (Blk.keep (Blk.keep (Blk.keep HB4.out T8) T9) h__).cell 1 rfl, (Blk.keep (Blk.keep (Blk.keep HB4.out T8) T9) h__).cell 2 rfl, (Blk.keep (Blk.keep (Blk.keep (Blk.keep (Blk.keep (Blk.keep (Blk.keep (Blk.keep (Blk.keep (Blk.keep HBaP.out T1) T2) T3) T4) T5) T6) T7) T8) T9) h__).cell 0 rfl, (Blk.keep (Blk.keep (Blk.keep (Blk.keep (Blk.keep (Blk.keep (Blk.keep (Blk.keep (Blk.keep (Blk.keep HBaP.out T1) T2) T3) T4) T5) T6) T7) T8) T9) h__).cell 1 rfl, (Blk.keep (Blk.keep (Blk.keep (Blk.keep (Blk.keep (Blk.keep (Blk.keep (Blk.keep (Blk.keep (Blk.keep HBaP.out T1) T2) T3) T4) T5) T6) T7) T8) T9) h__).cell 2 rfl⟩); first | exact (Only.refl _ _).drew | exact Only.trans (And.left (by assumption)) (by assumption))) (first
    | (go_at_call 15; (with_reducible refine (toPuzzle_any [.int .i64 aP.points, .string aP.names, .slice AaP2 aP.moves.length CaP2] aP _ _ (Rp.keep (Rp.keep (Rp.keep (Rp.keep (Rp.keep (Rp.keep (Rp.keep (Rp.keep (Rp.keep (Rp.keep (Rp.keep raP T0) T1) T2) T3) T4) T5) T6) T7) T8) T9) (And.left (by assumption))) smaP).mono ?_); rintro e w11 ⟨u7, f7, rfl, r7, F7, t10⟩)
    | (go_at_call 19; (with_reducible refine (eqPuzzle_any [.int .i64 aP.points, .string aP.names, .slice A42 aP.moves.length C42] u7 aP aP _ _ _ (Rp.keep (Rp.keep (Rp.keep (Rp.keep r4 T7) T8) T9) (And.left (by assumption))) (Rp.keep r7 (by first | exact Only.refl _ _ | assumption | exact Only.trans (by assumption) (by assumption)))).mono ?_); rintro e w12 ⟨rfl, t11⟩)
    | fail "no arm")
  have T10 : Only [] w10 w11 := ((Only.refl _ _).drew).trans t10
  have S10 : w10.heap.size + 0 ≤ w11.heap.size := by have := T10.size; omega
  have L7 := Rp.lt r7
  have G7 : ∀ b ∈ f7, w10.heap.size ≤ b := fun b hb => by have := F7.ge b hb; first | omega | (simp at this; omega)
  have T11 : Only [] w11 w12 := t11
  have S11 : w11.heap.size + 0 ≤ w12.heap.size := by have := T11.size; omega
  go_wp2_with fail
  with_reducible refine (toInt64S_sm (.slice AaS aS.length CaS) aS _ _ (Rp.keep (Rp.keep (Rp.keep (Rp.keep (Rp.keep (Rp.keep (Rp.keep (Rp.keep (Rp.keep (Rp.keep (Rp.keep (Rp.keep raS T0) T1) T2) T3) T4) T5) T6) T7) T8) T9) T10) T11) smaS).mono ?_
  rintro e w13 ⟨v8, f8, rfl, r8, F8, t12⟩
  have T12 : Only [] w12 w13 := t12
  have S12 : w12.heap.size + 0 ≤ w13.heap.size := by have := T12.size; omega
  have L8 := Rp.lt r8
  have G8 : ∀ b ∈ f8, w12.heap.size ≤ b := fun b hb => by have := F8.ge b hb; omega
  have e13 : eqV aS aS = true := eqV_yes rfl
  go_wp2_with fail
  with_reducible refine (eqInt64S_rd v5 v8 aS aS _ _ _ (Rp.keep (Rp.keep (Rp.keep (Rp.keep (Rp.keep r5 T8) T9) T10) T11) T12) r8).mono ?_
  rintro e w14 ⟨rfl, d13⟩
  have t13 := d13.only []
  have T13 : Only [] w13 w14 := t13
  have S13 : w13.heap.size + 0 ≤ w14.heap.size := by have := T13.size; omega
  go_upto_region 21 with fail
  have e15 : eqV aC aC = true := eqV_yes rfl
  go_region_held3 (fun w' => Only [] w14 w' ∧ w'.cell? ⟨w9.heap.size, 0, none⟩ = some (.int .i64 aC.kind) ∧ w'.cell? ⟨w9.heap.size, 1, none⟩ = some (.slice A61 aC.numbers.length C61) ∧ w'.cell? ⟨w9.heap.size, 2, none⟩ = some (.slice A62 aC.words.length C62) ∧ w'.cell? ⟨w9.heap.size, 3, none⟩ = some (.slice A63 aC.tables.length C63) ∧ w'.cell? ⟨(w.heap.size + 1), 0, none⟩ = some (.int .i64 aC.kind) ∧ w'.cell? ⟨(w.heap.size + 1), 1, none⟩ = some (.slice AaC1 aC.numbers.length CaC1) ∧ w'.cell? ⟨(w.heap.size + 1), 2, none⟩ = some (.slice AaC2 aC.words.length CaC2) ∧ w'.cell? ⟨(w.heap.size + 1), 3, none⟩ = some (.slice AaC3 aC.tables.length CaC3)) ((refine and_of ?_ (fun h__ => ⟨(Blk.keep (Blk.keep (Blk.keep (Blk.keep (Blk.keep HB6.out T10) T11) T12) T13) h__).cell 0 rfl, (Blk.keep (Blk.keep (Blk.keep (Blk.keep (Blk.keep HB6.out T10) T11) T12) T13) h__).cell 1 rfl, (Blk.keep (Blk.keep (Blk.keep (Blk.keep (Blk.keep HB6.out T10) T11) T12) T13) h__).cell 2 rfl, (Blk.keep (Blk.keep (Blk.keep (Blk.keep (Blk.keep HB6.out T10) T11) T12) T13) h__).cell 3 rfl, (Blk.keep (Blk.keep (Blk.keep (Blk.keep (Blk.keep (Blk.keep (Blk.keep (Blk.keep (Blk.keep (Blk.keep (Blk.keep (Blk.keep (Blk.keep (Blk.keep HBaC.out T1) T2) T3) T4) T5) T6) T7) T8) T9) T10) T11) T12) T13) h__).cell 0 rfl, (Blk.keep (Blk.keep (Blk.keep (Blk.keep (Blk.keep (Blk.keep (Blk.keep (Blk.keep (Blk.keep (Blk.keep (Blk.keep (Blk.keep (Blk.keep (Blk.keep HBaC.out T1) T2) T3) T4) T5) T6) T7) T8) T9) T10) T11) T12) T13) h__).cell 1 rfl, (Blk.keep (Blk.keep (Blk.keep (Blk.keep (Blk.keep (Blk.keep (Blk.keep (Blk.keep (Blk.keep (Blk.keep (Blk.keep (Blk.keep (Blk.keep (Blk.keep HBaC.out T1) T2) T3) T4) T5) T6) T7) T8) T9) T10) T11) T12) T13) h__).cell 2 rfl, (Blk.keep (Blk.keep (Blk.keep (Blk.keep (Blk.keep (Blk.keep (Blk.keep (Blk.keep (Blk.keep (Blk.keep (Blk.keep (Blk.keep (Blk.keep (Blk.keep HBaC.out T1) T2) T3) T4) T5) T6) T7) T8) T9) T10) T11) T12) T13) h__).cell 3 rfl⟩); first | exact (Only.refl _ _).drew | exact Only.trans (And.left (by assumption)) (by assumption))) (first
    | (go_at_call 45; (with_reducible refine (toCertificate_any [.int .i64 aC.kind, .slice AaC1 aC.numbers.length CaC1, .slice AaC2 aC.words.length CaC2, .slice AaC3 aC.tables.length CaC3] aC _ _ (Rp.keep (Rp.keep (Rp.keep (Rp.keep (Rp.keep (Rp.keep (Rp.keep (Rp.keep (Rp.keep (Rp.keep (Rp.keep (Rp.keep (Rp.keep (Rp.keep (Rp.keep raC T0) T1) T2) T3) T4) T5) T6) T7) T8) T9) T10) T11) T12) T13) (And.left (by assumption))) smaC).mono ?_); rintro e w15 ⟨u9, f9, rfl, r9, F9, t14⟩)
    | (go_at_call 32; (with_reducible refine (eqCertificate_any [.int .i64 aC.kind, .slice A61 aC.numbers.length C61, .slice A62 aC.words.length C62, .slice A63 aC.tables.length C63] u9 aC aC _ _ _ (Rp.keep (Rp.keep (Rp.keep (Rp.keep (Rp.keep (Rp.keep r6 T9) T10) T11) T12) T13) (And.left (by assumption))) (Rp.keep r9 (by first | exact Only.refl _ _ | assumption | exact Only.trans (by assumption) (by assumption)))).mono ?_); rintro e w16 ⟨rfl, t15⟩)
    | fail "no arm")
  have T14 : Only [] w14 w15 := ((Only.refl _ _).drew).trans t14
  have S14 : w14.heap.size + 0 ≤ w15.heap.size := by have := T14.size; omega
  have L9 := Rp.lt r9
  have G9 : ∀ b ∈ f9, w14.heap.size ≤ b := fun b hb => by have := F9.ge b hb; first | omega | (simp at this; omega)
  have T15 : Only [] w15 w16 := t15
  have S15 : w15.heap.size + 0 ≤ w16.heap.size := by have := T15.size; omega
  go_wp2
  go_ret
  refine ⟨rfl, ?_⟩
  exact (Only.keepThen (Only.keepThen (Only.keepThen (Only.keepThen (Only.keepThen (Only.keepThen (Only.keepThen (Only.keepThen (Only.keepThen (Only.keepThen (Only.keepThen (Only.keepThen (Only.keepThen (Only.keepThen (Only.keepThen T0 T1) T2) T3) T4) T5) T6) T7) T8) T9) T10) T11) T12) T13) T14) T15)
end Go.Proofs.YtlcoejncdbkhcaaGreat

namespace Go.Proofs.YtlcoejncdbkhcaaGreat
open Go.RowKit Go.ChangeShapes Go.WideShapes Go.ChangeAt Go.Deep
set_option maxRecDepth 10000

theorem spot_of_cell {w : World} {a : Addr} {v : Value} (h : w.cell? a = some v) : a.spot = none := by
  unfold World.cell? at h
  split at h
  · split at h
    · cases h
    · rename_i hs; simpa using hs
  · cases h
section
variable {H : Type} {enc : TypeId × Value → H} {P : Program} {W : World} {sp : Nat → Bool} {hd : Bool}
theorem conv_int {t : TypeId} (ht : P.underlying t = some (.int .i64)) (fuel : Nat) (cs : List Value) (x : DataW H × List MemPlace) (h : DataW.trod enc P W 0 sp hd fuel t cs = some x) :
    ∃ (d : Int) (fp : List Nat), Rp.rep W cs d fp := by
  obtain ⟨n, rfl, -, hw⟩ := DataW.trod_int ht h
  refine ⟨n, [], rfl, ?_, rfl⟩
  have : (-9223372036854775808 : Int) ≤ n ∧ n ≤ 9223372036854775807 := by simpa [Lit.wf, IntKind.min, IntKind.max, IntKind.signed, IntKind.bits] using hw
  exact this
theorem conv_slice {t e : TypeId} {α : Type} [Rp α] [Inhabited α] (ht : P.underlying t = some (.slice e)) (hs : P.cellsOf e = Rp.size α) (hp : 0 < Rp.size α)
    (hE : ∀ fuel cs x, DataW.trod enc P W 0 sp hd fuel e cs = some x → ∃ (d : α) (fp : List Nat), Rp.rep W cs d fp)
    (fuel : Nat) (cs : List Value) (x : DataW H × List MemPlace) (h : DataW.trod enc P W 0 sp hd fuel t cs = some x) :
    ∃ (l : List α) (fp : List Nat), Rp.rep W cs l fp := by
  rcases open_slice ht h with ⟨rfl, -⟩ | ⟨a, len, cap, m, n, D, Pl, rfl, -, hl, hm, hmm, -, hi⟩
  · exact ⟨[], [], none, 0, [], [], rfl, rfl, SeqA.nil W none (by simp [maxLen])⟩
  · have hml : len ≤ m := by rw [hmm]; split <;> omega
    have hch : ∀ i, ∃ p : α × List Nat, i < len → ∃ cs', W.cells? 0 (a.add (i * P.cellsOf e)) (P.cellsOf e) = some cs' ∧ Rp.rep W cs' p.1 p.2 := by
      intro i
      by_cases hlt : i < len
      · obtain ⟨cs', hc, ht'⟩ := hi i (by omega)
        obtain ⟨d, fp, hr⟩ := hE _ _ _ ht'
        exact ⟨(d, fp), fun _ => ⟨cs', hc, hr⟩⟩
      · exact ⟨(default, []), fun hh => absurd hh hlt⟩
    obtain ⟨f, hf⟩ := Classical.axiomOfChoice hch
    rcases Nat.eq_zero_or_pos len with h0 | h0
    · subst h0
      exact ⟨[], [], some a, cap, [], [], rfl, rfl, SeqA.nil W _ hm⟩
    · obtain ⟨cs0, hc0, -⟩ := hf 0 h0
      obtain ⟨-, -, hcell0⟩ := World.cells?_some hc0
      rw [hs] at hcell0 hc0
      have hz := hcell0 0 hp
      have hadd0 : (a.add (0 * Rp.size α)).add 0 = a := by simp [Addr.add]
      rw [hadd0] at hz
      obtain ⟨-, hlen0, -⟩ := World.cells?_some hc0
      rw [List.getElem?_eq_getElem (by omega)] at hz
      have hspot := spot_of_cell hz
      have hblk := World.block_lt_of_cell? W a hz
      obtain ⟨b, off, spot⟩ := a
      simp only at hspot
      subst hspot
      refine ⟨(List.range len).map fun i => (f i).1, _, some ⟨b, off, none⟩, cap, [b], (List.range len).map fun i => (f i).2, by simp, rfl, ⟨by simpa using hl, hm, by simp, fun k hk => ?_, by simpa using hblk, by simp⟩⟩
      have hk' : k < len := by simpa using hk
      obtain ⟨cs', hc', hr⟩ := hf k hk'
      obtain ⟨-, hlen', hcell⟩ := World.cells?_some hc'
      rw [hs] at hcell hlen'
      refine ⟨b, off, cs', rfl, rfl, fun j u hu => ?_, by simpa using hr⟩
      have hj : j < Rp.size α := by rw [← hlen']; exact (List.getElem?_eq_some_iff.1 hu).1
      have h3 := hcell j hj
      have hadd : ((⟨b, off, none⟩ : Addr).add (k * Rp.size α)).add j = ⟨b, off + k * Rp.size α + j, none⟩ := by
        unfold Addr.add
        split <;> split <;> simp_all
      rw [hadd] at h3
      rw [h3]; exact hu
end
section
variable {H : Type} {enc : TypeId × Value → H} {W : World} {sp : Nat → Bool} {hd : Bool}
theorem conv_ints (fuel : Nat) (cs : List Value) (x : DataW H × List MemPlace) (h : DataW.trod enc Tryz.prog W 0 sp hd fuel 25 cs = some x) :
    ∃ (l : List Int) (fp : List Nat), Rp.rep W cs l fp :=
  conv_slice Tryz.underlying25 (by kernel_rfl) (by decide) (conv_int Tryz.underlying2) fuel cs x h
end
section
variable {H : Type} {enc : TypeId × Value → H} {W : World} {sp : Nat → Bool} {hd : Bool}
theorem conv_rows (fuel : Nat) (cs : List Value) (x : DataW H × List MemPlace) (h : DataW.trod enc Tryz.prog W 0 sp hd fuel 22 cs = some x) :
    ∃ (l : List (List Int)) (fp : List Nat), Rp.rep W cs l fp :=
  conv_slice Tryz.underlying22 (by kernel_rfl) (by decide) conv_ints fuel cs x h
end
end Go.Proofs.YtlcoejncdbkhcaaGreat

namespace Go.Proofs.YtlcoejncdbkhcaaGreat
open Go.RowKit Go.ChangeShapes Go.WideShapes Go.ChangeAt Go.Deep
set_option maxRecDepth 10000

instance : Inhabited Puzzle := ⟨⟨0, ByteArray.empty, []⟩⟩
section
variable {H : Type} {enc : TypeId × Value → H} {W : World} {sp : Nat → Bool} {hd : Bool}
theorem conv_Puzzle (fuel : Nat) (cs : List Value) (x : DataW H × List MemPlace) (h : DataW.trod enc Tryz.prog W 0 sp hd fuel 24 cs = some x) :
    ∃ (d : Puzzle) (fp : List Nat), Rp.rep W cs d fp := by
  obtain ⟨xs, n, -, rfl, hl, hlen, hg⟩ := DataW.trod_struct Tryz.underlying24 h
  have hl' : cs.length = 3 := hl.trans (by kernel_rfl)
  have hx : xs.length = 3 := hlen
  match cs, hl' with
  | [a0, a1, a2], _ =>
    have g0 := (hg 0 _ rfl).trans (List.getElem?_eq_getElem (by omega : 0 < xs.length))
    have z0 : Tryz.prog.cellsOf 2 = 1 := by kernel_rfl
    obtain ⟨n0, q0, -, w0⟩ := DataW.trod_int Tryz.underlying2 g0
    have q0' : [a0] = [Value.int .i64 n0] := by have q : List.take (Tryz.prog.cellsOf 2) (List.drop 0 [a0, a1, a2]) = _ := q0; rw [z0] at q; exact q
    have b0 : I64 n0 := id (α := (-9223372036854775808 : Int) ≤ n0 ∧ n0 ≤ 9223372036854775807) (by simpa [Lit.wf, IntKind.min, IntKind.max, IntKind.signed, IntKind.bits] using w0)
    injection q0' with q0'; subst q0'
    have g1 := (hg 1 _ rfl).trans (List.getElem?_eq_getElem (by omega : 1 < xs.length))
    have z1 : Tryz.prog.cellsOf 9 = 1 := by kernel_rfl
    obtain ⟨n1, q1, -, w1⟩ := DataW.trod_string Tryz.underlying9 g1
    have q1' : [a1] = [Value.string n1] := by have q : List.take (Tryz.prog.cellsOf 9) (List.drop 1 [Value.int .i64 n0, a1, a2]) = _ := q1; rw [z1] at q; exact q
    injection q1' with q1'; subst q1'
    have g2 := (hg 2 _ rfl).trans (List.getElem?_eq_getElem (by omega : 2 < xs.length))
    have z2 : Tryz.prog.cellsOf 22 = 1 := by kernel_rfl
    obtain ⟨d2, f2, r2⟩ := conv_rows _ _ _ g2
    have r2' : Rp.rep W [a2] d2 f2 := by have q : Rp.rep W (List.take (Tryz.prog.cellsOf 22) (List.drop 2 [Value.int .i64 n0, Value.string n1, a2])) _ _ := r2; rw [z2] at q; exact q
    exact ⟨⟨n0, n1, d2⟩, _, a2, rfl, b0, w1, r2'⟩
end
instance : Inhabited Table := ⟨⟨[], [], []⟩⟩
section
variable {H : Type} {enc : TypeId × Value → H} {W : World} {sp : Nat → Bool} {hd : Bool}
theorem conv_Table (fuel : Nat) (cs : List Value) (x : DataW H × List MemPlace) (h : DataW.trod enc Tryz.prog W 0 sp hd fuel 27 cs = some x) :
    ∃ (d : Table) (fp : List Nat), Rp.rep W cs d fp := by
  obtain ⟨xs, n, -, rfl, hl, hlen, hg⟩ := DataW.trod_struct Tryz.underlying27 h
  have hl' : cs.length = 3 := hl.trans (by kernel_rfl)
  have hx : xs.length = 3 := hlen
  match cs, hl' with
  | [a0, a1, a2], _ =>
    have g0 := (hg 0 _ rfl).trans (List.getElem?_eq_getElem (by omega : 0 < xs.length))
    have z0 : Tryz.prog.cellsOf 25 = 1 := by kernel_rfl
    obtain ⟨d0, f0, r0⟩ := conv_ints _ _ _ g0
    have r0' : Rp.rep W [a0] d0 f0 := by have q : Rp.rep W (List.take (Tryz.prog.cellsOf 25) (List.drop 0 [a0, a1, a2])) _ _ := r0; rw [z0] at q; exact q
    have g1 := (hg 1 _ rfl).trans (List.getElem?_eq_getElem (by omega : 1 < xs.length))
    have z1 : Tryz.prog.cellsOf 22 = 1 := by kernel_rfl
    obtain ⟨d1, f1, r1⟩ := conv_rows _ _ _ g1
    have r1' : Rp.rep W [a1] d1 f1 := by have q : Rp.rep W (List.take (Tryz.prog.cellsOf 22) (List.drop 1 [a0, a1, a2])) _ _ := r1; rw [z1] at q; exact q
    have g2 := (hg 2 _ rfl).trans (List.getElem?_eq_getElem (by omega : 2 < xs.length))
    have z2 : Tryz.prog.cellsOf 25 = 1 := by kernel_rfl
    obtain ⟨d2, f2, r2⟩ := conv_ints _ _ _ g2
    have r2' : Rp.rep W [a2] d2 f2 := by have q : Rp.rep W (List.take (Tryz.prog.cellsOf 25) (List.drop 2 [a0, a1, a2])) _ _ := r2; rw [z2] at q; exact q
    exact ⟨⟨d0, d1, d2⟩, _, a0, a1, a2, f0, f1, f2, rfl, rfl, r0', r1', r2'⟩
end
section
variable {H : Type} {enc : TypeId × Value → H} {W : World} {sp : Nat → Bool} {hd : Bool}
theorem conv_TableS (fuel : Nat) (cs : List Value) (x : DataW H × List MemPlace) (h : DataW.trod enc Tryz.prog W 0 sp hd fuel 65 cs = some x) :
    ∃ (l : List Table) (fp : List Nat), Rp.rep W cs l fp :=
  conv_slice Tryz.underlying65 (by kernel_rfl) (by decide) conv_Table fuel cs x h
end
instance : Inhabited Certificate := ⟨⟨0, [], [], []⟩⟩
section
variable {H : Type} {enc : TypeId × Value → H} {W : World} {sp : Nat → Bool} {hd : Bool}
theorem conv_Certificate (fuel : Nat) (cs : List Value) (x : DataW H × List MemPlace) (h : DataW.trod enc Tryz.prog W 0 sp hd fuel 67 cs = some x) :
    ∃ (d : Certificate) (fp : List Nat), Rp.rep W cs d fp := by
  obtain ⟨xs, n, -, rfl, hl, hlen, hg⟩ := DataW.trod_struct Tryz.underlying67 h
  have hl' : cs.length = 4 := hl.trans (by kernel_rfl)
  have hx : xs.length = 4 := hlen
  match cs, hl' with
  | [a0, a1, a2, a3], _ =>
    have g0 := (hg 0 _ rfl).trans (List.getElem?_eq_getElem (by omega : 0 < xs.length))
    have z0 : Tryz.prog.cellsOf 2 = 1 := by kernel_rfl
    obtain ⟨n0, q0, -, w0⟩ := DataW.trod_int Tryz.underlying2 g0
    have q0' : [a0] = [Value.int .i64 n0] := by have q : List.take (Tryz.prog.cellsOf 2) (List.drop 0 [a0, a1, a2, a3]) = _ := q0; rw [z0] at q; exact q
    have b0 : I64 n0 := id (α := (-9223372036854775808 : Int) ≤ n0 ∧ n0 ≤ 9223372036854775807) (by simpa [Lit.wf, IntKind.min, IntKind.max, IntKind.signed, IntKind.bits] using w0)
    injection q0' with q0'; subst q0'
    have g1 := (hg 1 _ rfl).trans (List.getElem?_eq_getElem (by omega : 1 < xs.length))
    have z1 : Tryz.prog.cellsOf 25 = 1 := by kernel_rfl
    obtain ⟨d1, f1, r1⟩ := conv_ints _ _ _ g1
    have r1' : Rp.rep W [a1] d1 f1 := by have q : Rp.rep W (List.take (Tryz.prog.cellsOf 25) (List.drop 1 [Value.int .i64 n0, a1, a2, a3])) _ _ := r1; rw [z1] at q; exact q
    have g2 := (hg 2 _ rfl).trans (List.getElem?_eq_getElem (by omega : 2 < xs.length))
    have z2 : Tryz.prog.cellsOf 22 = 1 := by kernel_rfl
    obtain ⟨d2, f2, r2⟩ := conv_rows _ _ _ g2
    have r2' : Rp.rep W [a2] d2 f2 := by have q : Rp.rep W (List.take (Tryz.prog.cellsOf 22) (List.drop 2 [Value.int .i64 n0, a1, a2, a3])) _ _ := r2; rw [z2] at q; exact q
    have g3 := (hg 3 _ rfl).trans (List.getElem?_eq_getElem (by omega : 3 < xs.length))
    have z3 : Tryz.prog.cellsOf 65 = 1 := by kernel_rfl
    obtain ⟨d3, f3, r3⟩ := conv_TableS _ _ _ g3
    have r3' : Rp.rep W [a3] d3 f3 := by have q : Rp.rep W (List.take (Tryz.prog.cellsOf 65) (List.drop 3 [Value.int .i64 n0, a1, a2, a3])) _ _ := r3; rw [z3] at q; exact q
    exact ⟨⟨n0, d1, d2, d3⟩, _, a1, a2, a3, f1, f2, f3, rfl, rfl, b0, r1', r2', r3'⟩
end
end Go.Proofs.YtlcoejncdbkhcaaGreat

namespace Go.Proofs.YtlcoejncdbkhcaaGreat
open Go.RowKit Go.ChangeShapes Go.WideShapes Go.ChangeAt
set_option maxRecDepth 10000
open Go.ChangeMaps (open_string shut_string)

namespace fnExactIsAcceptedCertificate
theorem own : ownKnob Tryz.prog.godebug = none := by kernel_rfl
theorem laidOut : laidOutB Tryz.prog = true := by kernel_rfl
set_option maxRecDepth 100000 in
theorem lifted (os : Os) (started : os.Started) (H : Type) (enc : TypeId × Value → H) :
    ReturnsInHanded {} Tryz.checked os 9 .any (Rows.fnExactIsAcceptedCertificateSpec.pre6 enc Tryz.prog Tryz.f9 Rows.fnExactIsAcceptedCertificateRow.domain false) (Rows.fnExactIsAcceptedCertificateSpec.post enc Tryz.prog Tryz.f9 false true false false) := by
  refine returnsInHanded_of_change (C := Tryz.checked) own started (by kernel_rfl) Tryz.func9
    (ChangeSpec.witness6 (enc := enc) (C := Tryz.checked) false ⟨#[], #[.agg #[.int .i64 0, .string ByteArray.empty, .slice none 0 0], .slice none 0 0, .agg #[.int .i64 0, .slice none 0 0, .slice none 0 0, .slice none 0 0]], []⟩ 8 (by kernel_rfl) (by kernel_rfl) (by kernel_rfl) (by kernel_rfl)) ?_
  intro W base args ds gs before hval0 hW hcnd _
  have hval : ∀ (j : Nat) t v, Tryz.f9.params[j]? = some t → args[j]? = some v → Value.okWide Tryz.prog W .any base t v := hval0
  have hW' := hW
  obtain ⟨p, q, hA0, hV, rfl, hfz, hnd⟩ := hW
  have hA : DataW.TrodAll enc Tryz.prog W 0 (fun _ => true) true Tryz.f9.params.toList args.toList ds p := hA0
  rw [Tryz.params9] at hA hval
  obtain ⟨v0, vs0, d0, ds0, p0, q0, hargs, rfl, rfl, h0, r0⟩ := trodAll_cons hA
  obtain ⟨v1, vs1, d1, ds1, p1, q1, rfl, rfl, rfl, h1, r1⟩ := trodAll_cons r0
  obtain ⟨v2, vs2, d2, ds2, p2, q2, rfl, rfl, rfl, h2, r2⟩ := trodAll_cons r1
  obtain ⟨rfl, rfl, rfl⟩ := trodAll_nil r2
  obtain rfl : args = #[v0, v1, v2] := by cases args; simp_all
  obtain ⟨rfl, rfl⟩ := trodVars_none hV
  obtain ⟨⟨c0⟩, rfl, -⟩ := okWide_struct Tryz.underlying24 (hval 0 24 v0 rfl rfl)
  have k0 := h0
  have lt0 : ∀ x ∈ p0, x.block < W.heap.size := by obtain ⟨m, hm⟩ := k0; exact DataW.trod_lt m _ _ _ hm
  obtain ⟨l0, fp0, rp0⟩ : ∃ l fp, Rp.rep (α := Puzzle) W c0 l fp := by obtain ⟨fuel, hf⟩ := h0; exact conv_Puzzle fuel _ _ hf
  obtain ⟨a1, len1, cap1, rfl⟩ := okWide_slice Tryz.underlying25 (hval 1 25 v1 rfl rfl)
  have k1 := h1
  have lt1 : ∀ x ∈ p1, x.block < W.heap.size := by obtain ⟨m, hm⟩ := k1; exact DataW.trod_lt m _ _ _ hm
  obtain ⟨l1, fp1, rp1⟩ : ∃ l fp, Rd (α := List Int) W (.slice a1 len1 cap1) l fp := by obtain ⟨fuel, hf⟩ := h1; exact conv_ints fuel _ _ hf
  obtain ⟨⟨c2⟩, rfl, -⟩ := okWide_struct Tryz.underlying67 (hval 2 67 v2 rfl rfl)
  have k2 := h2
  have lt2 : ∀ x ∈ p2, x.block < W.heap.size := by obtain ⟨m, hm⟩ := k2; exact DataW.trod_lt m _ _ _ hm
  obtain ⟨l2, fp2, rp2⟩ : ∃ l fp, Rp.rep (α := Certificate) W c2 l fp := by obtain ⟨fuel, hf⟩ := h2; exact conv_Certificate fuel _ _ hf
  clear hA0 hval0
  refine (FnExactIsAcceptedCertificate_any W c0 l0 fp0 rp0 (.slice a1 len1 cap1) l1 fp1 rp1 c2 l2 fp2 rp2).mono fun e W' ⟨he, hk⟩ => ?_
  subst he
  have bel : Below W.heap.size W W' := hk.below (Nat.le_refl _) (by simp)
  exact ⟨_, rfl, _, _, _, [], _, [], hW', trodAll_mk1 (shut_bool Tryz.underlying4 _), (trodAll_cons_mk (Below.trod laidOut (by kernel_rfl) (of_decide_eq_true (by kernel_rfl)) k0 bel lt0) (trodAll_cons_mk (Below.trod laidOut (by kernel_rfl) (of_decide_eq_true (by kernel_rfl)) k1 bel lt1) (trodAll_cons_mk (Below.trod laidOut (by kernel_rfl) (of_decide_eq_true (by kernel_rfl)) k2 bel lt2) trodAll_mk0))), rfl, bel.frame _, fun h => by cases h⟩

theorem over : Rows.fnExactIsAcceptedCertificateRow.holds Tryz.pinned (OpenSpec.ofChange Rows.fnExactIsAcceptedCertificateSpec) :=
  OpenClaim.holds_of_wide 9 Tryz.f9 rfl rfl rfl rfl rfl rfl rfl ⟨rfl, rfl, rfl, rfl, rfl⟩ rfl rfl rfl rfl rfl (by kernel_rfl) Tryz.func9 (by kernel_rfl)
    (of_decide_eq_true (by kernel_rfl)) (by unfold Func.isWrapper; first | (rw [if_pos (by decide +kernel)]; kernel_rfl) | (rw [if_neg (by decide +kernel)]; exact ⟨rfl, rfl⟩))
    (fun os started H enc _ => lifted os started H enc)

theorem proved : Rows.FnExactIsAcceptedCertificateSaid := over
end fnExactIsAcceptedCertificate
end Go.Proofs.YtlcoejncdbkhcaaGreat
