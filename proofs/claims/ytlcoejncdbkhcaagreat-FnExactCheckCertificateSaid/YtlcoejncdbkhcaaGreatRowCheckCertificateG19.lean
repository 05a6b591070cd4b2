/- The program's CheckCertificate (laws 42, 43). (Printed by mkchk.py.) -/
import Derived.Test.YtlcoejncdbkhcaaGreatRowCheckCertificateG18
namespace Go.Proofs.YtlcoejncdbkhcaaGreat
open Go.RowKit
set_option maxRecDepth 10000

set_option maxHeartbeats 8000000 in
theorem implAcc_any (cs ds : List Value) (x : Puzzle) (c : Certificate) (fp fc : List Nat) (u : Value) (s : List Int) (fs0 : List Nat) (w : World) (h : Rp.rep w cs x fp) (hu : Rd w u s fs0) (hc : Rp.rep w ds c fc) (hst : stateB x s = true) (hsm : ∀ t ∈ c.tables, t.tracked.length ≤ 2097152) :
    Calls Tryz.prog 48 #[.agg cs.toArray, u, .agg ds.toArray] w fun e w' => e = .returned (.tuple #[.agg #[.int .i64 ((accC x s c).getD noClaim).kind, .int .i64 ((accC x s c).getD noClaim).value], .bool (accC x s c).isSome]) ∧ Only [] w w' := by
  have h0 := h
  have hc0 := hc
  obtain ⟨v2, rfl, p0, p1, h2⟩ := h
  obtain ⟨A3, C3, _, _, rfl, -, -⟩ := h2.open_
  obtain ⟨v1, v2, v3, f1, f2, f3, rfl, rfl, p2, i1, i2, i3⟩ := hc
  simp only [List.cons_append, List.nil_append] at hc0 ⊢
  obtain ⟨B1, D1, rfl, I1⟩ := i1.ints
  obtain ⟨B2, D2, ob2, fp2, rfl, -, S2⟩ := i2.open_
  obtain ⟨B3, D3, _, _, rfl, -, -⟩ := i3.open_
  have hb2 := S2.bound
  have hb1 := I1.bound
  have X0 : Blk (((w.alloc (.cells #[.int .i64 x.points, .string x.names, .slice A3 x.moves.length C3] 37)).alloc (.cells #[.int .i64 c.kind, .slice B1 c.numbers.length D1, .slice B2 c.words.length D2, .slice B3 c.tables.length D3] 51)).alloc (.cells #[.int .i64 0, .int .i64 0] 73)) w.heap.size [.int .i64 x.points, .string x.names, .slice A3 x.moves.length C3] := ((Blk.new w [.int .i64 x.points, .string x.names, .slice A3 x.moves.length C3] 37).keep ((Only.refl _ _).alloc _)).keep ((Only.refl _ _).alloc _)
  have Y0 : Blk (((w.alloc (.cells #[.int .i64 x.points, .string x.names, .slice A3 x.moves.length C3] 37)).alloc (.cells #[.int .i64 c.kind, .slice B1 c.numbers.length D1, .slice B2 c.words.length D2, .slice B3 c.tables.length D3] 51)).alloc (.cells #[.int .i64 0, .int .i64 0] 73)) (w.heap.size + 1) [.int .i64 c.kind, .slice B1 c.numbers.length D1, .slice B2 c.words.length D2, .slice B3 c.tables.length D3] := (Blk.new_at (by simp)).keep ((Only.refl _ _).alloc _)
  have R0 : Blk (((w.alloc (.cells #[.int .i64 x.points, .string x.names, .slice A3 x.moves.length C3] 37)).alloc (.cells #[.int .i64 c.kind, .slice B1 c.numbers.length D1, .slice B2 c.words.length D2, .slice B3 c.tables.length D3] 51)).alloc (.cells #[.int .i64 0, .int .i64 0] 73)) (w.heap.size + 1 + 1) [.int .i64 0, .int .i64 0] := Blk.new_at (by simp)
  have c0 := X0.cell 0 rfl
  have c1 := X0.cell 1 rfl
  have c2 := X0.cell 2 rfl
  have d0 := Y0.cell 0 rfl
  have d1 := Y0.cell 1 rfl
  have d2 := Y0.cell 2 rfl
  have d3 := Y0.cell 3 rfl
  clear h2 p0 p1 p2
  by_cases k1 : c.kind = 1
  · have kb : (c.kind == 1) = true := by simp [k1]
    rcases hP : hasP c 0 1 false
    · have Ha := Lib.hid (by unfold accC; rw [if_pos k1, hP]; rfl : accC x s c = none)
      clear k1
      go_enter Tryz.func48, Tryz.ntmps48
      go_upto_region 5 with (first | (go_at_call 74; (with_reducible refine (implIsState_any [.int .i64 x.points, .string x.names, .slice A3 x.moves.length C3] x _ _ s _ _ (Rp.keep h0 (by with_reducible repeat (first | assumption | exact .refl _ _ | refine .drew ?_ | refine .alloc ?_ _ | refine .trans ?_ (by assumption)))) (Rp.keep hu (by with_reducible repeat (first | assumption | exact .refl _ _ | refine .drew ?_ | refine .alloc ?_ _ | refine .trans ?_ (by assumption))))).mono ?_); rintro e ws ⟨he, ts⟩; rw [hst] at he; subst he; have X1 := X0.keep ts; have Y1 := Y0.keep ts; have R1 := R0.keep ts; have KW : Only [] w ws := (by with_reducible repeat (first | assumption | exact .refl _ _ | refine .drew ?_ | refine .alloc ?_ _ | refine .trans ?_ (by assumption))); clear c0 c1 c2 d0 d1 d2 d3; have c0 := X1.cell 0 rfl; have c1 := X1.cell 1 rfl; have c2 := X1.cell 2 rfl; have d0 := Y1.cell 0 rfl; have d1 := Y1.cell 1 rfl; have d2 := Y1.cell 2 rfl; have d3 := Y1.cell 3 rfl) | fail "no arm")
      obtain ⟨W, hW⟩ : ∃ W, W = ws := ⟨_, rfl⟩
      rw [← hW] at X1 Y1 R1 KW c0 c1 c2 d0 d1 d2 d3 ⊢
      clear hW ts
      have XW := X1
      have YW := Y1
      have RW := R1
      have pW := Rp.keep h0 KW
      have cW := Rp.keep hc0 KW
      have uW := Rp.keep hu KW
      refine wp_region_held_drew (S := fun w' => Only [] W w' ∧ w'.cell? ⟨w.heap.size, 0, none⟩ = some (.int .i64 x.points) ∧ w'.cell? ⟨w.heap.size, 1, none⟩ = some (.string x.names) ∧ w'.cell? ⟨w.heap.size, 2, none⟩ = some (.slice A3 x.moves.length C3) ∧ w'.cell? ⟨w.heap.size + 1, 0, none⟩ = some (.int .i64 c.kind) ∧ w'.cell? ⟨w.heap.size + 1, 1, none⟩ = some (.slice B1 c.numbers.length D1) ∧ w'.cell? ⟨w.heap.size + 1, 2, none⟩ = some (.slice B2 c.words.length D2) ∧ w'.cell? ⟨w.heap.size + 1, 3, none⟩ = some (.slice B3 c.tables.length D3)) (by kernel_rfl) (and_of (Only.refl [] W).drew (fun h__ => ⟨h__.cell (by simp) c0, h__.cell (by simp) c1, h__.cell (by simp) c2, h__.cell (by simp) d0, h__.cell (by simp) d1, h__.cell (by simp) d2, h__.cell (by simp) d3⟩)) (fun hHeld => ?_)
      (refine wpAnyH_take (i := 0) (v := ?v1) rfl (by kernel_rfl) (by kernel_rfl) (by kernel_rfl) (fun _ _ _ h => h) (Or.inl ⟨by rfl, ?hy1⟩) (by assumption) ?rest1); (case hy1 => (intro w__ hSw; (try dsimp only at hSw); go_simp; try with_reducible rfl)); (try simp only [Act.put, List.getElem_toArray, List.getElem_cons_zero, List.setIfInBounds_toArray, List.set_cons_zero, List.set_cons_succ])
      refine wpAnyH_ready (rs := [1]) (by kernel_rfl) (by simp) ?_
      refine AllReadyH.cons rfl (fun K hK => ?_) AllReadyH.nil
      go_simp
      (go_at_call 95; (with_reducible refine (hasParts_any [.int .i64 c.kind, .slice B1 c.numbers.length D1, .slice B2 c.words.length D2, .slice B3 c.tables.length D3] c _ 0 1 false _ (Rp.keep cW (by with_reducible repeat (first | assumption | exact .refl _ _ | refine .drew ?_ | refine .alloc ?_ _ | refine .trans ?_ (by assumption))))).mono ?_); rintro e w1 ⟨he, t1⟩; rw [hP] at he; subst he)
      go_wp2_with fail
      refine hK.out _ _ ?hS2 (fun hHeld => ?rest2)
      case hS2 => ((refine and_of ?_ (fun h__ => ⟨h__.cell (by simp) c0, h__.cell (by simp) c1, h__.cell (by simp) c2, h__.cell (by simp) d0, h__.cell (by simp) d1, h__.cell (by simp) d2, h__.cell (by simp) d3⟩)); first | exact Only.trans (And.left (by assumption)) (by assumption) | exact And.left (by assumption) | assumption)
      clear hK K
      (try simp only [Act.put, List.getElem_toArray, List.getElem_cons_zero, List.getElem_cons_succ, List.setIfInBounds_toArray, List.set_cons_zero, List.set_cons_succ])
      (refine wpAnyH_take (i := 2) (v := ?v3) rfl (by kernel_rfl) (by kernel_rfl) (by kernel_rfl) (fun _ _ _ h => h) (Or.inl ⟨by rfl, ?hy3⟩) (by assumption) ?rest3); (case hy3 => (intro w__ hSw; (try dsimp only at hSw); go_simp; try with_reducible rfl)); (try simp only [Act.put, List.getElem_toArray, List.getElem_cons_zero, List.getElem_cons_succ, List.setIfInBounds_toArray, List.set_cons_zero, List.set_cons_succ])
      (refine wpAnyH_take (i := 3) (v := undef) rfl (by kernel_rfl) (by kernel_rfl) (by kernel_rfl) (fun _ _ _ h => h) (Or.inr ⟨by rfl, rfl⟩) (by assumption) ?_); (try simp only [Act.put, List.getElem_toArray, List.getElem_cons_zero, List.getElem_cons_succ, List.setIfInBounds_toArray, List.set_cons_zero, List.set_cons_succ])
      (refine wpAnyH_take (i := 4) (v := undef) rfl (by kernel_rfl) (by kernel_rfl) (by kernel_rfl) (fun _ _ _ h => h) (Or.inr ⟨by rfl, rfl⟩) (by assumption) ?_); (try simp only [Act.put, List.getElem_toArray, List.getElem_cons_zero, List.getElem_cons_succ, List.setIfInBounds_toArray, List.set_cons_zero, List.set_cons_succ])
      (refine wpAnyH_take (i := 5) (v := undef) rfl (by kernel_rfl) (by kernel_rfl) (by kernel_rfl) (fun _ _ _ h => h) (Or.inr ⟨by rfl, rfl⟩) (by assumption) ?_); (try simp only [Act.put, List.getElem_toArray, List.getElem_cons_zero, List.getElem_cons_succ, List.setIfInBounds_toArray, List.set_cons_zero, List.set_cons_succ])
      (refine wpAnyH_take (i := 6) (v := undef) rfl (by kernel_rfl) (by kernel_rfl) (by kernel_rfl) (fun _ _ _ h => h) (Or.inr ⟨by rfl, rfl⟩) (by assumption) ?_); (try simp only [Act.put, List.getElem_toArray, List.getElem_cons_zero, List.getElem_cons_succ, List.setIfInBounds_toArray, List.set_cons_zero, List.set_cons_succ])
      (refine wpAnyH_take (i := 7) (v := undef) rfl (by kernel_rfl) (by kernel_rfl) (by kernel_rfl) (fun _ _ _ h => h) (Or.inr ⟨by rfl, rfl⟩) (by assumption) ?_); (try simp only [Act.put, List.getElem_toArray, List.getElem_cons_zero, List.getElem_cons_succ, List.setIfInBounds_toArray, List.set_cons_zero, List.set_cons_succ])
      (refine wpAnyH_take (i := 8) (v := undef) rfl (by kernel_rfl) (by kernel_rfl) (by kernel_rfl) (fun _ _ _ h => h) (Or.inr ⟨by rfl, rfl⟩) (by assumption) ?_); (try simp only [Act.put, List.getElem_toArray, List.getElem_cons_zero, List.getElem_cons_succ, List.setIfInBounds_toArray, List.set_cons_zero, List.set_cons_succ])
      (refine wpAnyH_take (i := 9) (v := undef) rfl (by kernel_rfl) (by kernel_rfl) (by kernel_rfl) (fun _ _ _ h => h) (Or.inr ⟨by rfl, rfl⟩) (by assumption) ?_); (try simp only [Act.put, List.getElem_toArray, List.getElem_cons_zero, List.getElem_cons_succ, List.setIfInBounds_toArray, List.set_cons_zero, List.set_cons_succ])
      (refine wpAnyH_take (i := 10) (v := ?v4) rfl (by kernel_rfl) (by kernel_rfl) (by kernel_rfl) (fun _ _ _ h => h) (Or.inl ⟨by rfl, ?hy4⟩) (by assumption) ?rest4); (case hy4 => (intro w__ hSw; (try dsimp only at hSw); go_simp; try with_reducible rfl)); (try simp only [Act.put, List.getElem_toArray, List.getElem_cons_zero, List.getElem_cons_succ, List.setIfInBounds_toArray, List.set_cons_zero, List.set_cons_succ])
      refine wpAnyH_done (by kernel_rfl) ?_ _
      have KL : Only [] W w1 := (by with_reducible repeat (first | assumption | exact .refl _ _ | refine .drew ?_ | refine .alloc ?_ _ | refine .trans ?_ (by assumption)))
      have RL := RW.keep KL
      have XL := XW.keep KL
      have YL := YW.keep KL
      have g0 := RL.cell 0 rfl
      have p0 := RL.frozen 0
      have g1 := RL.cell 1 rfl
      have p1 := RL.frozen 1
      have m0 := YL.cell 0 rfl
      have m1 := YL.cell 1 rfl
      have m2 := YL.cell 2 rfl
      have m3 := YL.cell 3 rfl
      go_wp2
      have Rf := (RL.set 0 (.int .i64 0)).set 1 (.int .i64 0)
      simp only [List.set] at Rf
      have z0 := Rf.cell 0 rfl
      have z1 := Rf.cell 1 rfl
      have Kf : Only [] w ((w1.setCell ⟨w.heap.size + 1 + 1, 0, none⟩ (.int .i64 0)).setCell ⟨w.heap.size + 1 + 1, 1, none⟩ (.int .i64 0)) := ((KW.trans KL).setCell (by simp; omega) _).setCell (by simp; omega) _
      refine bodyPost_ret (v := .tuple #[.agg #[.int .i64 0, .int .i64 0], .bool false]) (by simp [results, Tryz.results48, go_sem, z0, z1]) rfl ⟨by rw [Ha.out]; rfl, Kf⟩
    · have hw0 : 0 < c.words.length := by have := (hasP_iff.1 hP).2.1; omega
      obtain ⟨bw, ow, uw, rfl, -, cw0, hw⟩ := S2.atRow 0 hw0
      have hwd : word0 c = c.words[0] := by unfold word0; rw [List.getD_eq_getElem?_getD, List.getElem?_eq_getElem hw0]; rfl
      rw [← hwd] at hw
      simp only [Nat.add_zero] at cw0
      have hwi : (0 : Int) < (c.words.length : Int) := by omega
      have hwl : (word0 c).length ≤ 9223372036854775807 := by obtain ⟨_, _, _, _, hq, -, hs⟩ := hw.open_; exact hs.bound
      obtain ⟨aw, lw, _, _, rfl, -, -⟩ := hw.open_
      rcases hS : solB x s (word0 c)
      · have Ha := Lib.hid (by unfold accC; rw [if_pos k1, hP, hS]; rfl : accC x s c = none)
        clear k1 hwd
        go_enter Tryz.func48, Tryz.ntmps48
        go_upto_region 5 with (first | (go_at_call 74; (with_reducible refine (implIsState_any [.int .i64 x.points, .string x.names, .slice A3 x.moves.length C3] x _ _ s _ _ (Rp.keep h0 (by with_reducible repeat (first | assumption | exact .refl _ _ | refine .drew ?_ | refine .alloc ?_ _ | refine .trans ?_ (by assumption)))) (Rp.keep hu (by with_reducible repeat (first | assumption | exact .refl _ _ | refine .drew ?_ | refine .alloc ?_ _ | refine .trans ?_ (by assumption))))).mono ?_); rintro e ws ⟨he, ts⟩; rw [hst] at he; subst he; have X1 := X0.keep ts; have Y1 := Y0.keep ts; have R1 := R0.keep ts; have KW : Only [] w ws := (by with_reducible repeat (first | assumption | exact .refl _ _ | refine .drew ?_ | refine .alloc ?_ _ | refine .trans ?_ (by assumption))); clear c0 c1 c2 d0 d1 d2 d3; have c0 := X1.cell 0 rfl; have c1 := X1.cell 1 rfl; have c2 := X1.cell 2 rfl; have d0 := Y1.cell 0 rfl; have d1 := Y1.cell 1 rfl; have d2 := Y1.cell 2 rfl; have d3 := Y1.cell 3 rfl) | fail "no arm")
        obtain ⟨W, hW⟩ : ∃ W, W = ws := ⟨_, rfl⟩
        rw [← hW] at X1 Y1 R1 KW c0 c1 c2 d0 d1 d2 d3 ⊢
        clear hW ts
        have XW := X1
        have YW := Y1
        have RW := R1
        have pW := Rp.keep h0 KW
        have cW := Rp.keep hc0 KW
        have uW := Rp.keep hu KW
        have cw := KW.cell (by simp) cw0
        have wW := Rp.keep hw KW
        refine wp_region_held_drew (S := fun w' => Only [] W w' ∧ w'.cell? ⟨w.heap.size, 0, none⟩ = some (.int .i64 x.points) ∧ w'.cell? ⟨w.heap.size, 1, none⟩ = some (.string x.names) ∧ w'.cell? ⟨w.heap.size, 2, none⟩ = some (.slice A3 x.moves.length C3) ∧ w'.cell? ⟨w.heap.size + 1, 0, none⟩ = some (.int .i64 c.kind) ∧ w'.cell? ⟨w.heap.size + 1, 1, none⟩ = some (.slice B1 c.numbers.length D1) ∧ w'.cell? ⟨w.heap.size + 1, 2, none⟩ = some (.slice (some ⟨bw, ow, none⟩) c.words.length D2) ∧ w'.cell? ⟨w.heap.size + 1, 3, none⟩ = some (.slice B3 c.tables.length D3) ∧ w'.cell? ⟨bw, ow, none⟩ = some ((.slice aw (word0 c).length lw))) (by kernel_rfl) (and_of (Only.refl [] W).drew (fun h__ => ⟨h__.cell (by simp) c0, h__.cell (by simp) c1, h__.cell (by simp) c2, h__.cell (by simp) d0, h__.cell (by simp) d1, h__.cell (by simp) d2, h__.cell (by simp) d3, h__.cell (by simp) cw⟩)) (fun hHeld => ?_)
        (refine wpAnyH_take (i := 0) (v := ?v5) rfl (by kernel_rfl) (by kernel_rfl) (by kernel_rfl) (fun _ _ _ h => h) (Or.inl ⟨by rfl, ?hy5⟩) (by assumption) ?rest5); (case hy5 => (intro w__ hSw; (try dsimp only at hSw); go_simp; try with_reducible rfl)); (try simp only [Act.put, List.getElem_toArray, List.getElem_cons_zero, List.setIfInBounds_toArray, List.set_cons_zero, List.set_cons_succ])
        refine wpAnyH_ready (rs := [1]) (by kernel_rfl) (by simp) ?_
        refine AllReadyH.cons rfl (fun K hK => ?_) AllReadyH.nil
        go_simp
        (go_at_call 95; (with_reducible refine (hasParts_any [.int .i64 c.kind, .slice B1 c.numbers.length D1, .slice (some ⟨bw, ow, none⟩) c.words.length D2, .slice B3 c.tables.length D3] c _ 0 1 false _ (Rp.keep cW (by with_reducible repeat (first | assumption | exact .refl _ _ | refine .drew ?_ | refine .alloc ?_ _ | refine .trans ?_ (by assumption))))).mono ?_); rintro e w1 ⟨he, t1⟩; rw [hP] at he; subst he)
        go_wp2_with fail
        refine hK.out _ _ ?hS6 (fun hHeld => ?rest6)
        case hS6 => ((refine and_of ?_ (fun h__ => ⟨h__.cell (by simp) c0, h__.cell (by simp) c1, h__.cell (by simp) c2, h__.cell (by simp) d0, h__.cell (by simp) d1, h__.cell (by simp) d2, h__.cell (by simp) d3, h__.cell (by simp) cw⟩)); first | exact Only.trans (And.left (by assumption)) (by assumption) | exact And.left (by assumption) | assumption)
        clear hK K
        (try simp only [Act.put, List.getElem_toArray, List.getElem_cons_zero, List.getElem_cons_succ, List.setIfInBounds_toArray, List.set_cons_zero, List.set_cons_succ])
        (refine wpAnyH_take (i := 2) (v := ?v7) rfl (by kernel_rfl) (by kernel_rfl) (by kernel_rfl) (fun _ _ _ h => h) (Or.inl ⟨by rfl, ?hy7⟩) (by assumption) ?rest7); (case hy7 => (intro w__ hSw; (try dsimp only at hSw); go_simp; try with_reducible rfl)); (try simp only [Act.put, List.getElem_toArray, List.getElem_cons_zero, List.getElem_cons_succ, List.setIfInBounds_toArray, List.set_cons_zero, List.set_cons_succ])
        (refine wpAnyH_take (i := 3) (v := ?v8) rfl (by kernel_rfl) (by kernel_rfl) (by kernel_rfl) (fun _ _ _ h => h) (Or.inl ⟨by rfl, ?hy8⟩) (by assumption) ?rest8); (case hy8 => (intro w__ hSw; (try dsimp only at hSw); go_simp; try with_reducible rfl)); (try simp only [Act.put, List.getElem_toArray, List.getElem_cons_zero, List.getElem_cons_succ, List.setIfInBounds_toArray, List.set_cons_zero, List.set_cons_succ])
        (refine wpAnyH_take (i := 4) (v := ?v9) rfl (by kernel_rfl) (by kernel_rfl) (by kernel_rfl) (fun _ _ _ h => h) (Or.inl ⟨by rfl, ?hy9⟩) (by assumption) ?rest9); (case hy9 => (intro w__ hSw; (try dsimp only at hSw); go_simp; try with_reducible rfl)); (try simp only [Act.put, List.getElem_toArray, List.getElem_cons_zero, List.getElem_cons_succ, List.setIfInBounds_toArray, List.set_cons_zero, List.set_cons_succ])
        (refine wpAnyH_take (i := 5) (v := ?v10) rfl (by kernel_rfl) (by kernel_rfl) (by kernel_rfl) (fun _ _ _ h => h) (Or.inl ⟨by rfl, ?hy10⟩) (by assumption) ?rest10); (case hy10 => (intro w__ hSw; (try dsimp only at hSw); go_simp; try with_reducible rfl)); (try simp only [Act.put, List.getElem_toArray, List.getElem_cons_zero, List.getElem_cons_succ, List.setIfInBounds_toArray, List.set_cons_zero, List.set_cons_succ])
        (refine wpAnyH_take (i := 6) (v := ?v11) rfl (by kernel_rfl) (by kernel_rfl) (by kernel_rfl) (fun _ _ _ h => h) (Or.inl ⟨by rfl, ?hy11⟩) (by assumption) ?rest11); (case hy11 => (intro w__ hSw; (try dsimp only at hSw); go_simp; try with_reducible rfl)); (try simp only [Act.put, List.getElem_toArray, List.getElem_cons_zero, List.getElem_cons_succ, List.setIfInBounds_toArray, List.set_cons_zero, List.set_cons_succ])
        (refine wpAnyH_take (i := 7) (v := ?v12) rfl (by kernel_rfl) (by kernel_rfl) (by kernel_rfl) (fun _ _ _ h => h) (Or.inl ⟨by rfl, ?hy12⟩) (by assumption) ?rest12); (case hy12 => (intro w__ hSw; (try dsimp only at hSw); go_simp; try with_reducible rfl)); (try simp only [Act.put, List.getElem_toArray, List.getElem_cons_zero, List.getElem_cons_succ, List.setIfInBounds_toArray, List.set_cons_zero, List.set_cons_succ])
        (refine wpAnyH_take (i := 8) (v := ?v13) rfl (by kernel_rfl) (by kernel_rfl) (by kernel_rfl) (fun _ _ _ h => h) (Or.inl ⟨by rfl, ?hy13⟩) (by assumption) ?rest13); (case hy13 => (intro w__ hSw; (try dsimp only at hSw); go_simp; try with_reducible rfl)); (try simp only [Act.put, List.getElem_toArray, List.getElem_cons_zero, List.getElem_cons_succ, List.setIfInBounds_toArray, List.set_cons_zero, List.set_cons_succ])
        refine wpAnyH_ready (rs := [9]) (by kernel_rfl) (by simp) ?_
        refine AllReadyH.cons rfl (fun K hK => ?_) AllReadyH.nil
        go_simp
        (go_at_call 96; (with_reducible refine (implSolves_any [.int .i64 x.points, .string x.names, .slice A3 x.moves.length C3] x _ u (.slice aw (word0 c).length lw) s (word0 c) _ _ _ (Rp.keep pW (by with_reducible repeat (first | assumption | exact .refl _ _ | refine .drew ?_ | refine .alloc ?_ _ | refine .trans ?_ (by assumption)))) (Rp.keep uW (by with_reducible repeat (first | assumption | exact .refl _ _ | refine .drew ?_ | refine .alloc ?_ _ | refine .trans ?_ (by assumption)))) (Rp.keep wW (by with_reducible repeat (first | assumption | exact .refl _ _ | refine .drew ?_ | refine .alloc ?_ _ | refine .trans ?_ (by assumption)))) hst).mono ?_); rintro e w2 ⟨he, t2⟩; rw [hS] at he; subst he)
        go_wp2_with fail
        refine hK.out _ _ ?hS14 (fun hHeld => ?rest14)
        case hS14 => ((refine and_of ?_ (fun h__ => ⟨h__.cell (by simp) c0, h__.cell (by simp) c1, h__.cell (by simp) c2, h__.cell (by simp) d0, h__.cell (by simp) d1, h__.cell (by simp) d2, h__.cell (by simp) d3, h__.cell (by simp) cw⟩)); first | exact Only.trans (And.left (by assumption)) (by assumption) | exact And.left (by assumption) | assumption)
        clear hK K
        (try simp only [Act.put, List.getElem_toArray, List.getElem_cons_zero, List.getElem_cons_succ, List.setIfInBounds_toArray, List.set_cons_zero, List.set_cons_succ])
        (refine wpAnyH_take (i := 10) (v := ?v15) rfl (by kernel_rfl) (by kernel_rfl) (by kernel_rfl) (fun _ _ _ h => h) (Or.inl ⟨by rfl, ?hy15⟩) (by assumption) ?rest15); (case hy15 => (intro w__ hSw; (try dsimp only at hSw); go_simp; try with_reducible rfl)); (try simp only [Act.put, List.getElem_toArray, List.getElem_cons_zero, List.getElem_cons_succ, List.setIfInBounds_toArray, List.set_cons_zero, List.set_cons_succ])
        refine wpAnyH_done (by kernel_rfl) ?_ _
        have KL : Only [] W w2 := (by with_reducible repeat (first | assumption | exact .refl _ _ | refine .drew ?_ | refine .alloc ?_ _ | refine .trans ?_ (by assumption)))
        have RL := RW.keep KL
        have XL := XW.keep KL
        have YL := YW.keep KL
        have g0 := RL.cell 0 rfl
        have p0 := RL.frozen 0
        have g1 := RL.cell 1 rfl
        have p1 := RL.frozen 1
        have m0 := YL.cell 0 rfl
        have m1 := YL.cell 1 rfl
        have m2 := YL.cell 2 rfl
        have m3 := YL.cell 3 rfl
        go_wp2
        have Rf := (RL.set 0 (.int .i64 0)).set 1 (.int .i64 0)
        simp only [List.set] at Rf
        have z0 := Rf.cell 0 rfl
        have z1 := Rf.cell 1 rfl
        have Kf : Only [] w ((w2.setCell ⟨w.heap.size + 1 + 1, 0, none⟩ (.int .i64 0)).setCell ⟨w.heap.size + 1 + 1, 1, none⟩ (.int .i64 0)) := ((KW.trans KL).setCell (by simp; omega) _).setCell (by simp; omega) _
        refine bodyPost_ret (v := .tuple #[.agg #[.int .i64 0, .int .i64 0], .bool false]) (by simp [results, Tryz.results48, go_sem, z0, z1]) rfl ⟨by rw [Ha.out]; rfl, Kf⟩
      · have Ha := Lib.hid (by unfold accC; rw [if_pos k1, hP, hS]; rfl : accC x s c = some ⟨1, (word0 c).length⟩)
        clear k1 hwd
        go_enter Tryz.func48, Tryz.ntmps48
        go_upto_region 5 with (first | (go_at_call 74; (with_reducible refine (implIsState_any [.int .i64 x.points, .string x.names, .slice A3 x.moves.length C3] x _ _ s _ _ (Rp.keep h0 (by with_reducible repeat (first | assumption | exact .refl _ _ | refine .drew ?_ | refine .alloc ?_ _ | refine .trans ?_ (by assumption)))) (Rp.keep hu (by with_reducible repeat (first | assumption | exact .refl _ _ | refine .drew ?_ | refine .alloc ?_ _ | refine .trans ?_ (by assumption))))).mono ?_); rintro e ws ⟨he, ts⟩; rw [hst] at he; subst he; have X1 := X0.keep ts; have Y1 := Y0.keep ts; have R1 := R0.keep ts; have KW : Only [] w ws := (by with_reducible repeat (first | assumption | exact .refl _ _ | refine .drew ?_ | refine .alloc ?_ _ | refine .trans ?_ (by assumption))); clear c0 c1 c2 d0 d1 d2 d3; have c0 := X1.cell 0 rfl; have c1 := X1.cell 1 rfl; have c2 := X1.cell 2 rfl; have d0 := Y1.cell 0 rfl; have d1 := Y1.cell 1 rfl; have d2 := Y1.cell 2 rfl; have d3 := Y1.cell 3 rfl) | fail "no arm")
        obtain ⟨W, hW⟩ : ∃ W, W = ws := ⟨_, rfl⟩
        rw [← hW] at X1 Y1 R1 KW c0 c1 c2 d0 d1 d2 d3 ⊢
        clear hW ts
        have XW := X1
        have YW := Y1
        have RW := R1
        have pW := Rp.keep h0 KW
        have cW := Rp.keep hc0 KW
        have uW := Rp.keep hu KW
        have cw := KW.cell (by simp) cw0
        have wW := Rp.keep hw KW
        refine wp_region_held_drew (S := fun w' => Only [] W w' ∧ w'.cell? ⟨w.heap.size, 0, none⟩ = some (.int .i64 x.points) ∧ w'.cell? ⟨w.heap.size, 1, none⟩ = some (.string x.names) ∧ w'.cell? ⟨w.heap.size, 2, none⟩ = some (.slice A3 x.moves.length C3) ∧ w'.cell? ⟨w.heap.size + 1, 0, none⟩ = some (.int .i64 c.kind) ∧ w'.cell? ⟨w.heap.size + 1, 1, none⟩ = some (.slice B1 c.numbers.length D1) ∧ w'.cell? ⟨w.heap.size + 1, 2, none⟩ = some (.slice (some ⟨bw, ow, none⟩) c.words.length D2) ∧ w'.cell? ⟨w.heap.size + 1, 3, none⟩ = some (.slice B3 c.tables.length D3) ∧ w'.cell? ⟨bw, ow, none⟩ = some ((.slice aw (word0 c).length lw))) (by kernel_rfl) (and_of (Only.refl [] W).drew (fun h__ => ⟨h__.cell (by simp) c0, h__.cell (by simp) c1, h__.cell (by simp) c2, h__.cell (by simp) d0, h__.cell (by simp) d1, h__.cell (by simp) d2, h__.cell (by simp) d3, h__.cell (by simp) cw⟩)) (fun hHeld => ?_)
        (refine wpAnyH_take (i := 0) (v := ?v16) rfl (by kernel_rfl) (by kernel_rfl) (by kernel_rfl) (fun _ _ _ h => h) (Or.inl ⟨by rfl, ?hy16⟩) (by assumption) ?rest16); (case hy16 => (intro w__ hSw; (try dsimp only at hSw); go_simp; try with_reducible rfl)); (try simp only [Act.put, List.getElem_toArray, List.getElem_cons_zero, List.setIfInBounds_toArray, List.set_cons_zero, List.set_cons_succ])
        refine wpAnyH_ready (rs := [1]) (by kernel_rfl) (by simp) ?_
        refine AllReadyH.cons rfl (fun K hK => ?_) AllReadyH.nil
        go_simp
        (go_at_call 95; (with_reducible refine (hasParts_any [.int .i64 c.kind, .slice B1 c.numbers.length D1, .slice (some ⟨bw, ow, none⟩) c.words.length D2, .slice B3 c.tables.length D3] c _ 0 1 false _ (Rp.keep cW (by with_reducible repeat (first | assumption | exact .refl _ _ | refine .drew ?_ | refine .alloc ?_ _ | refine .trans ?_ (by assumption))))).mono ?_); rintro e w1 ⟨he, t1⟩; rw [hP] at he; subst he)
        go_wp2_with fail
        refine hK.out _ _ ?hS17 (fun hHeld => ?rest17)
        case hS17 => ((refine and_of ?_ (fun h__ => ⟨h__.cell (by simp) c0, h__.cell (by simp) c1, h__.cell (by simp) c2, h__.cell (by simp) d0, h__.cell (by simp) d1, h__.cell (by simp) d2, h__.cell (by simp) d3, h__.cell (by simp) cw⟩)); first | exact Only.trans (And.left (by assumption)) (by assumption) | exact And.left (by assumption) | assumption)
        clear hK K
        (try simp only [Act.put, List.getElem_toArray, List.getElem_cons_zero, List.getElem_cons_succ, List.setIfInBounds_toArray, List.set_cons_zero, List.set_cons_succ])
        (refine wpAnyH_take (i := 2) (v := ?v18) rfl (by kernel_rfl) (by kernel_rfl) (by kernel_rfl) (fun _ _ _ h => h) (Or.inl ⟨by rfl, ?hy18⟩) (by assumption) ?rest18); (case hy18 => (intro w__ hSw; (try dsimp only at hSw); go_simp; try with_reducible rfl)); (try simp only [Act.put, List.getElem_toArray, List.getElem_cons_zero, List.getElem_cons_succ, List.setIfInBounds_toArray, List.set_cons_zero, List.set_cons_succ])
        (refine wpAnyH_take (i := 3) (v := ?v19) rfl (by kernel_rfl) (by kernel_rfl) (by kernel_rfl) (fun _ _ _ h => h) (Or.inl ⟨by rfl, ?hy19⟩) (by assumption) ?rest19); (case hy19 => (intro w__ hSw; (try dsimp only at hSw); go_simp; try with_reducible rfl)); (try simp only [Act.put, List.getElem_toArray, List.getElem_cons_zero, List.getElem_cons_succ, List.setIfInBounds_toArray, List.set_cons_zero, List.set_cons_succ])
        (refine wpAnyH_take (i := 4) (v := ?v20) rfl (by kernel_rfl) (by kernel_rfl) (by kernel_rfl) (fun _ _ _ h => h) (Or.inl ⟨by rfl, ?hy20⟩) (by assumption) ?rest20); (case hy20 => (intro w__ hSw; (try dsimp only at hSw); go_simp; try with_reducible rfl)); (try simp only [Act.put, List.getElem_toArray, List.getElem_cons_zero, List.getElem_cons_succ, List.setIfInBounds_toArray, List.set_cons_zero, List.set_cons_succ])
        (refine wpAnyH_take (i := 5) (v := ?v21) rfl (by kernel_rfl) (by kernel_rfl) (by kernel_rfl) (fun _ _ _ h => h) (Or.inl ⟨by rfl, ?hy21⟩) (by assumption) ?rest21); (case hy21 => (intro w__ hSw; (try dsimp only at hSw); go_simp; try with_reducible rfl)); (try simp only [Act.put, List.getElem_toArray, List.getElem_cons_zero, List.getElem_cons_succ, List.setIfInBounds_toArray, List.set_cons_zero, List.set_cons_succ])
        (refine wpAnyH_take (i := 6) (v := ?v22) rfl (by kernel_rfl) (by kernel_rfl) (by kernel_rfl) (fun _ _ _ h => h) (Or.inl ⟨by rfl, ?hy22⟩) (by assumption) ?rest22); (case hy22 => (intro w__ hSw; (try dsimp only at hSw); go_simp; try with_reducible rfl)); (try simp only [Act.put, List.getElem_toArray, List.getElem_cons_zero, List.getElem_cons_succ, List.setIfInBounds_toArray, List.set_cons_zero, List.set_cons_succ])
        (refine wpAnyH_take (i := 7) (v := ?v23) rfl (by kernel_rfl) (by kernel_rfl) (by kernel_rfl) (fun _ _ _ h => h) (Or.inl ⟨by rfl, ?hy23⟩) (by assumption) ?rest23); (case hy23 => (intro w__ hSw; (try dsimp only at hSw); go_simp; try with_reducible rfl)); (try simp only [Act.put, List.getElem_toArray, List.getElem_cons_zero, List.getElem_cons_succ, List.setIfInBounds_toArray, List.set_cons_zero, List.set_cons_succ])
        (refine wpAnyH_take (i := 8) (v := ?v24) rfl (by kernel_rfl) (by kernel_rfl) (by kernel_rfl) (fun _ _ _ h => h) (Or.inl ⟨by rfl, ?hy24⟩) (by assumption) ?rest24); (case hy24 => (intro w__ hSw; (try dsimp only at hSw); go_simp; try with_reducible rfl)); (try simp only [Act.put, List.getElem_toArray, List.getElem_cons_zero, List.getElem_cons_succ, List.setIfInBounds_toArray, List.set_cons_zero, List.set_cons_succ])
        refine wpAnyH_ready (rs := [9]) (by kernel_rfl) (by simp) ?_
        refine AllReadyH.cons rfl (fun K hK => ?_) AllReadyH.nil
        go_simp
        (go_at_call 96; (with_reducible refine (implSolves_any [.int .i64 x.points, .string x.names, .slice A3 x.moves.length C3] x _ u (.slice aw (word0 c).length lw) s (word0 c) _ _ _ (Rp.keep pW (by with_reducible repeat (first | assumption | exact .refl _ _ | refine .drew ?_ | refine .alloc ?_ _ | refine .trans ?_ (by assumption)))) (Rp.keep uW (by with_reducible repeat (first | assumption | exact .refl _ _ | refine .drew ?_ | refine .alloc ?_ _ | refine .trans ?_ (by assumption)))) (Rp.keep wW (by with_reducible repeat (first | assumption | exact .refl _ _ | refine .drew ?_ | refine .alloc ?_ _ | refine .trans ?_ (by assumption)))) hst).mono ?_); rintro e w2 ⟨he, t2⟩; rw [hS] at he; subst he)
        go_wp2_with fail
        refine hK.out _ _ ?hS25 (fun hHeld => ?rest25)
        case hS25 => ((refine and_of ?_ (fun h__ => ⟨h__.cell (by simp) c0, h__.cell (by simp) c1, h__.cell (by simp) c2, h__.cell (by simp) d0, h__.cell (by simp) d1, h__.cell (by simp) d2, h__.cell (by simp) d3, h__.cell (by simp) cw⟩)); first | exact Only.trans (And.left (by assumption)) (by assumption) | exact And.left (by assumption) | assumption)
        clear hK K
        (try simp only [Act.put, List.getElem_toArray, List.getElem_cons_zero, List.getElem_cons_succ, List.setIfInBounds_toArray, List.set_cons_zero, List.set_cons_succ])
        (refine wpAnyH_take (i := 10) (v := ?v26) rfl (by kernel_rfl) (by kernel_rfl) (by kernel_rfl) (fun _ _ _ h => h) (Or.inl ⟨by rfl, ?hy26⟩) (by assumption) ?rest26); (case hy26 => (intro w__ hSw; (try dsimp only at hSw); go_simp; try with_reducible rfl)); (try simp only [Act.put, List.getElem_toArray, List.getElem_cons_zero, List.getElem_cons_succ, List.setIfInBounds_toArray, List.set_cons_zero, List.set_cons_succ])
        refine wpAnyH_done (by kernel_rfl) ?_ _
        have KL : Only [] W w2 := (by with_reducible repeat (first | assumption | exact .refl _ _ | refine .drew ?_ | refine .alloc ?_ _ | refine .trans ?_ (by assumption)))
        have RL := RW.keep KL
        have XL := XW.keep KL
        have YL := YW.keep KL
        have g0 := RL.cell 0 rfl
        have p0 := RL.frozen 0
        have g1 := RL.cell 1 rfl
        have p1 := RL.frozen 1
        have m0 := YL.cell 0 rfl
        have m1 := YL.cell 1 rfl
        have m2 := YL.cell 2 rfl
        have m3 := YL.cell 3 rfl
        have mw := KL.cell (by simp) cw
        go_wp2_with (first | (go_at_call 97; (with_reducible refine (lengthInt_rd _ (word0 c) _ _ (Rp.keep wW (by with_reducible repeat (first | assumption | exact .refl _ _ | refine .drew ?_ | refine .alloc ?_ _ | refine .trans ?_ (by assumption))))).mono ?_); rintro e w2 ⟨rfl, rfl⟩) | fail "no arm")
        have Rf := (RL.set 0 (.int .i64 1)).set 1 (.int .i64 (word0 c).length)
        simp only [List.set] at Rf
        have z0 := Rf.cell 0 rfl
        have z1 := Rf.cell 1 rfl
        have Kf : Only [] w ((w2.setCell ⟨w.heap.size + 1 + 1, 0, none⟩ (.int .i64 1)).setCell ⟨w.heap.size + 1 + 1, 1, none⟩ (.int .i64 (word0 c).length)) := ((KW.trans KL).setCell (by simp; omega) _).setCell (by simp; omega) _
        refine bodyPost_ret (v := .tuple #[.agg #[.int .i64 1, .int .i64 (word0 c).length], .bool true]) (by simp [results, Tryz.results48, go_sem, z0, z1]) rfl ⟨by rw [Ha.out]; rfl, Kf⟩
  have kb1 : (c.kind == 1) = false := by simp [k1]
  by_cases k2 : c.kind = 2
  · have kb : (c.kind == 2) = true := by simp [k2]
    rcases hP : hasP c 0 1 true
    · have Ha := Lib.hid (by unfold accC; rw [if_neg k1, if_pos k2, hP]; rfl : accC x s c = none)
      clear k1 k2
      go_enter Tryz.func48, Tryz.ntmps48
      go_upto_region 8 with (first | (go_at_call 74; (with_reducible refine (implIsState_any [.int .i64 x.points, .string x.names, .slice A3 x.moves.length C3] x _ _ s _ _ (Rp.keep h0 (by with_reducible repeat (first | assumption | exact .refl _ _ | refine .drew ?_ | refine .alloc ?_ _ | refine .trans ?_ (by assumption)))) (Rp.keep hu (by with_reducible repeat (first | assumption | exact .refl _ _ | refine .drew ?_ | refine .alloc ?_ _ | refine .trans ?_ (by assumption))))).mono ?_); rintro e ws ⟨he, ts⟩; rw [hst] at he; subst he; have X1 := X0.keep ts; have Y1 := Y0.keep ts; have R1 := R0.keep ts; have KW : Only [] w ws := (by with_reducible repeat (first | assumption | exact .refl _ _ | refine .drew ?_ | refine .alloc ?_ _ | refine .trans ?_ (by assumption))); clear c0 c1 c2 d0 d1 d2 d3; have c0 := X1.cell 0 rfl; have c1 := X1.cell 1 rfl; have c2 := X1.cell 2 rfl; have d0 := Y1.cell 0 rfl; have d1 := Y1.cell 1 rfl; have d2 := Y1.cell 2 rfl; have d3 := Y1.cell 3 rfl) | fail "no arm")
      obtain ⟨W, hW⟩ : ∃ W, W = ws := ⟨_, rfl⟩
      rw [← hW] at X1 Y1 R1 KW c0 c1 c2 d0 d1 d2 d3 ⊢
      clear hW ts
      have XW := X1
      have YW := Y1
      have RW := R1
      have pW := Rp.keep h0 KW
      have cW := Rp.keep hc0 KW
      have uW := Rp.keep hu KW
      refine wp_region_held_drew (S := fun w' => Only [] W w' ∧ w'.cell? ⟨w.heap.size, 0, none⟩ = some (.int .i64 x.points) ∧ w'.cell? ⟨w.heap.size, 1, none⟩ = some (.string x.names) ∧ w'.cell? ⟨w.heap.size, 2, none⟩ = some (.slice A3 x.moves.length C3) ∧ w'.cell? ⟨w.heap.size + 1, 0, none⟩ = some (.int .i64 c.kind) ∧ w'.cell? ⟨w.heap.size + 1, 1, none⟩ = some (.slice B1 c.numbers.length D1) ∧ w'.cell? ⟨w.heap.size + 1, 2, none⟩ = some (.slice B2 c.words.length D2) ∧ w'.cell? ⟨w.heap.size + 1, 3, none⟩ = some (.slice B3 c.tables.length D3)) (by kernel_rfl) (and_of (Only.refl [] W).drew (fun h__ => ⟨h__.cell (by simp) c0, h__.cell (by simp) c1, h__.cell (by simp) c2, h__.cell (by simp) d0, h__.cell (by simp) d1, h__.cell (by simp) d2, h__.cell (by simp) d3⟩)) (fun hHeld => ?_)
      (refine wpAnyH_take (i := 0) (v := ?v27) rfl (by kernel_rfl) (by kernel_rfl) (by kernel_rfl) (fun _ _ _ h => h) (Or.inl ⟨by rfl, ?hy27⟩) (by assumption) ?rest27); (case hy27 => (intro w__ hSw; (try dsimp only at hSw); go_simp; try with_reducible rfl)); (try simp only [Act.put, List.getElem_toArray, List.getElem_cons_zero, List.setIfInBounds_toArray, List.set_cons_zero, List.set_cons_succ])
      refine wpAnyH_ready (rs := [1]) (by kernel_rfl) (by simp) ?_
      refine AllReadyH.cons rfl (fun K hK => ?_) AllReadyH.nil
      go_simp
      (go_at_call 95; (with_reducible refine (hasParts_any [.int .i64 c.kind, .slice B1 c.numbers.length D1, .slice B2 c.words.length D2, .slice B3 c.tables.length D3] c _ 0 1 true _ (Rp.keep cW (by with_reducible repeat (first | assumption | exact .refl _ _ | refine .drew ?_ | refine .alloc ?_ _ | refine .trans ?_ (by assumption))))).mono ?_); rintro e w1 ⟨he, t1⟩; rw [hP] at he; subst he)
      go_wp2_with fail
      refine hK.out _ _ ?hS28 (fun hHeld => ?rest28)
      case hS28 => ((refine and_of ?_ (fun h__ => ⟨h__.cell (by simp) c0, h__.cell (by simp) c1, h__.cell (by simp) c2, h__.cell (by simp) d0, h__.cell (by simp) d1, h__.cell (by simp) d2, h__.cell (by simp) d3⟩)); first | exact Only.trans (And.left (by assumption)) (by assumption) | exact And.left (by assumption) | assumption)
      clear hK K
      (try simp only [Act.put, List.getElem_toArray, List.getElem_cons_zero, List.getElem_cons_succ, List.setIfInBounds_toArray, List.set_cons_zero, List.set_cons_succ])
      (refine wpAnyH_take (i := 2) (v := ?v29) rfl (by kernel_rfl) (by kernel_rfl) (by kernel_rfl) (fun _ _ _ h => h) (Or.inl ⟨by rfl, ?hy29⟩) (by assumption) ?rest29); (case hy29 => (intro w__ hSw; (try dsimp only at hSw); go_simp; try with_reducible rfl)); (try simp only [Act.put, List.getElem_toArray, List.getElem_cons_zero, List.getElem_cons_succ, List.setIfInBounds_toArray, List.set_cons_zero, List.set_cons_succ])
      (refine wpAnyH_take (i := 3) (v := undef) rfl (by kernel_rfl) (by kernel_rfl) (by kernel_rfl) (fun _ _ _ h => h) (Or.inr ⟨by rfl, rfl⟩) (by assumption) ?_); (try simp only [Act.put, List.getElem_toArray, List.getElem_cons_zero, List.getElem_cons_succ, List.setIfInBounds_toArray, List.set_cons_zero, List.set_cons_succ])
      (refine wpAnyH_take (i := 4) (v := undef) rfl (by kernel_rfl) (by kernel_rfl) (by kernel_rfl) (fun _ _ _ h => h) (Or.inr ⟨by rfl, rfl⟩) (by assumption) ?_); (try simp only [Act.put, List.getElem_toArray, List.getElem_cons_zero, List.getElem_cons_succ, List.setIfInBounds_toArray, List.set_cons_zero, List.set_cons_succ])
      (refine wpAnyH_take (i := 5) (v := undef) rfl (by kernel_rfl) (by kernel_rfl) (by kernel_rfl) (fun _ _ _ h => h) (Or.inr ⟨by rfl, rfl⟩) (by assumption) ?_); (try simp only [Act.put, List.getElem_toArray, List.getElem_cons_zero, List.getElem_cons_succ, List.setIfInBounds_toArray, List.set_cons_zero, List.set_cons_succ])
      (refine wpAnyH_take (i := 6) (v := undef) rfl (by kernel_rfl) (by kernel_rfl) (by kernel_rfl) (fun _ _ _ h => h) (Or.inr ⟨by rfl, rfl⟩) (by assumption) ?_); (try simp only [Act.put, List.getElem_toArray, List.getElem_cons_zero, List.getElem_cons_succ, List.setIfInBounds_toArray, List.set_cons_zero, List.set_cons_succ])
      (refine wpAnyH_take (i := 7) (v := undef) rfl (by kernel_rfl) (by kernel_rfl) (by kernel_rfl) (fun _ _ _ h => h) (Or.inr ⟨by rfl, rfl⟩) (by assumption) ?_); (try simp only [Act.put, List.getElem_toArray, List.getElem_cons_zero, List.getElem_cons_succ, List.setIfInBounds_toArray, List.set_cons_zero, List.set_cons_succ])
      (refine wpAnyH_take (i := 8) (v := undef) rfl (by kernel_rfl) (by kernel_rfl) (by kernel_rfl) (fun _ _ _ h => h) (Or.inr ⟨by rfl, rfl⟩) (by assumption) ?_); (try simp only [Act.put, List.getElem_toArray, List.getElem_cons_zero, List.getElem_cons_succ, List.setIfInBounds_toArray, List.set_cons_zero, List.set_cons_succ])
      (refine wpAnyH_take (i := 9) (v := undef) rfl (by kernel_rfl) (by kernel_rfl) (by kernel_rfl) (fun _ _ _ h => h) (Or.inr ⟨by rfl, rfl⟩) (by assumption) ?_); (try simp only [Act.put, List.getElem_toArray, List.getElem_cons_zero, List.getElem_cons_succ, List.setIfInBounds_toArray, List.set_cons_zero, List.set_cons_succ])
      (refine wpAnyH_take (i := 10) (v := ?v30) rfl (by kernel_rfl) (by kernel_rfl) (by kernel_rfl) (fun _ _ _ h => h) (Or.inl ⟨by rfl, ?hy30⟩) (by assumption) ?rest30); (case hy30 => (intro w__ hSw; (try dsimp only at hSw); go_simp; try with_reducible rfl)); (try simp only [Act.put, List.getElem_toArray, List.getElem_cons_zero, List.getElem_cons_succ, List.setIfInBounds_toArray, List.set_cons_zero, List.set_cons_succ])
      (refine wpAnyH_take (i := 11) (v := ?v31) rfl (by kernel_rfl) (by kernel_rfl) (by kernel_rfl) (fun _ _ _ h => h) (Or.inl ⟨by rfl, ?hy31⟩) (by assumption) ?rest31); (case hy31 => (intro w__ hSw; (try dsimp only at hSw); go_simp; try with_reducible rfl)); (try simp only [Act.put, List.getElem_toArray, List.getElem_cons_zero, List.getElem_cons_succ, List.setIfInBounds_toArray, List.set_cons_zero, List.set_cons_succ])
      (refine wpAnyH_take (i := 12) (v := undef) rfl (by kernel_rfl) (by kernel_rfl) (by kernel_rfl) (fun _ _ _ h => h) (Or.inr ⟨by rfl, rfl⟩) (by assumption) ?_); (try simp only [Act.put, List.getElem_toArray, List.getElem_cons_zero, List.getElem_cons_succ, List.setIfInBounds_toArray, List.set_cons_zero, List.set_cons_succ])
      (refine wpAnyH_take (i := 13) (v := undef) rfl (by kernel_rfl) (by kernel_rfl) (by kernel_rfl) (fun _ _ _ h => h) (Or.inr ⟨by rfl, rfl⟩) (by assumption) ?_); (try simp only [Act.put, List.getElem_toArray, List.getElem_cons_zero, List.getElem_cons_succ, List.setIfInBounds_toArray, List.set_cons_zero, List.set_cons_succ])
      (refine wpAnyH_take (i := 14) (v := undef) rfl (by kernel_rfl) (by kernel_rfl) (by kernel_rfl) (fun _ _ _ h => h) (Or.inr ⟨by rfl, rfl⟩) (by assumption) ?_); (try simp only [Act.put, List.getElem_toArray, List.getElem_cons_zero, List.getElem_cons_succ, List.setIfInBounds_toArray, List.set_cons_zero, List.set_cons_succ])
      (refine wpAnyH_take (i := 15) (v := undef) rfl (by kernel_rfl) (by kernel_rfl) (by kernel_rfl) (fun _ _ _ h => h) (Or.inr ⟨by rfl, rfl⟩) (by assumption) ?_); (try simp only [Act.put, List.getElem_toArray, List.getElem_cons_zero, List.getElem_cons_succ, List.setIfInBounds_toArray, List.set_cons_zero, List.set_cons_succ])
      (refine wpAnyH_take (i := 16) (v := undef) rfl (by kernel_rfl) (by kernel_rfl) (by kernel_rfl) (fun _ _ _ h => h) (Or.inr ⟨by rfl, rfl⟩) (by assumption) ?_); (try simp only [Act.put, List.getElem_toArray, List.getElem_cons_zero, List.getElem_cons_succ, List.setIfInBounds_toArray, List.set_cons_zero, List.set_cons_succ])
      (refine wpAnyH_take (i := 17) (v := undef) rfl (by kernel_rfl) (by kernel_rfl) (by kernel_rfl) (fun _ _ _ h => h) (Or.inr ⟨by rfl, rfl⟩) (by assumption) ?_); (try simp only [Act.put, List.getElem_toArray, List.getElem_cons_zero, List.getElem_cons_succ, List.setIfInBounds_toArray, List.set_cons_zero, List.set_cons_succ])
      (refine wpAnyH_take (i := 18) (v := undef) rfl (by kernel_rfl) (by kernel_rfl) (by kernel_rfl) (fun _ _ _ h => h) (Or.inr ⟨by rfl, rfl⟩) (by assumption) ?_); (try simp only [Act.put, List.getElem_toArray, List.getElem_cons_zero, List.getElem_cons_succ, List.setIfInBounds_toArray, List.set_cons_zero, List.set_cons_succ])
      (refine wpAnyH_take (i := 19) (v := undef) rfl (by kernel_rfl) (by kernel_rfl) (by kernel_rfl) (fun _ _ _ h => h) (Or.inr ⟨by rfl, rfl⟩) (by assumption) ?_); (try simp only [Act.put, List.getElem_toArray, List.getElem_cons_zero, List.getElem_cons_succ, List.setIfInBounds_toArray, List.set_cons_zero, List.set_cons_succ])
      (refine wpAnyH_take (i := 20) (v := undef) rfl (by kernel_rfl) (by kernel_rfl) (by kernel_rfl) (fun _ _ _ h => h) (Or.inr ⟨by rfl, rfl⟩) (by assumption) ?_); (try simp only [Act.put, List.getElem_toArray, List.getElem_cons_zero, List.getElem_cons_succ, List.setIfInBounds_toArray, List.set_cons_zero, List.set_cons_succ])
      (refine wpAnyH_take (i := 21) (v := undef) rfl (by kernel_rfl) (by kernel_rfl) (by kernel_rfl) (fun _ _ _ h => h) (Or.inr ⟨by rfl, rfl⟩) (by assumption) ?_); (try simp only [Act.put, List.getElem_toArray, List.getElem_cons_zero, List.getElem_cons_succ, List.setIfInBounds_toArray, List.set_cons_zero, List.set_cons_succ])
      (refine wpAnyH_take (i := 22) (v := undef) rfl (by kernel_rfl) (by kernel_rfl) (by kernel_rfl) (fun _ _ _ h => h) (Or.inr ⟨by rfl, rfl⟩) (by assumption) ?_); (try simp only [Act.put, List.getElem_toArray, List.getElem_cons_zero, List.getElem_cons_succ, List.setIfInBounds_toArray, List.set_cons_zero, List.set_cons_succ])
      (refine wpAnyH_take (i := 23) (v := ?v32) rfl (by kernel_rfl) (by kernel_rfl) (by kernel_rfl) (fun _ _ _ h => h) (Or.inl ⟨by rfl, ?hy32⟩) (by assumption) ?rest32); (case hy32 => (intro w__ hSw; (try dsimp only at hSw); go_simp; try with_reducible rfl)); (try simp only [Act.put, List.getElem_toArray, List.getElem_cons_zero, List.getElem_cons_succ, List.setIfInBounds_toArray, List.set_cons_zero, List.set_cons_succ])
      refine wpAnyH_done (by kernel_rfl) ?_ _
      have KL : Only [] W w1 := (by with_reducible repeat (first | assumption | exact .refl _ _ | refine .drew ?_ | refine .alloc ?_ _ | refine .trans ?_ (by assumption)))
      have RL := RW.keep KL
      have XL := XW.keep KL
      have YL := YW.keep KL
      have g0 := RL.cell 0 rfl
      have p0 := RL.frozen 0
      have g1 := RL.cell 1 rfl
      have p1 := RL.frozen 1
      have m0 := YL.cell 0 rfl
      have m1 := YL.cell 1 rfl
      have m2 := YL.cell 2 rfl
      have m3 := YL.cell 3 rfl
      go_wp2
      have Rf := (RL.set 0 (.int .i64 0)).set 1 (.int .i64 0)
      simp only [List.set] at Rf
      have z0 := Rf.cell 0 rfl
      have z1 := Rf.cell 1 rfl
      have Kf : Only [] w ((w1.setCell ⟨w.heap.size + 1 + 1, 0, none⟩ (.int .i64 0)).setCell ⟨w.heap.size + 1 + 1, 1, none⟩ (.int .i64 0)) := ((KW.trans KL).setCell (by simp; omega) _).setCell (by simp; omega) _
      refine bodyPost_ret (v := .tuple #[.agg #[.int .i64 0, .int .i64 0], .bool false]) (by simp [results, Tryz.results48, go_sem, z0, z1]) rfl ⟨by rw [Ha.out]; rfl, Kf⟩
    · have hw0 : 0 < c.words.length := by have := (hasP_iff.1 hP).2.1; omega
      obtain ⟨bw, ow, uw, rfl, -, cw0, hw⟩ := S2.atRow 0 hw0
      have hwd : word0 c = c.words[0] := by unfold word0; rw [List.getD_eq_getElem?_getD, List.getElem?_eq_getElem hw0]; rfl
      rw [← hwd] at hw
      simp only [Nat.add_zero] at cw0
      have hwi : (0 : Int) < (c.words.length : Int) := by omega
      have hwl : (word0 c).length ≤ 9223372036854775807 := by obtain ⟨_, _, _, _, hq, -, hs⟩ := hw.open_; exact hs.bound
      obtain ⟨aw, lw, _, _, rfl, -, -⟩ := hw.open_
      rcases hS : solB x s (word0 c)
      · have Ha := Lib.hid (by unfold accC; rw [if_neg k1, if_pos k2, hP, hS]; rfl : accC x s c = none)
        clear k1 k2 hwd
        go_enter Tryz.func48, Tryz.ntmps48
        go_upto_region 8 with (first | (go_at_call 74; (with_reducible refine (implIsState_any [.int .i64 x.points, .string x.names, .slice A3 x.moves.length C3] x _ _ s _ _ (Rp.keep h0 (by with_reducible repeat (first | assumption | exact .refl _ _ | refine .drew ?_ | refine .alloc ?_ _ | refine .trans ?_ (by assumption)))) (Rp.keep hu (by with_reducible repeat (first | assumption | exact .refl _ _ | refine .drew ?_ | refine .alloc ?_ _ | refine .trans ?_ (by assumption))))).mono ?_); rintro e ws ⟨he, ts⟩; rw [hst] at he; subst he; have X1 := X0.keep ts; have Y1 := Y0.keep ts; have R1 := R0.keep ts; have KW : Only [] w ws := (by with_reducible repeat (first | assumption | exact .refl _ _ | refine .drew ?_ | refine .alloc ?_ _ | refine .trans ?_ (by assumption))); clear c0 c1 c2 d0 d1 d2 d3; have c0 := X1.cell 0 rfl; have c1 := X1.cell 1 rfl; have c2 := X1.cell 2 rfl; have d0 := Y1.cell 0 rfl; have d1 := Y1.cell 1 rfl; have d2 := Y1.cell 2 rfl; have d3 := Y1.cell 3 rfl) | fail "no arm")
        obtain ⟨W, hW⟩ : ∃ W, W = ws := ⟨_, rfl⟩
        rw [← hW] at X1 Y1 R1 KW c0 c1 c2 d0 d1 d2 d3 ⊢
        clear hW ts
        have XW := X1
        have YW := Y1
        have RW := R1
        have pW := Rp.keep h0 KW
        have cW := Rp.keep hc0 KW
        have uW := Rp.keep hu KW
        have cw := KW.cell (by simp) cw0
        have wW := Rp.keep hw KW
        refine wp_region_held_drew (S := fun w' => Only [] W w' ∧ w'.cell? ⟨w.heap.size, 0, none⟩ = some (.int .i64 x.points) ∧ w'.cell? ⟨w.heap.size, 1, none⟩ = some (.string x.names) ∧ w'.cell? ⟨w.heap.size, 2, none⟩ = some (.slice A3 x.moves.length C3) ∧ w'.cell? ⟨w.heap.size + 1, 0, none⟩ = some (.int .i64 c.kind) ∧ w'.cell? ⟨w.heap.size + 1, 1, none⟩ = some (.slice B1 c.numbers.length D1) ∧ w'.cell? ⟨w.heap.size + 1, 2, none⟩ = some (.slice (some ⟨bw, ow, none⟩) c.words.length D2) ∧ w'.cell? ⟨w.heap.size + 1, 3, none⟩ = some (.slice B3 c.tables.length D3) ∧ w'.cell? ⟨bw, ow, none⟩ = some ((.slice aw (word0 c).length lw))) (by kernel_rfl) (and_of (Only.refl [] W).drew (fun h__ => ⟨h__.cell (by simp) c0, h__.cell (by simp) c1, h__.cell (by simp) c2, h__.cell (by simp) d0, h__.cell (by simp) d1, h__.cell (by simp) d2, h__.cell (by simp) d3, h__.cell (by simp) cw⟩)) (fun hHeld => ?_)
        (refine wpAnyH_take (i := 0) (v := ?v33) rfl (by kernel_rfl) (by kernel_rfl) (by kernel_rfl) (fun _ _ _ h => h) (Or.inl ⟨by rfl, ?hy33⟩) (by assumption) ?rest33); (case hy33 => (intro w__ hSw; (try dsimp only at hSw); go_simp; try with_reducible rfl)); (try simp only [Act.put, List.getElem_toArray, List.getElem_cons_zero, List.setIfInBounds_toArray, List.set_cons_zero, List.set_cons_succ])
        refine wpAnyH_ready (rs := [1]) (by kernel_rfl) (by simp) ?_
        refine AllReadyH.cons rfl (fun K hK => ?_) AllReadyH.nil
        go_simp
        (go_at_call 95; (with_reducible refine (hasParts_any [.int .i64 c.kind, .slice B1 c.numbers.length D1, .slice (some ⟨bw, ow, none⟩) c.words.length D2, .slice B3 c.tables.length D3] c _ 0 1 true _ (Rp.keep cW (by with_reducible repeat (first | assumption | exact .refl _ _ | refine .drew ?_ | refine .alloc ?_ _ | refine .trans ?_ (by assumption))))).mono ?_); rintro e w1 ⟨he, t1⟩; rw [hP] at he; subst he)
        go_wp2_with fail
        refine hK.out _ _ ?hS34 (fun hHeld => ?rest34)
        case hS34 => ((refine and_of ?_ (fun h__ => ⟨h__.cell (by simp) c0, h__.cell (by simp) c1, h__.cell (by simp) c2, h__.cell (by simp) d0, h__.cell (by simp) d1, h__.cell (by simp) d2, h__.cell (by simp) d3, h__.cell (by simp) cw⟩)); first | exact Only.trans (And.left (by assumption)) (by assumption) | exact And.left (by assumption) | assumption)
        clear hK K
        (try simp only [Act.put, List.getElem_toArray, List.getElem_cons_zero, List.getElem_cons_succ, List.setIfInBounds_toArray, List.set_cons_zero, List.set_cons_succ])
        (refine wpAnyH_take (i := 2) (v := ?v35) rfl (by kernel_rfl) (by kernel_rfl) (by kernel_rfl) (fun _ _ _ h => h) (Or.inl ⟨by rfl, ?hy35⟩) (by assumption) ?rest35); (case hy35 => (intro w__ hSw; (try dsimp only at hSw); go_simp; try with_reducible rfl)); (try simp only [Act.put, List.getElem_toArray, List.getElem_cons_zero, List.getElem_cons_succ, List.setIfInBounds_toArray, List.set_cons_zero, List.set_cons_succ])
        (refine wpAnyH_take (i := 3) (v := ?v36) rfl (by kernel_rfl) (by kernel_rfl) (by kernel_rfl) (fun _ _ _ h => h) (Or.inl ⟨by rfl, ?hy36⟩) (by assumption) ?rest36); (case hy36 => (intro w__ hSw; (try dsimp only at hSw); go_simp; try with_reducible rfl)); (try simp only [Act.put, List.getElem_toArray, List.getElem_cons_zero, List.getElem_cons_succ, List.setIfInBounds_toArray, List.set_cons_zero, List.set_cons_succ])
        (refine wpAnyH_take (i := 4) (v := ?v37) rfl (by kernel_rfl) (by kernel_rfl) (by kernel_rfl) (fun _ _ _ h => h) (Or.inl ⟨by rfl, ?hy37⟩) (by assumption) ?rest37); (case hy37 => (intro w__ hSw; (try dsimp only at hSw); go_simp; try with_reducible rfl)); (try simp only [Act.put, List.getElem_toArray, List.getElem_cons_zero, List.getElem_cons_succ, List.setIfInBounds_toArray, List.set_cons_zero, List.set_cons_succ])
        (refine wpAnyH_take (i := 5) (v := ?v38) rfl (by kernel_rfl) (by kernel_rfl) (by kernel_rfl) (fun _ _ _ h => h) (Or.inl ⟨by rfl, ?hy38⟩) (by assumption) ?rest38); (case hy38 => (intro w__ hSw; (try dsimp only at hSw); go_simp; try with_reducible rfl)); (try simp only [Act.put, List.getElem_toArray, List.getElem_cons_zero, List.getElem_cons_succ, List.setIfInBounds_toArray, List.set_cons_zero, List.set_cons_succ])
        (refine wpAnyH_take (i := 6) (v := ?v39) rfl (by kernel_rfl) (by kernel_rfl) (by kernel_rfl) (fun _ _ _ h => h) (Or.inl ⟨by rfl, ?hy39⟩) (by assumption) ?rest39); (case hy39 => (intro w__ hSw; (try dsimp only at hSw); go_simp; try with_reducible rfl)); (try simp only [Act.put, List.getElem_toArray, List.getElem_cons_zero, List.getElem_cons_succ, List.setIfInBounds_toArray, List.set_cons_zero, List.set_cons_succ])
        (refine wpAnyH_take (i := 7) (v := ?v40) rfl (by kernel_rfl) (by kernel_rfl) (by kernel_rfl) (fun _ _ _ h => h) (Or.inl ⟨by rfl, ?hy40⟩) (by assumption) ?rest40); (case hy40 => (intro w__ hSw; (try dsimp only at hSw); go_simp; try with_reducible rfl)); (try simp only [Act.put, List.getElem_toArray, List.getElem_cons_zero, List.getElem_cons_succ, List.setIfInBounds_toArray, List.set_cons_zero, List.set_cons_succ])
        (refine wpAnyH_take (i := 8) (v := ?v41) rfl (by kernel_rfl) (by kernel_rfl) (by kernel_rfl) (fun _ _ _ h => h) (Or.inl ⟨by rfl, ?hy41⟩) (by assumption) ?rest41); (case hy41 => (intro w__ hSw; (try dsimp only at hSw); go_simp; try with_reducible rfl)); (try simp only [Act.put, List.getElem_toArray, List.getElem_cons_zero, List.getElem_cons_succ, List.setIfInBounds_toArray, List.set_cons_zero, List.set_cons_succ])
        refine wpAnyH_ready (rs := [9]) (by kernel_rfl) (by simp) ?_
        refine AllReadyH.cons rfl (fun K hK => ?_) AllReadyH.nil
        go_simp
        (go_at_call 96; (with_reducible refine (implSolves_any [.int .i64 x.points, .string x.names, .slice A3 x.moves.length C3] x _ u (.slice aw (word0 c).length lw) s (word0 c) _ _ _ (Rp.keep pW (by with_reducible repeat (first | assumption | exact .refl _ _ | refine .drew ?_ | refine .alloc ?_ _ | refine .trans ?_ (by assumption)))) (Rp.keep uW (by with_reducible repeat (first | assumption | exact .refl _ _ | refine .drew ?_ | refine .alloc ?_ _ | refine .trans ?_ (by assumption)))) (Rp.keep wW (by with_reducible repeat (first | assumption | exact .refl _ _ | refine .drew ?_ | refine .alloc ?_ _ | refine .trans ?_ (by assumption)))) hst).mono ?_); rintro e w2 ⟨he, t2⟩; rw [hS] at he; subst he)
        go_wp2_with fail
        refine hK.out _ _ ?hS42 (fun hHeld => ?rest42)
        case hS42 => ((refine and_of ?_ (fun h__ => ⟨h__.cell (by simp) c0, h__.cell (by simp) c1, h__.cell (by simp) c2, h__.cell (by simp) d0, h__.cell (by simp) d1, h__.cell (by simp) d2, h__.cell (by simp) d3, h__.cell (by simp) cw⟩)); first | exact Only.trans (And.left (by assumption)) (by assumption) | exact And.left (by assumption) | assumption)
        clear hK K
        (try simp only [Act.put, List.getElem_toArray, List.getElem_cons_zero, List.getElem_cons_succ, List.setIfInBounds_toArray, List.set_cons_zero, List.set_cons_succ])
        (refine wpAnyH_take (i := 10) (v := ?v43) rfl (by kernel_rfl) (by kernel_rfl) (by kernel_rfl) (fun _ _ _ h => h) (Or.inl ⟨by rfl, ?hy43⟩) (by assumption) ?rest43); (case hy43 => (intro w__ hSw; (try dsimp only at hSw); go_simp; try with_reducible rfl)); (try simp only [Act.put, List.getElem_toArray, List.getElem_cons_zero, List.getElem_cons_succ, List.setIfInBounds_toArray, List.set_cons_zero, List.set_cons_succ])
        (refine wpAnyH_take (i := 11) (v := ?v44) rfl (by kernel_rfl) (by kernel_rfl) (by kernel_rfl) (fun _ _ _ h => h) (Or.inl ⟨by rfl, ?hy44⟩) (by assumption) ?rest44); (case hy44 => (intro w__ hSw; (try dsimp only at hSw); go_simp; try with_reducible rfl)); (try simp only [Act.put, List.getElem_toArray, List.getElem_cons_zero, List.getElem_cons_succ, List.setIfInBounds_toArray, List.set_cons_zero, List.set_cons_succ])
        (refine wpAnyH_take (i := 12) (v := undef) rfl (by kernel_rfl) (by kernel_rfl) (by kernel_rfl) (fun _ _ _ h => h) (Or.inr ⟨by rfl, rfl⟩) (by assumption) ?_); (try simp only [Act.put, List.getElem_toArray, List.getElem_cons_zero, List.getElem_cons_succ, List.setIfInBounds_toArray, List.set_cons_zero, List.set_cons_succ])
        (refine wpAnyH_take (i := 13) (v := undef) rfl (by kernel_rfl) (by kernel_rfl) (by kernel_rfl) (fun _ _ _ h => h) (Or.inr ⟨by rfl, rfl⟩) (by assumption) ?_); (try simp only [Act.put, List.getElem_toArray, List.getElem_cons_zero, List.getElem_cons_succ, List.setIfInBounds_toArray, List.set_cons_zero, List.set_cons_succ])
        (refine wpAnyH_take (i := 14) (v := undef) rfl (by kernel_rfl) (by kernel_rfl) (by kernel_rfl) (fun _ _ _ h => h) (Or.inr ⟨by rfl, rfl⟩) (by assumption) ?_); (try simp only [Act.put, List.getElem_toArray, List.getElem_cons_zero, List.getElem_cons_succ, List.setIfInBounds_toArray, List.set_cons_zero, List.set_cons_succ])
        (refine wpAnyH_take (i := 15) (v := undef) rfl (by kernel_rfl) (by kernel_rfl) (by kernel_rfl) (fun _ _ _ h => h) (Or.inr ⟨by rfl, rfl⟩) (by assumption) ?_); (try simp only [Act.put, List.getElem_toArray, List.getElem_cons_zero, List.getElem_cons_succ, List.setIfInBounds_toArray, List.set_cons_zero, List.set_cons_succ])
        (refine wpAnyH_take (i := 16) (v := undef) rfl (by kernel_rfl) (by kernel_rfl) (by kernel_rfl) (fun _ _ _ h => h) (Or.inr ⟨by rfl, rfl⟩) (by assumption) ?_); (try simp only [Act.put, List.getElem_toArray, List.getElem_cons_zero, List.getElem_cons_succ, List.setIfInBounds_toArray, List.set_cons_zero, List.set_cons_succ])
        (refine wpAnyH_take (i := 17) (v := undef) rfl (by kernel_rfl) (by kernel_rfl) (by kernel_rfl) (fun _ _ _ h => h) (Or.inr ⟨by rfl, rfl⟩) (by assumption) ?_); (try simp only [Act.put, List.getElem_toArray, List.getElem_cons_zero, List.getElem_cons_succ, List.setIfInBounds_toArray, List.set_cons_zero, List.set_cons_succ])
        (refine wpAnyH_take (i := 18) (v := undef) rfl (by kernel_rfl) (by kernel_rfl) (by kernel_rfl) (fun _ _ _ h => h) (Or.inr ⟨by rfl, rfl⟩) (by assumption) ?_); (try simp only [Act.put, List.getElem_toArray, List.getElem_cons_zero, List.getElem_cons_succ, List.setIfInBounds_toArray, List.set_cons_zero, List.set_cons_succ])
        (refine wpAnyH_take (i := 19) (v := undef) rfl (by kernel_rfl) (by kernel_rfl) (by kernel_rfl) (fun _ _ _ h => h) (Or.inr ⟨by rfl, rfl⟩) (by assumption) ?_); (try simp only [Act.put, List.getElem_toArray, List.getElem_cons_zero, List.getElem_cons_succ, List.setIfInBounds_toArray, List.set_cons_zero, List.set_cons_succ])
        (refine wpAnyH_take (i := 20) (v := undef) rfl (by kernel_rfl) (by kernel_rfl) (by kernel_rfl) (fun _ _ _ h => h) (Or.inr ⟨by rfl, rfl⟩) (by assumption) ?_); (try simp only [Act.put, List.getElem_toArray, List.getElem_cons_zero, List.getElem_cons_succ, List.setIfInBounds_toArray, List.set_cons_zero, List.set_cons_succ])
        (refine wpAnyH_take (i := 21) (v := undef) rfl (by kernel_rfl) (by kernel_rfl) (by kernel_rfl) (fun _ _ _ h => h) (Or.inr ⟨by rfl, rfl⟩) (by assumption) ?_); (try simp only [Act.put, List.getElem_toArray, List.getElem_cons_zero, List.getElem_cons_succ, List.setIfInBounds_toArray, List.set_cons_zero, List.set_cons_succ])
        (refine wpAnyH_take (i := 22) (v := undef) rfl (by kernel_rfl) (by kernel_rfl) (by kernel_rfl) (fun _ _ _ h => h) (Or.inr ⟨by rfl, rfl⟩) (by assumption) ?_); (try simp only [Act.put, List.getElem_toArray, List.getElem_cons_zero, List.getElem_cons_succ, List.setIfInBounds_toArray, List.set_cons_zero, List.set_cons_succ])
        (refine wpAnyH_take (i := 23) (v := ?v45) rfl (by kernel_rfl) (by kernel_rfl) (by kernel_rfl) (fun _ _ _ h => h) (Or.inl ⟨by rfl, ?hy45⟩) (by assumption) ?rest45); (case hy45 => (intro w__ hSw; (try dsimp only at hSw); go_simp; try with_reducible rfl)); (try simp only [Act.put, List.getElem_toArray, List.getElem_cons_zero, List.getElem_cons_succ, List.setIfInBounds_toArray, List.set_cons_zero, List.set_cons_succ])
        refine wpAnyH_done (by kernel_rfl) ?_ _
        have KL : Only [] W w2 := (by with_reducible repeat (first | assumption | exact .refl _ _ | refine .drew ?_ | refine .alloc ?_ _ | refine .trans ?_ (by assumption)))
        have RL := RW.keep KL
        have XL := XW.keep KL
        have YL := YW.keep KL
        have g0 := RL.cell 0 rfl
        have p0 := RL.frozen 0
        have g1 := RL.cell 1 rfl
        have p1 := RL.frozen 1
        have m0 := YL.cell 0 rfl
        have m1 := YL.cell 1 rfl
        have m2 := YL.cell 2 rfl
        have m3 := YL.cell 3 rfl
        go_wp2
        have Rf := (RL.set 0 (.int .i64 0)).set 1 (.int .i64 0)
        simp only [List.set] at Rf
        have z0 := Rf.cell 0 rfl
        have z1 := Rf.cell 1 rfl
        have Kf : Only [] w ((w2.setCell ⟨w.heap.size + 1 + 1, 0, none⟩ (.int .i64 0)).setCell ⟨w.heap.size + 1 + 1, 1, none⟩ (.int .i64 0)) := ((KW.trans KL).setCell (by simp; omega) _).setCell (by simp; omega) _
        refine bodyPost_ret (v := .tuple #[.agg #[.int .i64 0, .int .i64 0], .bool false]) (by simp [results, Tryz.results48, go_sem, z0, z1]) rfl ⟨by rw [Ha.out]; rfl, Kf⟩
      · obtain ⟨b, hbd⟩ : ∃ b, b = lb x c.tables s := ⟨_, rfl⟩
        have HB := Lib.hid hbd.symm
        by_cases hE : b = (word0 c).length
        · have hbe : (b == ((word0 c).length : Int)) = true := by simp [hE]
          have Ha := Lib.hid (by unfold accC; rw [if_neg k1, if_pos k2, hP, hS]; simp only [if_true]; rw [← hbd, if_pos hE] : accC x s c = some ⟨2, (word0 c).length⟩)
          clear k1 k2 hwd hbd hE
          go_enter Tryz.func48, Tryz.ntmps48
          go_upto_region 8 with (first | (go_at_call 74; (with_reducible refine (implIsState_any [.int .i64 x.points, .string x.names, .slice A3 x.moves.length C3] x _ _ s _ _ (Rp.keep h0 (by with_reducible repeat (first | assumption | exact .refl _ _ | refine .drew ?_ | refine .alloc ?_ _ | refine .trans ?_ (by assumption)))) (Rp.keep hu (by with_reducible repeat (first | assumption | exact .refl _ _ | refine .drew ?_ | refine .alloc ?_ _ | refine .trans ?_ (by assumption))))).mono ?_); rintro e ws ⟨he, ts⟩; rw [hst] at he; subst he; have X1 := X0.keep ts; have Y1 := Y0.keep ts; have R1 := R0.keep ts; have KW : Only [] w ws := (by with_reducible repeat (first | assumption | exact .refl _ _ | refine .drew ?_ | refine .alloc ?_ _ | refine .trans ?_ (by assumption))); clear c0 c1 c2 d0 d1 d2 d3; have c0 := X1.cell 0 rfl; have c1 := X1.cell 1 rfl; have c2 := X1.cell 2 rfl; have d0 := Y1.cell 0 rfl; have d1 := Y1.cell 1 rfl; have d2 := Y1.cell 2 rfl; have d3 := Y1.cell 3 rfl) | fail "no arm")
          obtain ⟨W, hW⟩ : ∃ W, W = ws := ⟨_, rfl⟩
          rw [← hW] at X1 Y1 R1 KW c0 c1 c2 d0 d1 d2 d3 ⊢
          clear hW ts
          have XW := X1
          have YW := Y1
          have RW := R1
          have pW := Rp.keep h0 KW
          have cW := Rp.keep hc0 KW
          have uW := Rp.keep hu KW
          have cw := KW.cell (by simp) cw0
          have wW := Rp.keep hw KW
          have tW := Rp.keep i3 KW
          refine wp_region_held_drew (S := fun w' => Only [] W w' ∧ w'.cell? ⟨w.heap.size, 0, none⟩ = some (.int .i64 x.points) ∧ w'.cell? ⟨w.heap.size, 1, none⟩ = some (.string x.names) ∧ w'.cell? ⟨w.heap.size, 2, none⟩ = some (.slice A3 x.moves.length C3) ∧ w'.cell? ⟨w.heap.size + 1, 0, none⟩ = some (.int .i64 c.kind) ∧ w'.cell? ⟨w.heap.size + 1, 1, none⟩ = some (.slice B1 c.numbers.length D1) ∧ w'.cell? ⟨w.heap.size + 1, 2, none⟩ = some (.slice (some ⟨bw, ow, none⟩) c.words.length D2) ∧ w'.cell? ⟨w.heap.size + 1, 3, none⟩ = some (.slice B3 c.tables.length D3) ∧ w'.cell? ⟨bw, ow, none⟩ = some ((.slice aw (word0 c).length lw))) (by kernel_rfl) (and_of (Only.refl [] W).drew (fun h__ => ⟨h__.cell (by simp) c0, h__.cell (by simp) c1, h__.cell (by simp) c2, h__.cell (by simp) d0, h__.cell (by simp) d1, h__.cell (by simp) d2, h__.cell (by simp) d3, h__.cell (by simp) cw⟩)) (fun hHeld => ?_)
          (refine wpAnyH_take (i := 0) (v := ?v46) rfl (by kernel_rfl) (by kernel_rfl) (by kernel_rfl) (fun _ _ _ h => h) (Or.inl ⟨by rfl, ?hy46⟩) (by assumption) ?rest46); (case hy46 => (intro w__ hSw; (try dsimp only at hSw); go_simp; try with_reducible rfl)); (try simp only [Act.put, List.getElem_toArray, List.getElem_cons_zero, List.setIfInBounds_toArray, List.set_cons_zero, List.set_cons_succ])
          refine wpAnyH_ready (rs := [1]) (by kernel_rfl) (by simp) ?_
          refine AllReadyH.cons rfl (fun K hK => ?_) AllReadyH.nil
          go_simp
          (go_at_call 95; (with_reducible refine (hasParts_any [.int .i64 c.kind, .slice B1 c.numbers.length D1, .slice (some ⟨bw, ow, none⟩) c.words.length D2, .slice B3 c.tables.length D3] c _ 0 1 true _ (Rp.keep cW (by with_reducible repeat (first | assumption | exact .refl _ _ | refine .drew ?_ | refine .alloc ?_ _ | refine .trans ?_ (by assumption))))).mono ?_); rintro e w1 ⟨he, t1⟩; rw [hP] at he; subst he)
          go_wp2_with fail
          refine hK.out _ _ ?hS47 (fun hHeld => ?rest47)
          case hS47 => ((refine and_of ?_ (fun h__ => ⟨h__.cell (by simp) c0, h__.cell (by simp) c1, h__.cell (by simp) c2, h__.cell (by simp) d0, h__.cell (by simp) d1, h__.cell (by simp) d2, h__.cell (by simp) d3, h__.cell (by simp) cw⟩)); first | exact Only.trans (And.left (by assumption)) (by assumption) | exact And.left (by assumption) | assumption)
          clear hK K
          (try simp only [Act.put, List.getElem_toArray, List.getElem_cons_zero, List.getElem_cons_succ, List.setIfInBounds_toArray, List.set_cons_zero, List.set_cons_succ])
          (refine wpAnyH_take (i := 2) (v := ?v48) rfl (by kernel_rfl) (by kernel_rfl) (by kernel_rfl) (fun _ _ _ h => h) (Or.inl ⟨by rfl, ?hy48⟩) (by assumption) ?rest48); (case hy48 => (intro w__ hSw; (try dsimp only at hSw); go_simp; try with_reducible rfl)); (try simp only [Act.put, List.getElem_toArray, List.getElem_cons_zero, List.getElem_cons_succ, List.setIfInBounds_toArray, List.set_cons_zero, List.set_cons_succ])
          (refine wpAnyH_take (i := 3) (v := ?v49) rfl (by kernel_rfl) (by kernel_rfl) (by kernel_rfl) (fun _ _ _ h => h) (Or.inl ⟨by rfl, ?hy49⟩) (by assumption) ?rest49); (case hy49 => (intro w__ hSw; (try dsimp only at hSw); go_simp; try with_reducible rfl)); (try simp only [Act.put, List.getElem_toArray, List.getElem_cons_zero, List.getElem_cons_succ, List.setIfInBounds_toArray, List.set_cons_zero, List.set_cons_succ])
          (refine wpAnyH_take (i := 4) (v := ?v50) rfl (by kernel_rfl) (by kernel_rfl) (by kernel_rfl) (fun _ _ _ h => h) (Or.inl ⟨by rfl, ?hy50⟩) (by assumption) ?rest50); (case hy50 => (intro w__ hSw; (try dsimp only at hSw); go_simp; try with_reducible rfl)); (try simp only [Act.put, List.getElem_toArray, List.getElem_cons_zero, List.getElem_cons_succ, List.setIfInBounds_toArray, List.set_cons_zero, List.set_cons_succ])
          (refine wpAnyH_take (i := 5) (v := ?v51) rfl (by kernel_rfl) (by kernel_rfl) (by kernel_rfl) (fun _ _ _ h => h) (Or.inl ⟨by rfl, ?hy51⟩) (by assumption) ?rest51); (case hy51 => (intro w__ hSw; (try dsimp only at hSw); go_simp; try with_reducible rfl)); (try simp only [Act.put, List.getElem_toArray, List.getElem_cons_zero, List.getElem_cons_succ, List.setIfInBounds_toArray, List.set_cons_zero, List.set_cons_succ])
          (refine wpAnyH_take (i := 6) (v := ?v52) rfl (by kernel_rfl) (by kernel_rfl) (by kernel_rfl) (fun _ _ _ h => h) (Or.inl ⟨by rfl, ?hy52⟩) (by assumption) ?rest52); (case hy52 => (intro w__ hSw; (try dsimp only at hSw); go_simp; try with_reducible rfl)); (try simp only [Act.put, List.getElem_toArray, List.getElem_cons_zero, List.getElem_cons_succ, List.setIfInBounds_toArray, List.set_cons_zero, List.set_cons_succ])
          (refine wpAnyH_take (i := 7) (v := ?v53) rfl (by kernel_rfl) (by kernel_rfl) (by kernel_rfl) (fun _ _ _ h => h) (Or.inl ⟨by rfl, ?hy53⟩) (by assumption) ?rest53); (case hy53 => (intro w__ hSw; (try dsimp only at hSw); go_simp; try with_reducible rfl)); (try simp only [Act.put, List.getElem_toArray, List.getElem_cons_zero, List.getElem_cons_succ, List.setIfInBounds_toArray, List.set_cons_zero, List.set_cons_succ])
          (refine wpAnyH_take (i := 8) (v := ?v54) rfl (by kernel_rfl) (by kernel_rfl) (by kernel_rfl) (fun _ _ _ h => h) (Or.inl ⟨by rfl, ?hy54⟩) (by assumption) ?rest54); (case hy54 => (intro w__ hSw; (try dsimp only at hSw); go_simp; try with_reducible rfl)); (try simp only [Act.put, List.getElem_toArray, List.getElem_cons_zero, List.getElem_cons_succ, List.setIfInBounds_toArray, List.set_cons_zero, List.set_cons_succ])
          refine wpAnyH_ready (rs := [9]) (by kernel_rfl) (by simp) ?_
          refine AllReadyH.cons rfl (fun K hK => ?_) AllReadyH.nil
          go_simp
          (go_at_call 96; (with_reducible refine (implSolves_any [.int .i64 x.points, .string x.names, .slice A3 x.moves.length C3] x _ u (.slice aw (word0 c).length lw) s (word0 c) _ _ _ (Rp.keep pW (by with_reducible repeat (first | assumption | exact .refl _ _ | refine .drew ?_ | refine .alloc ?_ _ | refine .trans ?_ (by assumption)))) (Rp.keep uW (by with_reducible repeat (first | assumption | exact .refl _ _ | refine .drew ?_ | refine .alloc ?_ _ | refine .trans ?_ (by assumption)))) (Rp.keep wW (by with_reducible repeat (first | assumption | exact .refl _ _ | refine .drew ?_ | refine .alloc ?_ _ | refine .trans ?_ (by assumption)))) hst).mono ?_); rintro e w2 ⟨he, t2⟩; rw [hS] at he; subst he)
          go_wp2_with fail
          refine hK.out _ _ ?hS55 (fun hHeld => ?rest55)
          case hS55 => ((refine and_of ?_ (fun h__ => ⟨h__.cell (by simp) c0, h__.cell (by simp) c1, h__.cell (by simp) c2, h__.cell (by simp) d0, h__.cell (by simp) d1, h__.cell (by simp) d2, h__.cell (by simp) d3, h__.cell (by simp) cw⟩)); first | exact Only.trans (And.left (by assumption)) (by assumption) | exact And.left (by assumption) | assumption)
          clear hK K
          (try simp only [Act.put, List.getElem_toArray, List.getElem_cons_zero, List.getElem_cons_succ, List.setIfInBounds_toArray, List.set_cons_zero, List.set_cons_succ])
          (refine wpAnyH_take (i := 10) (v := ?v56) rfl (by kernel_rfl) (by kernel_rfl) (by kernel_rfl) (fun _ _ _ h => h) (Or.inl ⟨by rfl, ?hy56⟩) (by assumption) ?rest56); (case hy56 => (intro w__ hSw; (try dsimp only at hSw); go_simp; try with_reducible rfl)); (try simp only [Act.put, List.getElem_toArray, List.getElem_cons_zero, List.getElem_cons_succ, List.setIfInBounds_toArray, List.set_cons_zero, List.set_cons_succ])
          (refine wpAnyH_take (i := 11) (v := ?v57) rfl (by kernel_rfl) (by kernel_rfl) (by kernel_rfl) (fun _ _ _ h => h) (Or.inl ⟨by rfl, ?hy57⟩) (by assumption) ?rest57); (case hy57 => (intro w__ hSw; (try dsimp only at hSw); go_simp; try with_reducible rfl)); (try simp only [Act.put, List.getElem_toArray, List.getElem_cons_zero, List.getElem_cons_succ, List.setIfInBounds_toArray, List.set_cons_zero, List.set_cons_succ])
          (refine wpAnyH_take (i := 12) (v := ?v58) rfl (by kernel_rfl) (by kernel_rfl) (by kernel_rfl) (fun _ _ _ h => h) (Or.inl ⟨by rfl, ?hy58⟩) (by assumption) ?rest58); (case hy58 => (intro w__ hSw; (try dsimp only at hSw); go_simp; try with_reducible rfl)); (try simp only [Act.put, List.getElem_toArray, List.getElem_cons_zero, List.getElem_cons_succ, List.setIfInBounds_toArray, List.set_cons_zero, List.set_cons_succ])
          (refine wpAnyH_take (i := 13) (v := ?v59) rfl (by kernel_rfl) (by kernel_rfl) (by kernel_rfl) (fun _ _ _ h => h) (Or.inl ⟨by rfl, ?hy59⟩) (by assumption) ?rest59); (case hy59 => (intro w__ hSw; (try dsimp only at hSw); go_simp; try with_reducible rfl)); (try simp only [Act.put, List.getElem_toArray, List.getElem_cons_zero, List.getElem_cons_succ, List.setIfInBounds_toArray, List.set_cons_zero, List.set_cons_succ])
          (refine wpAnyH_take (i := 14) (v := ?v60) rfl (by kernel_rfl) (by kernel_rfl) (by kernel_rfl) (fun _ _ _ h => h) (Or.inl ⟨by rfl, ?hy60⟩) (by assumption) ?rest60); (case hy60 => (intro w__ hSw; (try dsimp only at hSw); go_simp; try with_reducible rfl)); (try simp only [Act.put, List.getElem_toArray, List.getElem_cons_zero, List.getElem_cons_succ, List.setIfInBounds_toArray, List.set_cons_zero, List.set_cons_succ])
          (refine wpAnyH_take (i := 15) (v := ?v61) rfl (by kernel_rfl) (by kernel_rfl) (by kernel_rfl) (fun _ _ _ h => h) (Or.inl ⟨by rfl, ?hy61⟩) (by assumption) ?rest61); (case hy61 => (intro w__ hSw; (try dsimp only at hSw); go_simp; try with_reducible rfl)); (try simp only [Act.put, List.getElem_toArray, List.getElem_cons_zero, List.getElem_cons_succ, List.setIfInBounds_toArray, List.set_cons_zero, List.set_cons_succ])
          (refine wpAnyH_take (i := 17) (v := ?v62) rfl (by kernel_rfl) (by kernel_rfl) (by kernel_rfl) (fun _ _ _ h => h) (Or.inl ⟨by rfl, ?hy62⟩) (by assumption) ?rest62); (case hy62 => (intro w__ hSw; (try dsimp only at hSw); go_simp; try with_reducible rfl)); (try simp only [Act.put, List.getElem_toArray, List.getElem_cons_zero, List.getElem_cons_succ, List.setIfInBounds_toArray, List.set_cons_zero, List.set_cons_succ])
          (refine wpAnyH_take (i := 18) (v := ?v63) rfl (by kernel_rfl) (by kernel_rfl) (by kernel_rfl) (fun _ _ _ h => h) (Or.inl ⟨by rfl, ?hy63⟩) (by assumption) ?rest63); (case hy63 => (intro w__ hSw; (try dsimp only at hSw); go_simp; try with_reducible rfl)); (try simp only [Act.put, List.getElem_toArray, List.getElem_cons_zero, List.getElem_cons_succ, List.setIfInBounds_toArray, List.set_cons_zero, List.set_cons_succ])
          (refine wpAnyH_take (i := 19) (v := ?v64) rfl (by kernel_rfl) (by kernel_rfl) (by kernel_rfl) (fun _ _ _ h => h) (Or.inl ⟨by rfl, ?hy64⟩) (by assumption) ?rest64); (case hy64 => (intro w__ hSw; (try dsimp only at hSw); go_simp; try with_reducible rfl)); (try simp only [Act.put, List.getElem_toArray, List.getElem_cons_zero, List.getElem_cons_succ, List.setIfInBounds_toArray, List.set_cons_zero, List.set_cons_succ])
          (refine wpAnyH_take (i := 20) (v := ?v65) rfl (by kernel_rfl) (by kernel_rfl) (by kernel_rfl) (fun _ _ _ h => h) (Or.inl ⟨by rfl, ?hy65⟩) (by assumption) ?rest65); (case hy65 => (intro w__ hSw; (try dsimp only at hSw); go_simp; try with_reducible rfl)); (try simp only [Act.put, List.getElem_toArray, List.getElem_cons_zero, List.getElem_cons_succ, List.setIfInBounds_toArray, List.set_cons_zero, List.set_cons_succ])
          refine wpAnyH_ready (rs := [16]) (by kernel_rfl) (by simp) ?_
          refine AllReadyH.cons rfl (fun K hK => ?_) AllReadyH.nil
          go_simp
          (go_at_call 90; (with_reducible refine (implLowerBound_any [.int .i64 x.points, .string x.names, .slice A3 x.moves.length C3] x _ (.slice B3 c.tables.length D3) c.tables _ u s _ _ (Rp.keep pW (by with_reducible repeat (first | assumption | exact .refl _ _ | refine .drew ?_ | refine .alloc ?_ _ | refine .trans ?_ (by assumption)))) (Rp.keep tW (by with_reducible repeat (first | assumption | exact .refl _ _ | refine .drew ?_ | refine .alloc ?_ _ | refine .trans ?_ (by assumption)))) (Rp.keep uW (by with_reducible repeat (first | assumption | exact .refl _ _ | refine .drew ?_ | refine .alloc ?_ _ | refine .trans ?_ (by assumption)))) hsm).mono ?_); rintro e w3 ⟨he, t3⟩; rw [HB.out] at he; subst he)
          go_wp2_with fail
          refine hK.out _ _ ?hS66 (fun hHeld => ?rest66)
          case hS66 => ((refine and_of ?_ (fun h__ => ⟨h__.cell (by simp) c0, h__.cell (by simp) c1, h__.cell (by simp) c2, h__.cell (by simp) d0, h__.cell (by simp) d1, h__.cell (by simp) d2, h__.cell (by simp) d3, h__.cell (by simp) cw⟩)); first | exact Only.trans (And.left (by assumption)) (by assumption) | exact And.left (by assumption) | assumption)
          clear hK K
          (try simp only [Act.put, List.getElem_toArray, List.getElem_cons_zero, List.getElem_cons_succ, List.setIfInBounds_toArray, List.set_cons_zero, List.set_cons_succ])
          refine wpAnyH_ready (rs := [21]) (by kernel_rfl) (by simp) ?_
          refine AllReadyH.cons rfl (fun K hK => ?_) AllReadyH.nil
          go_simp
          (go_at_call 97; (with_reducible refine (lengthInt_rd (.slice aw (word0 c).length lw) (word0 c) _ _ (Rp.keep wW (by with_reducible repeat (first | assumption | exact .refl _ _ | refine .drew ?_ | refine .alloc ?_ _ | refine .trans ?_ (by assumption))))).mono ?_); rintro e w3 ⟨rfl, rfl⟩)
          go_wp2_with fail
          refine hK.out _ _ ?hS67 (fun hHeld => ?rest67)
          case hS67 => ((refine and_of ?_ (fun h__ => ⟨h__.cell (by simp) c0, h__.cell (by simp) c1, h__.cell (by simp) c2, h__.cell (by simp) d0, h__.cell (by simp) d1, h__.cell (by simp) d2, h__.cell (by simp) d3, h__.cell (by simp) cw⟩)); first | exact Only.trans (And.left (by assumption)) (by assumption) | exact And.left (by assumption) | assumption)
          clear hK K
          (try simp only [Act.put, List.getElem_toArray, List.getElem_cons_zero, List.getElem_cons_succ, List.setIfInBounds_toArray, List.set_cons_zero, List.set_cons_succ])
          (refine wpAnyH_take (i := 22) (v := ?v68) rfl (by kernel_rfl) (by kernel_rfl) (by kernel_rfl) (fun _ _ _ h => h) (Or.inl ⟨by rfl, ?hy68⟩) (by assumption) ?rest68); (case hy68 => (intro w__ hSw; (try dsimp only at hSw); go_simp; try with_reducible rfl)); (try simp only [Act.put, List.getElem_toArray, List.getElem_cons_zero, List.getElem_cons_succ, List.setIfInBounds_toArray, List.set_cons_zero, List.set_cons_succ])
          (refine wpAnyH_take (i := 23) (v := ?v69) rfl (by kernel_rfl) (by kernel_rfl) (by kernel_rfl) (fun _ _ _ h => h) (Or.inl ⟨by rfl, ?hy69⟩) (by assumption) ?rest69); (case hy69 => (intro w__ hSw; (try dsimp only at hSw); go_simp; try with_reducible rfl)); (try simp only [Act.put, List.getElem_toArray, List.getElem_cons_zero, List.getElem_cons_succ, List.setIfInBounds_toArray, List.set_cons_zero, List.set_cons_succ])
          refine wpAnyH_done (by kernel_rfl) ?_ _
          have KL : Only [] W w3 := (by with_reducible repeat (first | assumption | exact .refl _ _ | refine .drew ?_ | refine .alloc ?_ _ | refine .trans ?_ (by assumption)))
          have RL := RW.keep KL
          have XL := XW.keep KL
          have YL := YW.keep KL
          have g0 := RL.cell 0 rfl
          have p0 := RL.frozen 0
          have g1 := RL.cell 1 rfl
          have p1 := RL.frozen 1
          have m0 := YL.cell 0 rfl
          have m1 := YL.cell 1 rfl
          have m2 := YL.cell 2 rfl
          have m3 := YL.cell 3 rfl
          have mw := KL.cell (by simp) cw
          go_wp2_with (first | (go_at_call 97; (with_reducible refine (lengthInt_rd _ (word0 c) _ _ (Rp.keep wW (by with_reducible repeat (first | assumption | exact .refl _ _ | refine .drew ?_ | refine .alloc ?_ _ | refine .trans ?_ (by assumption))))).mono ?_); rintro e w3 ⟨rfl, rfl⟩) | fail "no arm")
          have Rf := (RL.set 0 (.int .i64 2)).set 1 (.int .i64 (word0 c).length)
          simp only [List.set] at Rf
          have z0 := Rf.cell 0 rfl
          have z1 := Rf.cell 1 rfl
          have Kf : Only [] w ((w3.setCell ⟨w.heap.size + 1 + 1, 0, none⟩ (.int .i64 2)).setCell ⟨w.heap.size + 1 + 1, 1, none⟩ (.int .i64 (word0 c).length)) := ((KW.trans KL).setCell (by simp; omega) _).setCell (by simp; omega) _
          refine bodyPost_ret (v := .tuple #[.agg #[.int .i64 2, .int .i64 (word0 c).length], .bool true]) (by simp [results, Tryz.results48, go_sem, z0, z1]) rfl ⟨by rw [Ha.out]; rfl, Kf⟩
        · have hbe : (b == ((word0 c).length : Int)) = false := by simp [hE]
          have Ha := Lib.hid (by unfold accC; rw [if_neg k1, if_pos k2, hP, hS]; simp only [if_true]; rw [← hbd, if_neg hE] : accC x s c = none)
          clear k1 k2 hwd hbd hE
          go_enter Tryz.func48, Tryz.ntmps48
          go_upto_region 8 with (first | (go_at_call 74; (with_reducible refine (implIsState_any [.int .i64 x.points, .string x.names, .slice A3 x.moves.length C3] x _ _ s _ _ (Rp.keep h0 (by with_reducible repeat (first | assumption | exact .refl _ _ | refine .drew ?_ | refine .alloc ?_ _ | refine .trans ?_ (by assumption)))) (Rp.keep hu (by with_reducible repeat (first | assumption | exact .refl _ _ | refine .drew ?_ | refine .alloc ?_ _ | refine .trans ?_ (by assumption))))).mono ?_); rintro e ws ⟨he, ts⟩; rw [hst] at he; subst he; have X1 := X0.keep ts; have Y1 := Y0.keep ts; have R1 := R0.keep ts; have KW : Only [] w ws := (by with_reducible repeat (first | assumption | exact .refl _ _ | refine .drew ?_ | refine .alloc ?_ _ | refine .trans ?_ (by assumption))); clear c0 c1 c2 d0 d1 d2 d3; have c0 := X1.cell 0 rfl; have c1 := X1.cell 1 rfl; have c2 := X1.cell 2 rfl; have d0 := Y1.cell 0 rfl; have d1 := Y1.cell 1 rfl; have d2 := Y1.cell 2 rfl; have d3 := Y1.cell 3 rfl) | fail "no arm")
          obtain ⟨W, hW⟩ : ∃ W, W = ws := ⟨_, rfl⟩
          rw [← hW] at X1 Y1 R1 KW c0 c1 c2 d0 d1 d2 d3 ⊢
          clear hW ts
          have XW := X1
          have YW := Y1
          have RW := R1
          have pW := Rp.keep h0 KW
          have cW := Rp.keep hc0 KW
          have uW := Rp.keep hu KW
          have cw := KW.cell (by simp) cw0
          have wW := Rp.keep hw KW
          have tW := Rp.keep i3 KW
          refine wp_region_held_drew (S := fun w' => Only [] W w' ∧ w'.cell? ⟨w.heap.size, 0, none⟩ = some (.int .i64 x.points) ∧ w'.cell? ⟨w.heap.size, 1, none⟩ = some (.string x.names) ∧ w'.cell? ⟨w.heap.size, 2, none⟩ = some (.slice A3 x.moves.length C3) ∧ w'.cell? ⟨w.heap.size + 1, 0, none⟩ = some (.int .i64 c.kind) ∧ w'.cell? ⟨w.heap.size + 1, 1, none⟩ = some (.slice B1 c.numbers.length D1) ∧ w'.cell? ⟨w.heap.size + 1, 2, none⟩ = some (.slice (some ⟨bw, ow, none⟩) c.words.length D2) ∧ w'.cell? ⟨w.heap.size + 1, 3, none⟩ = some (.slice B3 c.tables.length D3) ∧ w'.cell? ⟨bw, ow, none⟩ = some ((.slice aw (word0 c).length lw))) (by kernel_rfl) (and_of (Only.refl [] W).drew (fun h__ => ⟨h__.cell (by simp) c0, h__.cell (by simp) c1, h__.cell (by simp) c2, h__.cell (by simp) d0, h__.cell (by simp) d1, h__.cell (by simp) d2, h__.cell (by simp) d3, h__.cell (by simp) cw⟩)) (fun hHeld => ?_)
          (refine wpAnyH_take (i := 0) (v := ?v70) rfl (by kernel_rfl) (by kernel_rfl) (by kernel_rfl) (fun _ _ _ h => h) (Or.inl ⟨by rfl, ?hy70⟩) (by assumption) ?rest70); (case hy70 => (intro w__ hSw; (try dsimp only at hSw); go_simp; try with_reducible rfl)); (try simp only [Act.put, List.getElem_toArray, List.getElem_cons_zero, List.setIfInBounds_toArray, List.set_cons_zero, List.set_cons_succ])
          refine wpAnyH_ready (rs := [1]) (by kernel_rfl) (by simp) ?_
          refine AllReadyH.cons rfl (fun K hK => ?_) AllReadyH.nil
          go_simp
          (go_at_call 95; (with_reducible refine (hasParts_any [.int .i64 c.kind, .slice B1 c.numbers.length D1, .slice (some ⟨bw, ow, none⟩) c.words.length D2, .slice B3 c.tables.length D3] c _ 0 1 true _ (Rp.keep cW (by with_reducible repeat (first | assumption | exact .refl _ _ | refine .drew ?_ | refine .alloc ?_ _ | refine .trans ?_ (by assumption))))).mono ?_); rintro e w1 ⟨he, t1⟩; rw [hP] at he; subst he)
          go_wp2_with fail
          refine hK.out _ _ ?hS71 (fun hHeld => ?rest71)
          case hS71 => ((refine and_of ?_ (fun h__ => ⟨h__.cell (by simp) c0, h__.cell (by simp) c1, h__.cell (by simp) c2, h__.cell (by simp) d0, h__.cell (by simp) d1, h__.cell (by simp) d2, h__.cell (by simp) d3, h__.cell (by simp) cw⟩)); first | exact Only.trans (And.left (by assumption)) (by assumption) | exact And.left (by assumption) | assumption)
          clear hK K
          (try simp only [Act.put, List.getElem_toArray, List.getElem_cons_zero, List.getElem_cons_succ, List.setIfInBounds_toArray, List.set_cons_zero, List.set_cons_succ])
          (refine wpAnyH_take (i := 2) (v := ?v72) rfl (by kernel_rfl) (by kernel_rfl) (by kernel_rfl) (fun _ _ _ h => h) (Or.inl ⟨by rfl, ?hy72⟩) (by assumption) ?rest72); (case hy72 => (intro w__ hSw; (try dsimp only at hSw); go_simp; try with_reducible rfl)); (try simp only [Act.put, List.getElem_toArray, List.getElem_cons_zero, List.getElem_cons_succ, List.setIfInBounds_toArray, List.set_cons_zero, List.set_cons_succ])
          (refine wpAnyH_take (i := 3) (v := ?v73) rfl (by kernel_rfl) (by kernel_rfl) (by kernel_rfl) (fun _ _ _ h => h) (Or.inl ⟨by rfl, ?hy73⟩) (by assumption) ?rest73); (case hy73 => (intro w__ hSw; (try dsimp only at hSw); go_simp; try with_reducible rfl)); (try simp only [Act.put, List.getElem_toArray, List.getElem_cons_zero, List.getElem_cons_succ, List.setIfInBounds_toArray, List.set_cons_zero, List.set_cons_succ])
          (refine wpAnyH_take (i := 4) (v := ?v74) rfl (by kernel_rfl) (by kernel_rfl) (by kernel_rfl) (fun _ _ _ h => h) (Or.inl ⟨by rfl, ?hy74⟩) (by assumption) ?rest74); (case hy74 => (intro w__ hSw; (try dsimp only at hSw); go_simp; try with_reducible rfl)); (try simp only [Act.put, List.getElem_toArray, List.getElem_cons_zero, List.getElem_cons_succ, List.setIfInBounds_toArray, List.set_cons_zero, List.set_cons_succ])
          (refine wpAnyH_take (i := 5) (v := ?v75) rfl (by kernel_rfl) (by kernel_rfl) (by kernel_rfl) (fun _ _ _ h => h) (Or.inl ⟨by rfl, ?hy75⟩) (by assumption) ?rest75); (case hy75 => (intro w__ hSw; (try dsimp only at hSw); go_simp; try with_reducible rfl)); (try simp only [Act.put, List.getElem_toArray, List.getElem_cons_zero, List.getElem_cons_succ, List.setIfInBounds_toArray, List.set_cons_zero, List.set_cons_succ])
          (refine wpAnyH_take (i := 6) (v := ?v76) rfl (by kernel_rfl) (by kernel_rfl) (by kernel_rfl) (fun _ _ _ h => h) (Or.inl ⟨by rfl, ?hy76⟩) (by assumption) ?rest76); (case hy76 => (intro w__ hSw; (try dsimp only at hSw); go_simp; try with_reducible rfl)); (try simp only [Act.put, List.getElem_toArray, List.getElem_cons_zero, List.getElem_cons_succ, List.setIfInBounds_toArray, List.set_cons_zero, List.set_cons_succ])
          (refine wpAnyH_take (i := 7) (v := ?v77) rfl (by kernel_rfl) (by kernel_rfl) (by kernel_rfl) (fun _ _ _ h => h) (Or.inl ⟨by rfl, ?hy77⟩) (by assumption) ?rest77); (case hy77 => (intro w__ hSw; (try dsimp only at hSw); go_simp; try with_reducible rfl)); (try simp only [Act.put, List.getElem_toArray, List.getElem_cons_zero, List.getElem_cons_succ, List.setIfInBounds_toArray, List.set_cons_zero, List.set_cons_succ])
          (refine wpAnyH_take (i := 8) (v := ?v78) rfl (by kernel_rfl) (by kernel_rfl) (by kernel_rfl) (fun _ _ _ h => h) (Or.inl ⟨by rfl, ?hy78⟩) (by assumption) ?rest78); (case hy78 => (intro w__ hSw; (try dsimp only at hSw); go_simp; try with_reducible rfl)); (try simp only [Act.put, List.getElem_toArray, List.getElem_cons_zero, List.getElem_cons_succ, List.setIfInBounds_toArray, List.set_cons_zero, List.set_cons_succ])
          refine wpAnyH_ready (rs := [9]) (by kernel_rfl) (by simp) ?_
          refine AllReadyH.cons rfl (fun K hK => ?_) AllReadyH.nil
          go_simp
          (go_at_call 96; (with_reducible refine (implSolves_any [.int .i64 x.points, .string x.names, .slice A3 x.moves.length C3] x _ u (.slice aw (word0 c).length lw) s (word0 c) _ _ _ (Rp.keep pW (by with_reducible repeat (first | assumption | exact .refl _ _ | refine .drew ?_ | refine .alloc ?_ _ | refine .trans ?_ (by assumption)))) (Rp.keep uW (by with_reducible repeat (first | assumption | exact .refl _ _ | refine .drew ?_ | refine .alloc ?_ _ | refine .trans ?_ (by assumption)))) (Rp.keep wW (by with_reducible repeat (first | assumption | exact .refl _ _ | refine .drew ?_ | refine .alloc ?_ _ | refine .trans ?_ (by assumption)))) hst).mono ?_); rintro e w2 ⟨he, t2⟩; rw [hS] at he; subst he)
          go_wp2_with fail
          refine hK.out _ _ ?hS79 (fun hHeld => ?rest79)
          case hS79 => ((refine and_of ?_ (fun h__ => ⟨h__.cell (by simp) c0, h__.cell (by simp) c1, h__.cell (by simp) c2, h__.cell (by simp) d0, h__.cell (by simp) d1, h__.cell (by simp) d2, h__.cell (by simp) d3, h__.cell (by simp) cw⟩)); first | exact Only.trans (And.left (by assumption)) (by assumption) | exact And.left (by assumption) | assumption)
          clear hK K
          (try simp only [Act.put, List.getElem_toArray, List.getElem_cons_zero, List.getElem_cons_succ, List.setIfInBounds_toArray, List.set_cons_zero, List.set_cons_succ])
          (refine wpAnyH_take (i := 10) (v := ?v80) rfl (by kernel_rfl) (by kernel_rfl) (by kernel_rfl) (fun _ _ _ h => h) (Or.inl ⟨by rfl, ?hy80⟩) (by assumption) ?rest80); (case hy80 => (intro w__ hSw; (try dsimp only at hSw); go_simp; try with_reducible rfl)); (try simp only [Act.put, List.getElem_toArray, List.getElem_cons_zero, List.getElem_cons_succ, List.setIfInBounds_toArray, List.set_cons_zero, List.set_cons_succ])
          (refine wpAnyH_take (i := 11) (v := ?v81) rfl (by kernel_rfl) (by kernel_rfl) (by kernel_rfl) (fun _ _ _ h => h) (Or.inl ⟨by rfl, ?hy81⟩) (by assumption) ?rest81); (case hy81 => (intro w__ hSw; (try dsimp only at hSw); go_simp; try with_reducible rfl)); (try simp only [Act.put, List.getElem_toArray, List.getElem_cons_zero, List.getElem_cons_succ, List.setIfInBounds_toArray, List.set_cons_zero, List.set_cons_succ])
          (refine wpAnyH_take (i := 12) (v := ?v82) rfl (by kernel_rfl) (by kernel_rfl) (by kernel_rfl) (fun _ _ _ h => h) (Or.inl ⟨by rfl, ?hy82⟩) (by assumption) ?rest82); (case hy82 => (intro w__ hSw; (try dsimp only at hSw); go_simp; try with_reducible rfl)); (try simp only [Act.put, List.getElem_toArray, List.getElem_cons_zero, List.getElem_cons_succ, List.setIfInBounds_toArray, List.set_cons_zero, List.set_cons_succ])
          (refine wpAnyH_take (i := 13) (v := ?v83) rfl (by kernel_rfl) (by kernel_rfl) (by kernel_rfl) (fun _ _ _ h => h) (Or.inl ⟨by rfl, ?hy83⟩) (by assumption) ?rest83); (case hy83 => (intro w__ hSw; (try dsimp only at hSw); go_simp; try with_reducible rfl)); (try simp only [Act.put, List.getElem_toArray, List.getElem_cons_zero, List.getElem_cons_succ, List.setIfInBounds_toArray, List.set_cons_zero, List.set_cons_succ])
          (refine wpAnyH_take (i := 14) (v := ?v84) rfl (by kernel_rfl) (by kernel_rfl) (by kernel_rfl) (fun _ _ _ h => h) (Or.inl ⟨by rfl, ?hy84⟩) (by assumption) ?rest84); (case hy84 => (intro w__ hSw; (try dsimp only at hSw); go_simp; try with_reducible rfl)); (try simp only [Act.put, List.getElem_toArray, List.getElem_cons_zero, List.getElem_cons_succ, List.setIfInBounds_toArray, List.set_cons_zero, List.set_cons_succ])
          (refine wpAnyH_take (i := 15) (v := ?v85) rfl (by kernel_rfl) (by kernel_rfl) (by kernel_rfl) (fun _ _ _ h => h) (Or.inl ⟨by rfl, ?hy85⟩) (by assumption) ?rest85); (case hy85 => (intro w__ hSw; (try dsimp only at hSw); go_simp; try with_reducible rfl)); (try simp only [Act.put, List.getElem_toArray, List.getElem_cons_zero, List.getElem_cons_succ, List.setIfInBounds_toArray, List.set_cons_zero, List.set_cons_succ])
          (refine wpAnyH_take (i := 17) (v := ?v86) rfl (by kernel_rfl) (by kernel_rfl) (by kernel_rfl) (fun _ _ _ h => h) (Or.inl ⟨by rfl, ?hy86⟩) (by assumption) ?rest86); (case hy86 => (intro w__ hSw; (try dsimp only at hSw); go_simp; try with_reducible rfl)); (try simp only [Act.put, List.getElem_toArray, List.getElem_cons_zero, List.getElem_cons_succ, List.setIfInBounds_toArray, List.set_cons_zero, List.set_cons_succ])
          (refine wpAnyH_take (i := 18) (v := ?v87) rfl (by kernel_rfl) (by kernel_rfl) (by kernel_rfl) (fun _ _ _ h => h) (Or.inl ⟨by rfl, ?hy87⟩) (by assumption) ?rest87); (case hy87 => (intro w__ hSw; (try dsimp only at hSw); go_simp; try with_reducible rfl)); (try simp only [Act.put, List.getElem_toArray, List.getElem_cons_zero, List.getElem_cons_succ, List.setIfInBounds_toArray, List.set_cons_zero, List.set_cons_succ])
          (refine wpAnyH_take (i := 19) (v := ?v88) rfl (by kernel_rfl) (by kernel_rfl) (by kernel_rfl) (fun _ _ _ h => h) (Or.inl ⟨by rfl, ?hy88⟩) (by assumption) ?rest88); (case hy88 => (intro w__ hSw; (try dsimp only at hSw); go_simp; try with_reducible rfl)); (try simp only [Act.put, List.getElem_toArray, List.getElem_cons_zero, List.getElem_cons_succ, List.setIfInBounds_toArray, List.set_cons_zero, List.set_cons_succ])
          (refine wpAnyH_take (i := 20) (v := ?v89) rfl (by kernel_rfl) (by kernel_rfl) (by kernel_rfl) (fun _ _ _ h => h) (Or.inl ⟨by rfl, ?hy89⟩) (by assumption) ?rest89); (case hy89 => (intro w__ hSw; (try dsimp only at hSw); go_simp; try with_reducible rfl)); (try simp only [Act.put, List.getElem_toArray, List.getElem_cons_zero, List.getElem_cons_succ, List.setIfInBounds_toArray, List.set_cons_zero, List.set_cons_succ])
          refine wpAnyH_ready (rs := [16]) (by kernel_rfl) (by simp) ?_
          refine AllReadyH.cons rfl (fun K hK => ?_) AllReadyH.nil
          go_simp
          (go_at_call 90; (with_reducible refine (implLowerBound_any [.int .i64 x.points, .string x.names, .slice A3 x.moves.length C3] x _ (.slice B3 c.tables.length D3) c.tables _ u s _ _ (Rp.keep pW (by with_reducible repeat (first | assumption | exact .refl _ _ | refine .drew ?_ | refine .alloc ?_ _ | refine .trans ?_ (by assumption)))) (Rp.keep tW (by with_reducible repeat (first | assumption | exact .refl _ _ | refine .drew ?_ | refine .alloc ?_ _ | refine .trans ?_ (by assumption)))) (Rp.keep uW (by with_reducible repeat (first | assumption | exact .refl _ _ | refine .drew ?_ | refine .alloc ?_ _ | refine .trans ?_ (by assumption)))) hsm).mono ?_); rintro e w3 ⟨he, t3⟩; rw [HB.out] at he; subst he)
          go_wp2_with fail
          refine hK.out _ _ ?hS90 (fun hHeld => ?rest90)
          case hS90 => ((refine and_of ?_ (fun h__ => ⟨h__.cell (by simp) c0, h__.cell (by simp) c1, h__.cell (by simp) c2, h__.cell (by simp) d0, h__.cell (by simp) d1, h__.cell (by simp) d2, h__.cell (by simp) d3, h__.cell (by simp) cw⟩)); first | exact Only.trans (And.left (by assumption)) (by assumption) | exact And.left (by assumption) | assumption)
          clear hK K
          (try simp only [Act.put, List.getElem_toArray, List.getElem_cons_zero, List.getElem_cons_succ, List.setIfInBounds_toArray, List.set_cons_zero, List.set_cons_succ])
          refine wpAnyH_ready (rs := [21]) (by kernel_rfl) (by simp) ?_
          refine AllReadyH.cons rfl (fun K hK => ?_) AllReadyH.nil
          go_simp
          (go_at_call 97; (with_reducible refine (lengthInt_rd (.slice aw (word0 c).length lw) (word0 c) _ _ (Rp.keep wW (by with_reducible repeat (first | assumption | exact .refl _ _ | refine .drew ?_ | refine .alloc ?_ _ | refine .trans ?_ (by assumption))))).mono ?_); rintro e w3 ⟨rfl, rfl⟩)
          go_wp2_with fail
          refine hK.out _ _ ?hS91 (fun hHeld => ?rest91)
          case hS91 => ((refine and_of ?_ (fun h__ => ⟨h__.cell (by simp) c0, h__.cell (by simp) c1, h__.cell (by simp) c2, h__.cell (by simp) d0, h__.cell (by simp) d1, h__.cell (by simp) d2, h__.cell (by simp) d3, h__.cell (by simp) cw⟩)); first | exact Only.trans (And.left (by assumption)) (by assumption) | exact And.left (by assumption) | assumption)
          clear hK K
          (try simp only [Act.put, List.getElem_toArray, List.getElem_cons_zero, List.getElem_cons_succ, List.setIfInBounds_toArray, List.set_cons_zero, List.set_cons_succ])
          (refine wpAnyH_take (i := 22) (v := ?v92) rfl (by kernel_rfl) (by kernel_rfl) (by kernel_rfl) (fun _ _ _ h => h) (Or.inl ⟨by rfl, ?hy92⟩) (by assumption) ?rest92); (case hy92 => (intro w__ hSw; (try dsimp only at hSw); go_simp; try with_reducible rfl)); (try simp only [Act.put, List.getElem_toArray, List.getElem_cons_zero, List.getElem_cons_succ, List.setIfInBounds_toArray, List.set_cons_zero, List.set_cons_succ])
          (refine wpAnyH_take (i := 23) (v := ?v93) rfl (by kernel_rfl) (by kernel_rfl) (by kernel_rfl) (fun _ _ _ h => h) (Or.inl ⟨by rfl, ?hy93⟩) (by assumption) ?rest93); (case hy93 => (intro w__ hSw; (try dsimp only at hSw); go_simp; try with_reducible rfl)); (try simp only [Act.put, List.getElem_toArray, List.getElem_cons_zero, List.getElem_cons_succ, List.setIfInBounds_toArray, List.set_cons_zero, List.set_cons_succ])
          refine wpAnyH_done (by kernel_rfl) ?_ _
          have KL : Only [] W w3 := (by with_reducible repeat (first | assumption | exact .refl _ _ | refine .drew ?_ | refine .alloc ?_ _ | refine .trans ?_ (by assumption)))
          have RL := RW.keep KL
          have XL := XW.keep KL
          have YL := YW.keep KL
          have g0 := RL.cell 0 rfl
          have p0 := RL.frozen 0
          have g1 := RL.cell 1 rfl
          have p1 := RL.frozen 1
          have m0 := YL.cell 0 rfl
          have m1 := YL.cell 1 rfl
          have m2 := YL.cell 2 rfl
          have m3 := YL.cell 3 rfl
          go_wp2
          have Rf := (RL.set 0 (.int .i64 0)).set 1 (.int .i64 0)
          simp only [List.set] at Rf
          have z0 := Rf.cell 0 rfl
          have z1 := Rf.cell 1 rfl
          have Kf : Only [] w ((w3.setCell ⟨w.heap.size + 1 + 1, 0, none⟩ (.int .i64 0)).setCell ⟨w.heap.size + 1 + 1, 1, none⟩ (.int .i64 0)) := ((KW.trans KL).setCell (by simp; omega) _).setCell (by simp; omega) _
          refine bodyPost_ret (v := .tuple #[.agg #[.int .i64 0, .int .i64 0], .bool false]) (by simp [results, Tryz.results48, go_sem, z0, z1]) rfl ⟨by rw [Ha.out]; rfl, Kf⟩
  have kb2 : (c.kind == 2) = false := by simp [k2]
  by_cases k3 : c.kind = 3
  · have kb : (c.kind == 3) = true := by simp [k3]
    rcases hP : hasP c 1 0 true
    · have Ha := Lib.hid (by unfold accC; rw [if_neg k1, if_neg k2, if_pos k3, hP]; rfl : accC x s c = none)
      clear k1 k2 k3
      go_enter Tryz.func48, Tryz.ntmps48
      go_upto_region 11 with (first | (go_at_call 74; (with_reducible refine (implIsState_any [.int .i64 x.points, .string x.names, .slice A3 x.moves.length C3] x _ _ s _ _ (Rp.keep h0 (by with_reducible repeat (first | assumption | exact .refl _ _ | refine .drew ?_ | refine .alloc ?_ _ | refine .trans ?_ (by assumption)))) (Rp.keep hu (by with_reducible repeat (first | assumption | exact .refl _ _ | refine .drew ?_ | refine .alloc ?_ _ | refine .trans ?_ (by assumption))))).mono ?_); rintro e ws ⟨he, ts⟩; rw [hst] at he; subst he; have X1 := X0.keep ts; have Y1 := Y0.keep ts; have R1 := R0.keep ts; have KW : Only [] w ws := (by with_reducible repeat (first | assumption | exact .refl _ _ | refine .drew ?_ | refine .alloc ?_ _ | refine .trans ?_ (by assumption))); clear c0 c1 c2 d0 d1 d2 d3; have c0 := X1.cell 0 rfl; have c1 := X1.cell 1 rfl; have c2 := X1.cell 2 rfl; have d0 := Y1.cell 0 rfl; have d1 := Y1.cell 1 rfl; have d2 := Y1.cell 2 rfl; have d3 := Y1.cell 3 rfl) | fail "no arm")
      obtain ⟨W, hW⟩ : ∃ W, W = ws := ⟨_, rfl⟩
      rw [← hW] at X1 Y1 R1 KW c0 c1 c2 d0 d1 d2 d3 ⊢
      clear hW ts
      have XW := X1
      have YW := Y1
      have RW := R1
      have pW := Rp.keep h0 KW
      have cW := Rp.keep hc0 KW
      have uW := Rp.keep hu KW
      refine wp_region_held_drew (S := fun w' => Only [] W w' ∧ w'.cell? ⟨w.heap.size, 0, none⟩ = some (.int .i64 x.points) ∧ w'.cell? ⟨w.heap.size, 1, none⟩ = some (.string x.names) ∧ w'.cell? ⟨w.heap.size, 2, none⟩ = some (.slice A3 x.moves.length C3) ∧ w'.cell? ⟨w.heap.size + 1, 0, none⟩ = some (.int .i64 c.kind) ∧ w'.cell? ⟨w.heap.size + 1, 1, none⟩ = some (.slice B1 c.numbers.length D1) ∧ w'.cell? ⟨w.heap.size + 1, 2, none⟩ = some (.slice B2 c.words.length D2) ∧ w'.cell? ⟨w.heap.size + 1, 3, none⟩ = some (.slice B3 c.tables.length D3)) (by kernel_rfl) (and_of (Only.refl [] W).drew (fun h__ => ⟨h__.cell (by simp) c0, h__.cell (by simp) c1, h__.cell (by simp) c2, h__.cell (by simp) d0, h__.cell (by simp) d1, h__.cell (by simp) d2, h__.cell (by simp) d3⟩)) (fun hHeld => ?_)
      (refine wpAnyH_take (i := 0) (v := ?v94) rfl (by kernel_rfl) (by kernel_rfl) (by kernel_rfl) (fun _ _ _ h => h) (Or.inl ⟨by rfl, ?hy94⟩) (by assumption) ?rest94); (case hy94 => (intro w__ hSw; (try dsimp only at hSw); go_simp; try with_reducible rfl)); (try simp only [Act.put, List.getElem_toArray, List.getElem_cons_zero, List.setIfInBounds_toArray, List.set_cons_zero, List.set_cons_succ])
      refine wpAnyH_ready (rs := [1]) (by kernel_rfl) (by simp) ?_
      refine AllReadyH.cons rfl (fun K hK => ?_) AllReadyH.nil
      go_simp
      (go_at_call 95; (with_reducible refine (hasParts_any [.int .i64 c.kind, .slice B1 c.numbers.length D1, .slice B2 c.words.length D2, .slice B3 c.tables.length D3] c _ 1 0 true _ (Rp.keep cW (by with_reducible repeat (first | assumption | exact .refl _ _ | refine .drew ?_ | refine .alloc ?_ _ | refine .trans ?_ (by assumption))))).mono ?_); rintro e w1 ⟨he, t1⟩; rw [hP] at he; subst he)
      go_wp2_with fail
      refine hK.out _ _ ?hS95 (fun hHeld => ?rest95)
      case hS95 => ((refine and_of ?_ (fun h__ => ⟨h__.cell (by simp) c0, h__.cell (by simp) c1, h__.cell (by simp) c2, h__.cell (by simp) d0, h__.cell (by simp) d1, h__.cell (by simp) d2, h__.cell (by simp) d3⟩)); first | exact Only.trans (And.left (by assumption)) (by assumption) | exact And.left (by assumption) | assumption)
      clear hK K
      (try simp only [Act.put, List.getElem_toArray, List.getElem_cons_zero, List.getElem_cons_succ, List.setIfInBounds_toArray, List.set_cons_zero, List.set_cons_succ])
      (refine wpAnyH_take (i := 2) (v := ?v96) rfl (by kernel_rfl) (by kernel_rfl) (by kernel_rfl) (fun _ _ _ h => h) (Or.inl ⟨by rfl, ?hy96⟩) (by assumption) ?rest96); (case hy96 => (intro w__ hSw; (try dsimp only at hSw); go_simp; try with_reducible rfl)); (try simp only [Act.put, List.getElem_toArray, List.getElem_cons_zero, List.getElem_cons_succ, List.setIfInBounds_toArray, List.set_cons_zero, List.set_cons_succ])
      (refine wpAnyH_take (i := 3) (v := undef) rfl (by kernel_rfl) (by kernel_rfl) (by kernel_rfl) (fun _ _ _ h => h) (Or.inr ⟨by rfl, rfl⟩) (by assumption) ?_); (try simp only [Act.put, List.getElem_toArray, List.getElem_cons_zero, List.getElem_cons_succ, List.setIfInBounds_toArray, List.set_cons_zero, List.set_cons_succ])
      (refine wpAnyH_take (i := 4) (v := undef) rfl (by kernel_rfl) (by kernel_rfl) (by kernel_rfl) (fun _ _ _ h => h) (Or.inr ⟨by rfl, rfl⟩) (by assumption) ?_); (try simp only [Act.put, List.getElem_toArray, List.getElem_cons_zero, List.getElem_cons_succ, List.setIfInBounds_toArray, List.set_cons_zero, List.set_cons_succ])
      (refine wpAnyH_take (i := 5) (v := undef) rfl (by kernel_rfl) (by kernel_rfl) (by kernel_rfl) (fun _ _ _ h => h) (Or.inr ⟨by rfl, rfl⟩) (by assumption) ?_); (try simp only [Act.put, List.getElem_toArray, List.getElem_cons_zero, List.getElem_cons_succ, List.setIfInBounds_toArray, List.set_cons_zero, List.set_cons_succ])
      (refine wpAnyH_take (i := 6) (v := undef) rfl (by kernel_rfl) (by kernel_rfl) (by kernel_rfl) (fun _ _ _ h => h) (Or.inr ⟨by rfl, rfl⟩) (by assumption) ?_); (try simp only [Act.put, List.getElem_toArray, List.getElem_cons_zero, List.getElem_cons_succ, List.setIfInBounds_toArray, List.set_cons_zero, List.set_cons_succ])
      (refine wpAnyH_take (i := 7) (v := undef) rfl (by kernel_rfl) (by kernel_rfl) (by kernel_rfl) (fun _ _ _ h => h) (Or.inr ⟨by rfl, rfl⟩) (by assumption) ?_); (try simp only [Act.put, List.getElem_toArray, List.getElem_cons_zero, List.getElem_cons_succ, List.setIfInBounds_toArray, List.set_cons_zero, List.set_cons_succ])
      (refine wpAnyH_take (i := 8) (v := ?v97) rfl (by kernel_rfl) (by kernel_rfl) (by kernel_rfl) (fun _ _ _ h => h) (Or.inl ⟨by rfl, ?hy97⟩) (by assumption) ?rest97); (case hy97 => (intro w__ hSw; (try dsimp only at hSw); go_simp; try with_reducible rfl)); (try simp only [Act.put, List.getElem_toArray, List.getElem_cons_zero, List.getElem_cons_succ, List.setIfInBounds_toArray, List.set_cons_zero, List.set_cons_succ])
      (refine wpAnyH_take (i := 9) (v := ?v98) rfl (by kernel_rfl) (by kernel_rfl) (by kernel_rfl) (fun _ _ _ h => h) (Or.inl ⟨by rfl, ?hy98⟩) (by assumption) ?rest98); (case hy98 => (intro w__ hSw; (try dsimp only at hSw); go_simp; try with_reducible rfl)); (try simp only [Act.put, List.getElem_toArray, List.getElem_cons_zero, List.getElem_cons_succ, List.setIfInBounds_toArray, List.set_cons_zero, List.set_cons_succ])
      (refine wpAnyH_take (i := 10) (v := undef) rfl (by kernel_rfl) (by kernel_rfl) (by kernel_rfl) (fun _ _ _ h => h) (Or.inr ⟨by rfl, rfl⟩) (by assumption) ?_); (try simp only [Act.put, List.getElem_toArray, List.getElem_cons_zero, List.getElem_cons_succ, List.setIfInBounds_toArray, List.set_cons_zero, List.set_cons_succ])
      (refine wpAnyH_take (i := 11) (v := undef) rfl (by kernel_rfl) (by kernel_rfl) (by kernel_rfl) (fun _ _ _ h => h) (Or.inr ⟨by rfl, rfl⟩) (by assumption) ?_); (try simp only [Act.put, List.getElem_toArray, List.getElem_cons_zero, List.getElem_cons_succ, List.setIfInBounds_toArray, List.set_cons_zero, List.set_cons_succ])
      (refine wpAnyH_take (i := 12) (v := undef) rfl (by kernel_rfl) (by kernel_rfl) (by kernel_rfl) (fun _ _ _ h => h) (Or.inr ⟨by rfl, rfl⟩) (by assumption) ?_); (try simp only [Act.put, List.getElem_toArray, List.getElem_cons_zero, List.getElem_cons_succ, List.setIfInBounds_toArray, List.set_cons_zero, List.set_cons_succ])
      (refine wpAnyH_take (i := 13) (v := undef) rfl (by kernel_rfl) (by kernel_rfl) (by kernel_rfl) (fun _ _ _ h => h) (Or.inr ⟨by rfl, rfl⟩) (by assumption) ?_); (try simp only [Act.put, List.getElem_toArray, List.getElem_cons_zero, List.getElem_cons_succ, List.setIfInBounds_toArray, List.set_cons_zero, List.set_cons_succ])
      (refine wpAnyH_take (i := 14) (v := undef) rfl (by kernel_rfl) (by kernel_rfl) (by kernel_rfl) (fun _ _ _ h => h) (Or.inr ⟨by rfl, rfl⟩) (by assumption) ?_); (try simp only [Act.put, List.getElem_toArray, List.getElem_cons_zero, List.getElem_cons_succ, List.setIfInBounds_toArray, List.set_cons_zero, List.set_cons_succ])
      (refine wpAnyH_take (i := 15) (v := undef) rfl (by kernel_rfl) (by kernel_rfl) (by kernel_rfl) (fun _ _ _ h => h) (Or.inr ⟨by rfl, rfl⟩) (by assumption) ?_); (try simp only [Act.put, List.getElem_toArray, List.getElem_cons_zero, List.getElem_cons_succ, List.setIfInBounds_toArray, List.set_cons_zero, List.set_cons_succ])
      (refine wpAnyH_take (i := 16) (v := undef) rfl (by kernel_rfl) (by kernel_rfl) (by kernel_rfl) (fun _ _ _ h => h) (Or.inr ⟨by rfl, rfl⟩) (by assumption) ?_); (try simp only [Act.put, List.getElem_toArray, List.getElem_cons_zero, List.getElem_cons_succ, List.setIfInBounds_toArray, List.set_cons_zero, List.set_cons_succ])
      (refine wpAnyH_take (i := 17) (v := undef) rfl (by kernel_rfl) (by kernel_rfl) (by kernel_rfl) (fun _ _ _ h => h) (Or.inr ⟨by rfl, rfl⟩) (by assumption) ?_); (try simp only [Act.put, List.getElem_toArray, List.getElem_cons_zero, List.getElem_cons_succ, List.setIfInBounds_toArray, List.set_cons_zero, List.set_cons_succ])
      (refine wpAnyH_take (i := 18) (v := undef) rfl (by kernel_rfl) (by kernel_rfl) (by kernel_rfl) (fun _ _ _ h => h) (Or.inr ⟨by rfl, rfl⟩) (by assumption) ?_); (try simp only [Act.put, List.getElem_toArray, List.getElem_cons_zero, List.getElem_cons_succ, List.setIfInBounds_toArray, List.set_cons_zero, List.set_cons_succ])
      (refine wpAnyH_take (i := 19) (v := undef) rfl (by kernel_rfl) (by kernel_rfl) (by kernel_rfl) (fun _ _ _ h => h) (Or.inr ⟨by rfl, rfl⟩) (by assumption) ?_); (try simp only [Act.put, List.getElem_toArray, List.getElem_cons_zero, List.getElem_cons_succ, List.setIfInBounds_toArray, List.set_cons_zero, List.set_cons_succ])
      (refine wpAnyH_take (i := 20) (v := ?v99) rfl (by kernel_rfl) (by kernel_rfl) (by kernel_rfl) (fun _ _ _ h => h) (Or.inl ⟨by rfl, ?hy99⟩) (by assumption) ?rest99); (case hy99 => (intro w__ hSw; (try dsimp only at hSw); go_simp; try with_reducible rfl)); (try simp only [Act.put, List.getElem_toArray, List.getElem_cons_zero, List.getElem_cons_succ, List.setIfInBounds_toArray, List.set_cons_zero, List.set_cons_succ])
      refine wpAnyH_done (by kernel_rfl) ?_ _
      have KL : Only [] W w1 := (by with_reducible repeat (first | assumption | exact .refl _ _ | refine .drew ?_ | refine .alloc ?_ _ | refine .trans ?_ (by assumption)))
      have RL := RW.keep KL
      have XL := XW.keep KL
      have YL := YW.keep KL
      have g0 := RL.cell 0 rfl
      have p0 := RL.frozen 0
      have g1 := RL.cell 1 rfl
      have p1 := RL.frozen 1
      have m0 := YL.cell 0 rfl
      have m1 := YL.cell 1 rfl
      have m2 := YL.cell 2 rfl
      have m3 := YL.cell 3 rfl
      go_wp2
      have Rf := (RL.set 0 (.int .i64 0)).set 1 (.int .i64 0)
      simp only [List.set] at Rf
      have z0 := Rf.cell 0 rfl
      have z1 := Rf.cell 1 rfl
      have Kf : Only [] w ((w1.setCell ⟨w.heap.size + 1 + 1, 0, none⟩ (.int .i64 0)).setCell ⟨w.heap.size + 1 + 1, 1, none⟩ (.int .i64 0)) := ((KW.trans KL).setCell (by simp; omega) _).setCell (by simp; omega) _
      refine bodyPost_ret (v := .tuple #[.agg #[.int .i64 0, .int .i64 0], .bool false]) (by simp [results, Tryz.results48, go_sem, z0, z1]) rfl ⟨by rw [Ha.out]; rfl, Kf⟩
    · have hn0 : 0 < c.numbers.length := by have := (hasP_iff.1 hP).1; omega
      obtain ⟨bn, on, rfl, -, cn0⟩ := I1.at_ 0 hn0
      have hnd : num0 c = c.numbers[0] := by unfold num0; rw [List.getD_eq_getElem?_getD, List.getElem?_eq_getElem hn0]; rfl
      rw [← hnd] at cn0
      simp only [Nat.add_zero] at cn0
      have hni : (0 : Int) < (c.numbers.length : Int) := by omega
      by_cases hN : 0 ≤ num0 c
      · obtain ⟨b, hbd⟩ : ∃ b, b = lb x c.tables s := ⟨_, rfl⟩
        have HB := Lib.hid hbd.symm
        by_cases hE : num0 c ≤ b
        · have Ha := Lib.hid (by unfold accC; rw [if_neg k1, if_neg k2, if_pos k3, hP]; simp only [if_true]; rw [← hbd, if_pos hN, if_pos hE] : accC x s c = some ⟨3, num0 c⟩)
          clear k1 k2 k3 hnd hbd
          go_enter Tryz.func48, Tryz.ntmps48
          go_upto_region 11 with (first | (go_at_call 74; (with_reducible refine (implIsState_any [.int .i64 x.points, .string x.names, .slice A3 x.moves.length C3] x _ _ s _ _ (Rp.keep h0 (by with_reducible repeat (first | assumption | exact .refl _ _ | refine .drew ?_ | refine .alloc ?_ _ | refine .trans ?_ (by assumption)))) (Rp.keep hu (by with_reducible repeat (first | assumption | exact .refl _ _ | refine .drew ?_ | refine .alloc ?_ _ | refine .trans ?_ (by assumption))))).mono ?_); rintro e ws ⟨he, ts⟩; rw [hst] at he; subst he; have X1 := X0.keep ts; have Y1 := Y0.keep ts; have R1 := R0.keep ts; have KW : Only [] w ws := (by with_reducible repeat (first | assumption | exact .refl _ _ | refine .drew ?_ | refine .alloc ?_ _ | refine .trans ?_ (by assumption))); clear c0 c1 c2 d0 d1 d2 d3; have c0 := X1.cell 0 rfl; have c1 := X1.cell 1 rfl; have c2 := X1.cell 2 rfl; have d0 := Y1.cell 0 rfl; have d1 := Y1.cell 1 rfl; have d2 := Y1.cell 2 rfl; have d3 := Y1.cell 3 rfl) | fail "no arm")
          obtain ⟨W, hW⟩ : ∃ W, W = ws := ⟨_, rfl⟩
          rw [← hW] at X1 Y1 R1 KW c0 c1 c2 d0 d1 d2 d3 ⊢
          clear hW ts
          have XW := X1
          have YW := Y1
          have RW := R1
          have pW := Rp.keep h0 KW
          have cW := Rp.keep hc0 KW
          have uW := Rp.keep hu KW
          have cn := KW.cell (by simp) cn0
          have tW := Rp.keep i3 KW
          refine wp_region_held_drew (S := fun w' => Only [] W w' ∧ w'.cell? ⟨w.heap.size, 0, none⟩ = some (.int .i64 x.points) ∧ w'.cell? ⟨w.heap.size, 1, none⟩ = some (.string x.names) ∧ w'.cell? ⟨w.heap.size, 2, none⟩ = some (.slice A3 x.moves.length C3) ∧ w'.cell? ⟨w.heap.size + 1, 0, none⟩ = some (.int .i64 c.kind) ∧ w'.cell? ⟨w.heap.size + 1, 1, none⟩ = some (.slice (some ⟨bn, on, none⟩) c.numbers.length D1) ∧ w'.cell? ⟨w.heap.size + 1, 2, none⟩ = some (.slice B2 c.words.length D2) ∧ w'.cell? ⟨w.heap.size + 1, 3, none⟩ = some (.slice B3 c.tables.length D3) ∧ w'.cell? ⟨bn, on, none⟩ = some (.int .i64 (num0 c))) (by kernel_rfl) (and_of (Only.refl [] W).drew (fun h__ => ⟨h__.cell (by simp) c0, h__.cell (by simp) c1, h__.cell (by simp) c2, h__.cell (by simp) d0, h__.cell (by simp) d1, h__.cell (by simp) d2, h__.cell (by simp) d3, h__.cell (by simp) cn⟩)) (fun hHeld => ?_)
          (refine wpAnyH_take (i := 0) (v := ?v100) rfl (by kernel_rfl) (by kernel_rfl) (by kernel_rfl) (fun _ _ _ h => h) (Or.inl ⟨by rfl, ?hy100⟩) (by assumption) ?rest100); (case hy100 => (intro w__ hSw; (try dsimp only at hSw); go_simp; try with_reducible rfl)); (try simp only [Act.put, List.getElem_toArray, List.getElem_cons_zero, List.setIfInBounds_toArray, List.set_cons_zero, List.set_cons_succ])
          refine wpAnyH_ready (rs := [1]) (by kernel_rfl) (by simp) ?_
          refine AllReadyH.cons rfl (fun K hK => ?_) AllReadyH.nil
          go_simp
          (go_at_call 95; (with_reducible refine (hasParts_any [.int .i64 c.kind, .slice (some ⟨bn, on, none⟩) c.numbers.length D1, .slice B2 c.words.length D2, .slice B3 c.tables.length D3] c _ 1 0 true _ (Rp.keep cW (by with_reducible repeat (first | assumption | exact .refl _ _ | refine .drew ?_ | refine .alloc ?_ _ | refine .trans ?_ (by assumption))))).mono ?_); rintro e w1 ⟨he, t1⟩; rw [hP] at he; subst he)
          go_wp2_with fail
          refine hK.out _ _ ?hS101 (fun hHeld => ?rest101)
          case hS101 => ((refine and_of ?_ (fun h__ => ⟨h__.cell (by simp) c0, h__.cell (by simp) c1, h__.cell (by simp) c2, h__.cell (by simp) d0, h__.cell (by simp) d1, h__.cell (by simp) d2, h__.cell (by simp) d3, h__.cell (by simp) cn⟩)); first | exact Only.trans (And.left (by assumption)) (by assumption) | exact And.left (by assumption) | assumption)
          clear hK K
          (try simp only [Act.put, List.getElem_toArray, List.getElem_cons_zero, List.getElem_cons_succ, List.setIfInBounds_toArray, List.set_cons_zero, List.set_cons_succ])
          (refine wpAnyH_take (i := 2) (v := ?v102) rfl (by kernel_rfl) (by kernel_rfl) (by kernel_rfl) (fun _ _ _ h => h) (Or.inl ⟨by rfl, ?hy102⟩) (by assumption) ?rest102); (case hy102 => (intro w__ hSw; (try dsimp only at hSw); go_simp; try with_reducible rfl)); (try simp only [Act.put, List.getElem_toArray, List.getElem_cons_zero, List.getElem_cons_succ, List.setIfInBounds_toArray, List.set_cons_zero, List.set_cons_succ])
          (refine wpAnyH_take (i := 3) (v := ?v103) rfl (by kernel_rfl) (by kernel_rfl) (by kernel_rfl) (fun _ _ _ h => h) (Or.inl ⟨by rfl, ?hy103⟩) (by assumption) ?rest103); (case hy103 => (intro w__ hSw; (try dsimp only at hSw); go_simp; try with_reducible rfl)); (try simp only [Act.put, List.getElem_toArray, List.getElem_cons_zero, List.getElem_cons_succ, List.setIfInBounds_toArray, List.set_cons_zero, List.set_cons_succ])
          (refine wpAnyH_take (i := 4) (v := ?v104) rfl (by kernel_rfl) (by kernel_rfl) (by kernel_rfl) (fun _ _ _ h => h) (Or.inl ⟨by rfl, ?hy104⟩) (by assumption) ?rest104); (case hy104 => (intro w__ hSw; (try dsimp only at hSw); go_simp; try with_reducible rfl)); (try simp only [Act.put, List.getElem_toArray, List.getElem_cons_zero, List.getElem_cons_succ, List.setIfInBounds_toArray, List.set_cons_zero, List.set_cons_succ])
          (refine wpAnyH_take (i := 5) (v := ?v105) rfl (by kernel_rfl) (by kernel_rfl) (by kernel_rfl) (fun _ _ _ h => h) (Or.inl ⟨by rfl, ?hy105⟩) (by assumption) ?rest105); (case hy105 => (intro w__ hSw; (try dsimp only at hSw); go_simp; try with_reducible rfl)); (try simp only [Act.put, List.getElem_toArray, List.getElem_cons_zero, List.getElem_cons_succ, List.setIfInBounds_toArray, List.set_cons_zero, List.set_cons_succ])
          (refine wpAnyH_take (i := 6) (v := ?v106) rfl (by kernel_rfl) (by kernel_rfl) (by kernel_rfl) (fun _ _ _ h => h) (Or.inl ⟨by rfl, ?hy106⟩) (by assumption) ?rest106); (case hy106 => (intro w__ hSw; (try dsimp only at hSw); go_simp; try with_reducible rfl)); (try simp only [Act.put, List.getElem_toArray, List.getElem_cons_zero, List.getElem_cons_succ, List.setIfInBounds_toArray, List.set_cons_zero, List.set_cons_succ])
          (refine wpAnyH_take (i := 7) (v := ?v107) rfl (by kernel_rfl) (by kernel_rfl) (by kernel_rfl) (fun _ _ _ h => h) (Or.inl ⟨by rfl, ?hy107⟩) (by assumption) ?rest107); (case hy107 => (intro w__ hSw; (try dsimp only at hSw); go_simp; try with_reducible rfl)); (try simp only [Act.put, List.getElem_toArray, List.getElem_cons_zero, List.getElem_cons_succ, List.setIfInBounds_toArray, List.set_cons_zero, List.set_cons_succ])
          (refine wpAnyH_take (i := 8) (v := ?v108) rfl (by kernel_rfl) (by kernel_rfl) (by kernel_rfl) (fun _ _ _ h => h) (Or.inl ⟨by rfl, ?hy108⟩) (by assumption) ?rest108); (case hy108 => (intro w__ hSw; (try dsimp only at hSw); go_simp; try with_reducible rfl)); (try simp only [Act.put, List.getElem_toArray, List.getElem_cons_zero, List.getElem_cons_succ, List.setIfInBounds_toArray, List.set_cons_zero, List.set_cons_succ])
          (refine wpAnyH_take (i := 9) (v := ?v109) rfl (by kernel_rfl) (by kernel_rfl) (by kernel_rfl) (fun _ _ _ h => h) (Or.inl ⟨by rfl, ?hy109⟩) (by assumption) ?rest109); (case hy109 => (intro w__ hSw; (try dsimp only at hSw); go_simp; try with_reducible rfl)); (try simp only [Act.put, List.getElem_toArray, List.getElem_cons_zero, List.getElem_cons_succ, List.setIfInBounds_toArray, List.set_cons_zero, List.set_cons_succ])
          (refine wpAnyH_take (i := 10) (v := ?v110) rfl (by kernel_rfl) (by kernel_rfl) (by kernel_rfl) (fun _ _ _ h => h) (Or.inl ⟨by rfl, ?hy110⟩) (by assumption) ?rest110); (case hy110 => (intro w__ hSw; (try dsimp only at hSw); go_simp; try with_reducible rfl)); (try simp only [Act.put, List.getElem_toArray, List.getElem_cons_zero, List.getElem_cons_succ, List.setIfInBounds_toArray, List.set_cons_zero, List.set_cons_succ])
          (refine wpAnyH_take (i := 11) (v := ?v111) rfl (by kernel_rfl) (by kernel_rfl) (by kernel_rfl) (fun _ _ _ h => h) (Or.inl ⟨by rfl, ?hy111⟩) (by assumption) ?rest111); (case hy111 => (intro w__ hSw; (try dsimp only at hSw); go_simp; try with_reducible rfl)); (try simp only [Act.put, List.getElem_toArray, List.getElem_cons_zero, List.getElem_cons_succ, List.setIfInBounds_toArray, List.set_cons_zero, List.set_cons_succ])
          (refine wpAnyH_take (i := 12) (v := ?v112) rfl (by kernel_rfl) (by kernel_rfl) (by kernel_rfl) (fun _ _ _ h => h) (Or.inl ⟨by rfl, ?hy112⟩) (by assumption) ?rest112); (case hy112 => (intro w__ hSw; (try dsimp only at hSw); go_simp; try with_reducible rfl)); (try simp only [Act.put, List.getElem_toArray, List.getElem_cons_zero, List.getElem_cons_succ, List.setIfInBounds_toArray, List.set_cons_zero, List.set_cons_succ])
          (refine wpAnyH_take (i := 13) (v := ?v113) rfl (by kernel_rfl) (by kernel_rfl) (by kernel_rfl) (fun _ _ _ h => h) (Or.inl ⟨by rfl, ?hy113⟩) (by assumption) ?rest113); (case hy113 => (intro w__ hSw; (try dsimp only at hSw); go_simp; try with_reducible rfl)); (try simp only [Act.put, List.getElem_toArray, List.getElem_cons_zero, List.getElem_cons_succ, List.setIfInBounds_toArray, List.set_cons_zero, List.set_cons_succ])
          (refine wpAnyH_take (i := 15) (v := ?v114) rfl (by kernel_rfl) (by kernel_rfl) (by kernel_rfl) (fun _ _ _ h => h) (Or.inl ⟨by rfl, ?hy114⟩) (by assumption) ?rest114); (case hy114 => (intro w__ hSw; (try dsimp only at hSw); go_simp; try with_reducible rfl)); (try simp only [Act.put, List.getElem_toArray, List.getElem_cons_zero, List.getElem_cons_succ, List.setIfInBounds_toArray, List.set_cons_zero, List.set_cons_succ])
          (refine wpAnyH_take (i := 16) (v := ?v115) rfl (by kernel_rfl) (by kernel_rfl) (by kernel_rfl) (fun _ _ _ h => h) (Or.inl ⟨by rfl, ?hy115⟩) (by assumption) ?rest115); (case hy115 => (intro w__ hSw; (try dsimp only at hSw); go_simp; try with_reducible rfl)); (try simp only [Act.put, List.getElem_toArray, List.getElem_cons_zero, List.getElem_cons_succ, List.setIfInBounds_toArray, List.set_cons_zero, List.set_cons_succ])
          (refine wpAnyH_take (i := 17) (v := ?v116) rfl (by kernel_rfl) (by kernel_rfl) (by kernel_rfl) (fun _ _ _ h => h) (Or.inl ⟨by rfl, ?hy116⟩) (by assumption) ?rest116); (case hy116 => (intro w__ hSw; (try dsimp only at hSw); go_simp; try with_reducible rfl)); (try simp only [Act.put, List.getElem_toArray, List.getElem_cons_zero, List.getElem_cons_succ, List.setIfInBounds_toArray, List.set_cons_zero, List.set_cons_succ])
          (refine wpAnyH_take (i := 18) (v := ?v117) rfl (by kernel_rfl) (by kernel_rfl) (by kernel_rfl) (fun _ _ _ h => h) (Or.inl ⟨by rfl, ?hy117⟩) (by assumption) ?rest117); (case hy117 => (intro w__ hSw; (try dsimp only at hSw); go_simp; try with_reducible rfl)); (try simp only [Act.put, List.getElem_toArray, List.getElem_cons_zero, List.getElem_cons_succ, List.setIfInBounds_toArray, List.set_cons_zero, List.set_cons_succ])
          refine wpAnyH_ready (rs := [14]) (by kernel_rfl) (by simp) ?_
          refine AllReadyH.cons rfl (fun K hK => ?_) AllReadyH.nil
          go_simp
          (go_at_call 90; (with_reducible refine (implLowerBound_any [.int .i64 x.points, .string x.names, .slice A3 x.moves.length C3] x _ (.slice B3 c.tables.length D3) c.tables _ u s _ _ (Rp.keep pW (by with_reducible repeat (first | assumption | exact .refl _ _ | refine .drew ?_ | refine .alloc ?_ _ | refine .trans ?_ (by assumption)))) (Rp.keep tW (by with_reducible repeat (first | assumption | exact .refl _ _ | refine .drew ?_ | refine .alloc ?_ _ | refine .trans ?_ (by assumption)))) (Rp.keep uW (by with_reducible repeat (first | assumption | exact .refl _ _ | refine .drew ?_ | refine .alloc ?_ _ | refine .trans ?_ (by assumption)))) hsm).mono ?_); rintro e w3 ⟨he, t3⟩; rw [HB.out] at he; subst he)
          go_wp2_with fail
          refine hK.out _ _ ?hS118 (fun hHeld => ?rest118)
          case hS118 => ((refine and_of ?_ (fun h__ => ⟨h__.cell (by simp) c0, h__.cell (by simp) c1, h__.cell (by simp) c2, h__.cell (by simp) d0, h__.cell (by simp) d1, h__.cell (by simp) d2, h__.cell (by simp) d3, h__.cell (by simp) cn⟩)); first | exact Only.trans (And.left (by assumption)) (by assumption) | exact And.left (by assumption) | assumption)
          clear hK K
          (try simp only [Act.put, List.getElem_toArray, List.getElem_cons_zero, List.getElem_cons_succ, List.setIfInBounds_toArray, List.set_cons_zero, List.set_cons_succ])
          (refine wpAnyH_take (i := 19) (v := ?v119) rfl (by kernel_rfl) (by kernel_rfl) (by kernel_rfl) (fun _ _ _ h => h) (Or.inl ⟨by rfl, ?hy119⟩) (by assumption) ?rest119); (case hy119 => (intro w__ hSw; (try dsimp only at hSw); go_simp; try with_reducible rfl)); (try simp only [Act.put, List.getElem_toArray, List.getElem_cons_zero, List.getElem_cons_succ, List.setIfInBounds_toArray, List.set_cons_zero, List.set_cons_succ])
          (refine wpAnyH_take (i := 20) (v := ?v120) rfl (by kernel_rfl) (by kernel_rfl) (by kernel_rfl) (fun _ _ _ h => h) (Or.inl ⟨by rfl, ?hy120⟩) (by assumption) ?rest120); (case hy120 => (intro w__ hSw; (try dsimp only at hSw); go_simp; try with_reducible rfl)); (try simp only [Act.put, List.getElem_toArray, List.getElem_cons_zero, List.getElem_cons_succ, List.setIfInBounds_toArray, List.set_cons_zero, List.set_cons_succ])
          refine wpAnyH_done (by kernel_rfl) ?_ _
          have KL : Only [] W w3 := (by with_reducible repeat (first | assumption | exact .refl _ _ | refine .drew ?_ | refine .alloc ?_ _ | refine .trans ?_ (by assumption)))
          have RL := RW.keep KL
          have XL := XW.keep KL
          have YL := YW.keep KL
          have g0 := RL.cell 0 rfl
          have p0 := RL.frozen 0
          have g1 := RL.cell 1 rfl
          have p1 := RL.frozen 1
          have m0 := YL.cell 0 rfl
          have m1 := YL.cell 1 rfl
          have m2 := YL.cell 2 rfl
          have m3 := YL.cell 3 rfl
          have mn := KL.cell (by simp) cn
          go_wp2
          have Rf := (RL.set 0 (.int .i64 3)).set 1 (.int .i64 (num0 c))
          simp only [List.set] at Rf
          have z0 := Rf.cell 0 rfl
          have z1 := Rf.cell 1 rfl
          have Kf : Only [] w ((w3.setCell ⟨w.heap.size + 1 + 1, 0, none⟩ (.int .i64 3)).setCell ⟨w.heap.size + 1 + 1, 1, none⟩ (.int .i64 (num0 c))) := ((KW.trans KL).setCell (by simp; omega) _).setCell (by simp; omega) _
          refine bodyPost_ret (v := .tuple #[.agg #[.int .i64 3, .int .i64 (num0 c)], .bool true]) (by simp [results, Tryz.results48, go_sem, z0, z1]) rfl ⟨by rw [Ha.out]; rfl, Kf⟩
        · have Ha := Lib.hid (by unfold accC; rw [if_neg k1, if_neg k2, if_pos k3, hP]; simp only [if_true]; rw [← hbd, if_pos hN, if_neg hE] : accC x s c = none)
          clear k1 k2 k3 hnd hbd
          go_enter Tryz.func48, Tryz.ntmps48
          go_upto_region 11 with (first | (go_at_call 74; (with_reducible refine (implIsState_any [.int .i64 x.points, .string x.names, .slice A3 x.moves.length C3] x _ _ s _ _ (Rp.keep h0 (by with_reducible repeat (first | assumption | exact .refl _ _ | refine .drew ?_ | refine .alloc ?_ _ | refine .trans ?_ (by assumption)))) (Rp.keep hu (by with_reducible repeat (first | assumption | exact .refl _ _ | refine .drew ?_ | refine .alloc ?_ _ | refine .trans ?_ (by assumption))))).mono ?_); rintro e ws ⟨he, ts⟩; rw [hst] at he; subst he; have X1 := X0.keep ts; have Y1 := Y0.keep ts; have R1 := R0.keep ts; have KW : Only [] w ws := (by with_reducible repeat (first | assumption | exact .refl _ _ | refine .drew ?_ | refine .alloc ?_ _ | refine .trans ?_ (by assumption))); clear c0 c1 c2 d0 d1 d2 d3; have c0 := X1.cell 0 rfl; have c1 := X1.cell 1 rfl; have c2 := X1.cell 2 rfl; have d0 := Y1.cell 0 rfl; have d1 := Y1.cell 1 rfl; have d2 := Y1.cell 2 rfl; have d3 := Y1.cell 3 rfl) | fail "no arm")
          obtain ⟨W, hW⟩ : ∃ W, W = ws := ⟨_, rfl⟩
          rw [← hW] at X1 Y1 R1 KW c0 c1 c2 d0 d1 d2 d3 ⊢
          clear hW ts
          have XW := X1
          have YW := Y1
          have RW := R1
          have pW := Rp.keep h0 KW
          have cW := Rp.keep hc0 KW
          have uW := Rp.keep hu KW
          have cn := KW.cell (by simp) cn0
          have tW := Rp.keep i3 KW
          refine wp_region_held_drew (S := fun w' => Only [] W w' ∧ w'.cell? ⟨w.heap.size, 0, none⟩ = some (.int .i64 x.points) ∧ w'.cell? ⟨w.heap.size, 1, none⟩ = some (.string x.names) ∧ w'.cell? ⟨w.heap.size, 2, none⟩ = some (.slice A3 x.moves.length C3) ∧ w'.cell? ⟨w.heap.size + 1, 0, none⟩ = some (.int .i64 c.kind) ∧ w'.cell? ⟨w.heap.size + 1, 1, none⟩ = some (.slice (some ⟨bn, on, none⟩) c.numbers.length D1) ∧ w'.cell? ⟨w.heap.size + 1, 2, none⟩ = some (.slice B2 c.words.length D2) ∧ w'.cell? ⟨w.heap.size + 1, 3, none⟩ = some (.slice B3 c.tables.length D3) ∧ w'.cell? ⟨bn, on, none⟩ = some (.int .i64 (num0 c))) (by kernel_rfl) (and_of (Only.refl [] W).drew (fun h__ => ⟨h__.cell (by simp) c0, h__.cell (by simp) c1, h__.cell (by simp) c2, h__.cell (by simp) d0, h__.cell (by simp) d1, h__.cell (by simp) d2, h__.cell (by simp) d3, h__.cell (by simp) cn⟩)) (fun hHeld => ?_)
          (refine wpAnyH_take (i := 0) (v := ?v121) rfl (by kernel_rfl) (by kernel_rfl) (by kernel_rfl) (fun _ _ _ h => h) (Or.inl ⟨by rfl, ?hy121⟩) (by assumption) ?rest121); (case hy121 => (intro w__ hSw; (try dsimp only at hSw); go_simp; try with_reducible rfl)); (try simp only [Act.put, List.getElem_toArray, List.getElem_cons_zero, List.setIfInBounds_toArray, List.set_cons_zero, List.set_cons_succ])
          refine wpAnyH_ready (rs := [1]) (by kernel_rfl) (by simp) ?_
          refine AllReadyH.cons rfl (fun K hK => ?_) AllReadyH.nil
          go_simp
          (go_at_call 95; (with_reducible refine (hasParts_any [.int .i64 c.kind, .slice (some ⟨bn, on, none⟩) c.numbers.length D1, .slice B2 c.words.length D2, .slice B3 c.tables.length D3] c _ 1 0 true _ (Rp.keep cW (by with_reducible repeat (first | assumption | exact .refl _ _ | refine .drew ?_ | refine .alloc ?_ _ | refine .trans ?_ (by assumption))))).mono ?_); rintro e w1 ⟨he, t1⟩; rw [hP] at he; subst he)
          go_wp2_with fail
          refine hK.out _ _ ?hS122 (fun hHeld => ?rest122)
          case hS122 => ((refine and_of ?_ (fun h__ => ⟨h__.cell (by simp) c0, h__.cell (by simp) c1, h__.cell (by simp) c2, h__.cell (by simp) d0, h__.cell (by simp) d1, h__.cell (by simp) d2, h__.cell (by simp) d3, h__.cell (by simp) cn⟩)); first | exact Only.trans (And.left (by assumption)) (by assumption) | exact And.left (by assumption) | assumption)
          clear hK K
          (try simp only [Act.put, List.getElem_toArray, List.getElem_cons_zero, List.getElem_cons_succ, List.setIfInBounds_toArray, List.set_cons_zero, List.set_cons_succ])
          (refine wpAnyH_take (i := 2) (v := ?v123) rfl (by kernel_rfl) (by kernel_rfl) (by kernel_rfl) (fun _ _ _ h => h) (Or.inl ⟨by rfl, ?hy123⟩) (by assumption) ?rest123); (case hy123 => (intro w__ hSw; (try dsimp only at hSw); go_simp; try with_reducible rfl)); (try simp only [Act.put, List.getElem_toArray, List.getElem_cons_zero, List.getElem_cons_succ, List.setIfInBounds_toArray, List.set_cons_zero, List.set_cons_succ])
          (refine wpAnyH_take (i := 3) (v := ?v124) rfl (by kernel_rfl) (by kernel_rfl) (by kernel_rfl) (fun _ _ _ h => h) (Or.inl ⟨by rfl, ?hy124⟩) (by assumption) ?rest124); (case hy124 => (intro w__ hSw; (try dsimp only at hSw); go_simp; try with_reducible rfl)); (try simp only [Act.put, List.getElem_toArray, List.getElem_cons_zero, List.getElem_cons_succ, List.setIfInBounds_toArray, List.set_cons_zero, List.set_cons_succ])
          (refine wpAnyH_take (i := 4) (v := ?v125) rfl (by kernel_rfl) (by kernel_rfl) (by kernel_rfl) (fun _ _ _ h => h) (Or.inl ⟨by rfl, ?hy125⟩) (by assumption) ?rest125); (case hy125 => (intro w__ hSw; (try dsimp only at hSw); go_simp; try with_reducible rfl)); (try simp only [Act.put, List.getElem_toArray, List.getElem_cons_zero, List.getElem_cons_succ, List.setIfInBounds_toArray, List.set_cons_zero, List.set_cons_succ])
          (refine wpAnyH_take (i := 5) (v := ?v126) rfl (by kernel_rfl) (by kernel_rfl) (by kernel_rfl) (fun _ _ _ h => h) (Or.inl ⟨by rfl, ?hy126⟩) (by assumption) ?rest126); (case hy126 => (intro w__ hSw; (try dsimp only at hSw); go_simp; try with_reducible rfl)); (try simp only [Act.put, List.getElem_toArray, List.getElem_cons_zero, List.getElem_cons_succ, List.setIfInBounds_toArray, List.set_cons_zero, List.set_cons_succ])
          (refine wpAnyH_take (i := 6) (v := ?v127) rfl (by kernel_rfl) (by kernel_rfl) (by kernel_rfl) (fun _ _ _ h => h) (Or.inl ⟨by rfl, ?hy127⟩) (by assumption) ?rest127); (case hy127 => (intro w__ hSw; (try dsimp only at hSw); go_simp; try with_reducible rfl)); (try simp only [Act.put, List.getElem_toArray, List.getElem_cons_zero, List.getElem_cons_succ, List.setIfInBounds_toArray, List.set_cons_zero, List.set_cons_succ])
          (refine wpAnyH_take (i := 7) (v := ?v128) rfl (by kernel_rfl) (by kernel_rfl) (by kernel_rfl) (fun _ _ _ h => h) (Or.inl ⟨by rfl, ?hy128⟩) (by assumption) ?rest128); (case hy128 => (intro w__ hSw; (try dsimp only at hSw); go_simp; try with_reducible rfl)); (try simp only [Act.put, List.getElem_toArray, List.getElem_cons_zero, List.getElem_cons_succ, List.setIfInBounds_toArray, List.set_cons_zero, List.set_cons_succ])
          (refine wpAnyH_take (i := 8) (v := ?v129) rfl (by kernel_rfl) (by kernel_rfl) (by kernel_rfl) (fun _ _ _ h => h) (Or.inl ⟨by rfl, ?hy129⟩) (by assumption) ?rest129); (case hy129 => (intro w__ hSw; (try dsimp only at hSw); go_simp; try with_reducible rfl)); (try simp only [Act.put, List.getElem_toArray, List.getElem_cons_zero, List.getElem_cons_succ, List.setIfInBounds_toArray, List.set_cons_zero, List.set_cons_succ])
          (refine wpAnyH_take (i := 9) (v := ?v130) rfl (by kernel_rfl) (by kernel_rfl) (by kernel_rfl) (fun _ _ _ h => h) (Or.inl ⟨by rfl, ?hy130⟩) (by assumption) ?rest130); (case hy130 => (intro w__ hSw; (try dsimp only at hSw); go_simp; try with_reducible rfl)); (try simp only [Act.put, List.getElem_toArray, List.getElem_cons_zero, List.getElem_cons_succ, List.setIfInBounds_toArray, List.set_cons_zero, List.set_cons_succ])
          (refine wpAnyH_take (i := 10) (v := ?v131) rfl (by kernel_rfl) (by kernel_rfl) (by kernel_rfl) (fun _ _ _ h => h) (Or.inl ⟨by rfl, ?hy131⟩) (by assumption) ?rest131); (case hy131 => (intro w__ hSw; (try dsimp only at hSw); go_simp; try with_reducible rfl)); (try simp only [Act.put, List.getElem_toArray, List.getElem_cons_zero, List.getElem_cons_succ, List.setIfInBounds_toArray, List.set_cons_zero, List.set_cons_succ])
          (refine wpAnyH_take (i := 11) (v := ?v132) rfl (by kernel_rfl) (by kernel_rfl) (by kernel_rfl) (fun _ _ _ h => h) (Or.inl ⟨by rfl, ?hy132⟩) (by assumption) ?rest132); (case hy132 => (intro w__ hSw; (try dsimp only at hSw); go_simp; try with_reducible rfl)); (try simp only [Act.put, List.getElem_toArray, List.getElem_cons_zero, List.getElem_cons_succ, List.setIfInBounds_toArray, List.set_cons_zero, List.set_cons_succ])
          (refine wpAnyH_take (i := 12) (v := ?v133) rfl (by kernel_rfl) (by kernel_rfl) (by kernel_rfl) (fun _ _ _ h => h) (Or.inl ⟨by rfl, ?hy133⟩) (by assumption) ?rest133); (case hy133 => (intro w__ hSw; (try dsimp only at hSw); go_simp; try with_reducible rfl)); (try simp only [Act.put, List.getElem_toArray, List.getElem_cons_zero, List.getElem_cons_succ, List.setIfInBounds_toArray, List.set_cons_zero, List.set_cons_succ])
          (refine wpAnyH_take (i := 13) (v := ?v134) rfl (by kernel_rfl) (by kernel_rfl) (by kernel_rfl) (fun _ _ _ h => h) (Or.inl ⟨by rfl, ?hy134⟩) (by assumption) ?rest134); (case hy134 => (intro w__ hSw; (try dsimp only at hSw); go_simp; try with_reducible rfl)); (try simp only [Act.put, List.getElem_toArray, List.getElem_cons_zero, List.getElem_cons_succ, List.setIfInBounds_toArray, List.set_cons_zero, List.set_cons_succ])
          (refine wpAnyH_take (i := 15) (v := ?v135) rfl (by kernel_rfl) (by kernel_rfl) (by kernel_rfl) (fun _ _ _ h => h) (Or.inl ⟨by rfl, ?hy135⟩) (by assumption) ?rest135); (case hy135 => (intro w__ hSw; (try dsimp only at hSw); go_simp; try with_reducible rfl)); (try simp only [Act.put, List.getElem_toArray, List.getElem_cons_zero, List.getElem_cons_succ, List.setIfInBounds_toArray, List.set_cons_zero, List.set_cons_succ])
          (refine wpAnyH_take (i := 16) (v := ?v136) rfl (by kernel_rfl) (by kernel_rfl) (by kernel_rfl) (fun _ _ _ h => h) (Or.inl ⟨by rfl, ?hy136⟩) (by assumption) ?rest136); (case hy136 => (intro w__ hSw; (try dsimp only at hSw); go_simp; try with_reducible rfl)); (try simp only [Act.put, List.getElem_toArray, List.getElem_cons_zero, List.getElem_cons_succ, List.setIfInBounds_toArray, List.set_cons_zero, List.set_cons_succ])
          (refine wpAnyH_take (i := 17) (v := ?v137) rfl (by kernel_rfl) (by kernel_rfl) (by kernel_rfl) (fun _ _ _ h => h) (Or.inl ⟨by rfl, ?hy137⟩) (by assumption) ?rest137); (case hy137 => (intro w__ hSw; (try dsimp only at hSw); go_simp; try with_reducible rfl)); (try simp only [Act.put, List.getElem_toArray, List.getElem_cons_zero, List.getElem_cons_succ, List.setIfInBounds_toArray, List.set_cons_zero, List.set_cons_succ])
          (refine wpAnyH_take (i := 18) (v := ?v138) rfl (by kernel_rfl) (by kernel_rfl) (by kernel_rfl) (fun _ _ _ h => h) (Or.inl ⟨by rfl, ?hy138⟩) (by assumption) ?rest138); (case hy138 => (intro w__ hSw; (try dsimp only at hSw); go_simp; try with_reducible rfl)); (try simp only [Act.put, List.getElem_toArray, List.getElem_cons_zero, List.getElem_cons_succ, List.setIfInBounds_toArray, List.set_cons_zero, List.set_cons_succ])
          refine wpAnyH_ready (rs := [14]) (by kernel_rfl) (by simp) ?_
          refine AllReadyH.cons rfl (fun K hK => ?_) AllReadyH.nil
          go_simp
          (go_at_call 90; (with_reducible refine (implLowerBound_any [.int .i64 x.points, .string x.names, .slice A3 x.moves.length C3] x _ (.slice B3 c.tables.length D3) c.tables _ u s _ _ (Rp.keep pW (by with_reducible repeat (first | assumption | exact .refl _ _ | refine .drew ?_ | refine .alloc ?_ _ | refine .trans ?_ (by assumption)))) (Rp.keep tW (by with_reducible repeat (first | assumption | exact .refl _ _ | refine .drew ?_ | refine .alloc ?_ _ | refine .trans ?_ (by assumption)))) (Rp.keep uW (by with_reducible repeat (first | assumption | exact .refl _ _ | refine .drew ?_ | refine .alloc ?_ _ | refine .trans ?_ (by assumption)))) hsm).mono ?_); rintro e w3 ⟨he, t3⟩; rw [HB.out] at he; subst he)
          go_wp2_with fail
          refine hK.out _ _ ?hS139 (fun hHeld => ?rest139)
          case hS139 => ((refine and_of ?_ (fun h__ => ⟨h__.cell (by simp) c0, h__.cell (by simp) c1, h__.cell (by simp) c2, h__.cell (by simp) d0, h__.cell (by simp) d1, h__.cell (by simp) d2, h__.cell (by simp) d3, h__.cell (by simp) cn⟩)); first | exact Only.trans (And.left (by assumption)) (by assumption) | exact And.left (by assumption) | assumption)
          clear hK K
          (try simp only [Act.put, List.getElem_toArray, List.getElem_cons_zero, List.getElem_cons_succ, List.setIfInBounds_toArray, List.set_cons_zero, List.set_cons_succ])
          (refine wpAnyH_take (i := 19) (v := ?v140) rfl (by kernel_rfl) (by kernel_rfl) (by kernel_rfl) (fun _ _ _ h => h) (Or.inl ⟨by rfl, ?hy140⟩) (by assumption) ?rest140); (case hy140 => (intro w__ hSw; (try dsimp only at hSw); go_simp; try with_reducible rfl)); (try simp only [Act.put, List.getElem_toArray, List.getElem_cons_zero, List.getElem_cons_succ, List.setIfInBounds_toArray, List.set_cons_zero, List.set_cons_succ])
          (refine wpAnyH_take (i := 20) (v := ?v141) rfl (by kernel_rfl) (by kernel_rfl) (by kernel_rfl) (fun _ _ _ h => h) (Or.inl ⟨by rfl, ?hy141⟩) (by assumption) ?rest141); (case hy141 => (intro w__ hSw; (try dsimp only at hSw); go_simp; try with_reducible rfl)); (try simp only [Act.put, List.getElem_toArray, List.getElem_cons_zero, List.getElem_cons_succ, List.setIfInBounds_toArray, List.set_cons_zero, List.set_cons_succ])
          refine wpAnyH_done (by kernel_rfl) ?_ _
          have KL : Only [] W w3 := (by with_reducible repeat (first | assumption | exact .refl _ _ | refine .drew ?_ | refine .alloc ?_ _ | refine .trans ?_ (by assumption)))
          have RL := RW.keep KL
          have XL := XW.keep KL
          have YL := YW.keep KL
          have g0 := RL.cell 0 rfl
          have p0 := RL.frozen 0
          have g1 := RL.cell 1 rfl
          have p1 := RL.frozen 1
          have m0 := YL.cell 0 rfl
          have m1 := YL.cell 1 rfl
          have m2 := YL.cell 2 rfl
          have m3 := YL.cell 3 rfl
          go_wp2
          have Rf := (RL.set 0 (.int .i64 0)).set 1 (.int .i64 0)
          simp only [List.set] at Rf
          have z0 := Rf.cell 0 rfl
          have z1 := Rf.cell 1 rfl
          have Kf : Only [] w ((w3.setCell ⟨w.heap.size + 1 + 1, 0, none⟩ (.int .i64 0)).setCell ⟨w.heap.size + 1 + 1, 1, none⟩ (.int .i64 0)) := ((KW.trans KL).setCell (by simp; omega) _).setCell (by simp; omega) _
          refine bodyPost_ret (v := .tuple #[.agg #[.int .i64 0, .int .i64 0], .bool false]) (by simp [results, Tryz.results48, go_sem, z0, z1]) rfl ⟨by rw [Ha.out]; rfl, Kf⟩
      · have Ha := Lib.hid (by unfold accC; rw [if_neg k1, if_neg k2, if_pos k3, hP]; simp only [if_true]; rw [if_neg hN] : accC x s c = none)
        clear k1 k2 k3 hnd
        go_enter Tryz.func48, Tryz.ntmps48
        go_upto_region 11 with (first | (go_at_call 74; (with_reducible refine (implIsState_any [.int .i64 x.points, .string x.names, .slice A3 x.moves.length C3] x _ _ s _ _ (Rp.keep h0 (by with_reducible repeat (first | assumption | exact .refl _ _ | refine .drew ?_ | refine .alloc ?_ _ | refine .trans ?_ (by assumption)))) (Rp.keep hu (by with_reducible repeat (first | assumption | exact .refl _ _ | refine .drew ?_ | refine .alloc ?_ _ | refine .trans ?_ (by assumption))))).mono ?_); rintro e ws ⟨he, ts⟩; rw [hst] at he; subst he; have X1 := X0.keep ts; have Y1 := Y0.keep ts; have R1 := R0.keep ts; have KW : Only [] w ws := (by with_reducible repeat (first | assumption | exact .refl _ _ | refine .drew ?_ | refine .alloc ?_ _ | refine .trans ?_ (by assumption))); clear c0 c1 c2 d0 d1 d2 d3; have c0 := X1.cell 0 rfl; have c1 := X1.cell 1 rfl; have c2 := X1.cell 2 rfl; have d0 := Y1.cell 0 rfl; have d1 := Y1.cell 1 rfl; have d2 := Y1.cell 2 rfl; have d3 := Y1.cell 3 rfl) | fail "no arm")
        obtain ⟨W, hW⟩ : ∃ W, W = ws := ⟨_, rfl⟩
        rw [← hW] at X1 Y1 R1 KW c0 c1 c2 d0 d1 d2 d3 ⊢
        clear hW ts
        have XW := X1
        have YW := Y1
        have RW := R1
        have pW := Rp.keep h0 KW
        have cW := Rp.keep hc0 KW
        have uW := Rp.keep hu KW
        have cn := KW.cell (by simp) cn0
        have hNb : decide (0 ≤ num0 c) = false := decide_eq_false (by omega)
        clear hN
        refine wp_region_held_drew (S := fun w' => Only [] W w' ∧ w'.cell? ⟨w.heap.size, 0, none⟩ = some (.int .i64 x.points) ∧ w'.cell? ⟨w.heap.size, 1, none⟩ = some (.string x.names) ∧ w'.cell? ⟨w.heap.size, 2, none⟩ = some (.slice A3 x.moves.length C3) ∧ w'.cell? ⟨w.heap.size + 1, 0, none⟩ = some (.int .i64 c.kind) ∧ w'.cell? ⟨w.heap.size + 1, 1, none⟩ = some (.slice (some ⟨bn, on, none⟩) c.numbers.length D1) ∧ w'.cell? ⟨w.heap.size + 1, 2, none⟩ = some (.slice B2 c.words.length D2) ∧ w'.cell? ⟨w.heap.size + 1, 3, none⟩ = some (.slice B3 c.tables.length D3) ∧ w'.cell? ⟨bn, on, none⟩ = some (.int .i64 (num0 c))) (by kernel_rfl) (and_of (Only.refl [] W).drew (fun h__ => ⟨h__.cell (by simp) c0, h__.cell (by simp) c1, h__.cell (by simp) c2, h__.cell (by simp) d0, h__.cell (by simp) d1, h__.cell (by simp) d2, h__.cell (by simp) d3, h__.cell (by simp) cn⟩)) (fun hHeld => ?_)
        (refine wpAnyH_take (i := 0) (v := ?v142) rfl (by kernel_rfl) (by kernel_rfl) (by kernel_rfl) (fun _ _ _ h => h) (Or.inl ⟨by rfl, ?hy142⟩) (by assumption) ?rest142); (case hy142 => (intro w__ hSw; (try dsimp only at hSw); go_simp; try with_reducible rfl)); (try simp only [Act.put, List.getElem_toArray, List.getElem_cons_zero, List.setIfInBounds_toArray, List.set_cons_zero, List.set_cons_succ])
        refine wpAnyH_ready (rs := [1]) (by kernel_rfl) (by simp) ?_
        refine AllReadyH.cons rfl (fun K hK => ?_) AllReadyH.nil
        go_simp
        (go_at_call 95; (with_reducible refine (hasParts_any [.int .i64 c.kind, .slice (some ⟨bn, on, none⟩) c.numbers.length D1, .slice B2 c.words.length D2, .slice B3 c.tables.length D3] c _ 1 0 true _ (Rp.keep cW (by with_reducible repeat (first | assumption | exact .refl _ _ | refine .drew ?_ | refine .alloc ?_ _ | refine .trans ?_ (by assumption))))).mono ?_); rintro e w1 ⟨he, t1⟩; rw [hP] at he; subst he)
        go_wp2_with fail
        refine hK.out _ _ ?hS143 (fun hHeld => ?rest143)
        case hS143 => ((refine and_of ?_ (fun h__ => ⟨h__.cell (by simp) c0, h__.cell (by simp) c1, h__.cell (by simp) c2, h__.cell (by simp) d0, h__.cell (by simp) d1, h__.cell (by simp) d2, h__.cell (by simp) d3, h__.cell (by simp) cn⟩)); first | exact Only.trans (And.left (by assumption)) (by assumption) | exact And.left (by assumption) | assumption)
        clear hK K
        (try simp only [Act.put, List.getElem_toArray, List.getElem_cons_zero, List.getElem_cons_succ, List.setIfInBounds_toArray, List.set_cons_zero, List.set_cons_succ])
        (refine wpAnyH_take (i := 2) (v := ?v144) rfl (by kernel_rfl) (by kernel_rfl) (by kernel_rfl) (fun _ _ _ h => h) (Or.inl ⟨by rfl, ?hy144⟩) (by assumption) ?rest144); (case hy144 => (intro w__ hSw; (try dsimp only at hSw); go_simp; try with_reducible rfl)); (try simp only [Act.put, List.getElem_toArray, List.getElem_cons_zero, List.getElem_cons_succ, List.setIfInBounds_toArray, List.set_cons_zero, List.set_cons_succ])
        (refine wpAnyH_take (i := 3) (v := ?v145) rfl (by kernel_rfl) (by kernel_rfl) (by kernel_rfl) (fun _ _ _ h => h) (Or.inl ⟨by rfl, ?hy145⟩) (by assumption) ?rest145); (case hy145 => (intro w__ hSw; (try dsimp only at hSw); go_simp; try with_reducible rfl)); (try simp only [Act.put, List.getElem_toArray, List.getElem_cons_zero, List.getElem_cons_succ, List.setIfInBounds_toArray, List.set_cons_zero, List.set_cons_succ])
        (refine wpAnyH_take (i := 4) (v := ?v146) rfl (by kernel_rfl) (by kernel_rfl) (by kernel_rfl) (fun _ _ _ h => h) (Or.inl ⟨by rfl, ?hy146⟩) (by assumption) ?rest146); (case hy146 => (intro w__ hSw; (try dsimp only at hSw); go_simp; try with_reducible rfl)); (try simp only [Act.put, List.getElem_toArray, List.getElem_cons_zero, List.getElem_cons_succ, List.setIfInBounds_toArray, List.set_cons_zero, List.set_cons_succ])
        (refine wpAnyH_take (i := 5) (v := ?v147) rfl (by kernel_rfl) (by kernel_rfl) (by kernel_rfl) (fun _ _ _ h => h) (Or.inl ⟨by rfl, ?hy147⟩) (by assumption) ?rest147); (case hy147 => (intro w__ hSw; (try dsimp only at hSw); go_simp; try with_reducible rfl)); (try simp only [Act.put, List.getElem_toArray, List.getElem_cons_zero, List.getElem_cons_succ, List.setIfInBounds_toArray, List.set_cons_zero, List.set_cons_succ])
        (refine wpAnyH_take (i := 6) (v := ?v148) rfl (by kernel_rfl) (by kernel_rfl) (by kernel_rfl) (fun _ _ _ h => h) (Or.inl ⟨by rfl, ?hy148⟩) (by assumption) ?rest148); (case hy148 => (intro w__ hSw; (try dsimp only at hSw); go_simp; try with_reducible rfl)); (try simp only [Act.put, List.getElem_toArray, List.getElem_cons_zero, List.getElem_cons_succ, List.setIfInBounds_toArray, List.set_cons_zero, List.set_cons_succ])
        (refine wpAnyH_take (i := 7) (v := ?v149) rfl (by kernel_rfl) (by kernel_rfl) (by kernel_rfl) (fun _ _ _ h => h) (Or.inl ⟨by rfl, ?hy149⟩) (by assumption) ?rest149); (case hy149 => (intro w__ hSw; (try dsimp only at hSw); go_simp; try with_reducible rfl)); (try simp only [Act.put, List.getElem_toArray, List.getElem_cons_zero, List.getElem_cons_succ, List.setIfInBounds_toArray, List.set_cons_zero, List.set_cons_succ])
        (refine wpAnyH_take (i := 8) (v := ?v150) rfl (by kernel_rfl) (by kernel_rfl) (by kernel_rfl) (fun _ _ _ h => h) (Or.inl ⟨by rfl, ?hy150⟩) (by assumption) ?rest150); (case hy150 => (intro w__ hSw; (try dsimp only at hSw); go_simp; try with_reducible rfl)); (try simp only [Act.put, List.getElem_toArray, List.getElem_cons_zero, List.getElem_cons_succ, List.setIfInBounds_toArray, List.set_cons_zero, List.set_cons_succ])
        (refine wpAnyH_take (i := 9) (v := ?v151) rfl (by kernel_rfl) (by kernel_rfl) (by kernel_rfl) (fun _ _ _ h => h) (Or.inl ⟨by rfl, ?hy151⟩) (by assumption) ?rest151); (case hy151 => (intro w__ hSw; (try dsimp only at hSw); go_simp; try with_reducible rfl)); (try simp only [Act.put, List.getElem_toArray, List.getElem_cons_zero, List.getElem_cons_succ, List.setIfInBounds_toArray, List.set_cons_zero, List.set_cons_succ])
        (refine wpAnyH_take (i := 10) (v := undef) rfl (by kernel_rfl) (by kernel_rfl) (by kernel_rfl) (fun _ _ _ h => h) (Or.inr ⟨by rfl, rfl⟩) (by assumption) ?_); (try simp only [Act.put, List.getElem_toArray, List.getElem_cons_zero, List.getElem_cons_succ, List.setIfInBounds_toArray, List.set_cons_zero, List.set_cons_succ])
        (refine wpAnyH_take (i := 11) (v := undef) rfl (by kernel_rfl) (by kernel_rfl) (by kernel_rfl) (fun _ _ _ h => h) (Or.inr ⟨by rfl, rfl⟩) (by assumption) ?_); (try simp only [Act.put, List.getElem_toArray, List.getElem_cons_zero, List.getElem_cons_succ, List.setIfInBounds_toArray, List.set_cons_zero, List.set_cons_succ])
        (refine wpAnyH_take (i := 12) (v := undef) rfl (by kernel_rfl) (by kernel_rfl) (by kernel_rfl) (fun _ _ _ h => h) (Or.inr ⟨by rfl, rfl⟩) (by assumption) ?_); (try simp only [Act.put, List.getElem_toArray, List.getElem_cons_zero, List.getElem_cons_succ, List.setIfInBounds_toArray, List.set_cons_zero, List.set_cons_succ])
        (refine wpAnyH_take (i := 13) (v := undef) rfl (by kernel_rfl) (by kernel_rfl) (by kernel_rfl) (fun _ _ _ h => h) (Or.inr ⟨by rfl, rfl⟩) (by assumption) ?_); (try simp only [Act.put, List.getElem_toArray, List.getElem_cons_zero, List.getElem_cons_succ, List.setIfInBounds_toArray, List.set_cons_zero, List.set_cons_succ])
        (refine wpAnyH_take (i := 14) (v := undef) rfl (by kernel_rfl) (by kernel_rfl) (by kernel_rfl) (fun _ _ _ h => h) (Or.inr ⟨by rfl, rfl⟩) (by assumption) ?_); (try simp only [Act.put, List.getElem_toArray, List.getElem_cons_zero, List.getElem_cons_succ, List.setIfInBounds_toArray, List.set_cons_zero, List.set_cons_succ])
        (refine wpAnyH_take (i := 15) (v := undef) rfl (by kernel_rfl) (by kernel_rfl) (by kernel_rfl) (fun _ _ _ h => h) (Or.inr ⟨by rfl, rfl⟩) (by assumption) ?_); (try simp only [Act.put, List.getElem_toArray, List.getElem_cons_zero, List.getElem_cons_succ, List.setIfInBounds_toArray, List.set_cons_zero, List.set_cons_succ])
        (refine wpAnyH_take (i := 16) (v := undef) rfl (by kernel_rfl) (by kernel_rfl) (by kernel_rfl) (fun _ _ _ h => h) (Or.inr ⟨by rfl, rfl⟩) (by assumption) ?_); (try simp only [Act.put, List.getElem_toArray, List.getElem_cons_zero, List.getElem_cons_succ, List.setIfInBounds_toArray, List.set_cons_zero, List.set_cons_succ])
        (refine wpAnyH_take (i := 17) (v := undef) rfl (by kernel_rfl) (by kernel_rfl) (by kernel_rfl) (fun _ _ _ h => h) (Or.inr ⟨by rfl, rfl⟩) (by assumption) ?_); (try simp only [Act.put, List.getElem_toArray, List.getElem_cons_zero, List.getElem_cons_succ, List.setIfInBounds_toArray, List.set_cons_zero, List.set_cons_succ])
        (refine wpAnyH_take (i := 18) (v := undef) rfl (by kernel_rfl) (by kernel_rfl) (by kernel_rfl) (fun _ _ _ h => h) (Or.inr ⟨by rfl, rfl⟩) (by assumption) ?_); (try simp only [Act.put, List.getElem_toArray, List.getElem_cons_zero, List.getElem_cons_succ, List.setIfInBounds_toArray, List.set_cons_zero, List.set_cons_succ])
        (refine wpAnyH_take (i := 19) (v := undef) rfl (by kernel_rfl) (by kernel_rfl) (by kernel_rfl) (fun _ _ _ h => h) (Or.inr ⟨by rfl, rfl⟩) (by assumption) ?_); (try simp only [Act.put, List.getElem_toArray, List.getElem_cons_zero, List.getElem_cons_succ, List.setIfInBounds_toArray, List.set_cons_zero, List.set_cons_succ])
        (refine wpAnyH_take (i := 20) (v := ?v152) rfl (by kernel_rfl) (by kernel_rfl) (by kernel_rfl) (fun _ _ _ h => h) (Or.inl ⟨by rfl, ?hy152⟩) (by assumption) ?rest152); (case hy152 => (intro w__ hSw; (try dsimp only at hSw); go_simp; try with_reducible rfl)); (try simp only [Act.put, List.getElem_toArray, List.getElem_cons_zero, List.getElem_cons_succ, List.setIfInBounds_toArray, List.set_cons_zero, List.set_cons_succ])
        refine wpAnyH_done (by kernel_rfl) ?_ _
        have KL : Only [] W w1 := (by with_reducible repeat (first | assumption | exact .refl _ _ | refine .drew ?_ | refine .alloc ?_ _ | refine .trans ?_ (by assumption)))
        have RL := RW.keep KL
        have XL := XW.keep KL
        have YL := YW.keep KL
        have g0 := RL.cell 0 rfl
        have p0 := RL.frozen 0
        have g1 := RL.cell 1 rfl
        have p1 := RL.frozen 1
        have m0 := YL.cell 0 rfl
        have m1 := YL.cell 1 rfl
        have m2 := YL.cell 2 rfl
        have m3 := YL.cell 3 rfl
        go_wp2
        have Rf := (RL.set 0 (.int .i64 0)).set 1 (.int .i64 0)
        simp only [List.set] at Rf
        have z0 := Rf.cell 0 rfl
        have z1 := Rf.cell 1 rfl
        have Kf : Only [] w ((w1.setCell ⟨w.heap.size + 1 + 1, 0, none⟩ (.int .i64 0)).setCell ⟨w.heap.size + 1 + 1, 1, none⟩ (.int .i64 0)) := ((KW.trans KL).setCell (by simp; omega) _).setCell (by simp; omega) _
        refine bodyPost_ret (v := .tuple #[.agg #[.int .i64 0, .int .i64 0], .bool false]) (by simp [results, Tryz.results48, go_sem, z0, z1]) rfl ⟨by rw [Ha.out]; rfl, Kf⟩
  have kb3 : (c.kind == 3) = false := by simp [k3]
  by_cases k4 : c.kind = 4
  · have kb : (c.kind == 4) = true := by simp [k4]
    rcases hP : hasP c 0 0 false
    · have Ha := Lib.hid (by unfold accC; rw [if_neg k1, if_neg k2, if_neg k3, if_pos k4, hP]; rfl : accC x s c = none)
      clear k1 k2 k3 k4
      go_enter Tryz.func48, Tryz.ntmps48
      go_upto_region 14 with (first | (go_at_call 74; (with_reducible refine (implIsState_any [.int .i64 x.points, .string x.names, .slice A3 x.moves.length C3] x _ _ s _ _ (Rp.keep h0 (by with_reducible repeat (first | assumption | exact .refl _ _ | refine .drew ?_ | refine .alloc ?_ _ | refine .trans ?_ (by assumption)))) (Rp.keep hu (by with_reducible repeat (first | assumption | exact .refl _ _ | refine .drew ?_ | refine .alloc ?_ _ | refine .trans ?_ (by assumption))))).mono ?_); rintro e ws ⟨he, ts⟩; rw [hst] at he; subst he; have X1 := X0.keep ts; have Y1 := Y0.keep ts; have R1 := R0.keep ts; have KW : Only [] w ws := (by with_reducible repeat (first | assumption | exact .refl _ _ | refine .drew ?_ | refine .alloc ?_ _ | refine .trans ?_ (by assumption))); clear c0 c1 c2 d0 d1 d2 d3; have c0 := X1.cell 0 rfl; have c1 := X1.cell 1 rfl; have c2 := X1.cell 2 rfl; have d0 := Y1.cell 0 rfl; have d1 := Y1.cell 1 rfl; have d2 := Y1.cell 2 rfl; have d3 := Y1.cell 3 rfl) | fail "no arm")
      obtain ⟨W, hW⟩ : ∃ W, W = ws := ⟨_, rfl⟩
      rw [← hW] at X1 Y1 R1 KW c0 c1 c2 d0 d1 d2 d3 ⊢
      clear hW ts
      have XW := X1
      have YW := Y1
      have RW := R1
      have pW := Rp.keep h0 KW
      have cW := Rp.keep hc0 KW
      have uW := Rp.keep hu KW
      go_wp2_with (first | (go_at_call 95; (with_reducible refine (hasParts_any [.int .i64 c.kind, .slice B1 c.numbers.length D1, .slice B2 c.words.length D2, .slice B3 c.tables.length D3] c _ 0 0 false _ (Rp.keep cW (by with_reducible repeat (first | assumption | exact .refl _ _ | refine .drew ?_ | refine .alloc ?_ _ | refine .trans ?_ (by assumption))))).mono ?_); rintro e w1 ⟨he, t1⟩; rw [hP] at he; subst he; have KL := t1; have RL := RW.keep KL; have XL := XW.keep KL; have g0 := RL.cell 0 rfl; have g1 := RL.cell 1 rfl; have p0 := RL.frozen 0; have p1 := RL.frozen 1; have n0 := XL.cell 0 rfl; have n1 := XL.cell 1 rfl; have n2 := XL.cell 2 rfl) | fail "no arm")
      have Rf := (RL.set 0 (.int .i64 0)).set 1 (.int .i64 0)
      simp only [List.set] at Rf
      have z0 := Rf.cell 0 rfl
      have z1 := Rf.cell 1 rfl
      have Kf : Only [] w ((w1.setCell ⟨w.heap.size + 1 + 1, 0, none⟩ (.int .i64 0)).setCell ⟨w.heap.size + 1 + 1, 1, none⟩ (.int .i64 0)) := ((KW.trans KL).setCell (by simp; omega) _).setCell (by simp; omega) _
      refine bodyPost_ret (v := .tuple #[.agg #[.int .i64 0, .int .i64 0], .bool false]) (by simp [results, Tryz.results48, go_sem, z0, z1]) rfl ⟨by rw [Ha.out]; rfl, Kf⟩
    · rcases hR : reachB x s
      · have Ha := Lib.hid (by unfold accC; rw [if_neg k1, if_neg k2, if_neg k3, if_pos k4, hP, hR]; rfl : accC x s c = some ⟨4, 0⟩)
        clear k1 k2 k3 k4
        go_enter Tryz.func48, Tryz.ntmps48
        go_upto_region 14 with (first | (go_at_call 74; (with_reducible refine (implIsState_any [.int .i64 x.points, .string x.names, .slice A3 x.moves.length C3] x _ _ s _ _ (Rp.keep h0 (by with_reducible repeat (first | assumption | exact .refl _ _ | refine .drew ?_ | refine .alloc ?_ _ | refine .trans ?_ (by assumption)))) (Rp.keep hu (by with_reducible repeat (first | assumption | exact .refl _ _ | refine .drew ?_ | refine .alloc ?_ _ | refine .trans ?_ (by assumption))))).mono ?_); rintro e ws ⟨he, ts⟩; rw [hst] at he; subst he; have X1 := X0.keep ts; have Y1 := Y0.keep ts; have R1 := R0.keep ts; have KW : Only [] w ws := (by with_reducible repeat (first | assumption | exact .refl _ _ | refine .drew ?_ | refine .alloc ?_ _ | refine .trans ?_ (by assumption))); clear c0 c1 c2 d0 d1 d2 d3; have c0 := X1.cell 0 rfl; have c1 := X1.cell 1 rfl; have c2 := X1.cell 2 rfl; have d0 := Y1.cell 0 rfl; have d1 := Y1.cell 1 rfl; have d2 := Y1.cell 2 rfl; have d3 := Y1.cell 3 rfl) | fail "no arm")
        obtain ⟨W, hW⟩ : ∃ W, W = ws := ⟨_, rfl⟩
        rw [← hW] at X1 Y1 R1 KW c0 c1 c2 d0 d1 d2 d3 ⊢
        clear hW ts
        have XW := X1
        have YW := Y1
        have RW := R1
        have pW := Rp.keep h0 KW
        have cW := Rp.keep hc0 KW
        have uW := Rp.keep hu KW
        go_wp2_with (first | (go_at_call 95; (with_reducible refine (hasParts_any [.int .i64 c.kind, .slice B1 c.numbers.length D1, .slice B2 c.words.length D2, .slice B3 c.tables.length D3] c _ 0 0 false _ (Rp.keep cW (by with_reducible repeat (first | assumption | exact .refl _ _ | refine .drew ?_ | refine .alloc ?_ _ | refine .trans ?_ (by assumption))))).mono ?_); rintro e w1 ⟨he, t1⟩; rw [hP] at he; subst he; have KL := t1; have RL := RW.keep KL; have XL := XW.keep KL; have g0 := RL.cell 0 rfl; have g1 := RL.cell 1 rfl; have p0 := RL.frozen 0; have p1 := RL.frozen 1; have n0 := XL.cell 0 rfl; have n1 := XL.cell 1 rfl; have n2 := XL.cell 2 rfl) | (go_at_call 75; (with_reducible refine (implIsReachable_any [.int .i64 x.points, .string x.names, .slice A3 x.moves.length C3] x _ u s _ _ (Rp.keep pW (by with_reducible repeat (first | assumption | exact .refl _ _ | refine .drew ?_ | refine .alloc ?_ _ | refine .trans ?_ (by assumption)))) (Rp.keep uW (by with_reducible repeat (first | assumption | exact .refl _ _ | refine .drew ?_ | refine .alloc ?_ _ | refine .trans ?_ (by assumption))))).mono ?_); rintro e w2 ⟨he, t2⟩; rw [hR] at he; subst he; have KL2 := KL.trans t2; clear KL RL XL g0 g1 p0 p1 n0 n1 n2; have KL := KL2; have RL := RW.keep KL; have g0 := RL.cell 0 rfl; have g1 := RL.cell 1 rfl; have p0 := RL.frozen 0; have p1 := RL.frozen 1) | fail "no arm")
        have Rf := (RL.set 0 (.int .i64 4)).set 1 (.int .i64 0)
        simp only [List.set] at Rf
        have z0 := Rf.cell 0 rfl
        have z1 := Rf.cell 1 rfl
        have Kf : Only [] w ((w2.setCell ⟨w.heap.size + 1 + 1, 0, none⟩ (.int .i64 4)).setCell ⟨w.heap.size + 1 + 1, 1, none⟩ (.int .i64 0)) := ((KW.trans KL).setCell (by simp; omega) _).setCell (by simp; omega) _
        refine bodyPost_ret (v := .tuple #[.agg #[.int .i64 4, .int .i64 0], .bool true]) (by simp [results, Tryz.results48, go_sem, z0, z1]) rfl ⟨by rw [Ha.out]; rfl, Kf⟩
      · have Ha := Lib.hid (by unfold accC; rw [if_neg k1, if_neg k2, if_neg k3, if_pos k4, hP, hR]; rfl : accC x s c = none)
        clear k1 k2 k3 k4
        go_enter Tryz.func48, Tryz.ntmps48
        go_upto_region 14 with (first | (go_at_call 74; (with_reducible refine (implIsState_any [.int .i64 x.points, .string x.names, .slice A3 x.moves.length C3] x _ _ s _ _ (Rp.keep h0 (by with_reducible repeat (first | assumption | exact .refl _ _ | refine .drew ?_ | refine .alloc ?_ _ | refine .trans ?_ (by assumption)))) (Rp.keep hu (by with_reducible repeat (first | assumption | exact .refl _ _ | refine .drew ?_ | refine .alloc ?_ _ | refine .trans ?_ (by assumption))))).mono ?_); rintro e ws ⟨he, ts⟩; rw [hst] at he; subst he; have X1 := X0.keep ts; have Y1 := Y0.keep ts; have R1 := R0.keep ts; have KW : Only [] w ws := (by with_reducible repeat (first | assumption | exact .refl _ _ | refine .drew ?_ | refine .alloc ?_ _ | refine .trans ?_ (by assumption))); clear c0 c1 c2 d0 d1 d2 d3; have c0 := X1.cell 0 rfl; have c1 := X1.cell 1 rfl; have c2 := X1.cell 2 rfl; have d0 := Y1.cell 0 rfl; have d1 := Y1.cell 1 rfl; have d2 := Y1.cell 2 rfl; have d3 := Y1.cell 3 rfl) | fail "no arm")
        obtain ⟨W, hW⟩ : ∃ W, W = ws := ⟨_, rfl⟩
        rw [← hW] at X1 Y1 R1 KW c0 c1 c2 d0 d1 d2 d3 ⊢
        clear hW ts
        have XW := X1
        have YW := Y1
        have RW := R1
        have pW := Rp.keep h0 KW
        have cW := Rp.keep hc0 KW
        have uW := Rp.keep hu KW
        go_wp2_with (first | (go_at_call 95; (with_reducible refine (hasParts_any [.int .i64 c.kind, .slice B1 c.numbers.length D1, .slice B2 c.words.length D2, .slice B3 c.tables.length D3] c _ 0 0 false _ (Rp.keep cW (by with_reducible repeat (first | assumption | exact .refl _ _ | refine .drew ?_ | refine .alloc ?_ _ | refine .trans ?_ (by assumption))))).mono ?_); rintro e w1 ⟨he, t1⟩; rw [hP] at he; subst he; have KL := t1; have RL := RW.keep KL; have XL := XW.keep KL; have g0 := RL.cell 0 rfl; have g1 := RL.cell 1 rfl; have p0 := RL.frozen 0; have p1 := RL.frozen 1; have n0 := XL.cell 0 rfl; have n1 := XL.cell 1 rfl; have n2 := XL.cell 2 rfl) | (go_at_call 75; (with_reducible refine (implIsReachable_any [.int .i64 x.points, .string x.names, .slice A3 x.moves.length C3] x _ u s _ _ (Rp.keep pW (by with_reducible repeat (first | assumption | exact .refl _ _ | refine .drew ?_ | refine .alloc ?_ _ | refine .trans ?_ (by assumption)))) (Rp.keep uW (by with_reducible repeat (first | assumption | exact .refl _ _ | refine .drew ?_ | refine .alloc ?_ _ | refine .trans ?_ (by assumption))))).mono ?_); rintro e w2 ⟨he, t2⟩; rw [hR] at he; subst he; have KL2 := KL.trans t2; clear KL RL XL g0 g1 p0 p1 n0 n1 n2; have KL := KL2; have RL := RW.keep KL; have g0 := RL.cell 0 rfl; have g1 := RL.cell 1 rfl; have p0 := RL.frozen 0; have p1 := RL.frozen 1) | fail "no arm")
        have Rf := (RL.set 0 (.int .i64 0)).set 1 (.int .i64 0)
        simp only [List.set] at Rf
        have z0 := Rf.cell 0 rfl
        have z1 := Rf.cell 1 rfl
        have Kf : Only [] w ((w2.setCell ⟨w.heap.size + 1 + 1, 0, none⟩ (.int .i64 0)).setCell ⟨w.heap.size + 1 + 1, 1, none⟩ (.int .i64 0)) := ((KW.trans KL).setCell (by simp; omega) _).setCell (by simp; omega) _
        refine bodyPost_ret (v := .tuple #[.agg #[.int .i64 0, .int .i64 0], .bool false]) (by simp [results, Tryz.results48, go_sem, z0, z1]) rfl ⟨by rw [Ha.out]; rfl, Kf⟩
  have kb4 : (c.kind == 4) = false := by simp [k4]
  have Ha := Lib.hid (by unfold accC; rw [if_neg k1, if_neg k2, if_neg k3, if_neg k4] : accC x s c = none)
  clear k1 k2 k3 k4
  go_enter Tryz.func48, Tryz.ntmps48
  go_upto_region 16 with (first | (go_at_call 74; (with_reducible refine (implIsState_any [.int .i64 x.points, .string x.names, .slice A3 x.moves.length C3] x _ _ s _ _ (Rp.keep h0 (by with_reducible repeat (first | assumption | exact .refl _ _ | refine .drew ?_ | refine .alloc ?_ _ | refine .trans ?_ (by assumption)))) (Rp.keep hu (by with_reducible repeat (first | assumption | exact .refl _ _ | refine .drew ?_ | refine .alloc ?_ _ | refine .trans ?_ (by assumption))))).mono ?_); rintro e ws ⟨he, ts⟩; rw [hst] at he; subst he; have X1 := X0.keep ts; have Y1 := Y0.keep ts; have R1 := R0.keep ts; have KW : Only [] w ws := (by with_reducible repeat (first | assumption | exact .refl _ _ | refine .drew ?_ | refine .alloc ?_ _ | refine .trans ?_ (by assumption))); clear c0 c1 c2 d0 d1 d2 d3; have c0 := X1.cell 0 rfl; have c1 := X1.cell 1 rfl; have c2 := X1.cell 2 rfl; have d0 := Y1.cell 0 rfl; have d1 := Y1.cell 1 rfl; have d2 := Y1.cell 2 rfl; have d3 := Y1.cell 3 rfl) | fail "no arm")
  obtain ⟨W, hW⟩ : ∃ W, W = ws := ⟨_, rfl⟩
  rw [← hW] at X1 Y1 R1 KW c0 c1 c2 d0 d1 d2 d3 ⊢
  clear hW ts
  have XW := X1
  have YW := Y1
  have RW := R1
  have pW := Rp.keep h0 KW
  have cW := Rp.keep hc0 KW
  have uW := Rp.keep hu KW
  have KL := Only.refl [] W
  have RL := RW
  have g0 := RL.cell 0 rfl
  have g1 := RL.cell 1 rfl
  have p0 := RL.frozen 0
  have p1 := RL.frozen 1
  go_wp2
  have Rf := (RL.set 0 (.int .i64 0)).set 1 (.int .i64 0)
  simp only [List.set] at Rf
  have z0 := Rf.cell 0 rfl
  have z1 := Rf.cell 1 rfl
  have Kf : Only [] w ((W.setCell ⟨w.heap.size + 1 + 1, 0, none⟩ (.int .i64 0)).setCell ⟨w.heap.size + 1 + 1, 1, none⟩ (.int .i64 0)) := ((KW.trans KL).setCell (by simp; omega) _).setCell (by simp; omega) _
  refine bodyPost_ret (v := .tuple #[.agg #[.int .i64 0, .int .i64 0], .bool false]) (by simp [results, Tryz.results48, go_sem, z0, z1]) rfl ⟨by rw [Ha.out]; rfl, Kf⟩
end Go.Proofs.YtlcoejncdbkhcaaGreat
