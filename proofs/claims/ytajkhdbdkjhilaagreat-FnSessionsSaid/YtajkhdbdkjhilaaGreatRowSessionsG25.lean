/- The law on sessions (law 50): its walk. (Printed by mkseslaw.py.) -/
import Derived.Test.YtajkhdbdkjhilaaGreatRowSessionsG22
import Derived.Test.YtajkhdbdkjhilaaGreatRowSessionsG23
import Derived.Test.YtajkhdbdkjhilaaGreatRowSessionsG24
import Derived.Deep.RegionHeld3
namespace Go.Proofs.YtajkhdbdkjhilaaGreat
open Go.RowKit
set_option maxRecDepth 10000

theorem se_form {w : World} {cs : List Value} {x : Session} {fp : List Nat} (h : Rp.rep w cs x fp) : ∃ A2 A3 A4 A5 C2 C3 C4 C5, cs = [.int .i64 x.puzzle.points, .string x.puzzle.names, .slice A2 x.puzzle.moves.length C2, .slice A3 x.state.length C3, .slice A4 x.history.length C4, .slice A5 x.future.length C5] := by
  obtain ⟨c0, v1, v2, v3, f0, f1, f2, f3, rfl, rfl, k0, k1, k2, k3⟩ := h
  obtain ⟨u2, rfl, p0, p1, h2⟩ := k0
  obtain ⟨A2, C2, _, _, rfl, -, -⟩ := h2.open_
  obtain ⟨A3, C3, _, _, rfl, -, -⟩ := k1.open_
  obtain ⟨A4, C4, _, _, rfl, -, -⟩ := k2.open_
  obtain ⟨A5, C5, _, _, rfl, -, -⟩ := k3.open_
  exact ⟨A2, A3, A4, A5, C2, C3, C4, C5, rfl⟩
theorem se_state {w : World} {x : Session} {fp : List Nat} {A2 A3 A4 A5 : Option Addr} {C2 C3 C4 C5 : Nat} (h : Rp.rep w [.int .i64 x.puzzle.points, .string x.puzzle.names, .slice A2 x.puzzle.moves.length C2, .slice A3 x.state.length C3, .slice A4 x.history.length C4, .slice A5 x.future.length C5] x fp) : ∃ f, IntsA w A3 C3 x.state f := by
  obtain ⟨c0, v1, v2, v3, f0, f1, f2, f3, hcs, rfl, k0, k1, k2, k3⟩ := h
  obtain ⟨u2, rfl, p0, p1, h2⟩ := k0
  injection hcs with _ hcs
  injection hcs with _ hcs
  injection hcs with _ hcs
  injection hcs with e hcs
  subst e
  obtain ⟨a, c, e, I⟩ := Rd.ints k1
  injection e with e1 _ e2
  subst e1
  subst e2
  exact ⟨_, I⟩
theorem se_parts {w : World} {x : Session} {fp : List Nat} {A2 A3 A4 A5 : Option Addr} {C2 C3 C4 C5 : Nat} (h : Rp.rep w [.int .i64 x.puzzle.points, .string x.puzzle.names, .slice A2 x.puzzle.moves.length C2, .slice A3 x.state.length C3, .slice A4 x.history.length C4, .slice A5 x.future.length C5] x fp) : (∃ f, Rp.rep w [.int .i64 x.puzzle.points, .string x.puzzle.names, .slice A2 x.puzzle.moves.length C2] x.puzzle f) ∧ (∃ f, Rd w (.slice A3 x.state.length C3) x.state f) := by
  obtain ⟨c0, v1, v2, v3, f0, f1, f2, f3, hcs, rfl, k0, k1, k2, k3⟩ := h
  have k0' := k0
  obtain ⟨u2, rfl, p0, p1, h2⟩ := k0'
  injection hcs with _ hcs
  injection hcs with _ hcs
  injection hcs with e0 hcs
  injection hcs with e hcs
  subst e
  subst e0
  exact ⟨⟨_, k0⟩, ⟨_, k1⟩⟩
set_option maxHeartbeats 16000000 in
theorem FnSessions_any (w : World) (v : Value) (l : List UInt8) (fc : List Nat) (h : Rd w v l fc) :
    Calls Tryz.prog 3 #[v] w fun e w' => e = .returned (.bool true) ∧ Only [] w w' := by
  by_cases hb : 4096 < l.length
  · have hd : decide (4096 < l.length) = true := by simp [hb]
    go_enter Tryz.func3, Tryz.ntmps3
    go_wp2_with ((go_at_call 5; (with_reducible refine (big_any v l fc _ h).mono ?_); rintro e w1 ⟨he, t1⟩; rw [hd] at he; subst he))
    go_ret
    exact ⟨rfl, (by with_reducible repeat (first | exact Only.refl _ _ | assumption | refine Only.drewN ?_ _ | refine Only.drew ?_ | refine Only.alloc ?_ _ | refine Only.setCell ?_ (by intro hh; exfalso; simp at hh; try omega) _ | refine Only.trans ?_ (by assumption)))⟩
  have hd : decide (4096 < l.length) = false := by simp [hb]
  have hl : l.length ≤ 4096 := by omega
  go_enter Tryz.func3, Tryz.ntmps3
  go_upto_region 4 with (first
    | (go_at_call 5; (with_reducible refine (big_any v l fc _ h).mono ?_); rintro e w1 ⟨he, t1⟩; rw [hd] at he; subst he; have k1 : Only [] w w1 := (by with_reducible repeat (first | exact Only.refl _ _ | assumption | refine Only.drewN ?_ _ | refine Only.drew ?_ | refine Only.alloc ?_ _ | refine Only.setCell ?_ (by intro hh; exfalso; simp at hh; try omega) _ | refine Only.trans ?_ (by assumption))))
    | (go_at_call 6; (with_reducible refine (drawPlayWord_any v l fc w1 (Rp.keep h k1) hl).mono ?_); rintro e w2 ⟨x, A2, A3, A4, A5, C2, C3, C4, C5, fp, vl, p, fl, rfl, hR, hW, hp3, t2⟩; obtain ⟨al, cl, rfl, -⟩ := Rd.ints hW)
    | fail "no arm")
  have kal : Only [] w2 (w2.alloc (.cells #[.int .i64 x.puzzle.points, .string x.puzzle.names, .slice A2 x.puzzle.moves.length C2, .slice A3 x.state.length C3, .slice A4 x.history.length C4, .slice A5 x.future.length C5] 29)) := (Only.refl _ _).alloc _
  have S2 := Blk.new w2 [.int .i64 x.puzzle.points, .string x.puzzle.names, .slice A2 x.puzzle.moves.length C2, .slice A3 x.state.length C3, .slice A4 x.history.length C4, .slice A5 x.future.length C5] 29
  have HR := Lib.hid (Rp.keep hR kal)
  have HW := Lib.hid (Rp.keep hW kal)
  have kW : Only [] w (w2.alloc (.cells #[.int .i64 x.puzzle.points, .string x.puzzle.names, .slice A2 x.puzzle.moves.length C2, .slice A3 x.state.length C3, .slice A4 x.history.length C4, .slice A5 x.future.length C5] 29)) := (k1.trans t2).trans kal
  obtain ⟨W2, hW2⟩ : ∃ W, W = w2.alloc (.cells #[.int .i64 x.puzzle.points, .string x.puzzle.names, .slice A2 x.puzzle.moves.length C2, .slice A3 x.state.length C3, .slice A4 x.history.length C4, .slice A5 x.future.length C5] 29) := ⟨_, rfl⟩
  obtain ⟨sb, hsb⟩ : ∃ sb, sb = w2.heap.size := ⟨_, rfl⟩
  rw [← hW2] at S2 HR HW kW ⊢
  rw [← hsb] at S2 ⊢
  clear hW2 hsb kal hR hW k1 t1 t2 hb hd
  have hsb2 := S2.lt
  have c0s := S2.cell 0 rfl; have c1s := S2.cell 1 rfl; have c2s := S2.cell 2 rfl; have c3s := S2.cell 3 rfl; have c4s := S2.cell 4 rfl; have c5s := S2.cell 5 rfl
  have HcV1 := Lib.hid (fun (W : World) (hK : Only [] W2 W) => implIsValidSession_any [.int .i64 x.puzzle.points, .string x.puzzle.names, .slice A2 x.puzzle.moves.length C2, .slice A3 x.state.length C3, .slice A4 x.history.length C4, .slice A5 x.future.length C5] x fp W (Rp.keep HR.out hK))
  have HcV2 := Lib.hid (fun (W : World) (hK : Only [] W2 W) => specIsValidSession_any [.int .i64 x.puzzle.points, .string x.puzzle.names, .slice A2 x.puzzle.moves.length C2, .slice A3 x.state.length C3, .slice A4 x.history.length C4, .slice A5 x.future.length C5] x fp W (Rp.keep HR.out hK))
  rcases hq : validSe x
  · rw [hq] at HcV1 HcV2
    obtain ⟨N, hN⟩ : ∃ N, N = noSess := ⟨_, rfl⟩
    have HcP1 := Lib.hid (implPlayWord_no [.int .i64 x.puzzle.points, .string x.puzzle.names, .slice A2 x.puzzle.moves.length C2, .slice A3 x.state.length C3, .slice A4 x.history.length C4, .slice A5 x.future.length C5] x fp (.slice al p.length cl) p fl W2 HR.out HW.out hq)
    have HcP2 := Lib.hid (fun (W : World) (hK : Only [] W2 W) => specPlayWord_no [.int .i64 x.puzzle.points, .string x.puzzle.names, .slice A2 x.puzzle.moves.length C2, .slice A3 x.state.length C3, .slice A4 x.history.length C4, .slice A5 x.future.length C5] x fp (.slice al p.length cl) p fl W (Rp.keep HR.out hK) (Rp.keep HW.out hK) hq)
    have hN0 : ((N.state.length : Int) == 0) = true := by rw [hN]; rfl
    rw [← hN] at HcP1 HcP2
    clear hq hN
    go_upto_region 6 with (first
      | (go_at_call 7; (with_reducible refine (HcP1.out).mono ?_); rintro e w3 ⟨cs3, f3, rfl, r3, F3, t3⟩; obtain ⟨A2x, A3x, A4x, A5x, C2x, C3x, C4x, C5x, rfl⟩ := se_form r3; have S3 := S2.keep t3; have c03 := S3.cell 0 rfl; have c13 := S3.cell 1 rfl; have c23 := S3.cell 2 rfl; have c33 := S3.cell 3 rfl; have c43 := S3.cell 4 rfl; have c53 := S3.cell 5 rfl; have h3 := S3.lt; have X3 := (Blk.new w3 [.int .i64 N.puzzle.points, .string N.puzzle.names, .slice A2x N.puzzle.moves.length C2x, .slice A3x N.state.length C3x, .slice A4x N.history.length C4x, .slice A5x N.future.length C5x] 29); have c0x := X3.cell 0 rfl; have c1x := X3.cell 1 rfl; have c2x := X3.cell 2 rfl; have c3x := X3.cell 3 rfl; have c4x := X3.cell 4 rfl; have c5x := X3.cell 5 rfl)
      | (go_at_call 8; (with_reducible refine (HcP2.out _ (by with_reducible repeat (first | exact Only.refl _ _ | assumption | refine Only.drewN ?_ _ | refine Only.drew ?_ | refine Only.alloc ?_ _ | refine Only.setCell ?_ (by intro hh; exfalso; simp at hh; try omega) _ | refine Only.trans ?_ (by assumption)))).mono ?_); rintro e w4 ⟨cs4, f4, rfl, r4, F4, t4⟩; obtain ⟨A2u, A3u, A4u, A5u, C2u, C3u, C4u, C5u, rfl⟩ := se_form r4; have S4 := (S3.keep ((Only.refl _ _).alloc (.cells #[.int .i64 N.puzzle.points, .string N.puzzle.names, .slice A2x N.puzzle.moves.length C2x, .slice A3x N.state.length C3x, .slice A4x N.history.length C4x, .slice A5x N.future.length C5x] 29))).keep t4; have c04 := S4.cell 0 rfl; have c14 := S4.cell 1 rfl; have c24 := S4.cell 2 rfl; have c34 := S4.cell 3 rfl; have c44 := S4.cell 4 rfl; have c54 := S4.cell 5 rfl; have h4 := S4.lt; have X4 := X3.keep t4; have c0y := X4.cell 0 rfl; have c1y := X4.cell 1 rfl; have c2y := X4.cell 2 rfl; have c3y := X4.cell 3 rfl; have c4y := X4.cell 4 rfl; have c5y := X4.cell 5 rfl; have h4x := X4.lt)
      | fail "no arm")
    have kal5 : Only [] w4 (w4.alloc (.cells #[.int .i64 N.puzzle.points, .string N.puzzle.names, .slice A2u N.puzzle.moves.length C2u, .slice A3u N.state.length C3u, .slice A4u N.history.length C4u, .slice A5u N.future.length C5u] 29)) := (Only.refl _ _).alloc _
    have S5 := S4.keep kal5
    have X5 := X4.keep kal5
    have k25 : Only [] W2 (w4.alloc (.cells #[.int .i64 N.puzzle.points, .string N.puzzle.names, .slice A2u N.puzzle.moves.length C2u, .slice A3u N.state.length C3u, .slice A4u N.history.length C4u, .slice A5u N.future.length C5u] 29)) := (by with_reducible repeat (first | exact Only.refl _ _ | assumption | refine Only.drewN ?_ _ | refine Only.drew ?_ | refine Only.alloc ?_ _ | refine Only.setCell ?_ (by intro hh; exfalso; simp at hh; try omega) _ | refine Only.trans ?_ (by assumption)))
    obtain ⟨W5, hW5⟩ : ∃ W, W = w4.alloc (.cells #[.int .i64 N.puzzle.points, .string N.puzzle.names, .slice A2u N.puzzle.moves.length C2u, .slice A3u N.state.length C3u, .slice A4u N.history.length C4u, .slice A5u N.future.length C5u] 29) := ⟨_, rfl⟩
    rw [← hW5] at S5 X5 k25 ⊢
    clear hW5 S3 S4 X3 X4 kal5 S2
    have c05 := S5.cell 0 rfl; have c15 := S5.cell 1 rfl; have c25 := S5.cell 2 rfl; have c35 := S5.cell 3 rfl; have c45 := S5.cell 4 rfl; have c55 := S5.cell 5 rfl
    have c0z := X5.cell 0 rfl; have c1z := X5.cell 1 rfl; have c2z := X5.cell 2 rfl; have c3z := X5.cell 3 rfl; have c4z := X5.cell 4 rfl; have c5z := X5.cell 5 rfl
    go_region_held3 (fun w' => Only [] W5 w' ∧ w'.cell? ⟨sb, 0, none⟩ = some (.int .i64 x.puzzle.points) ∧ w'.cell? ⟨sb, 1, none⟩ = some (.string x.puzzle.names) ∧ w'.cell? ⟨sb, 2, none⟩ = some (.slice A2 x.puzzle.moves.length C2) ∧ w'.cell? ⟨sb, 3, none⟩ = some (.slice A3 x.state.length C3) ∧ w'.cell? ⟨sb, 4, none⟩ = some (.slice A4 x.history.length C4) ∧ w'.cell? ⟨sb, 5, none⟩ = some (.slice A5 x.future.length C5)) (((refine and_of ?_ (fun h__ => ⟨h__.cell (by simp) c05, h__.cell (by simp) c15, h__.cell (by simp) c25, h__.cell (by simp) c35, h__.cell (by simp) c45, h__.cell (by simp) c55⟩)); first | exact (Only.refl _ _).drew | exact ((Only.refl _ _).drewN _).drew | exact Only.trans (And.left (by assumption)) (by assumption) | exact Only.alloc (And.left (by assumption)) _ | assumption)) (first | (go_at_call 9; (with_reducible refine (HcV1.out _ (k25.trans (And.left (by assumption)))).mono ?_); rintro e w6 ⟨rfl, t6⟩) | (go_at_call 10; (with_reducible refine (HcV2.out _ (k25.trans (And.left (by assumption)))).mono ?_); rintro e w7 ⟨rfl, t7⟩) | fail "no arm")
    obtain ⟨k57, -⟩ : Only [] W5 w7 ∧ True := ⟨(by with_reducible exact And.left (by assumption)), trivial⟩
    have X7 := X5.keep k57
    have S7 := S5.keep k57
    have h7 := S7.lt
    have c07 := S7.cell 0 rfl; have c17 := S7.cell 1 rfl; have c27 := S7.cell 2 rfl; have c37 := S7.cell 3 rfl; have c47 := S7.cell 4 rfl; have c57 := S7.cell 5 rfl
    have c0w := X7.cell 0 rfl; have c1w := X7.cell 1 rfl; have c2w := X7.cell 2 rfl; have c3w := X7.cell 3 rfl; have c4w := X7.cell 4 rfl; have c5w := X7.cell 5 rfl
    go_wp2_with (first
      | (go_at_call 10; (with_reducible refine (HcV2.out w7 (k25.trans k57)).mono ?_); rintro e w8 ⟨rfl, t8⟩; have X8 := X7.keep t8; have c0v := X8.cell 0 rfl; have c1v := X8.cell 1 rfl; have c2v := X8.cell 2 rfl; have c3v := X8.cell 3 rfl; have c4v := X8.cell 4 rfl; have c5v := X8.cell 5 rfl)
      | fail "no arm")
    go_ret
    exact ⟨rfl, kW.trans ((k25.trans k57).trans t8)⟩
  rcases hw : validW x.puzzle.moves.length p
  · rw [hq] at HcV1 HcV2
    have HcP1 := Lib.hid (implPlayWord_bad [.int .i64 x.puzzle.points, .string x.puzzle.names, .slice A2 x.puzzle.moves.length C2, .slice A3 x.state.length C3, .slice A4 x.history.length C4, .slice A5 x.future.length C5] x fp (.slice al p.length cl) p fl W2 HR.out HW.out hq hw)
    have HcP2 := Lib.hid (fun (W : World) (hK : Only [] W2 W) => specPlayWord_bad [.int .i64 x.puzzle.points, .string x.puzzle.names, .slice A2 x.puzzle.moves.length C2, .slice A3 x.state.length C3, .slice A4 x.history.length C4, .slice A5 x.future.length C5] x fp (.slice al p.length cl) p fl W (Rp.keep HR.out hK) (Rp.keep HW.out hK) hq hw)
    have HsS := Lib.hid (sameSe_refl hq)
    clear hq hw
    go_upto_region 6 with (first
      | (go_at_call 7; (with_reducible refine (HcP1.out).mono ?_); rintro e w3 ⟨cs3, f3, rfl, r3, F3, t3⟩; obtain ⟨A2x, A3x, A4x, A5x, C2x, C3x, C4x, C5x, rfl⟩ := se_form r3; have S3 := S2.keep t3; have c03 := S3.cell 0 rfl; have c13 := S3.cell 1 rfl; have c23 := S3.cell 2 rfl; have c33 := S3.cell 3 rfl; have c43 := S3.cell 4 rfl; have c53 := S3.cell 5 rfl; have h3 := S3.lt; have X3 := (Blk.new w3 [.int .i64 x.puzzle.points, .string x.puzzle.names, .slice A2x x.puzzle.moves.length C2x, .slice A3x x.state.length C3x, .slice A4x x.history.length C4x, .slice A5x x.future.length C5x] 29); have c0x := X3.cell 0 rfl; have c1x := X3.cell 1 rfl; have c2x := X3.cell 2 rfl; have c3x := X3.cell 3 rfl; have c4x := X3.cell 4 rfl; have c5x := X3.cell 5 rfl)
      | (go_at_call 8; (with_reducible refine (HcP2.out _ (by with_reducible repeat (first | exact Only.refl _ _ | assumption | refine Only.drewN ?_ _ | refine Only.drew ?_ | refine Only.alloc ?_ _ | refine Only.setCell ?_ (by intro hh; exfalso; simp at hh; try omega) _ | refine Only.trans ?_ (by assumption)))).mono ?_); rintro e w4 ⟨cs4, f4, rfl, r4, F4, t4⟩; obtain ⟨A2u, A3u, A4u, A5u, C2u, C3u, C4u, C5u, rfl⟩ := se_form r4; have S4 := (S3.keep ((Only.refl _ _).alloc (.cells #[.int .i64 x.puzzle.points, .string x.puzzle.names, .slice A2x x.puzzle.moves.length C2x, .slice A3x x.state.length C3x, .slice A4x x.history.length C4x, .slice A5x x.future.length C5x] 29))).keep t4; have c04 := S4.cell 0 rfl; have c14 := S4.cell 1 rfl; have c24 := S4.cell 2 rfl; have c34 := S4.cell 3 rfl; have c44 := S4.cell 4 rfl; have c54 := S4.cell 5 rfl; have h4 := S4.lt; have X4 := X3.keep t4; have c0y := X4.cell 0 rfl; have c1y := X4.cell 1 rfl; have c2y := X4.cell 2 rfl; have c3y := X4.cell 3 rfl; have c4y := X4.cell 4 rfl; have c5y := X4.cell 5 rfl; have h4x := X4.lt)
      | fail "no arm")
    have k35 : Only [] w3 (w4.alloc (.cells #[.int .i64 x.puzzle.points, .string x.puzzle.names, .slice A2u x.puzzle.moves.length C2u, .slice A3u x.state.length C3u, .slice A4u x.history.length C4u, .slice A5u x.future.length C5u] 29)) := (by with_reducible repeat (first | exact Only.refl _ _ | assumption | refine Only.drewN ?_ _ | refine Only.drew ?_ | refine Only.alloc ?_ _ | refine Only.setCell ?_ (by intro hh; exfalso; simp at hh; try omega) _ | refine Only.trans ?_ (by assumption)))
    have kal5 : Only [] w4 (w4.alloc (.cells #[.int .i64 x.puzzle.points, .string x.puzzle.names, .slice A2u x.puzzle.moves.length C2u, .slice A3u x.state.length C3u, .slice A4u x.history.length C4u, .slice A5u x.future.length C5u] 29)) := (Only.refl _ _).alloc _
    have S5 := S4.keep kal5
    have X5 := X4.keep kal5
    have k25 : Only [] W2 (w4.alloc (.cells #[.int .i64 x.puzzle.points, .string x.puzzle.names, .slice A2u x.puzzle.moves.length C2u, .slice A3u x.state.length C3u, .slice A4u x.history.length C4u, .slice A5u x.future.length C5u] 29)) := (by with_reducible repeat (first | exact Only.refl _ _ | assumption | refine Only.drewN ?_ _ | refine Only.drew ?_ | refine Only.alloc ?_ _ | refine Only.setCell ?_ (by intro hh; exfalso; simp at hh; try omega) _ | refine Only.trans ?_ (by assumption)))
    have r5 := Rp.keep r3 k35
    obtain ⟨W5, hW5⟩ : ∃ W, W = w4.alloc (.cells #[.int .i64 x.puzzle.points, .string x.puzzle.names, .slice A2u x.puzzle.moves.length C2u, .slice A3u x.state.length C3u, .slice A4u x.history.length C4u, .slice A5u x.future.length C5u] 29) := ⟨_, rfl⟩
    rw [← hW5] at S5 X5 k25 r5 ⊢
    clear hW5 S3 S4 X3 X4 kal5 S2 k35
    have c05 := S5.cell 0 rfl; have c15 := S5.cell 1 rfl; have c25 := S5.cell 2 rfl; have c35 := S5.cell 3 rfl; have c45 := S5.cell 4 rfl; have c55 := S5.cell 5 rfl
    have c0z := X5.cell 0 rfl; have c1z := X5.cell 1 rfl; have c2z := X5.cell 2 rfl; have c3z := X5.cell 3 rfl; have c4z := X5.cell 4 rfl; have c5z := X5.cell 5 rfl
    go_region_held3 (fun w' => Only [] W5 w' ∧ w'.cell? ⟨sb, 0, none⟩ = some (.int .i64 x.puzzle.points) ∧ w'.cell? ⟨sb, 1, none⟩ = some (.string x.puzzle.names) ∧ w'.cell? ⟨sb, 2, none⟩ = some (.slice A2 x.puzzle.moves.length C2) ∧ w'.cell? ⟨sb, 3, none⟩ = some (.slice A3 x.state.length C3) ∧ w'.cell? ⟨sb, 4, none⟩ = some (.slice A4 x.history.length C4) ∧ w'.cell? ⟨sb, 5, none⟩ = some (.slice A5 x.future.length C5)) (((refine and_of ?_ (fun h__ => ⟨h__.cell (by simp) c05, h__.cell (by simp) c15, h__.cell (by simp) c25, h__.cell (by simp) c35, h__.cell (by simp) c45, h__.cell (by simp) c55⟩)); first | exact (Only.refl _ _).drew | exact ((Only.refl _ _).drewN _).drew | exact Only.trans (And.left (by assumption)) (by assumption) | exact Only.alloc (And.left (by assumption)) _ | assumption)) (first | (go_at_call 9; (with_reducible refine (HcV1.out _ (k25.trans (And.left (by assumption)))).mono ?_); rintro e w6 ⟨rfl, t6⟩) | (go_at_call 10; (with_reducible refine (HcV2.out _ (k25.trans (And.left (by assumption)))).mono ?_); rintro e w7 ⟨rfl, t7⟩) | fail "no arm")
    obtain ⟨k57, -⟩ : Only [] W5 w7 ∧ True := ⟨(by with_reducible exact And.left (by assumption)), trivial⟩
    have X7 := X5.keep k57
    have S7 := S5.keep k57
    have h7 := S7.lt
    have c07 := S7.cell 0 rfl; have c17 := S7.cell 1 rfl; have c27 := S7.cell 2 rfl; have c37 := S7.cell 3 rfl; have c47 := S7.cell 4 rfl; have c57 := S7.cell 5 rfl
    have c0w := X7.cell 0 rfl; have c1w := X7.cell 1 rfl; have c2w := X7.cell 2 rfl; have c3w := X7.cell 3 rfl; have c4w := X7.cell 4 rfl; have c5w := X7.cell 5 rfl
    go_wp2_with (first
      | (go_at_call 10; (with_reducible refine (HcV2.out w7 (k25.trans k57)).mono ?_); rintro e w8 ⟨rfl, t8⟩; have X8 := X7.keep t8; have c0v := X8.cell 0 rfl; have c1v := X8.cell 1 rfl; have c2v := X8.cell 2 rfl; have c3v := X8.cell 3 rfl; have c4v := X8.cell 4 rfl; have c5v := X8.cell 5 rfl; have S8 := S7.keep t8; have c08 := S8.cell 0 rfl; have c18 := S8.cell 1 rfl; have c28 := S8.cell 2 rfl; have c38 := S8.cell 3 rfl; have c48 := S8.cell 4 rfl; have c58 := S8.cell 5 rfl)
      | (go_at_call 11; (with_reducible refine (implSameSession_any [.int .i64 x.puzzle.points, .string x.puzzle.names, .slice A2x x.puzzle.moves.length C2x, .slice A3x x.state.length C3x, .slice A4x x.history.length C4x, .slice A5x x.future.length C5x] [.int .i64 x.puzzle.points, .string x.puzzle.names, .slice A2 x.puzzle.moves.length C2, .slice A3 x.state.length C3, .slice A4 x.history.length C4, .slice A5 x.future.length C5] x x f3 fp w8 (Rp.keep r5 (k57.trans t8)) (Rp.keep HR.out ((k25.trans k57).trans t8))).mono ?_); rintro e w9 ⟨he, t9⟩; rw [HsS.out] at he; subst he)
      | fail "no arm")
    go_ret
    exact ⟨rfl, kW.trans (((k25.trans k57).trans t8).trans t9)⟩
  · rw [hq] at HcV1 HcV2
    have hst := (validSe_facts hq).1
    have hpv := play_valid hq hw
    have huv := undo_valid hq hw
    have hus := undo_state hq hw
    have hrb := redo_back hq hw
    obtain ⟨l', hl9, ef, eu⟩ := undo_form hq hw
    have hPs : (playW x p).state = appW x.puzzle x.state p := rfl
    have hhn : (playW x p).history.length ≠ 0 := by rw [ef]; simp
    have hfn : (undoW (playW x p)).future.length ≠ 0 := by rw [eu]; simp
    have HcP1 := Lib.hid (implPlayWord_yes [.int .i64 x.puzzle.points, .string x.puzzle.names, .slice A2 x.puzzle.moves.length C2, .slice A3 x.state.length C3, .slice A4 x.history.length C4, .slice A5 x.future.length C5] x fp (.slice al p.length cl) p fl W2 HR.out HW.out hq hw)
    have HcP2 := Lib.hid (fun (W : World) (hK : Only [] W2 W) => specPlayWord_yes [.int .i64 x.puzzle.points, .string x.puzzle.names, .slice A2 x.puzzle.moves.length C2, .slice A3 x.state.length C3, .slice A4 x.history.length C4, .slice A5 x.future.length C5] x fp (.slice al p.length cl) p fl W (Rp.keep HR.out hK) (Rp.keep HW.out hK) hq hw)
    have HcU := Lib.hid (fun (cs : List Value) (f : List Nat) (W : World) (hr : Rp.rep W cs (playW x p) f) => implUndoWord_yes cs (playW x p) f W hr hpv hhn)
    have HcR := Lib.hid (fun (cs : List Value) (f : List Nat) (W : World) (hr : Rp.rep W cs (undoW (playW x p)) f) => implRedoWord_yes cs (undoW (playW x p)) f W hr huv hfn)
    have HcVP := Lib.hid (fun (cs : List Value) (f : List Nat) (W : World) (hr : Rp.rep W cs (playW x p) f) => specIsValidSession_any cs (playW x p) f W hr)
    have HcVU := Lib.hid (fun (cs : List Value) (f : List Nat) (W : World) (hr : Rp.rep W cs (undoW (playW x p)) f) => specIsValidSession_any cs (undoW (playW x p)) f W hr)
    have HcSS := Lib.hid (fun (cs cs' : List Value) (f f' : List Nat) (W : World) (hr : Rp.rep W cs (playW x p) f) (hr' : Rp.rep W cs' (playW x p) f') => implSameSession_any cs cs' (playW x p) (playW x p) f f' W hr hr')
    have HcL1 := Lib.hid (fun (cs : List Value) (f : List Nat) (W : World) (hr : Rp.rep W cs (playW x p) f) => implSessionLength_any cs (playW x p) f 1 W hr)
    have HcL2 := Lib.hid (fun (cs : List Value) (f : List Nat) (W : World) (hr : Rp.rep W cs (playW x p) f) => specSessionLength_any cs (playW x p) f 1 W hr)
    have HcA : Hid (∀ (W : World), Only [] W2 W → Calls Tryz.prog 14 #[.agg #[.int .i64 x.puzzle.points, .string x.puzzle.names, .slice A2 x.puzzle.moves.length C2], .slice A3 x.state.length C3, .slice al p.length cl] W fun e w' => ∃ v fp', e = .returned (.tuple #[v, .bool true]) ∧ Rd w' v (playW x p).state fp' ∧ Fresh W.heap.size w' fp' ∧ Only [] W w') := Lib.hid (fun W hK => by
      obtain ⟨⟨f1, q1⟩, ⟨f2, q2⟩⟩ := se_parts HR.out
      exact specApplyWord_yes _ x.puzzle f1 _ _ x.state p f2 fl W (Rp.keep q1 hK) (Rp.keep q2 hK) (Rp.keep HW.out hK) hst hw)
    obtain ⟨fS, IS⟩ := se_state HR.out
    rw [hrb] at HcR
    obtain ⟨U, hU⟩ : ∃ U, U = undoW (playW x p) := ⟨_, rfl⟩
    rw [← hU] at HcR HcVU HcU huv hus
    obtain ⟨P, hP⟩ : ∃ P, P = playW x p := ⟨_, rfl⟩
    rw [← hP] at HcP1 HcP2 HcU HcR HcVP HcSS HcL1 HcL2 HcA hpv
    have HsP := Lib.hid (sameSe_refl hpv)
    have HePP : Hid (eqV P.state P.state = true) := Lib.hid (by unfold eqV; simp)
    have HeUx : Hid (eqV U.state x.state = true) := Lib.hid (by rw [hus]; unfold eqV; simp)
    have Hpv := Lib.hid hpv
    have Huv := Lib.hid huv
    have HcVP2 : Hid (∀ (cs : List Value) (f : List Nat) (W : World), Rp.rep W cs P f → Calls Tryz.prog 10 #[.agg cs.toArray] W fun e w' => e = .returned (.bool true) ∧ Only [] W w') := Lib.hid (fun cs f W hr => (HcVP.out cs f W hr).mono fun e w' hh => ⟨by rw [hh.1, Hpv.out], hh.2⟩)
    have HcVU2 : Hid (∀ (cs : List Value) (f : List Nat) (W : World), Rp.rep W cs U f → Calls Tryz.prog 10 #[.agg cs.toArray] W fun e w' => e = .returned (.bool true) ∧ Only [] W w') := Lib.hid (fun cs f W hr => (HcVU.out cs f W hr).mono fun e w' hh => ⟨by rw [hh.1, Huv.out], hh.2⟩)
    clear hq hw hst hpv huv hus hrb hl9 ef eu hPs hhn hfn hU hP HcVP HcVU
    go_upto_region 6 with (first
      | (go_at_call 7; (with_reducible refine (HcP1.out).mono ?_); rintro e w3 ⟨cs3, f3, rfl, r3, F3, t3⟩; obtain ⟨A2x, A3x, A4x, A5x, C2x, C3x, C4x, C5x, rfl⟩ := se_form r3; have S3 := S2.keep t3; have c03 := S3.cell 0 rfl; have c13 := S3.cell 1 rfl; have c23 := S3.cell 2 rfl; have c33 := S3.cell 3 rfl; have c43 := S3.cell 4 rfl; have c53 := S3.cell 5 rfl; have h3 := S3.lt; have X3 := (Blk.new w3 [.int .i64 P.puzzle.points, .string P.puzzle.names, .slice A2x P.puzzle.moves.length C2x, .slice A3x P.state.length C3x, .slice A4x P.history.length C4x, .slice A5x P.future.length C5x] 29); have c0x := X3.cell 0 rfl; have c1x := X3.cell 1 rfl; have c2x := X3.cell 2 rfl; have c3x := X3.cell 3 rfl; have c4x := X3.cell 4 rfl; have c5x := X3.cell 5 rfl)
      | (go_at_call 8; (with_reducible refine (HcP2.out _ (by with_reducible repeat (first | exact Only.refl _ _ | assumption | refine Only.drewN ?_ _ | refine Only.drew ?_ | refine Only.alloc ?_ _ | refine Only.setCell ?_ (by intro hh; exfalso; simp at hh; try omega) _ | refine Only.trans ?_ (by assumption)))).mono ?_); rintro e w4 ⟨cs4, f4, rfl, r4, F4, t4⟩; obtain ⟨A2u, A3u, A4u, A5u, C2u, C3u, C4u, C5u, rfl⟩ := se_form r4; have S4 := (S3.keep ((Only.refl _ _).alloc (.cells #[.int .i64 P.puzzle.points, .string P.puzzle.names, .slice A2x P.puzzle.moves.length C2x, .slice A3x P.state.length C3x, .slice A4x P.history.length C4x, .slice A5x P.future.length C5x] 29))).keep t4; have c04 := S4.cell 0 rfl; have c14 := S4.cell 1 rfl; have c24 := S4.cell 2 rfl; have c34 := S4.cell 3 rfl; have c44 := S4.cell 4 rfl; have c54 := S4.cell 5 rfl; have h4 := S4.lt; have X4 := X3.keep t4; have c0y := X4.cell 0 rfl; have c1y := X4.cell 1 rfl; have c2y := X4.cell 2 rfl; have c3y := X4.cell 3 rfl; have c4y := X4.cell 4 rfl; have c5y := X4.cell 5 rfl; have h4x := X4.lt)
      | fail "no arm")
    have k35 : Only [] w3 (w4.alloc (.cells #[.int .i64 P.puzzle.points, .string P.puzzle.names, .slice A2u P.puzzle.moves.length C2u, .slice A3u P.state.length C3u, .slice A4u P.history.length C4u, .slice A5u P.future.length C5u] 29)) := (by with_reducible repeat (first | exact Only.refl _ _ | assumption | refine Only.drewN ?_ _ | refine Only.drew ?_ | refine Only.alloc ?_ _ | refine Only.setCell ?_ (by intro hh; exfalso; simp at hh; try omega) _ | refine Only.trans ?_ (by assumption)))
    have kal5 : Only [] w4 (w4.alloc (.cells #[.int .i64 P.puzzle.points, .string P.puzzle.names, .slice A2u P.puzzle.moves.length C2u, .slice A3u P.state.length C3u, .slice A4u P.history.length C4u, .slice A5u P.future.length C5u] 29)) := (Only.refl _ _).alloc _
    have S5 := S4.keep kal5
    have X5 := X4.keep kal5
    have k25 : Only [] W2 (w4.alloc (.cells #[.int .i64 P.puzzle.points, .string P.puzzle.names, .slice A2u P.puzzle.moves.length C2u, .slice A3u P.state.length C3u, .slice A4u P.history.length C4u, .slice A5u P.future.length C5u] 29)) := (by with_reducible repeat (first | exact Only.refl _ _ | assumption | refine Only.drewN ?_ _ | refine Only.drew ?_ | refine Only.alloc ?_ _ | refine Only.setCell ?_ (by intro hh; exfalso; simp at hh; try omega) _ | refine Only.trans ?_ (by assumption)))
    have r5 := Rp.keep r3 k35
    obtain ⟨W5, hW5⟩ : ∃ W, W = w4.alloc (.cells #[.int .i64 P.puzzle.points, .string P.puzzle.names, .slice A2u P.puzzle.moves.length C2u, .slice A3u P.state.length C3u, .slice A4u P.history.length C4u, .slice A5u P.future.length C5u] 29) := ⟨_, rfl⟩
    obtain ⟨xb, hxb⟩ : ∃ xb, xb = w3.heap.size := ⟨_, rfl⟩
    rw [← hW5] at S5 X5 k25 r5 ⊢
    rw [← hxb] at X5 ⊢
    clear hW5 hxb S3 S4 X3 X4 kal5 S2 k35 r3 r4 F3 F4 h3 h4 h4x t3 t4
    clear c03 c13 c23 c33 c43 c53 c0x c1x c2x c3x c4x c5x c04 c14 c24 c34 c44 c54 c0y c1y c2y c3y c4y c5y
    have c05 := S5.cell 0 rfl; have c15 := S5.cell 1 rfl; have c25 := S5.cell 2 rfl; have c35 := S5.cell 3 rfl; have c45 := S5.cell 4 rfl; have c55 := S5.cell 5 rfl
    go_region_held3 (fun w' => Only [] W5 w' ∧ w'.cell? ⟨sb, 0, none⟩ = some (.int .i64 x.puzzle.points) ∧ w'.cell? ⟨sb, 1, none⟩ = some (.string x.puzzle.names) ∧ w'.cell? ⟨sb, 2, none⟩ = some (.slice A2 x.puzzle.moves.length C2) ∧ w'.cell? ⟨sb, 3, none⟩ = some (.slice A3 x.state.length C3) ∧ w'.cell? ⟨sb, 4, none⟩ = some (.slice A4 x.history.length C4) ∧ w'.cell? ⟨sb, 5, none⟩ = some (.slice A5 x.future.length C5)) (((refine and_of ?_ (fun h__ => ⟨h__.cell (by simp) c05, h__.cell (by simp) c15, h__.cell (by simp) c25, h__.cell (by simp) c35, h__.cell (by simp) c45, h__.cell (by simp) c55⟩)); first | exact (Only.refl _ _).drew | exact ((Only.refl _ _).drewN _).drew | exact Only.trans (And.left (by assumption)) (by assumption) | exact Only.alloc (And.left (by assumption)) _ | assumption)) (first | (go_at_call 9; (with_reducible refine (HcV1.out _ (k25.trans (And.left (by assumption)))).mono ?_); rintro e w6 ⟨rfl, t6⟩) | (go_at_call 10; (with_reducible refine (HcV2.out _ (k25.trans (And.left (by assumption)))).mono ?_); rintro e w7 ⟨rfl, t7⟩) | fail "no arm")
    obtain ⟨k57, -⟩ : Only [] W5 w7 ∧ True := ⟨(by with_reducible exact And.left (by assumption)), trivial⟩
    have X7 := X5.keep k57
    have S7 := S5.keep k57
    have r7 := Rp.keep r5 k57
    have k27 := k25.trans k57
    have h7 := S7.lt
    have h7x := X7.lt
    have c07 := S7.cell 0 rfl; have c17 := S7.cell 1 rfl; have c27 := S7.cell 2 rfl; have c37 := S7.cell 3 rfl; have c47 := S7.cell 4 rfl; have c57 := S7.cell 5 rfl
    have c0w := X7.cell 0 rfl; have c1w := X7.cell 1 rfl; have c2w := X7.cell 2 rfl; have c3w := X7.cell 3 rfl; have c4w := X7.cell 4 rfl; have c5w := X7.cell 5 rfl
    go_upto_region 12 with (first
      | (go_at_call 12; (with_reducible refine (HcU.out _ f3 w7 r7).mono ?_); rintro e w8 ⟨cs8, f8, rfl, r8, F8, t8⟩; obtain ⟨A2a, A3a, A4a, A5a, C2a, C3a, C4a, C5a, rfl⟩ := se_form r8; have Y8 := (Blk.new w8 [.int .i64 U.puzzle.points, .string U.puzzle.names, .slice A2a U.puzzle.moves.length C2a, .slice A3a U.state.length C3a, .slice A4a U.history.length C4a, .slice A5a U.future.length C5a] 29); have c0a := Y8.cell 0 rfl; have c1a := Y8.cell 1 rfl; have c2a := Y8.cell 2 rfl; have c3a := Y8.cell 3 rfl; have c4a := Y8.cell 4 rfl; have c5a := Y8.cell 5 rfl; have h8 := Nat.lt_of_lt_of_le h7 t8.size; have h8x := Nat.lt_of_lt_of_le h7x t8.size)
      | (go_at_call 13; (with_reducible refine (HcR.out _ f8 _ (Rp.keep r8 (by with_reducible repeat (first | exact Only.refl _ _ | assumption | refine Only.drewN ?_ _ | refine Only.drew ?_ | refine Only.alloc ?_ _ | refine Only.setCell ?_ (by intro hh; exfalso; simp at hh; try omega) _ | refine Only.trans ?_ (by assumption))))).mono ?_); rintro e w9 ⟨cs9, f9, rfl, r9, F9, t9⟩; obtain ⟨A2b, A3b, A4b, A5b, C2b, C3b, C4b, C5b, rfl⟩ := se_form r9; have k89 : Only [] w8 w9 := (by with_reducible repeat (first | exact Only.refl _ _ | assumption | refine Only.drewN ?_ _ | refine Only.drew ?_ | refine Only.alloc ?_ _ | refine Only.setCell ?_ (by intro hh; exfalso; simp at hh; try omega) _ | refine Only.trans ?_ (by assumption))); have Z9 := (Blk.new w9 [.int .i64 P.puzzle.points, .string P.puzzle.names, .slice A2b P.puzzle.moves.length C2b, .slice A3b P.state.length C3b, .slice A4b P.history.length C4b, .slice A5b P.future.length C5b] 29); have Y9 := Y8.keep t9; have c0c := Y9.cell 0 rfl; have c1c := Y9.cell 1 rfl; have c2c := Y9.cell 2 rfl; have c3c := Y9.cell 3 rfl; have c4c := Y9.cell 4 rfl; have c5c := Y9.cell 5 rfl; have c0b := Z9.cell 0 rfl; have c1b := Z9.cell 1 rfl; have c2b := Z9.cell 2 rfl; have c3b := Z9.cell 3 rfl; have c4b := Z9.cell 4 rfl; have c5b := Z9.cell 5 rfl; have h9y := Y9.lt; have S9 := S7.keep (t8.trans k89); have X9 := X7.keep (t8.trans k89))
      | fail "no arm")
    have kalZ : Only [] w9 (w9.alloc (.cells #[.int .i64 P.puzzle.points, .string P.puzzle.names, .slice A2b P.puzzle.moves.length C2b, .slice A3b P.state.length C3b, .slice A4b P.history.length C4b, .slice A5b P.future.length C5b] 29)) := (Only.refl _ _).alloc _
    have kA : Only [] w7 (w9.alloc (.cells #[.int .i64 P.puzzle.points, .string P.puzzle.names, .slice A2b P.puzzle.moves.length C2b, .slice A3b P.state.length C3b, .slice A4b P.history.length C4b, .slice A5b P.future.length C5b] 29)) := (t8.trans k89).trans kalZ
    have SA := S9.keep kalZ
    have XA := X9.keep kalZ
    have YA := Y9.keep kalZ
    have rAx := Rp.keep r7 kA
    have rAy := Rp.keep r8 (k89.trans kalZ)
    have rAz := Rp.keep r9 kalZ
    have k2A := k27.trans kA
    obtain ⟨WA, hWA⟩ : ∃ W, W = w9.alloc (.cells #[.int .i64 P.puzzle.points, .string P.puzzle.names, .slice A2b P.puzzle.moves.length C2b, .slice A3b P.state.length C3b, .slice A4b P.history.length C4b, .slice A5b P.future.length C5b] 29) := ⟨_, rfl⟩
    obtain ⟨yb, hyb⟩ : ∃ yb, yb = w8.heap.size := ⟨_, rfl⟩
    obtain ⟨zb, hzb⟩ : ∃ zb, zb = w9.heap.size := ⟨_, rfl⟩
    rw [← hWA] at SA XA YA Z9 rAx rAy rAz k2A ⊢
    rw [← hyb] at YA ⊢
    rw [← hzb] at Z9 ⊢
    clear hWA hyb hzb S9 X9 Y9 S7 X7 Y8 kA kalZ k89 r7 r8 r9 r5 k57 k25 k27 h7 h7x h8 h8x h9y t6 t7 t8 t9 F8 F9 S5 X5
    clear c05 c15 c25 c35 c45 c55 c07 c17 c27 c37 c47 c57 c0w c1w c2w c3w c4w c5w c0a c1a c2a c3a c4a c5a c0c c1c c2c c3c c4c c5c c0b c1b c2b c3b c4b c5b
    have c0A := XA.cell 0 rfl; have c1A := XA.cell 1 rfl; have c2A := XA.cell 2 rfl; have c3A := XA.cell 3 rfl; have c4A := XA.cell 4 rfl; have c5A := XA.cell 5 rfl
    have c0B := YA.cell 0 rfl; have c1B := YA.cell 1 rfl; have c2B := YA.cell 2 rfl; have c3B := YA.cell 3 rfl; have c4B := YA.cell 4 rfl; have c5B := YA.cell 5 rfl
    have c0C := Z9.cell 0 rfl; have c1C := Z9.cell 1 rfl; have c2C := Z9.cell 2 rfl; have c3C := Z9.cell 3 rfl; have c4C := Z9.cell 4 rfl; have c5C := Z9.cell 5 rfl
    go_upto_region 14 with (first
      | (go_at_call 10; (with_reducible refine (HcVP2.out [.int .i64 P.puzzle.points, .string P.puzzle.names, .slice A2x P.puzzle.moves.length C2x, .slice A3x P.state.length C3x, .slice A4x P.history.length C4x, .slice A5x P.future.length C5x] f3 WA rAx).mono ?_); rintro e wB ⟨rfl, tB⟩; have XB := XA.keep tB; have YB := YA.keep tB; have ZB := Z9.keep tB; have c0D := YB.cell 0 rfl; have c1D := YB.cell 1 rfl; have c2D := YB.cell 2 rfl; have c3D := YB.cell 3 rfl; have c4D := YB.cell 4 rfl; have c5D := YB.cell 5 rfl; have c0E := ZB.cell 0 rfl; have c1E := ZB.cell 1 rfl; have c2E := ZB.cell 2 rfl; have c3E := ZB.cell 3 rfl; have c4E := ZB.cell 4 rfl; have c5E := ZB.cell 5 rfl)
      | (go_at_call 10; (with_reducible refine (HcVU2.out [.int .i64 U.puzzle.points, .string U.puzzle.names, .slice A2a U.puzzle.moves.length C2a, .slice A3a U.state.length C3a, .slice A4a U.history.length C4a, .slice A5a U.future.length C5a] f8 wB (Rp.keep rAy tB)).mono ?_); rintro e wC ⟨rfl, tC⟩; have ZC := ZB.keep tC; have c0F := ZC.cell 0 rfl; have c1F := ZC.cell 1 rfl; have c2F := ZC.cell 2 rfl; have c3F := ZC.cell 3 rfl; have c4F := ZC.cell 4 rfl; have c5F := ZC.cell 5 rfl)
      | (go_at_call 10; (with_reducible refine (HcVP2.out [.int .i64 P.puzzle.points, .string P.puzzle.names, .slice A2b P.puzzle.moves.length C2b, .slice A3b P.state.length C3b, .slice A4b P.history.length C4b, .slice A5b P.future.length C5b] f9 wC (Rp.keep rAz (tB.trans tC))).mono ?_); rintro e wD ⟨rfl, tD⟩; have kAD := (tB.trans tC).trans tD)
      | fail "no arm")
    have SD := SA.keep kAD
    have XD := XA.keep kAD
    have YD := YA.keep kAD
    have ZD := Z9.keep kAD
    have c0G := SD.cell 0 rfl; have c1G := SD.cell 1 rfl; have c2G := SD.cell 2 rfl; have c3G := SD.cell 3 rfl; have c4G := SD.cell 4 rfl; have c5G := SD.cell 5 rfl
    go_upto_region 15 with (first
      | (go_at_call 14; (with_reducible refine (HcA.out wD (k2A.trans kAD)).mono ?_); rintro e wE ⟨vE, fE, rfl, rE, FE, tE⟩; obtain ⟨aE, cE, rfl, IE⟩ := Rd.ints rE)
      | fail "no arm")
    have kAE := kAD.trans tE
    have SE := SD.keep tE
    have XE := XD.keep tE
    have YE := YD.keep tE
    have ZE := ZD.keep tE
    have rx := Rp.keep rAx kAE
    have ry := Rp.keep rAy kAE
    have rz := Rp.keep rAz kAE
    obtain ⟨gx, Ix⟩ := se_state rx
    obtain ⟨gy, Iy⟩ := se_state ry
    have ISE := IS.keep (k2A.trans kAE)
    clear c0A c1A c2A c3A c4A c5A c0B c1B c2B c3B c4B c5B c0C c1C c2C c3C c4C c5C c0D c1D c2D c3D c4D c5D c0E c1E c2E c3E c4E c5E c0F c1F c2F c3F c4F c5F c0G c1G c2G c3G c4G c5G
    have c0H := SE.cell 0 rfl; have c1H := SE.cell 1 rfl; have c2H := SE.cell 2 rfl; have c3H := SE.cell 3 rfl; have c4H := SE.cell 4 rfl; have c5H := SE.cell 5 rfl
    have c0I := XE.cell 0 rfl; have c1I := XE.cell 1 rfl; have c2I := XE.cell 2 rfl; have c3I := XE.cell 3 rfl; have c4I := XE.cell 4 rfl; have c5I := XE.cell 5 rfl
    have c0J := YE.cell 0 rfl; have c1J := YE.cell 1 rfl; have c2J := YE.cell 2 rfl; have c3J := YE.cell 3 rfl; have c4J := YE.cell 4 rfl; have c5J := YE.cell 5 rfl
    have c0K := ZE.cell 0 rfl; have c1K := ZE.cell 1 rfl; have c2K := ZE.cell 2 rfl; have c3K := ZE.cell 3 rfl; have c4K := ZE.cell 4 rfl; have c5K := ZE.cell 5 rfl
    go_region_held3 (fun w' => Only [] wE w' ∧ w'.cell? ⟨sb, 3, none⟩ = some (.slice A3 x.state.length C3) ∧ w'.cell? ⟨yb, 3, none⟩ = some (.slice A3a U.state.length C3a) ∧ w'.cell? ⟨xb, 0, none⟩ = some (.int .i64 P.puzzle.points) ∧ w'.cell? ⟨xb, 1, none⟩ = some (.string P.puzzle.names) ∧ w'.cell? ⟨xb, 2, none⟩ = some (.slice A2x P.puzzle.moves.length C2x) ∧ w'.cell? ⟨xb, 3, none⟩ = some (.slice A3x P.state.length C3x) ∧ w'.cell? ⟨xb, 4, none⟩ = some (.slice A4x P.history.length C4x) ∧ w'.cell? ⟨xb, 5, none⟩ = some (.slice A5x P.future.length C5x) ∧ w'.cell? ⟨zb, 0, none⟩ = some (.int .i64 P.puzzle.points) ∧ w'.cell? ⟨zb, 1, none⟩ = some (.string P.puzzle.names) ∧ w'.cell? ⟨zb, 2, none⟩ = some (.slice A2b P.puzzle.moves.length C2b) ∧ w'.cell? ⟨zb, 3, none⟩ = some (.slice A3b P.state.length C3b) ∧ w'.cell? ⟨zb, 4, none⟩ = some (.slice A4b P.history.length C4b) ∧ w'.cell? ⟨zb, 5, none⟩ = some (.slice A5b P.future.length C5b)) (((refine and_of ?_ (fun h__ => ⟨h__.cell (by simp) c3H, h__.cell (by simp) c3J, h__.cell (by simp) c0I, h__.cell (by simp) c1I, h__.cell (by simp) c2I, h__.cell (by simp) c3I, h__.cell (by simp) c4I, h__.cell (by simp) c5I, h__.cell (by simp) c0K, h__.cell (by simp) c1K, h__.cell (by simp) c2K, h__.cell (by simp) c3K, h__.cell (by simp) c4K, h__.cell (by simp) c5K⟩)); first | exact (Only.refl _ _).drew | exact ((Only.refl _ _).drewN _).drew | exact Only.trans (And.left (by assumption)) (by assumption) | exact Only.alloc (And.left (by assumption)) _ | assumption)) (first | (go_at_call 15; (with_reducible refine (likeInts_any A3x aE C3x cE P.state P.state _ _ _ (Ix.keep (And.left (by assumption))) (IE.keep (And.left (by assumption)))).mono ?_); rintro e wF ⟨he, dF⟩; rw [HePP.out] at he; subst he; have tF := dF.only []) | (go_at_call 15; (with_reducible refine (likeInts_any A3a A3 C3a C3 U.state x.state _ _ _ (Iy.keep (And.left (by assumption))) (ISE.keep (And.left (by assumption)))).mono ?_); rintro e wG ⟨he, dG⟩; rw [HeUx.out] at he; subst he; have tG := dG.only []) | (go_at_call 11; (with_reducible refine (HcSS.out [.int .i64 P.puzzle.points, .string P.puzzle.names, .slice A2b P.puzzle.moves.length C2b, .slice A3b P.state.length C3b, .slice A4b P.history.length C4b, .slice A5b P.future.length C5b] [.int .i64 P.puzzle.points, .string P.puzzle.names, .slice A2x P.puzzle.moves.length C2x, .slice A3x P.state.length C3x, .slice A4x P.history.length C4x, .slice A5x P.future.length C5x] f9 f3 _ (Rp.keep rz (And.left (by assumption))) (Rp.keep rx (And.left (by assumption)))).mono ?_); rintro e wH ⟨he, tH⟩; rw [HsP.out] at he; subst he) | (go_at_call 16; (with_reducible refine (HcL1.out [.int .i64 P.puzzle.points, .string P.puzzle.names, .slice A2x P.puzzle.moves.length C2x, .slice A3x P.state.length C3x, .slice A4x P.history.length C4x, .slice A5x P.future.length C5x] f3 _ (Rp.keep rx (And.left (by assumption)))).mono ?_); rintro e wI ⟨rfl, tI⟩) | (go_at_call 17; (with_reducible refine (HcL2.out [.int .i64 P.puzzle.points, .string P.puzzle.names, .slice A2x P.puzzle.moves.length C2x, .slice A3x P.state.length C3x, .slice A4x P.history.length C4x, .slice A5x P.future.length C5x] f3 _ (Rp.keep rx (And.left (by assumption)))).mono ?_); rintro e wJ ⟨rfl, tJ⟩) | fail "no arm")
    go_wp2
    go_ret
    refine ⟨?_, kW.trans ((k2A.trans kAE).trans (by with_reducible exact And.left (by assumption)))⟩
    first
      | rfl
      | exact ret_bool (by simp)
end Go.Proofs.YtajkhdbdkjhilaaGreat
