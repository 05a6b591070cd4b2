/- Fill jobs, the reference: IsValidFill. (Printed by mkfillspec6.py.) Fill jobs, the reference: SyncFill. (Printed by mkfillspec7.py.) Fill jobs, the reference: StepFill. (Printed by mkfillspec8.py.) The program's filler: isDone, an expansion. The program's filler: an expansion's patterns and record. The program's filler: an expansion is appended. The program's filler: a step. -/
import Derived.Test.YtkhdmiemfpelcaaGreatRowCrashFillG14
import Derived.Deep.RegionHeld3
import Derived.Test.YtkhdmiemfpelcaaGreatRowCrashFillG13
import Derived.Deep.DeepCutAuto
import Derived.Deep.QuietTactic
namespace Go.Proofs.YtkhdmiemfpelcaaGreat
open Go.RowKit
set_option maxRecDepth 10000


set_option maxHeartbeats 4000000 in
theorem specIsValidFill_raw (cs : List Value) (x : Puzzle) (fp : List Nat) (c1 c2 c3 : Value) (tr : List Int) (ps : List (List Int)) (ds : List Int) (nx : Int) (lg : ByteArray) (sy : Int) (g1 g2 g3 : List Nat) (w : World) (h : Rp.rep w cs x fp)
    (k1 : Rd w c1 tr g1) (k2 : Rd w c2 ps g2) (k3 : Rd w c3 ds g3) (hnx : I64 nx) (hsy : I64 sy) (hlm : lg.size ≤ maxLen) (htl : tr.length ≤ 2097152) :
    Calls Tryz.prog 17 #[.agg cs.toArray, .agg #[c1, c2, c3, .int .i64 nx, .string lg, .int .i64 sy]] w fun e w' => e = .returned (.bool (validF x (⟨⟨tr, ps, ds⟩, nx, lg, sy⟩ : FillJob))) ∧ Only [] w w' := by
  have hh := h
  obtain ⟨v2, rfl, p0, p1, h2⟩ := h
  obtain ⟨A0, C0, _, _, rfl, -, -⟩ := h2.open_
  have hrep : Rp.rep w [c1, c2, c3, .int .i64 nx, .string lg, .int .i64 sy] (⟨⟨tr, ps, ds⟩, nx, lg, sy⟩ : FillJob) (g1 ++ (g2 ++ g3)) :=
    ⟨[c1, c2, c3], rfl, hnx, hlm, hsy, ⟨_, _, _, _, _, _, rfl, rfl, k1, k2, k3⟩⟩
  have hk1 := k1
  obtain ⟨A1, C1, _, _, rfl, -⟩ := k1.open_
  obtain ⟨A2, C2, _, _, rfl, -⟩ := k2.open_
  obtain ⟨A3, C3, _, _, rfl, -⟩ := k3.open_
  obtain ⟨V, hV⟩ : ∃ V, V = validF x (⟨⟨tr, ps, ds⟩, nx, lg, sy⟩ : FillJob) := ⟨_, rfl⟩
  rw [← hV]
  have HV := Lib.hid hV; clear hV
  have k0 : Only [] w ((w.alloc (.cells #[.int .i64 x.points, .string x.names, .slice A0 x.moves.length C0] 37)).alloc (.cells #[.slice A1 tr.length C1, .slice A2 ps.length C2, .slice A3 ds.length C3, .int .i64 nx, .string lg, .int .i64 sy] 34)) := ((Only.refl _ _).alloc _).alloc _
  have B0 : Blk ((w.alloc (.cells #[.int .i64 x.points, .string x.names, .slice A0 x.moves.length C0] 37)).alloc (.cells #[.slice A1 tr.length C1, .slice A2 ps.length C2, .slice A3 ds.length C3, .int .i64 nx, .string lg, .int .i64 sy] 34)) w.heap.size [.int .i64 x.points, .string x.names, .slice A0 x.moves.length C0] := Blk.keep (Blk.new_at rfl) ((Only.refl _ _).alloc _)
  have B1 : Blk ((w.alloc (.cells #[.int .i64 x.points, .string x.names, .slice A0 x.moves.length C0] 37)).alloc (.cells #[.slice A1 tr.length C1, .slice A2 ps.length C2, .slice A3 ds.length C3, .int .i64 nx, .string lg, .int .i64 sy] 34)) (w.heap.size + 1) [.slice A1 tr.length C1, .slice A2 ps.length C2, .slice A3 ds.length C3, .int .i64 nx, .string lg, .int .i64 sy] := Blk.new_at (by simp)
  have hB0 := Lib.hid B0; have hB1 := Lib.hid B1; clear B0 B1
  unfold maxLen at hlm
  go_enter Tryz.func17, Tryz.ntmps17
  go_wp2_with fail
  with_reducible refine (specStartFill_any [.int .i64 x.points, .string x.names, .slice A0 x.moves.length C0] x _ (.slice A1 tr.length C1) tr _ _ (Rp.keep hh k0) (Rp.keep hk1 k0) htl).mono ?_
  rintro e w1 ⟨cs1, f1, rfl, r1, F1, t1⟩
  obtain ⟨jf, hjf⟩ : ∃ jf : FillJob, jf = if (bTab x tr).isSome = true then startF tr else noFill := ⟨_, rfl⟩
  rw [← hjf] at r1
  have HJ := Lib.hid hjf; clear hjf
  have r1' := r1
  obtain ⟨d0, rfl, q1, q2, q3, r2⟩ := r1'
  obtain ⟨e1, e2, e3, y1, y2, y3, rfl, -, kk1, kk2, kk3⟩ := r2
  obtain ⟨D1, E1, _, _, rfl, -⟩ := kk1.open_
  obtain ⟨D2, E2, _, _, rfl, -⟩ := kk2.open_
  obtain ⟨D3, E3, _, _, rfl, -⟩ := kk3.open_
  clear q1 q2 q3
  have ka : Only [] w1 (w1.alloc (.cells #[.slice D1 jf.table.tracked.length E1, .slice D2 jf.table.patterns.length E2, .slice D3 jf.table.distances.length E3, .int .i64 jf.next, .string jf.log, .int .i64 jf.synced] 34)) := (Only.refl _ _).alloc _
  have Y0 := (hB0.out.keep t1).keep ka
  have Y1 := (hB1.out.keep t1).keep ka
  have YW : Blk (w1.alloc (.cells #[.slice D1 jf.table.tracked.length E1, .slice D2 jf.table.patterns.length E2, .slice D3 jf.table.distances.length E3, .int .i64 jf.next, .string jf.log, .int .i64 jf.synced] 34)) w1.heap.size [.slice D1 jf.table.tracked.length E1, .slice D2 jf.table.patterns.length E2, .slice D3 jf.table.distances.length E3, .int .i64 jf.next, .string jf.log, .int .i64 jf.synced] := Blk.new_at rfl
  have K1 : Only [] w (w1.alloc (.cells #[.slice D1 jf.table.tracked.length E1, .slice D2 jf.table.patterns.length E2, .slice D3 jf.table.distances.length E3, .int .i64 jf.next, .string jf.log, .int .i64 jf.synced] 34)) := (k0.trans t1).trans ka
  have hs1 := t1.size
  simp at hs1
  have m0 := Y1.cell 0 rfl
  have l0 := Y1.frozen 0
  have m1 := Y1.cell 1 rfl
  have l1 := Y1.frozen 1
  have m2 := Y1.cell 2 rfl
  have l2 := Y1.frozen 2
  have m3 := Y1.cell 3 rfl
  have l3 := Y1.frozen 3
  have m4 := Y1.cell 4 rfl
  have l4 := Y1.frozen 4
  have m5 := Y1.cell 5 rfl
  have l5 := Y1.frozen 5
  have rW := Rp.keep r1 ka
  obtain ⟨W2, hW2⟩ : ∃ W2, W2 = (w1.alloc (.cells #[.slice D1 jf.table.tracked.length E1, .slice D2 jf.table.patterns.length E2, .slice D3 jf.table.distances.length E3, .int .i64 jf.next, .string jf.log, .int .i64 jf.synced] 34)) := ⟨_, rfl⟩
  have HW := Lib.hid hW2
  rcases hb : (bTab x tr).isSome
  · have hf := HV.out.trans (validF_no (j := (⟨⟨tr, ps, ds⟩, nx, lg, sy⟩ : FillJob)) (by rintro ⟨h1, -⟩; rw [show (bTab x tr).isSome = true from h1] at hb; cases hb))
    have HF := Lib.hid hf; clear hf hW2
    go_wp2_with fail
    go_ret
    exact ⟨ret_bool HF.out.symm, (by with_reducible repeat (first | exact Only.refl _ _ | assumption | refine Only.drewN ?_ _ | refine Only.drew ?_ | refine Only.alloc ?_ _ | refine Only.setCell ?_ (by intro hh; exfalso; simp at hh; try omega) _ | refine Only.trans ?_ (by assumption)))⟩
  by_cases hl : 60000 < lg.size
  · have hf := HV.out.trans (validF_no (j := (⟨⟨tr, ps, ds⟩, nx, lg, sy⟩ : FillJob)) (by rintro ⟨-, h1, -⟩; have h1 : lg.size ≤ 60000 := h1; omega))
    have HF := Lib.hid hf; clear hf hW2
    go_wp2_with fail
    go_ret
    exact ⟨ret_bool HF.out.symm, (by with_reducible repeat (first | exact Only.refl _ _ | assumption | refine Only.drewN ?_ _ | refine Only.drew ?_ | refine Only.alloc ?_ _ | refine Only.setCell ?_ (by intro hh; exfalso; simp at hh; try omega) _ | refine Only.trans ?_ (by assumption)))⟩
  rcases hr : inR sy 0 lg.size
  · have hf := HV.out.trans (validF_no (j := (⟨⟨tr, ps, ds⟩, nx, lg, sy⟩ : FillJob)) (by rintro ⟨-, -, h1, h2⟩; rw [inR_not] at hr; have h1 : 0 ≤ sy := h1; have h2 : sy ≤ lg.size := h2; omega))
    have HF := Lib.hid hf; clear hf hW2
    go_wp2_with (first
      | (go_at_call 18; (with_reducible refine (inRange_any sy 0 lg.size _).mono ?_); rintro e w3 ⟨rfl, rfl⟩)
      | fail "no arm")
    go_ret
    exact ⟨ret_bool HF.out.symm, (by with_reducible repeat (first | exact Only.refl _ _ | assumption | refine Only.drewN ?_ _ | refine Only.drew ?_ | refine Only.alloc ?_ _ | refine Only.setCell ?_ (by intro hh; exfalso; simp at hh; try omega) _ | refine Only.trans ?_ (by assumption)))⟩
  have HJS := Lib.hid (show jf = startF tr by rw [HJ.out, if_pos hb])
  clear hW2
  go_upto_region 4 with (first
      | (go_at_call 18; (with_reducible refine (inRange_any sy 0 lg.size _).mono ?_); rintro e w3 ⟨rfl, rfl⟩)
      | fail "no arm")
  have hok : ∀ n, (∀ m, m < n → goesF x (⟨⟨tr, ps, ds⟩, nx, lg, sy⟩ : FillJob) m) → okF x tr n := fun n hg m hm => (hg m hm).2.1
  have hgf := Lib.hid (atF_good (x := x) (tr := tr) hb)
  have hgt : validPz x = true ∧ trackB x.points tr = true := by obtain ⟨t, ht⟩ := Option.isSome_iff_exists.1 hb; exact ⟨(bTab_facts ht).1, (bTab_facts ht).2.1⟩
  have HGT := Lib.hid hgt; clear hgt
  have HOK := Lib.hid hok; clear hok
  have HB := Lib.hid hb; clear hb
  have HRG := Lib.hid (inR_iff.1 hr); clear hr
  rw [← HW.out] at Y0 Y1 YW K1 m0 m1 m2 m3 m4 m5 l0 l1 l2 l3 l4 l5 ⊢
  have ka' : Only [] w1 W2 := by rw [HW.out]; exact ka
  have R1 := Rp.keep kk1 ka'; have R2 := Rp.keep kk2 ka'; have R3 := Rp.keep kk3 ka'
  have z1 := Rp.lt kk1; have z2 := Rp.lt kk2; have z3 := Rp.lt kk3
  have hz : ∀ b ∈ y1 ++ (y2 ++ y3), b ≠ w1.heap.size := fun b hb => by
    simp only [List.mem_append] at hb
    rcases hb with hb | hb | hb
    · have := z1 b hb; omega
    · have := z2 b hb; omega
    · have := z3 b hb; omega
  rw [HJS.out] at YW R1 R2 R3
  have HY0 := Lib.hid Y0; have HY1 := Lib.hid Y1; have HYW := Lib.hid YW; clear Y0 Y1 YW kk1 kk2 kk3 rW ka
  go_loopw [] (fun wr => ∃ (n : Nat) (e1 e2 e3 : Value) (fa fb fc : List Nat), (∀ m, m < n → goesF x (⟨⟨tr, ps, ds⟩, nx, lg, sy⟩ : FillJob) m) ∧ Blk wr w1.heap.size [e1, e2, e3, .int .i64 (atF x tr n).next, .string (atF x tr n).log, .int .i64 (atF x tr n).synced] ∧ Rd wr e1 (atF x tr n).table.tracked fa ∧ Rd wr e2 (atF x tr n).table.patterns fb ∧ Rd wr e3 (atF x tr n).table.distances fc ∧ (∀ b ∈ fa ++ (fb ++ fc), b ≠ w1.heap.size) ∧ Blk wr w.heap.size [.int .i64 x.points, .string x.names, .slice A0 x.moves.length C0] ∧ Blk wr (w.heap.size + 1) [.slice A1 tr.length C1, .slice A2 ps.length C2, .slice A3 ds.length C3, .int .i64 nx, .string lg, .int .i64 sy] ∧ Only [] w wr)
    (fun wr => nx.toNat - (intOf ((wr.cell? ⟨w1.heap.size, 3, none⟩).getD undef)).toNat)
  case atStart => exact ⟨0, _, _, _, _, _, _, fun m hm => absurd hm (Nat.not_lt_zero _), HYW.out, R1, R2, R3, hz, HY0.out, HY1.out, K1⟩
  case round =>
    obtain ⟨n, e1, e2, e3, fa, fb, fc, hgo, hY, hR1, hR2, hR3, hfd, hP0, hP1, hK⟩ := hrel
    obtain ⟨hG, hn3, -⟩ := hgf.out n (HOK.out n hgo)
    obtain ⟨A, hA⟩ : ∃ A, A = atF x tr n := ⟨_, rfl⟩
    rw [← hA] at hY hR1 hR2 hR3 hG
    have HA := Lib.hid hA; clear hA
    have Hgo := Lib.hid hgo; clear hgo
    obtain ⟨⟨tr', ps', ds'⟩, nx', lg', sy'⟩ := A
    have htk : tr' = tr := hG.tk
    subst tr'
    have hnn : nx' = (n : Int) := hG.nx
    subst nx'
    have hss : sy' = 0 := hG.sy
    subst sy'
    have HG := Lib.hid hG; clear hG
    simp only at hY hR1 hR2 hR3
    obtain ⟨P1, Q1, _, _, rfl, -⟩ := hR1.open_
    obtain ⟨P2, Q2, _, _, rfl, -⟩ := hR2.open_
    obtain ⟨P3, Q3, _, _, rfl, -⟩ := hR3.open_
    have g0 := hY.cell 0 rfl
    have q0 := hY.frozen 0
    have g1 := hY.cell 1 rfl
    have q1 := hY.frozen 1
    have g2 := hY.cell 2 rfl
    have q2 := hY.frozen 2
    have g3 := hY.cell 3 rfl
    have q3 := hY.frozen 3
    have g4 := hY.cell 4 rfl
    have q4 := hY.frozen 4
    have g5 := hY.cell 5 rfl
    have q5 := hY.frozen 5
    have i0 := hP1.cell 0 rfl
    have o0 := hP1.frozen 0
    have i1 := hP1.cell 1 rfl
    have o1 := hP1.frozen 1
    have i2 := hP1.cell 2 rfl
    have o2 := hP1.frozen 2
    have i3 := hP1.cell 3 rfl
    have o3 := hP1.frozen 3
    have i4 := hP1.cell 4 rfl
    have o4 := hP1.frozen 4
    have i5 := hP1.cell 5 rfl
    have o5 := hP1.frozen 5
    have c00 := hP0.cell 0 rfl
    have c01 := hP0.cell 1 rfl
    have c02 := hP0.cell 2 rfl
    have hend : ¬ goesF x (⟨⟨tr, ps, ds⟩, nx, lg, sy⟩ : FillJob) n → V = sameB ⟨⟨tr, ps', ds'⟩, (n : Int), lg', 0⟩ (⟨⟨tr, ps, ds⟩, nx, lg, sy⟩ : FillJob) := fun hg => by
      rw [HV.out, HA.out]
      exact validF_stop HB.out (by show lg.size ≤ 60000; omega) HRG.out Hgo.out hg
    have hgo3 : goesF x (⟨⟨tr, ps, ds⟩, nx, lg, sy⟩ : FillJob) n ↔ (n : Int) < nx ∧ n < ps'.length ∧ lg'.size < lg.size := by unfold goesF; rw [show atF x (⟨⟨tr, ps, ds⟩, nx, lg, sy⟩ : FillJob).table.tracked n = ⟨⟨tr, ps', ds'⟩, (n : Int), lg', 0⟩ from HA.out.symm]
    have HE := Lib.hid hend; clear hend
    have HO3 := Lib.hid hgo3; clear hgo3
    have hRW : Rp.rep wr [.slice P1 tr.length Q1, .slice P2 ps'.length Q2, .slice P3 ds'.length Q3, .int .i64 n, .string lg', .int .i64 0] (⟨⟨tr, ps', ds'⟩, (n : Int), lg', 0⟩ : FillJob) (fa ++ (fb ++ fc)) := ⟨[.slice P1 tr.length Q1, .slice P2 ps'.length Q2, .slice P3 ds'.length Q3], rfl, by unfold I64; show -9223372036854775808 ≤ (n : Int) ∧ (n : Int) ≤ 9223372036854775807; omega, by have h5 : lg'.size ≤ 400 * n := HG.out.lg; show lg'.size ≤ maxLen; unfold maxLen; omega, by unfold I64; simp, ⟨_, _, _, _, _, _, rfl, rfl, hR1, hR2, hR3⟩⟩
    have hRJ := Rp.keep hrep hK
    by_cases d1 : (n : Int) < nx
    · by_cases d2 : n < ps'.length
      · by_cases d3 : lg'.size < lg.size
        · have hcan : CanF x ⟨⟨tr, ps', ds'⟩, (n : Int), lg', 0⟩ n := ⟨HGT.out.1, HGT.out.2, rfl, d2, HG.out.ln, HG.out.le, HG.out.ps, fun d hd => by have := HG.out.ds d hd; omega, by have := HG.out.lg; show lg'.size ≤ 2000000; have h5 : lg'.size ≤ 400 * n := this; omega⟩
          have hx : expandF x ⟨⟨tr, ps', ds'⟩, (n : Int), lg', 0⟩ = atF x tr (n + 1) := by show _ = expandF x (atF x tr n); rw [← HA.out]
          have Hx := Lib.hid hx; clear hx
          have Hcan := Lib.hid hcan; clear hcan
          go_wp2_with fail
          with_reducible refine (expand28_raw [.int .i64 x.points, .string x.names, .slice A0 x.moves.length C0] x _ (.slice P1 tr.length Q1) (.slice P2 ps'.length Q2) (.slice P3 ds'.length Q3) tr ps' ds' n lg' 0 _ _ _ _ (Rp.keep hh hK) hR1 hR2 hR3 (by unfold I64; omega) Hcan.out).mono ?_
          rintro e w4 ⟨cs4, f4, rfl, r4, F4, t4⟩
          rw [Hx.out] at r4
          have hzw := t4.size
          have hwl := hY.lt
          have hY4 := hY.keep t4
          clear g0 g1 g2 g3 g4 g5 q0 q1 q2 q3 q4 q5
          have G4 := Lib.hid (fun m (hm : m < n + 1) => show goesF x (⟨⟨tr, ps, ds⟩, nx, lg, sy⟩ : FillJob) m from by
            rcases Nat.lt_or_ge m n with h6 | h6
            · exact Hgo.out m h6
            · rw [show m = n by omega]; exact HO3.out.2 ⟨d1, d2, d3⟩)
          generalize hA1 : atF x tr (n + 1) = A1' at r4
          have hn1 : A1'.next = (n : Int) + 1 := by rw [← hA1]; show (atF x tr n).next + 1 = _; rw [← HA.out]
          have HA1 := Lib.hid hA1; have HN1 := Lib.hid hn1; clear hA1 hn1
          obtain ⟨d0, rfl, -, -, -, r5⟩ := r4
          obtain ⟨u1, u2, u3, z1', z2', z3', rfl, hfz, kk1, kk2, kk3⟩ := r5
          obtain ⟨R1', S1', _, _, rfl, -⟩ := kk1.open_
          obtain ⟨R2', S2', _, _, rfl, -⟩ := kk2.open_
          obtain ⟨R3', S3', _, _, rfl, -⟩ := kk3.open_
          have g0 := hY4.cell 0 rfl
          have q0 := hY4.frozen 0
          have g1 := hY4.cell 1 rfl
          have q1 := hY4.frozen 1
          have g2 := hY4.cell 2 rfl
          have q2 := hY4.frozen 2
          have g3 := hY4.cell 3 rfl
          have q3 := hY4.frozen 3
          have g4 := hY4.cell 4 rfl
          have q4 := hY4.frozen 4
          have g5 := hY4.cell 5 rfl
          have q5 := hY4.frozen 5
          have hf4 : ∀ b ∈ z1' ++ (z2' ++ z3'), b ≠ w1.heap.size := fun b hb => by have := F4.ge b (by rw [hfz]; simpa using hb); omega
          have Yf := ((((((hY4.set 0 (.slice R1' A1'.table.tracked.length S1')).set 1 (.slice R2' A1'.table.patterns.length S2')).set 2 (.slice R3' A1'.table.distances.length S3')).set 3 (.int .i64 A1'.next)).set 4 (.string A1'.log)).set 5 (.int .i64 A1'.synced))
          have kf : Only [w1.heap.size] w4 ((((((w4.setCell ⟨w1.heap.size, 0, none⟩ (.slice R1' A1'.table.tracked.length S1')).setCell ⟨w1.heap.size, 1, none⟩ (.slice R2' A1'.table.patterns.length S2')).setCell ⟨w1.heap.size, 2, none⟩ (.slice R3' A1'.table.distances.length S3')).setCell ⟨w1.heap.size, 3, none⟩ (.int .i64 A1'.next)).setCell ⟨w1.heap.size, 4, none⟩ (.string A1'.log)).setCell ⟨w1.heap.size, 5, none⟩ (.int .i64 A1'.synced)) := (((((((Only.refl _ _).setCell (by simp) _).setCell (by simp) _).setCell (by simp) _).setCell (by simp) _).setCell (by simp) _).setCell (by simp) _)
          have hb0 := (hP0.keep t4).only kf (by simp; omega)
          have hb1 := (hP1.keep t4).only kf (by simp; omega)
          have hr1 := Rp.only kk1 kf (fun b hb hm => hf4 b (by simp [hb]) (by simpa using hm))
          have hr2 := Rp.only kk2 kf (fun b hb hm => hf4 b (by simp [hb]) (by simpa using hm))
          have hr3 := Rp.only kk3 kf (fun b hb hm => hf4 b (by simp [hb]) (by simpa using hm))
          have kw := (hK.trans t4).then_ kf (by simp; omega)
          simp only [List.set] at Yf
          go_wp2_with fail
          go_roundw
          case rel => exact ⟨n + 1, _, _, _, z1', z2', z3', G4.out, by rw [HA1.out]; exact Yf, by rw [HA1.out]; exact hr1, by rw [HA1.out]; exact hr2, by rw [HA1.out]; exact hr3, hf4, hb0, hb1, kw⟩
          case measure =>
            have m0x := hY.cell 3 rfl
            have m1x := Yf.cell 3 rfl
            show nx.toNat - (intOf ((World.cell? _ ⟨w1.heap.size, 3, none⟩).getD undef)).toNat < nx.toNat - (intOf ((World.cell? _ ⟨w1.heap.size, 3, none⟩).getD undef)).toNat
            rw [m0x, m1x]
            simp only [Option.getD_some, intOf]
            have := HN1.out
            omega
        · have hv := HE.out (fun hg => d3 (HO3.out.1 hg).2.2)
          have HV2 := Lib.hid hv; clear hv
          go_wp2_with (first
            | (go_at_call 34; (with_reducible refine (same28_any [.slice P1 tr.length Q1, .slice P2 ps'.length Q2, .slice P3 ds'.length Q3, .int .i64 n, .string lg', .int .i64 0] [.slice A1 tr.length C1, .slice A2 ps.length C2, .slice A3 ds.length C3, .int .i64 nx, .string lg, .int .i64 sy] ⟨⟨tr, ps', ds'⟩, (n : Int), lg', 0⟩ (⟨⟨tr, ps, ds⟩, nx, lg, sy⟩ : FillJob) _ _ _ hRW hRJ).mono ?_); rintro e w4 ⟨rfl, t4⟩)
            | fail "no arm")
          go_ret
          exact ⟨ret_bool HV2.out.symm, (by with_reducible repeat (first | exact Only.refl _ _ | assumption | refine Only.drewN ?_ _ | refine Only.drew ?_ | refine Only.alloc ?_ _ | refine Only.setCell ?_ (by intro hh; exfalso; simp at hh; try omega) _ | refine Only.trans ?_ (by assumption)))⟩
      · have hv := HE.out (fun hg => d2 (HO3.out.1 hg).2.1)
        have HV2 := Lib.hid hv; clear hv
        go_wp2_with (first
          | (go_at_call 34; (with_reducible refine (same28_any [.slice P1 tr.length Q1, .slice P2 ps'.length Q2, .slice P3 ds'.length Q3, .int .i64 n, .string lg', .int .i64 0] [.slice A1 tr.length C1, .slice A2 ps.length C2, .slice A3 ds.length C3, .int .i64 nx, .string lg, .int .i64 sy] ⟨⟨tr, ps', ds'⟩, (n : Int), lg', 0⟩ (⟨⟨tr, ps, ds⟩, nx, lg, sy⟩ : FillJob) _ _ _ hRW hRJ).mono ?_); rintro e w4 ⟨rfl, t4⟩)
          | fail "no arm")
        go_ret
        exact ⟨ret_bool HV2.out.symm, (by with_reducible repeat (first | exact Only.refl _ _ | assumption | refine Only.drewN ?_ _ | refine Only.drew ?_ | refine Only.alloc ?_ _ | refine Only.setCell ?_ (by intro hh; exfalso; simp at hh; try omega) _ | refine Only.trans ?_ (by assumption)))⟩
    · have hv := HE.out (fun hg => d1 (HO3.out.1 hg).1)
      have HV2 := Lib.hid hv; clear hv
      go_wp2_with (first
        | (go_at_call 34; (with_reducible refine (same28_any [.slice P1 tr.length Q1, .slice P2 ps'.length Q2, .slice P3 ds'.length Q3, .int .i64 n, .string lg', .int .i64 0] [.slice A1 tr.length C1, .slice A2 ps.length C2, .slice A3 ds.length C3, .int .i64 nx, .string lg, .int .i64 sy] ⟨⟨tr, ps', ds'⟩, (n : Int), lg', 0⟩ (⟨⟨tr, ps, ds⟩, nx, lg, sy⟩ : FillJob) _ _ _ hRW hRJ).mono ?_); rintro e w4 ⟨rfl, t4⟩)
        | fail "no arm")
      go_ret
      exact ⟨ret_bool HV2.out.symm, (by with_reducible repeat (first | exact Only.refl _ _ | assumption | refine Only.drewN ?_ _ | refine Only.drew ?_ | refine Only.alloc ?_ _ | refine Only.setCell ?_ (by intro hh; exfalso; simp at hh; try omega) _ | refine Only.trans ?_ (by assumption)))⟩

end Go.Proofs.YtkhdmiemfpelcaaGreat

namespace Go.Proofs.YtkhdmiemfpelcaaGreat
open Go.RowKit
set_option maxRecDepth 10000

theorem atF_len_le (x : Puzzle) (tr : List Int) (n : Nat) : (atF x tr n).table.patterns.length ≤ (atF x tr (n + 1)).table.patterns.length := by
  show _ ≤ ((atF x tr n).table.patterns ++ newF x (atF x tr n)).length
  rw [List.length_append]; omega
theorem GoF.mid {x : Puzzle} {j : FillJob} {n : Nat} (h : GoF x j n) : midT j.table := by
  have h1 := (trackB_iff.1 h.tr).2.len
  have h2 := (validPz_facts h.vp).2.1
  have h3 := h.le
  have h4 := h.ln
  refine ⟨by omega, by omega, fun y hy => ?_, by omega⟩
  have := (patB_iff.1 (h.ps y hy)).1
  omega
end Go.Proofs.YtkhdmiemfpelcaaGreat

namespace Go.Proofs.YtkhdmiemfpelcaaGreat
open Go.RowKit
set_option maxRecDepth 10000
end Go.Proofs.YtkhdmiemfpelcaaGreat

namespace Go.Proofs.YtkhdmiemfpelcaaGreat
open Go.RowKit
set_option maxRecDepth 10000

theorem kB_app (l l' : List Int) : kB (l ++ l') = kB l ++ kB l' := by
  unfold kB strOfNums
  rw [List.map_append]
  apply ByteArray.ext
  simp
theorem kB_mod {l l' : List Int} (h : l.map (fun x => x % 256) = l'.map (fun x => x % 256)) : kB l = kB l' := by unfold kB; rw [h]
theorem recB_parts (n : Int) (a : List (List Int)) : (nbB n 2 ++ nbB (a.length : Int) 1) ++ kB a.flatten = recB n a := by
  unfold recB recL
  rw [kB_app]
  congr 1
  unfold nbB
  rw [← kB_app]
  apply kB_mod
  simp [nbL, List.range_succ]
theorem isDone_any {B g M : Nat} {v1 vm c5 c6 : Value} {n : Nat} {tr : List Int} {mvs : List (List Int)} {f1 fm ex : List Nat} {K L2 : List (List Int)} {L3 : List Int} {u2 u3 : Value} {fs : List (List Nat)} (w : World) (h : FL B g M v1 vm (.int .i64 (n : Int)) c5 c6 tr mvs f1 fm ex K L2 L3 w u2 u3 fs) :
    Calls Tryz.prog 40 #[.pointer (some ⟨g, 0, none⟩)] w fun e w' => e = .returned (.bool (decide (n = L2.length))) ∧ Only [] w w' := by
  obtain ⟨P2, Q2, rfl⟩ := h.pt.form
  have y1 := h.blk.cell 1 rfl
  have y3 := h.blk.cell 3 rfl
  have hr := h.pt.rd (by decide)
  obtain ⟨bb, hbb⟩ : ∃ bb, bb = decide (n = L2.length) := ⟨_, rfl⟩
  have hb2 : ((n : Int) == (L2.length : Int)) = bb := by
    rw [hbb]
    by_cases hn : n = L2.length
    · simp [hn]
    · simp [hn]; omega
  rw [← hbb]
  clear hbb
  go_enter Tryz.func40, Tryz.ntmps40
  go_upto_region 1 with fail
  go_region_held3 (fun w' => Only [] w w' ∧ w'.cell? ⟨g, 1, none⟩ = some (.slice P2 L2.length Q2) ∧ w'.cell? ⟨g, 3, none⟩ = some (Value.int .i64 (n : Int))) ((refine and_of ?_ (fun h__ => ⟨h__.cell (by simp) y1, h__.cell (by simp) y3⟩); first | with_reducible exact (Only.refl _ _).drew | with_reducible exact Only.keepThen (And.left (by assumption)) (by assumption))) (first
    | (go_at_call 60; (with_reducible refine (lengthRows_rd _ L2 _ _ (Rp.keep hr (And.left (by assumption)))).mono ?_); rintro e w1 ⟨rfl, rfl⟩)
    | fail "no arm")
  go_wp2_with fail
  go_ret
  exact ⟨rfl, (by with_reducible repeat (first | exact Only.refl _ _ | assumption | refine Only.drewN ?_ _ | refine Only.drew ?_ | refine Only.alloc ?_ _ | refine Only.setCell ?_ (by intro hh; exfalso; simp at hh; try omega) _ | refine Only.trans ?_ (by assumption)))⟩
end Go.Proofs.YtkhdmiemfpelcaaGreat

namespace Go.Proofs.YtkhdmiemfpelcaaGreat
open Go.RowKit
set_option maxRecDepth 10000

theorem number1_any (n : Int) (w : World) (hn : I64 n) : Calls Tryz.prog 64 #[.int .i64 n, .int .i64 1] w fun e w' => e = .returned (.string (nbB n 1)) ∧ Only [] w w' := number_any n 1 w hn (by omega)
theorem number2_any (n : Int) (w : World) (hn : I64 n) : Calls Tryz.prog 64 #[.int .i64 n, .int .i64 2] w fun e w' => e = .returned (.string (nbB n 2)) ∧ Only [] w w' := number_any n 2 w hn (by omega)
theorem number4_any (n : Int) (w : World) (hn : I64 n) : Calls Tryz.prog 64 #[.int .i64 n, .int .i64 4] w fun e w' => e = .returned (.string (nbB n 4)) ∧ Only [] w w' := number_any n 4 w hn (by omega)
set_option maxHeartbeats 4000000 in
theorem expansion_any {B g M : Nat} {v1 vm c5 c6 : Value} {n : Nat} {tr : List Int} {f1 fm ex : List Nat} {L2 : List (List Int)} {L3 : List Int} {u2 u3 : Value} {fs : List (List Nat)} (x : Puzzle) (w : World)
    (h : FL B g M v1 vm (.int .i64 (n : Int)) c5 c6 tr ((ltrs x.moves.length).map (mv x.moves)) f1 fm ex L2 L2 L3 w u2 u3 fs) (hv : validPz x = true) (ht : trackB x.points tr = true) (hn : n < L2.length) (hle : L2.length ≤ 3000) (hps : ∀ q ∈ L2, patB x.points tr.length q = true) :
    Calls Tryz.prog 41 #[.pointer (some ⟨g, 0, none⟩)] w fun e w' => ∃ v fa, e = .returned (.tuple #[v, .string (recF (n : Int) (addL x L2 (L2.getD n []) (ltrs x.moves.length) []))]) ∧ Acc w.heap.size 25 w' v (addL x L2 (L2.getD n []) (ltrs x.moves.length) []) fa ∧ Fresh w.heap.size w' fa.flatten ∧ Only [] w w' := by
  obtain ⟨gg1, gg2, gg3, gg4⟩ := validPz_facts hv
  obtain ⟨ls, hls⟩ : ∃ ls, ls = ltrs x.moves.length := ⟨_, rfl⟩
  rw [← hls] at h ⊢
  have hll : ls.length ≤ 1000 := by rw [hls, ltrs_len]; omega
  obtain ⟨mvs, hmvs⟩ : ∃ mvs, mvs = ls.map (mv x.moves) := ⟨_, rfl⟩
  rw [← hmvs] at h
  have hml : mvs.length = ls.length := by rw [hmvs, List.length_map]
  have htl : tr.length ≤ 20 := by have := (trackB_iff.1 ht).2.len; omega
  have Hls := Lib.hid hls
  have Hmvs := Lib.hid hmvs
  have Hml := Lib.hid hml
  have hml1 : mvs.length ≤ 1000 := by omega
  clear hls hmvs hml
  have hMr := h.mv
  obtain ⟨am, cm, om_, fpm, rfl, -, SM⟩ := hMr.open_
  obtain ⟨P2, Q2, rfl⟩ := h.pt.form
  have hPr := h.pt.rd (by decide)
  obtain ⟨ap, cp, op_, fpp, he, -, SP⟩ := hPr.open_
  injection he with e1 _ e2
  subst e1
  subst e2
  obtain ⟨bl, ol, ul, rfl, -, hcl, hul⟩ := SP.atRow n hn
  obtain ⟨q, hq⟩ : ∃ q, q = L2[n] := ⟨_, rfl⟩
  rw [getD_get hn, ← hq]
  rw [← hq] at hul
  have hpq : patB x.points tr.length q = true := by rw [hq]; exact hps _ (List.getElem_mem hn)
  have hql : q.length ≤ 1000 := by rw [(patB_iff.1 hpq).1]; omega
  have Hpq := Lib.hid hpq
  have Hps := Lib.hid hps
  clear hq hpq hps
  have y1 := h.blk.cell 1 rfl
  have y3 := h.blk.cell 3 rfl
  have y6 := h.blk.cell 6 rfl
  have y7 := h.blk.cell 7 rfl
  have hmp := h.mp
  have hn0 : (0 : Int) ≤ (n : Int) := by omega
  have hnl : (n : Int) < (L2.length : Int) := by omega
  obtain ⟨iL, hiL, hL0, hL1, hL2⟩ := info_parts Tryz.info22
  go_enter Tryz.func41, Tryz.ntmps41
  go_wp2_with fail
  go_loopw [4, 5, 16] (fun o t i wr => ∃ (j : Nat) (a : List (List Int)) (fa : List (List Nat)) (tx : ByteArray), j ≤ mvs.length ∧ i = .int .i64 j ∧ t = .string tx ∧ tx = kB a.flatten ∧ a = addL x L2 q (ls.take j) [] ∧ Acc w.heap.size 25 wr o a fa ∧ Fresh w.heap.size wr fa.flatten ∧ Only [] w wr)
    (fun _ _ i _ => mvs.length - (intOf i).toNat)
  case atStart => exact ⟨0, [], [], ⟨#[]⟩, Nat.zero_le _, rfl, rfl, rfl, by simp [addL], Acc.nil _ _ _, Fresh.nil _ _, Only.refl _ _⟩
  case round =>
    obtain ⟨W2, hnew⟩ : ∃ W, W = wr := ⟨_, rfl⟩
    subst hnew
    obtain ⟨j, a, fa, tx, hj, rfl, rfl, htx, ha, hA, hF, hK⟩ := hrel
    have hal : a.length ≤ 1000 := by
      have h1 := (addL_pre x L2 q (ls.take j) []).2
      rw [ha]
      simp only [List.length_nil, List.length_take] at h1
      omega
    have hap : ∀ z ∈ a, patB x.points tr.length z = true := fun z hz => by
      rw [ha] at hz
      exact addL_pat hv Hpq.out (ls.take j) [] (fun y hy => by rw [← Hls.out]; exact List.mem_of_mem_take hy) (by simp) z hz
    have har : ∀ z ∈ a, z.length ≤ 20 := fun z hz => by have := (patB_iff.1 (hap z hz)).1; omega
    have htxs : tx.size ≤ 20000 := by rw [htx, kB_size]; have := flatten_len har; omega
    have Htx := Lib.hid htx
    have Ha := Lib.hid ha
    have Hap := Lib.hid hap
    have Har := Lib.hid har
    clear htx ha hap har
    obtain ⟨P4, Q4, rfl⟩ := hA.form
    have hsw := hK.size
    by_cases hlt : j < mvs.length
    · obtain ⟨bm, om, um, rfl, -, hcm0, hum0⟩ := SM.atRow j hlt
      have hlj : j < ls.length := by have := Hml.out; omega
      have hmj : mvs[j] = mv x.moves ls[j] := by simp [Hmvs.out]
      rw [hmj] at hum0
      have hla : ls[j] ∈ ltrs x.moves.length := by rw [← Hls.out]; exact List.getElem_mem hlj
      have hmp_ := mv_pn (validPz_pn hv) hla
      have hrq : ∀ z ∈ q, 0 ≤ z ∧ z < (mv x.moves ls[j]).length := fun z hz => by have := (patB_iff.1 Hpq.out).2.1 z hz; rw [hmp_.1]; omega
      have Hrq := Lib.hid hrq
      obtain ⟨y, hy⟩ : ∃ y, y = nxt x q ls[j] := ⟨_, rfl⟩
      have hyp : patB x.points tr.length y = true := by rw [hy]; exact nxt_pat hv Hpq.out hla
      have hyl : y.length ≤ 20 := by rw [(patB_iff.1 hyp).1]; exact htl
      have Hy := Lib.hid hy
      have Hcs := Lib.hid (show PM.comp q (mv x.moves ls[j]) = y by rw [hy]; rfl)
      have hat := addL_take x L2 q ls j hlj
      rw [← hy, ← Ha.out] at hat
      have hmet : metB L2 (kB y) = decide (y ∈ L2) := metB_mem (by omega) Hps.out hyp
      have hkz : (kB y).size ≤ maxLen := by rw [kB_size]; unfold maxLen; omega
      have hkz2 : (kB y).size ≤ 20 := by rw [kB_size]; exact hyl
      have hyl2 : y.length ≤ 1000 := by omega
      clear hmj hla hmp_ hrq hy hyp
      have hcm := hK.cell (by simp) hcm0
      have hum := Rp.keep hum0 hK
      have x1 := hK.cell (by simp) y1
      have x3 := hK.cell (by simp) y3
      have x7 := hK.cell (by simp) y7
      have xl := hK.cell (by simp) hcl
      have xu := Rp.keep hul hK
      have hjm : (j : Int) < (mvs.length : Int) := by omega
      have hj0 : (0 : Int) ≤ (j : Int) := by omega
      go_upto_region 6 with fail
      go_region_held3 (fun w' => Only [] W2 w' ∧ w'.cell? ⟨g, 1, none⟩ = some (.slice (some ⟨bl, ol, none⟩) L2.length Q2) ∧ w'.cell? ⟨g, 3, none⟩ = some (Value.int .i64 (n : Int)) ∧ w'.cell? ⟨bl, ol + n, none⟩ = some ul) ((refine and_of ?_ (fun h__ => ⟨h__.cell (by simp) x1, h__.cell (by simp) x3, h__.cell (by simp) xl⟩); first | with_reducible exact (Only.refl _ _).drew | with_reducible exact Only.keepThen (And.left (by assumption)) (by assumption))) (first
        | (go_at_call 61; (with_reducible refine (picked_rd um ul (mv x.moves ls[j]) q _ _ _ (Rp.keep hum (And.left (by assumption))) (Rp.keep xu (And.left (by assumption))) Hrq.out hql).mono ?_); rintro e w5 ⟨u5, f5, rfl, r5, F5, t5⟩; rw [Hcs.out] at r5; obtain ⟨a5, c5_, rfl, I5⟩ := r5.ints; clear r5)
        | fail "no arm")
      have K5 : Only [] W2 w5 := ((Only.refl [] _).drew).trans t5
      have F5' : Fresh W2.heap.size w5 f5 := F5.mono (by simp)
      have x75 := K5.cell (by simp) x7
      have hmp5 := (hmp.keep hK).keep K5
      have Hr5 := Lib.hid I5.rd
      by_cases hm2 : y ∈ L2
      · rw [if_pos (List.mem_append_left _ hm2)] at hat
        have Hat := Lib.hid hat
        have Hmet := Lib.hid (show metB L2 (kB y) = true by rw [hmet]; simp [hm2])
        clear hat hmet hm2
        go_wp2_with (first
          | (go_at_call 62; (with_reducible refine (stateKey_rd (.slice a5 y.length c5_) y _ _ (Rp.keep Hr5.out (by with_reducible repeat (first | exact Only.refl _ _ | assumption | refine Only.drewN ?_ _ | refine Only.drew ?_ | refine Only.alloc ?_ _ | refine Only.setCell ?_ (by intro hh; exfalso; simp at hh; try omega) _ | refine Only.trans ?_ (by assumption)))) hyl2).mono ?_); rintro e w6 ⟨rfl, t6⟩; have k6 : Only [] w5 w6 := t6; have x76 := k6.cell (by simp) x75; have hrun6 := (hmp5.keep k6).run_at hkz; rw [Hmet.out] at hrun6)
          | fail "no arm")
        go_roundw
        case rel => exact ⟨j + 1, a, fa, tx, by omega, by go_num, rfl, Htx.out, Hat.out.symm, (hA.keep K5).keep k6, (hF.keep K5).keep k6, (hK.trans K5).trans k6⟩
        case measure => simp [intOf]; omega
      · have Hmet := Lib.hid (show metB L2 (kB y) = false by rw [hmet]; simp [hm2])
        clear hmet
        by_cases hma : y ∈ a
        · rw [if_pos (List.mem_append_right _ hma)] at hat
          have Hat := Lib.hid hat
          have hge := idxL_ge hma
          have hnl2 : ¬ (idxL a y < 0) := by omega
          clear hat hma hm2
          go_wp2_with (first
            | (go_at_call 62; (with_reducible refine (stateKey_rd (.slice a5 y.length c5_) y _ _ (Rp.keep Hr5.out (by with_reducible repeat (first | exact Only.refl _ _ | assumption | refine Only.drewN ?_ _ | refine Only.drew ?_ | refine Only.alloc ?_ _ | refine Only.setCell ?_ (by intro hh; exfalso; simp at hh; try omega) _ | refine Only.trans ?_ (by assumption)))) hyl2).mono ?_); rintro e w6 ⟨rfl, t6⟩; have k6 : Only [] w5 w6 := t6; have x76 := k6.cell (by simp) x75; have hrun6 := (hmp5.keep k6).run_at hkz; rw [Hmet.out] at hrun6)
            | (go_at_call 63; (with_reducible refine (indexOf_any (.slice P4 a.length Q4) (.slice a5 y.length c5_) a y _ _ _ (((hA.keep K5).keep k6).rd (by decide)) (Rp.keep Hr5.out k6)).mono ?_); rintro e w7 ⟨rfl, t7⟩)
            | fail "no arm")
          go_roundw
          case rel => exact ⟨j + 1, a, fa, tx, by omega, by go_num, rfl, Htx.out, Hat.out.symm, ((hA.keep K5).keep k6).keep t7, ((hF.keep K5).keep k6).keep t7, ((hK.trans K5).trans k6).trans t7⟩
          case measure => simp [intOf]; omega
        · rw [if_neg (by simp [hm2, hma])] at hat
          have Hat := Lib.hid hat
          have hnl2 : idxL a y < 0 := idxL_neg hma
          have hla1 : a.length + 1 ≤ 1073741824 := by omega
          have hcat : ¬ (9223372036854775807 < tx.size + (kB y).size) := by omega
          have hf5 : ∀ b ∈ f5, (Value.slice P4 a.length Q4).ownBlock ≠ some b := fun b hb he => by have h1 := F5'.ge b hb; have h2 := (hA.ownlt b he).2; omega
          clear hat hma hm2
          go_wp2_with (first
            | (go_at_call 62; (with_reducible refine (stateKey_rd (.slice a5 y.length c5_) y _ _ (Rp.keep Hr5.out (by with_reducible repeat (first | exact Only.refl _ _ | assumption | refine Only.drewN ?_ _ | refine Only.drew ?_ | refine Only.alloc ?_ _ | refine Only.setCell ?_ (by intro hh; exfalso; simp at hh; try omega) _ | refine Only.trans ?_ (by assumption)))) hyl2).mono ?_); rintro e w6 ⟨rfl, t6⟩; have k6 : Only [] w5 w6 := t6; have x76 := k6.cell (by simp) x75; have hrun6 := (hmp5.keep k6).run_at hkz; rw [Hmet.out] at hrun6)
            | (go_at_call 63; (with_reducible refine (indexOf_any (.slice P4 a.length Q4) (.slice a5 y.length c5_) a y _ _ _ (((hA.keep K5).keep k6).rd (by decide)) (Rp.keep Hr5.out k6)).mono ?_); rintro e w7 ⟨rfl, t7⟩; have k7 : Only [] W2 w7 := (K5.trans k6).trans t7; have A7 := hA.keep k7; have B7 : w.heap.size ≤ w7.heap.size := (hK.trans k7).size; have kl7 : Only [] w7 (w7.alloc (.cells #[.slice a5 y.length c5_] 25)) := (Only.refl _ _).alloc _; have r7 := Rp.keep (Rp.keep Hr5.out (k6.trans t7)) kl7)
            | (at_builtin; refine wpList_push2w rfl _ _ 22 rfl w.heap.size 25 iL _ 24 Tryz.underlying22 hiL hL0 hL1 hL2 rfl (by decide) (by decide) w7 (.slice P4 a.length Q4) a fa rfl A7 kl7 B7 w7.heap.size 1 [.slice a5 y.length c5_] y f5 rfl (lit_src w7 [.slice a5 y.length c5_] _ rfl) (by intro u hu; simp at hu; subst hu; rfl) r7 hf5 hla1 ?_; intro v9 w9 hA9 hO9 hP9 hQ9 hN9)
            | fail "no arm")
          have KF : Fresh w.heap.size w9 (fa ++ [f5]).flatten := by
            have e : (fa ++ [f5]).flatten = fa.flatten ++ f5 := by simp
            rw [e]
            refine ((Fresh.append (hF.keep k7) (F5'.keep (k6.trans t7)) hsw (fun b hb => hF.lt b hb)).keep kl7).only hO9 (fun b hb hm => ?_)
            rcases List.mem_append.1 hb with hb | hb
            · exact hA.apart b (by simpa using hm) hb
            · exact hf5 b hb (by simpa using hm)
          go_roundw
          case rel => exact ⟨j + 1, a ++ [y], fa ++ [f5], tx ++ kB y, by omega, by go_num, rfl, by rw [Htx.out, List.flatten_append, kB_app]; simp, Hat.out.symm, hA9, KF, hP9 w ((hK.trans k7).trans kl7) (Nat.le_refl _)⟩
          case measure => simp [intOf]; omega
    · obtain rfl : j = mvs.length := by omega
      have hat := Ha.out
      rw [Hml.out, List.take_length] at hat
      obtain ⟨rec, hrec⟩ : ∃ rec, rec = recB (n : Int) a := ⟨_, rfl⟩
      obtain ⟨z1, hz1⟩ : ∃ z, z = nbB (n : Int) 2 := ⟨_, rfl⟩
      obtain ⟨z2, hz2⟩ : ∃ z, z = nbB (a.length : Int) 1 := ⟨_, rfl⟩
      have hzz : (z1 ++ z2) ++ tx = rec := by rw [hz1, hz2, Htx.out, hrec, recB_parts]
      have hs1 : z1.size = 2 := by rw [hz1]; unfold nbB; rw [kB_size, nbL_len]
      have hs2 : z2.size = 1 := by rw [hz2]; unfold nbB; rw [kB_size, nbL_len]
      have hrs : rec.size ≤ 20003 := by rw [← hzz, ByteArray.size_append, ByteArray.size_append]; omega
      have hrm : rec.size ≤ maxLen := by unfold maxLen; omega
      have hcs := csum_rng rec
      obtain ⟨ck, hck⟩ : ∃ ck, ck = csum rec := ⟨_, rfl⟩
      rw [← hck] at hcs
      obtain ⟨z4, hz4⟩ : ∃ z, z = nbB ck 4 := ⟨_, rfl⟩
      have hs4 : z4.size = 4 := by rw [hz4]; unfold nbB; rw [kB_size, nbL_len]
      have hfin : recF (n : Int) (addL x L2 q ls []) = rec ++ z4 := by unfold recF; rw [← hat, ← hrec, ← hck, ← hz4]
      have hq1 : ¬ (9223372036854775807 < z1.size + z2.size) := by omega
      have hq2 : ¬ (9223372036854775807 < (z1 ++ z2).size + tx.size) := by rw [ByteArray.size_append]; omega
      have hq3 : ¬ (9223372036854775807 < z1.size + z2.size + tx.size) := by omega
      have hq4 : ¬ (9223372036854775807 < rec.size + z4.size) := by omega
      have hI1 : I64 (n : Int) := by unfold I64; omega
      have hI2 : I64 (a.length : Int) := by unfold I64; omega
      have hI3 : I64 ck := by unfold I64; omega
      have Hz1 := Lib.hid hz1
      have Hz2 := Lib.hid hz2
      have Hz4 := Lib.hid hz4
      have Hck := Lib.hid hck
      have Hfin := Lib.hid hfin
      have Hat := Lib.hid hat
      have HI1 := Lib.hid hI1
      have HI2 := Lib.hid hI2
      have HI3 := Lib.hid hI3
      have x3 := hK.cell (by simp) y3
      have HA := Lib.hid hA
      clear hz1 hz2 hz4 hck hfin hat hrec hs1 hs2 hs4 hI1 hI2 hI3
      go_wp2_with (first
        | (go_at_call 64; (with_reducible refine (number2_any (n : Int) _ HI1.out).mono ?_); rintro e w3 ⟨he, t3⟩; rw [← Hz1.out] at he; subst he)
        | (go_at_call 60; (with_reducible refine (lengthRows_rd (.slice P4 a.length Q4) a _ _ ((HA.out.keep (by with_reducible repeat (first | exact Only.refl _ _ | assumption | refine Only.drewN ?_ _ | refine Only.drew ?_ | refine Only.alloc ?_ _ | refine Only.setCell ?_ (by intro hh; exfalso; simp at hh; try omega) _ | refine Only.trans ?_ (by assumption)))).rd (by decide))).mono ?_); rintro e w4 ⟨rfl, e4⟩; subst e4)
        | (go_at_call 64; (with_reducible refine (number1_any (a.length : Int) _ HI2.out).mono ?_); rintro e w5 ⟨he, t5⟩; rw [← Hz2.out] at he; subst he)
        | (go_at_call 65; (with_reducible refine (implChecksum_any rec _ hrm).mono ?_); rintro e w6 ⟨he, t6⟩; rw [← Hck.out] at he; subst he; obtain ⟨n6, rfl⟩ := t6)
        | (go_at_call 64; (with_reducible refine (number4_any ck _ HI3.out).mono ?_); rintro e w7 ⟨he, t7⟩; rw [← Hz4.out] at he; subst he)
        | fail "no arm")
      have K7 : Only [] W2 w7 := (by with_reducible repeat (first | exact Only.refl _ _ | assumption | refine Only.drewN ?_ _ | refine Only.drew ?_ | refine Only.alloc ?_ _ | refine Only.setCell ?_ (by intro hh; exfalso; simp at hh; try omega) _ | refine Only.trans ?_ (by assumption)))
      refine bodyPost_ret (v := .tuple #[.slice P4 a.length Q4, .string (rec ++ z4)]) (by simp [results, Tryz.results41, go_sem]) rfl ⟨_, fa, by rw [Hfin.out], by rw [← Hat.out]; exact HA.out.keep K7, hF.keep K7, hK.trans K7⟩
end Go.Proofs.YtkhdmiemfpelcaaGreat

namespace Go.Proofs.YtkhdmiemfpelcaaGreat
open Go.RowKit
set_option maxRecDepth 10000

theorem flF_mem {g M : Nat} {u2 u3 : Value} {b : Nat} (h : b ∈ (flF g M u2 u3).flatten) : ∃ c ∈ flF g M u2 u3, b ∈ c := by
  obtain ⟨c, hc, hb⟩ := List.mem_flatten.1 h; exact ⟨c, hc, hb⟩
/-- what a filler writes: its own memory at the start, or memory made since -/
def Zone (S : List Nat) (n g M : Nat) (u2 u3 : Value) : Prop := ∀ b ∈ (flF g M u2 u3).flatten, b ∈ S ∨ n ≤ b
theorem Zone.one {S : List Nat} {n g M : Nat} {u2 u3 : Value} (h : Zone S n g M u2 u3) {i : Nat} {c : List Nat} (hi : (flF g M u2 u3)[i]? = some c) : ∀ b ∈ c, b < n → b ∈ S := fun b hb hl => by
  rcases h b (List.mem_flatten.2 ⟨c, List.mem_of_getElem? hi, hb⟩) with h | h
  · exact h
  · omega
theorem Zone.set2 {S : List Nat} {n g M m : Nat} {u2 u2' u3 : Value} (h : Zone S n g M u2 u3) (hm : n ≤ m) (hN : u2'.ownBlock = u2.ownBlock ∨ u2'.ownBlock = some m) : Zone S n g M u2' u3 := by
  intro b hb
  have hb' : b = g ∨ b = M ∨ u2'.ownBlock = some b ∨ u3.ownBlock = some b := by simpa [flF] using hb
  have key : ∀ z, (z = g ∨ z = M ∨ u2.ownBlock = some z ∨ u3.ownBlock = some z) → z ∈ S ∨ n ≤ z := fun z hz => h z (by simpa [flF] using hz)
  rcases hb' with h1 | h1 | h1 | h1
  · exact key b (.inl h1)
  · exact key b (.inr (.inl h1))
  · rcases hN with h2 | h2
    · exact key b (.inr (.inr (.inl (by rw [← h2]; exact h1))))
    · rw [h2] at h1; injection h1 with h1; right; omega
  · exact key b (.inr (.inr (.inr h1)))
theorem Zone.set3 {S : List Nat} {n g M m : Nat} {u2 u3 u3' : Value} (h : Zone S n g M u2 u3) (hm : n ≤ m) (hN : u3'.ownBlock = u3.ownBlock ∨ u3'.ownBlock = some m) : Zone S n g M u2 u3' := by
  intro b hb
  have hb' : b = g ∨ b = M ∨ u2.ownBlock = some b ∨ u3'.ownBlock = some b := by simpa [flF] using hb
  have key : ∀ z, (z = g ∨ z = M ∨ u2.ownBlock = some z ∨ u3.ownBlock = some z) → z ∈ S ∨ n ≤ z := fun z hz => h z (by simpa [flF] using hz)
  rcases hb' with h1 | h1 | h1 | h1
  · exact key b (.inl h1)
  · exact key b (.inr (.inl h1))
  · exact key b (.inr (.inr (.inl h1)))
  · rcases hN with h2 | h2
    · exact key b (.inr (.inr (.inr (by rw [← h2]; exact h1))))
    · rw [h2] at h1; injection h1 with h1; right; omega
set_option maxHeartbeats 4000000 in
theorem append_any {B g M : Nat} {v1 vm c6 : Value} {n : Nat} {lg rec : ByteArray} {tr : List Int} {mvs : List (List Int)} {f1 fm ex : List Nat} {L2 : List (List Int)} {L3 : List Int} {u2 u3 : Value} {fs : List (List Nat)} (w : World)
    (h : FL B g M v1 vm (.int .i64 (n : Int)) (.string lg) c6 tr mvs f1 fm ex L2 L2 L3 w u2 u3 fs) (hn : n < L3.length) (hle : L2.length ≤ 3000) (hle3 : L3.length ≤ 3000) (hd : ∀ d ∈ L3, 0 ≤ d ∧ d ≤ 3000) (A : Option Addr) (C : Nat) (a : List (List Int)) (ob : List Nat) (fa : List (List Nat))
    (hS : SeqA w A C a ob fa) (hx : ∀ b ∈ ob ++ fa.flatten, b ∈ ex) (hF : Fresh B w ((f1 ++ fs.flatten) ++ fa.flatten)) (hal : a.length ≤ 1000) (har : ∀ z ∈ a, z.length ≤ 20) (hlg : lg.size ≤ 2000000) (hrc : rec.size ≤ 100000) :
    Calls Tryz.prog 42 #[.pointer (some ⟨g, 0, none⟩), .slice A a.length C, .string rec] w fun e w' => e = .returned (.tuple #[]) ∧ (∃ u2' u3', FL B g M v1 vm (.int .i64 ((n : Int) + 1)) (.string (lg ++ rec)) c6 tr mvs f1 fm ex (L2 ++ a) (L2 ++ a) (L3 ++ List.replicate a.length (L3.getD n 0 + 1)) w' u2' u3' (fs ++ fa)) ∧ Only (flF g M u2 u3).flatten w w' := by
  obtain ⟨P3, Q3, rfl⟩ := h.dt.form
  have hr3 := h.dt.rd.ints
  obtain ⟨a3, q3, he, I3⟩ := hr3
  injection he with e1 _ e2
  subst e1
  subst e2
  obtain ⟨b3, o3, rfl, -, hdc⟩ := I3.at_ n hn
  obtain ⟨d0, hd0⟩ : ∃ d0, d0 = L3[n] := ⟨_, rfl⟩
  have hdr := hd L3[n] (List.getElem_mem hn)
  rw [← hd0] at hdc hdr
  rw [getD_get hn, ← hd0]
  obtain ⟨d1, hd1⟩ : ∃ d1, d1 = d0 + 1 := ⟨_, rfl⟩
  have hwd : IntKind.i64.wrap (d0 + 1) = d1 := by rw [IntKind.wrap_i64]; omega
  have HId := Lib.hid (show I64 d1 by unfold I64; omega)
  rw [← hd1]
  clear hd0 hd1
  have y2 := h.blk.cell 2 rfl
  have y3 := h.blk.cell 3 rfl
  have hn0 : (0 : Int) ≤ (n : Int) := by omega
  have hnl : (n : Int) < (L3.length : Int) := by omega
  have Hhar := Lib.hid har
  have Hhx := Lib.hid hx
  have HS := Lib.hid hS
  have hfal := hS.nf
  have Hfal := Lib.hid hfal
  have hlt0 := hS.lt_all
  clear har hx hS hfal hd
  obtain ⟨S, hSe⟩ : ∃ S, S = (flF g M u2 (.slice (some ⟨b3, o3, none⟩) L3.length Q3)).flatten := ⟨_, rfl⟩
  rw [← hSe]
  have hZ : Zone S w.heap.size g M u2 (.slice (some ⟨b3, o3, none⟩) L3.length Q3) := fun b hb => .inl (by rw [hSe]; exact hb)
  have hexS : ∀ b ∈ ex, b ∉ S := fun b hb hm => by
    rw [hSe] at hm
    obtain ⟨c, hc, hbc⟩ := flF_mem hm
    exact (h.ro b (List.mem_append_right _ hb)).2 c hc hbc
  have HexS := Lib.hid hexS
  have hexl : ∀ b ∈ ex, b < w.heap.size := fun b hb => (h.ro b (List.mem_append_right _ hb)).1
  clear hSe hexS
  obtain ⟨iL, hiL, hL0, hL1, hL2⟩ := info_parts Tryz.info22
  obtain ⟨iI, hiI, hzI0, hzI1, hzI2⟩ := info_parts Tryz.info2
  have h0 := h
  clear h
  go_enter Tryz.func42, Tryz.ntmps42
  go_wp2_with fail
  go_quiet (fail)
  go_wp2_with fail
  go_loopw [25] (fun i wr => ∃ (j : Nat) (u2 u3 : Value) (K : List (List Int)) (D : List Int) (gs : List (List Nat)), j ≤ a.length ∧ i = .int .i64 j ∧ K = L2 ++ a.take j ∧ D = L3 ++ List.replicate j d1 ∧ gs = fs ++ fa.take j ∧ FL B g M v1 vm (.int .i64 (n : Int)) (.string lg) c6 tr mvs f1 fm ex K K D wr u2 u3 gs ∧ Fresh B wr ((f1 ++ gs.flatten) ++ (fa.drop j).flatten) ∧ Zone S w.heap.size g M u2 u3 ∧ Only S w wr)
    (fun i _ => a.length - (intOf i).toNat)
  case atStart => exact ⟨0, u2, _, L2, L3, fs, Nat.zero_le _, rfl, by simp, by simp, by simp, h0.keep ((Only.refl _ _).drewN _), by simpa using hF.keep ((Only.refl _ _).drewN _), hZ, (Only.refl _ _).drewN _⟩
  case round =>
    obtain ⟨W2, hnew⟩ : ∃ W, W = wr := ⟨_, rfl⟩
    subst hnew
    obtain ⟨j, u2, u3, K, D, gs, hj, rfl, hK, hD, hgs, hL, hFr, hZ, hO⟩ := hrel
    have hkl : K.length ≤ 4000 := by rw [hK, List.length_append, List.length_take]; omega
    have hdl : D.length ≤ 4000 := by rw [hD, List.length_append, List.length_replicate]; omega
    have HK := Lib.hid hK
    have HD := Lib.hid hD
    have Hgs := Lib.hid hgs
    clear hK hD hgs
    obtain ⟨P2, Q2, rfl⟩ := hL.pt.form
    obtain ⟨P5, Q5, rfl⟩ := hL.dt.form
    have hsw := hO.size
    by_cases hlt : j < a.length
    · have hS2 : SeqA W2 A C a ob fa := HS.out.frame (fun b hb => hO.block b (hlt0 b hb) (HexS.out b (Hhx.out b hb)))
      obtain ⟨by_, oy, u, rfl, -, hc, hu⟩ := hS2.atRow j hlt
      have hjf : j < fa.length := by have := Hfal.out; omega
      obtain ⟨y, hy⟩ : ∃ y, y = a[j] := ⟨_, rfl⟩
      obtain ⟨fy, hfy⟩ : ∃ fy, fy = fa[j] := ⟨_, rfl⟩
      have hu' : Rd W2 u y fy := by rw [hy, hfy]; exact hu
      obtain ⟨Ay, Cy, rfl, Iy⟩ := hu'.ints
      have hyl : y.length ≤ 20 := by rw [hy]; exact Hhar.out _ (List.getElem_mem hlt)
      have hyl2 : y.length ≤ 1000 := by omega
      have hfyx : ∀ b ∈ fy, b ∈ ex := fun b hb => Hhx.out b (List.mem_append_right _ (List.mem_flatten.2 ⟨fy, by rw [hfy]; exact List.getElem_mem hjf, hb⟩))
      have e1 : a.take (j + 1) = a.take j ++ [y] := by rw [take_succ_get a j hlt, hy]
      have e2 : fa.take (j + 1) = fa.take j ++ [fy] := by rw [take_succ_get fa j hjf, hfy]
      have e3 : (fa.drop j).flatten = fy ++ (fa.drop (j + 1)).flatten := by rw [List.drop_eq_getElem_cons hjf, List.flatten_cons, hfy]
      rw [e3, ← List.append_assoc] at hFr
      have E1 := Lib.hid e1
      have E2 := Lib.hid e2
      rw [← hy] at hu
      rw [← hfy] at hu
      clear e1 e2 e3 hu hy hfy hS2
      have hkz : (kB y).size ≤ maxLen := by rw [kB_size]; unfold maxLen; omega
      have hkn : K.length < maxLen := by unfold maxLen; omega
      have z7 := hL.blk.cell 7 rfl
      have HL := Lib.hid hL
      have Hu := Lib.hid Iy.rd
      have hjl : (j : Int) < (a.length : Int) := by omega
      have hj0 : (0 : Int) ≤ (j : Int) := by omega
      have HFr := Lib.hid hFr
      clear hL hFr Iy hu'
      go_upto_region 4 with fail
      go_cut [] (fun wx => FL B g M v1 vm (.int .i64 (n : Int)) (.string lg) c6 tr mvs f1 fm ex (K ++ [y]) K D wx (.slice P2 K.length Q2) (.slice P5 D.length Q5) gs ∧ Only [M] W2 wx)
      case first =>
        go_region_law (first
          | (go_simp; go_at_call 62; (with_reducible refine (stateKey_rd (.slice Ay y.length Cy) y _ _ (Rp.keep Hu.out (by with_reducible repeat (first | exact Only.refl _ _ | assumption | refine Only.drewN ?_ _ | refine Only.drew ?_ | refine Only.alloc ?_ _ | refine Only.setCell ?_ (by intro hh; exfalso; simp at hh; try omega) _ | refine Only.trans ?_ (by assumption)))) hyl2).mono ?_); rintro e w5 ⟨rfl, t5⟩; have k5 : Only [] W2 w5 := Only.trans (by with_reducible repeat (first | exact Only.refl _ _ | refine Only.drew ?_)) t5; have z75 := k5.cell (by simp) z7; obtain ⟨w7, hrun7, hM7, hO7⟩ := (HL.out.mp.keep k5).run_put hkz true hkn)
          | fail "no arm")
        all_goals go_wp2_with fail
        all_goals go_meet
        all_goals exact ⟨(HL.out.keep k5).put hO7 (by rw [List.length_append, List.length_singleton]; exact hM7.congr fun z => metB_snoc K y z), Only.trans (k5.weaken _) hO7⟩
      case rest =>
        obtain ⟨W5, hnew⟩ : ∃ W, W = wc := ⟨_, rfl⟩
        subst hnew
        obtain ⟨hL5, K5⟩ := hcut
        have hMx : ∀ b ∈ fy, b ∉ [M] := fun b hb => HL.out.ex_no (i := 1) rfl b (hfyx b hb)
        have r5 := Rp.only Hu.out K5 hMx
        have kl5 : Only [] W5 (W5.alloc (.cells #[.slice Ay y.length Cy] 25)) := (Only.refl _ _).alloc _
        have r5a : Rd (W5.alloc (.cells #[.slice Ay y.length Cy] 25)) (.slice Ay y.length Cy) y fy := Rp.keep r5 kl5
        have hap : ∀ b ∈ fy, (Value.slice P2 K.length Q2).ownBlock ≠ some b := fun b hb he => hL5.ex_no (i := 2) rfl b (hfyx b hb) (by rw [he]; simp)
        have hkq : K.length + 1 ≤ 1073741824 := by omega
        have hdq : D.length + 1 ≤ 1073741824 := by omega
        have hnM : ∀ b ∈ ((f1 ++ gs.flatten) ++ fy) ++ (fa.drop (j + 1)).flatten, b ∉ (flF g M (.slice P2 K.length Q2) (.slice P5 D.length Q5)).flatten := fun b hb hm => by
          obtain ⟨c, hc, hbc⟩ := flF_mem hm
          refine (HL.out.ro b ?_).2 c hc hbc
          rcases List.mem_append.1 hb with hb | hb
          · rcases List.mem_append.1 hb with hb | hb
            · rcases List.mem_append.1 hb with hb | hb
              · exact List.mem_append_right _ (HL.out.e1 b hb)
              · exact List.mem_append_left _ hb
            · exact List.mem_append_right _ (hfyx b hb)
          · refine List.mem_append_right _ (Hhx.out b (List.mem_append_right _ ?_))
            obtain ⟨c2, hc2, hb2⟩ := List.mem_flatten.1 hb
            exact List.mem_flatten.2 ⟨c2, List.mem_of_mem_drop hc2, hb2⟩
        have K5f : Only (flF g M (.slice P2 K.length Q2) (.slice P5 D.length Q5)).flatten W2 W5 := K5.mono (fun b hb _ => by simp at hb; subst hb; simp [flF])
        have F5 := ((HFr.out.only K5f hnM).keep kl5)
        have HL5a := Lib.hid (hL5.keep kl5)
        have A5 := hL5.pt
        have hB5 := hL5.sz
        have z1 := hL5.blk.cell 1 rfl
        clear hL5 z7
        go_upto_region 6 with (first
          | (at_builtin; refine wpList_push2w rfl _ _ 22 rfl B 25 iL _ 24 Tryz.underlying22 hiL hL0 hL1 hL2 rfl (by decide) (by decide) W5 (.slice P2 K.length Q2) K gs rfl A5 kl5 hB5 W5.heap.size 1 [.slice Ay y.length Cy] y fy rfl (lit_src W5 [.slice Ay y.length Cy] _ rfl) (by intro u hu; simp at hu; subst hu; rfl) r5a hap hkq ?_; intro v9 w9 hA9 hO9 hP9 hQ9 hN9; obtain ⟨a9, n9, c9, rfl⟩ : ∃ a n c, v9 = Value.slice a n c := (let ⟨a, c, hh⟩ := hA9.form; ⟨a, _, c, hh⟩); have B9 := HL5a.out.blk.only hO9 (fun hm => HL5a.out.fam.disj 0 2 (by decide) rfl rfl _ (by simp) hm); have z9 := B9.cell 1 rfl; have p9 := B9.frozen 1; have X6 := HL5a.out.push2 hA9 hO9 hN9 hfyx F5.left)
          | fail "no arm")
        obtain ⟨W6, hW6⟩ : ∃ W6, W6 = w9.setCell ⟨g, 1, none⟩ (.slice a9 n9 c9) := ⟨_, rfl⟩
        have hs6 : Only [g] w9 W6 := by rw [hW6]; exact (Only.refl _ _).setCell (by simp) _
        rw [← hW6] at X6
        rw [← hW6]
        have K6f : Only (flF g M (.slice P2 K.length Q2) (.slice P5 D.length Q5)).flatten W2 W6 := ((K5f.keepThen kl5).then_ hO9 (fun b hb _ => by simp only [flF]; simp at hb ⊢; simp [hb])).then_ hs6 (fun b hb _ => by simp at hb; subst hb; simp [flF])
        have kl6 : Only [] W6 (W6.alloc (.cells #[.int .i64 d1] 2)) := (Only.refl _ _).alloc _
        have D6 := X6.dt
        have hB6 := X6.sz
        have z2 := X6.blk.cell 2 rfl
        have HX6a := Lib.hid (X6.keep kl6)
        have hz9 : w.heap.size ≤ (W5.alloc (.cells #[.slice Ay y.length Cy] 25)).heap.size := Nat.le_trans hsw (Nat.le_trans K5.size kl5.size)
        have hz6 := K6f.size
        clear hW6 X6 B9 z9 p9 z1 hP9 hQ9 A5
        go_wp2_with (first
          | (at_builtin; refine wpList_pushI rfl _ _ 25 rfl B 2 iI _ Tryz.underlying25 hiI hzI0 hzI1 hzI2 rfl W6 (.slice P5 D.length Q5) D rfl D6 kl6 hB6 W6.heap.size 1 d1 rfl (lit1 W6 _ _ rfl) HId.out hdq ?_; intro v10 w10 hA10 hO10 hP10 hN10; obtain ⟨a10, n10, c10, rfl⟩ : ∃ a n c, v10 = Value.slice a n c := (let ⟨a, c, hh⟩ := hA10.form; ⟨a, _, c, hh⟩); have B10 := HX6a.out.blk.only hO10 (fun hm => HX6a.out.fam.disj 0 3 (by decide) rfl rfl _ (by simp) hm); have z10 := B10.cell 2 rfl; have p10 := B10.frozen 2; have X7 := HX6a.out.push3 hA10 hO10 hN10)
          | fail "no arm")
        have K7f : Only (flF g M (.slice P2 K.length Q2) (.slice P5 D.length Q5)).flatten W2 (w10.setCell ⟨g, 2, none⟩ (.slice a10 n10 c10)) := ((K6f.keepThen kl6).then_ hO10 (fun b hb _ => by simp only [flF]; simp at hb ⊢; simp [hb])).then_ ((Only.refl [g] _).setCell (by simp) _) (fun b hb _ => by simp at hb; subst hb; simp [flF])
        have F7 := HFr.out.only K7f hnM
        have hff : f1 ++ (gs ++ [fy]).flatten = (f1 ++ gs.flatten) ++ fy := by simp
        go_roundw
        case rel => exact ⟨j + 1, _, _, K ++ [y], D ++ [d1], gs ++ [fy], by omega, by go_num, by rw [HK.out, E1.out, List.append_assoc], by rw [HD.out, List.append_assoc, List.replicate_succ'], by rw [Hgs.out, E2.out, List.append_assoc], X7, by rw [hff]; exact F7, (hZ.set2 hz9 hN9).set3 (by simp; omega) hN10, hO.then_ K7f (fun b hb hl => by rcases hZ b hb with h9 | h9; exact h9; omega)⟩
        case measure => simp [intOf]; omega
    · obtain rfl : j = a.length := by omega
      have eK := HK.out
      have eG := Hgs.out
      rw [List.take_length] at eK
      rw [show fa.take a.length = fa by rw [← Hfal.out, List.take_length]] at eG
      have EK := Lib.hid eK
      have EG := Lib.hid eG
      have hn4 : n ≤ 3000 := by omega
      have hwn : IntKind.i64.wrap ((n : Int) + 1) = (n : Int) + 1 := by rw [IntKind.wrap_i64]; omega
      have hcat : ¬ (9223372036854775807 < lg.size + rec.size) := by omega
      have z3 := hL.blk.cell 3 rfl
      have p3 := hL.blk.frozen 3
      have L3' := hL.store 3 (.int .i64 ((n : Int) + 1)) rfl
      have z4 := L3'.blk.cell 4 rfl
      have p4 := L3'.blk.frozen 4
      have L4 := L3'.store 4 (.string (lg ++ rec)) rfl
      have hs3 : Only [g] W2 (W2.setCell ⟨g, 3, none⟩ (.int .i64 ((n : Int) + 1))) := (Only.refl _ _).setCell (by simp) _
      have hs4 : Only [g] (W2.setCell ⟨g, 3, none⟩ (.int .i64 ((n : Int) + 1))) ((W2.setCell ⟨g, 3, none⟩ (.int .i64 ((n : Int) + 1))).setCell ⟨g, 4, none⟩ (.string (lg ++ rec))) := (Only.refl _ _).setCell (by simp) _
      have hZg : g < w.heap.size → g ∈ S := fun hl => hZ.one (i := 0) rfl g (by simp) hl
      have HL4 := Lib.hid (show ∃ u2' u3', FL B g M v1 vm (.int .i64 ((n : Int) + 1)) (.string (lg ++ rec)) c6 tr mvs f1 fm ex (L2 ++ a) (L2 ++ a) (L3 ++ List.replicate a.length d1) ((W2.setCell ⟨g, 3, none⟩ (.int .i64 ((n : Int) + 1))).setCell ⟨g, 4, none⟩ (.string (lg ++ rec))) u2' u3' (fs ++ fa) by rw [← EK.out, ← HD.out, ← EG.out]; exact ⟨_, _, L4⟩)
      clear hL L3' L4 eK eG hFr hZ
      go_wp2_with fail
      first | go_end0 | refine bodyPost_ret (results_none rfl _ _ _) rfl ?_
      exact ⟨rfl, HL4.out, (hO.then_ hs3 (fun b hb hl => by simp at hb; subst hb; exact hZg hl)).then_ hs4 (fun b hb hl => by simp at hb; subst hb; exact hZg hl)⟩
end Go.Proofs.YtkhdmiemfpelcaaGreat

namespace Go.Proofs.YtkhdmiemfpelcaaGreat
open Go.RowKit
set_option maxRecDepth 10000

/-- nothing below B is written -/
def OnlyB (B : Nat) (w w' : World) : Prop := ∃ S, (∀ b ∈ S, B ≤ b) ∧ Only S w w'
theorem OnlyB.of {B : Nat} {w w' : World} (h : Only [] w w') : OnlyB B w w' := ⟨[], by simp, h⟩
theorem OnlyB.trans {B : Nat} {a b c : World} (h : OnlyB B a b) (k : OnlyB B b c) : OnlyB B a c := by
  obtain ⟨S, h1, h2⟩ := h
  obtain ⟨T, k1, k2⟩ := k
  exact ⟨S ++ T, fun z hz => by rcases List.mem_append.1 hz with hz | hz; exact h1 z hz; exact k1 z hz, (h2.mono (fun z hz _ => List.mem_append_left _ hz)).trans (k2.mono (fun z hz _ => List.mem_append_right _ hz))⟩
theorem OnlyB.then_ {B : Nat} {a b c : World} (h : OnlyB B a b) (k : Only [] b c) : OnlyB B a c := h.trans (OnlyB.of k)
theorem OnlyB.size {B : Nat} {w w' : World} (h : OnlyB B w w') : w.heap.size ≤ w'.heap.size := by obtain ⟨S, -, h⟩ := h; exact h.size
theorem OnlyB.old {B : Nat} {w0 w w' : World} (h : OnlyB B w w') (h0 : Only [] w0 w) (hB : w0.heap.size ≤ B) : Only [] w0 w' := by
  obtain ⟨S, h1, h2⟩ := h
  exact h0.then_ h2 (fun b hb hl => by have := h1 b hb; omega)
theorem OnlyB.rep {B : Nat} {w w' : World} (h : OnlyB B w w') {α : Type} [Rp α] {cs : List Value} {y : α} {fp : List Nat} (hr : Rp.rep w cs y fp) (hf : ∀ b ∈ fp, b < B) : Rp.rep w' cs y fp := by
  obtain ⟨S, h1, h2⟩ := h
  exact Rp.only hr h2 (fun b hb hm => by have := h1 b hm; have := hf b hb; omega)
theorem OnlyB.blk {B : Nat} {w w' : World} (h : OnlyB B w w') {b : Nat} {cs : List Value} (hb : Blk w b cs) (hl : b < B) : Blk w' b cs := by
  obtain ⟨S, h1, h2⟩ := h
  exact hb.only h2 (fun hm => by have := h1 b hm; omega)
theorem Fil.keep {x : Puzzle} {B g : Nat} {w w' : World} {j : FillJob} (h : Fil x B g w j) (ho : Only [] w w') : Fil x B g w' j := by
  obtain ⟨M, v1, vm, f1, fm, ex, u2, u3, fs, h⟩ := h
  exact ⟨M, v1, vm, f1, fm, ex, u2, u3, fs, h.keep ho⟩
set_option maxHeartbeats 4000000 in
theorem step_any (x : Puzzle) {B g : Nat} (tr : List Int) (ps : List (List Int)) (ds : List Int) (n : Nat) (lg : ByteArray) (sy : Int) (w : World) (h : Fil x B g w ⟨⟨tr, ps, ds⟩, (n : Int), lg, sy⟩) (hg : GoF x ⟨⟨tr, ps, ds⟩, (n : Int), lg, sy⟩ n) :
    Calls Tryz.prog 56 #[.pointer (some ⟨g, 0, none⟩)] w fun e w' => e = .returned (.bool (stepF x ⟨⟨tr, ps, ds⟩, (n : Int), lg, sy⟩).2) ∧ Fil x B g w' (stepF x ⟨⟨tr, ps, ds⟩, (n : Int), lg, sy⟩).1 ∧ OnlyB B w w' := by
  have hF := h
  obtain ⟨M, v1, vm, f1, fm, ex, u2, u3, fs, hL⟩ := h
  have hL0 : FL B g M v1 vm (.int .i64 (n : Int)) (.string lg) (.int .i64 sy) tr ((ltrs x.moves.length).map (mv x.moves)) f1 fm ex ps ps ds w u2 u3 fs := hL
  clear hL
  have hle : ps.length ≤ 3000 := hg.le
  have hln : ds.length = ps.length := hg.ln
  have hlg : lg.size ≤ 2000000 := hg.lg
  have hln' : n ≤ ps.length := hg.lt
  have HG := Lib.hid hg
  have Hln := Lib.hid hln
  clear hg hln
  obtain ⟨st, hst⟩ : ∃ st, st = stepF x ⟨⟨tr, ps, ds⟩, (n : Int), lg, sy⟩ := ⟨_, rfl⟩
  rw [← hst]
  by_cases hd : n = ps.length
  · have he := hst.trans (stepF_done (x := x) (j := ⟨⟨tr, ps, ds⟩, (n : Int), lg, sy⟩) (by show (n : Int) = (ps.length : Int); omega))
    have HE := Lib.hid he
    have Hd := Lib.hid (show decide (n = ps.length) = true from decide_eq_true hd)
    clear he hst hd
    go_enter Tryz.func56, Tryz.ntmps56
    go_wp2_with (first
      | (go_at_call 40; (with_reducible refine (isDone_any _ (hL0.keep (by with_reducible repeat (first | exact Only.refl _ _ | assumption | refine Only.drewN ?_ _ | refine Only.drew ?_ | refine Only.alloc ?_ _ | refine Only.setCell ?_ (by intro hh; exfalso; simp at hh; try omega) _ | refine Only.trans ?_ (by assumption))))).mono ?_); rintro e w1 ⟨he, t1⟩; rw [Hd.out] at he; subst he)
      | fail "no arm")
    have K1 : Only [] w w1 := (by with_reducible repeat (first | exact Only.refl _ _ | assumption | refine Only.drewN ?_ _ | refine Only.drew ?_ | refine Only.alloc ?_ _ | refine Only.setCell ?_ (by intro hh; exfalso; simp at hh; try omega) _ | refine Only.trans ?_ (by assumption)))
    go_ret
    exact ⟨ret_bool (by rw [HE.out]), by rw [HE.out]; exact hF.keep K1, OnlyB.of K1⟩
  · have Hd := Lib.hid (show decide (n = ps.length) = false from decide_eq_false hd)
    have hlt : n < ps.length := by omega
    have hnx : ((⟨⟨tr, ps, ds⟩, (n : Int), lg, sy⟩ : FillJob)).next ≠ ((⟨⟨tr, ps, ds⟩, (n : Int), lg, sy⟩ : FillJob)).table.patterns.length := by show (n : Int) ≠ (ps.length : Int); omega
    obtain ⟨a, ha⟩ : ∃ a, a = addL x ps (ps.getD n []) (ltrs x.moves.length) [] := ⟨_, rfl⟩
    have hex : expandF x ⟨⟨tr, ps, ds⟩, (n : Int), lg, sy⟩ = ⟨⟨tr, ps ++ a, ds ++ List.replicate a.length (ds.getD n 0 + 1)⟩, (n : Int) + 1, lg ++ recF (n : Int) a, sy⟩ := by
      unfold expandF newF
      simp only [Int.toNat_natCast]
      rw [← ha]
    obtain ⟨rec, hrec⟩ : ∃ rec, rec = recF (n : Int) a := ⟨_, rfl⟩
    rw [← hrec] at hex
    have hpq : patB x.points tr.length (ps.getD n []) = true := by rw [getD_get hlt]; exact HG.out.ps _ (List.getElem_mem hlt)
    have hap : ∀ z ∈ a, patB x.points tr.length z = true := fun z hz => by
      rw [ha] at hz
      exact addL_pat HG.out.vp hpq (ltrs x.moves.length) [] (fun y hy => hy) (by simp) z hz
    have htl : tr.length ≤ 20 := by
      have h1 := (trackB_iff.1 HG.out.tr).2.len
      have h2 := (validPz_facts HG.out.vp).2.1
      simp only at h1
      omega
    have har : ∀ z ∈ a, z.length ≤ 20 := fun z hz => by have := (patB_iff.1 (hap z hz)).1; omega
    have hal : a.length ≤ 1000 := by
      have h1 := (addL_pre x ps (ps.getD n []) (ltrs x.moves.length) []).2
      have h2 := (validPz_facts HG.out.vp).2.2.1
      rw [ha]
      rw [ltrs_len] at h1
      simp only [List.length_nil] at h1
      omega
    have hrs : rec.size ≤ 100000 := by rw [hrec, recF_size]; have := flatten_len har; omega
    have hwz : IntKind.i64.wrap ((lg.size : Int) + (rec.size : Int)) = (lg.size : Int) + (rec.size : Int) := by rw [IntKind.wrap_i64]; omega
    have HA := Lib.hid ha
    have Hrec := Lib.hid hrec
    have Hex := Lib.hid hex
    have Har := Lib.hid har
    clear ha hrec hex hap har hd hpq
    have HcX := Lib.hid (fun (W : World) (hh : Only [] w W) => expansion_any x W (hL0.keep hh) HG.out.vp HG.out.tr hlt hle HG.out.ps)
    have y4 := hL0.blk.cell 4 rfl
    by_cases hlong : 60000 < lg.size + rec.size
    · have he := hst.trans (stepF_long (x := x) hnx (by rw [Hex.out]; show 60000 < (lg ++ rec).size; rw [ByteArray.size_append]; exact hlong))
      have HE := Lib.hid he
      have hgt : (60000 : Int) < (lg.size : Int) + (rec.size : Int) := by omega
      clear he hst hlong
      go_enter Tryz.func56, Tryz.ntmps56
      go_wp2_with (first
        | (go_at_call 40; (with_reducible refine (isDone_any _ (hL0.keep (by with_reducible repeat (first | exact Only.refl _ _ | assumption | refine Only.drewN ?_ _ | refine Only.drew ?_ | refine Only.alloc ?_ _ | refine Only.setCell ?_ (by intro hh; exfalso; simp at hh; try omega) _ | refine Only.trans ?_ (by assumption))))).mono ?_); rintro e w1 ⟨he, t1⟩; rw [Hd.out] at he; subst he; have y41 := t1.cell (by simp) y4)
        | (go_at_call 41; (with_reducible refine (HcX.out _ (by with_reducible repeat (first | exact Only.refl _ _ | assumption | refine Only.drewN ?_ _ | refine Only.drew ?_ | refine Only.alloc ?_ _ | refine Only.setCell ?_ (by intro hh; exfalso; simp at hh; try omega) _ | refine Only.trans ?_ (by assumption)))).mono ?_); rintro e w2 ⟨v, fa, he, hA, hF2, t2⟩; rw [← HA.out, ← Hrec.out] at he; subst he; obtain ⟨Aa, Ca, rfl⟩ := hA.form; have y42 := t2.cell (by simp) y41)
        | fail "no arm")
      have K1 : Only [] w w2 := (by with_reducible repeat (first | exact Only.refl _ _ | assumption | refine Only.drewN ?_ _ | refine Only.drew ?_ | refine Only.alloc ?_ _ | refine Only.setCell ?_ (by intro hh; exfalso; simp at hh; try omega) _ | refine Only.trans ?_ (by assumption)))
      go_ret
      exact ⟨ret_bool (by rw [HE.out]), by rw [HE.out]; exact hF.keep K1, OnlyB.of K1⟩
    · have he := hst.trans (stepF_go (x := x) hnx (by rw [Hex.out]; show ¬ 60000 < (lg ++ rec).size; rw [ByteArray.size_append]; exact hlong))
      rw [Hex.out] at he
      have HE := Lib.hid he
      have hgt : ¬ ((60000 : Int) < (lg.size : Int) + (rec.size : Int)) := by omega
      clear he hst hlong
      go_enter Tryz.func56, Tryz.ntmps56
      go_upto_region 6 with (first
        | (go_at_call 40; (with_reducible refine (isDone_any _ (hL0.keep (by with_reducible repeat (first | exact Only.refl _ _ | assumption | refine Only.drewN ?_ _ | refine Only.drew ?_ | refine Only.alloc ?_ _ | refine Only.setCell ?_ (by intro hh; exfalso; simp at hh; try omega) _ | refine Only.trans ?_ (by assumption))))).mono ?_); rintro e w1 ⟨he, t1⟩; rw [Hd.out] at he; subst he; have k1 : Only [] w w1 := (by with_reducible repeat (first | exact Only.refl _ _ | assumption | refine Only.drewN ?_ _ | refine Only.drew ?_ | refine Only.alloc ?_ _ | refine Only.setCell ?_ (by intro hh; exfalso; simp at hh; try omega) _ | refine Only.trans ?_ (by assumption))); have y41 := t1.cell (by simp) y4)
        | (go_at_call 41; (with_reducible refine (HcX.out _ (by with_reducible repeat (first | exact Only.refl _ _ | assumption | refine Only.drewN ?_ _ | refine Only.drew ?_ | refine Only.alloc ?_ _ | refine Only.setCell ?_ (by intro hh; exfalso; simp at hh; try omega) _ | refine Only.trans ?_ (by assumption)))).mono ?_); rintro e w2 ⟨v, fa, he, hA, hF2, t2⟩; rw [← HA.out, ← Hrec.out] at he; rw [← HA.out] at hA; subst he; have k2 : Only [] w w2 := (by with_reducible repeat (first | exact Only.refl _ _ | assumption | refine Only.drewN ?_ _ | refine Only.drew ?_ | refine Only.alloc ?_ _ | refine Only.setCell ?_ (by intro hh; exfalso; simp at hh; try omega) _ | refine Only.trans ?_ (by assumption))); have hAo := hA.own; have hAf := hA.fl; obtain ⟨css, ho, hcl, hr⟩ := hAo; obtain ⟨Aa, Ca, rfl, -, hS⟩ := own_seq (xs := a) (fps := fa) ho (by decide) hcl hAf hr; have y42 := t2.cell (by simp) y41)
        | fail "no arm")
      have hsz := k1.size
      have hf9 : ∀ b ∈ (Value.slice Aa a.length Ca).ownBlock.toList ++ fa.flatten, w.heap.size ≤ b ∧ b < w2.heap.size := fun b hb => by
        have h1 := (hA.fresh hF2).ge b hb
        have h2 := (hA.fresh hF2).lt b hb
        (try simp at h1)
        omega
      have L2 := hL0.hold k2 hf9
      have hFA : Fresh B w2 ((f1 ++ fs.flatten) ++ fa.flatten) := Fresh.append (hL0.fr.keep k2) (hF2.mono (show w.heap.size ≤ _ by (try simp); omega)) hL0.sz (fun b hb => hL0.fr.lt b hb)
      have hnd : n < ds.length := by have := Hln.out; omega
      have hd3 : ds.length ≤ 3000 := by have := Hln.out; omega
      have hca := append_any (rec := rec) w2 L2 hnd hle hd3 HG.out.ds Aa Ca a _ fa hS (fun b hb => List.mem_append_right _ hb) hFA hal Har.out hlg hrs
      have Hca := Lib.hid hca
      have hge2 : ∀ b ∈ (flF g M u2 u3).flatten, B ≤ b := fun b hb => by
        obtain ⟨c, hc, hb⟩ := flF_mem hb
        exact (L2.fam.rng c hc b hb).1
      clear hca hA hF2 hS ho hcl hr hFA hf9 L2
      go_wp2_with (first
        | (go_at_call 42; (with_reducible refine (Hca.out).mono ?_); rintro e w3 ⟨he, hFL, t3⟩; subst he)
        | fail "no arm")
      go_ret
      obtain ⟨u2', u3', hFL⟩ := hFL
      exact ⟨ret_bool (by rw [HE.out]), by rw [HE.out]; exact ⟨_, _, _, _, _, _, _, _, _, hFL⟩, (OnlyB.of k2).trans ⟨_, hge2, t3⟩⟩
end Go.Proofs.YtkhdmiemfpelcaaGreat
