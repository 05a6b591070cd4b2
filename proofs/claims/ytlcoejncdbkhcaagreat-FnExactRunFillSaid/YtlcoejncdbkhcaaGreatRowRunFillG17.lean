/- The program's filler: resume. (Printed by mkresume.py.) The program's StepFill and SyncFill. (Printed by mkfillimp9.py.) Fill jobs as the laws' walks want them: contracts on jobs, what they hold, counted. The program's RunFill. (Printed by mkfillimp10.py.) -/
import Derived.Test.YtlcoejncdbkhcaaGreatRowRunFillG16
import Derived.Deep.RegionHeld3
namespace Go.Proofs.YtlcoejncdbkhcaaGreat
open Go.RowKit
set_option maxRecDepth 10000

set_option maxHeartbeats 8000000 in
theorem resume_any (cs : List Value) (x : Puzzle) (fp : List Nat) (c1 c2 c3 : Value) (tr : List Int) (ps : List (List Int)) (ds : List Int) (nx : Int) (lg : ByteArray) (sy : Int) (g1 g2 g3 : List Nat) (w : World) (h : Rp.rep w cs x fp)
    (k1 : Rd w c1 tr g1) (k2 : Rd w c2 ps g2) (k3 : Rd w c3 ds g3) (hnx : I64 nx) (hsy : I64 sy) (hlm : lg.size ≤ maxLen) (htl : tr.length ≤ 2097152) :
    Calls Tryz.prog 56 #[.agg cs.toArray, .agg #[c1, c2, c3, .int .i64 nx, .string lg, .int .i64 sy]] w fun e w' => ∃ q, e = .returned (.tuple #[.pointer q, .bool (validF x (⟨⟨tr, ps, ds⟩, nx, lg, sy⟩ : FillJob))]) ∧ (validF x (⟨⟨tr, ps, ds⟩, nx, lg, sy⟩ : FillJob) = true → ∃ B g, q = some ⟨g, 0, none⟩ ∧ w.heap.size ≤ B ∧ Fil x B g w' (⟨⟨tr, ps, ds⟩, nx, lg, sy⟩ : FillJob)) ∧ Only [] w w' := by
  have hh := h
  obtain ⟨v2, rfl, p0, p1, h2⟩ := h
  obtain ⟨A0, C0, _, _, rfl, -, -⟩ := h2.open_
  have hk1 := k1; have hk2 := k2; have hk3 := k3
  obtain ⟨A1, C1, _, _, rfl, -⟩ := k1.open_
  obtain ⟨A2, C2, _, _, rfl, -⟩ := k2.open_
  obtain ⟨A3, C3, _, _, rfl, -⟩ := k3.open_
  have hT : Rp.rep w [.slice A1 tr.length C1, .slice A2 ps.length C2, .slice A3 ds.length C3] (⟨tr, ps, ds⟩ : Table) (g1 ++ (g2 ++ g3)) := ⟨_, _, _, _, _, _, rfl, rfl, hk1, hk2, hk3⟩
  obtain ⟨vb, hvb⟩ : ∃ vb, vb = validF x (⟨⟨tr, ps, ds⟩, nx, lg, sy⟩ : FillJob) := ⟨_, rfl⟩
  rw [← hvb]
  have HVB := Lib.hid hvb
  clear hvb p0 p1 k1 k2 k3
  have hlm2 := hlm
  unfold maxLen at hlm2
  have k0 : Only [] w ((w.alloc (.cells #[.int .i64 x.points, .string x.names, .slice A0 x.moves.length C0] 37)).alloc (.cells #[.slice A1 tr.length C1, .slice A2 ps.length C2, .slice A3 ds.length C3, .int .i64 nx, .string lg, .int .i64 sy] 34)) := ((Only.refl _ _).alloc _).alloc _
  have B0 : Blk ((w.alloc (.cells #[.int .i64 x.points, .string x.names, .slice A0 x.moves.length C0] 37)).alloc (.cells #[.slice A1 tr.length C1, .slice A2 ps.length C2, .slice A3 ds.length C3, .int .i64 nx, .string lg, .int .i64 sy] 34)) w.heap.size [.int .i64 x.points, .string x.names, .slice A0 x.moves.length C0] := Blk.keep (Blk.new_at rfl) ((Only.refl _ _).alloc _)
  have B1 : Blk ((w.alloc (.cells #[.int .i64 x.points, .string x.names, .slice A0 x.moves.length C0] 37)).alloc (.cells #[.slice A1 tr.length C1, .slice A2 ps.length C2, .slice A3 ds.length C3, .int .i64 nx, .string lg, .int .i64 sy] 34)) (w.heap.size + 1) [.slice A1 tr.length C1, .slice A2 ps.length C2, .slice A3 ds.length C3, .int .i64 nx, .string lg, .int .i64 sy] := Blk.new_at (by simp)
  have HB0 := Lib.hid B0
  have HB1 := Lib.hid B1
  clear B0 B1
  have hno : ∀ w' : World, Only [] w w' → vb = false → ∃ q, Ending.returned (.tuple #[.pointer none, .bool false]) = .returned (.tuple #[.pointer q, .bool vb]) ∧ (vb = true → ∃ B g, q = some ⟨g, 0, none⟩ ∧ w.heap.size ≤ B ∧ Fil x B g w' (⟨⟨tr, ps, ds⟩, nx, lg, sy⟩ : FillJob)) ∧ Only [] w w' := fun w' hK hv => by
    subst hv
    exact ⟨none, rfl, by simp, hK⟩
  have Hno := Lib.hid hno
  clear hno
  by_cases hl : 60000 < lg.size
  · have hv : vb = false := by rw [HVB.out]; exact validF_no (fun hc => by have h1 : lg.size ≤ 60000 := hc.2.1; omega)
    have hl2 : (60000 : Int) < (lg.size : Int) := by omega
    have HV := Lib.hid hv
    clear hv hl
    go_enter Tryz.func56, Tryz.ntmps56
    go_wp2_with fail
    exact bodyPost_ret (v := .tuple #[.pointer none, .bool false]) (by simp [results, Tryz.results56, go_sem]) rfl (Hno.out _ (by with_reducible repeat (first | exact Only.refl _ _ | assumption | refine Only.drewN ?_ _ | refine Only.drew ?_ | refine Only.alloc ?_ _ | refine Only.setCell ?_ (by intro hh; exfalso; simp at hh; try omega) _ | refine Only.trans ?_ (by assumption))) HV.out)
  have hl2 : ¬ ((60000 : Int) < (lg.size : Int)) := by omega
  rcases hr1 : inR nx 0 3000
  · have hv : vb = false := by
      rw [HVB.out, ← Bool.not_eq_true]
      intro hc
      have h1 := validF_next hc
      rw [inR_iff.2 h1] at hr1
      cases hr1
    have HV := Lib.hid hv
    have HR := Lib.hid hr1
    clear hv hr1
    go_enter Tryz.func56, Tryz.ntmps56
    go_wp2_with (first
      | (go_at_call 66; (with_reducible refine (within_any nx 0 3000 _).mono ?_); rintro e w1 ⟨he, h1⟩; subst h1; rw [HR.out] at he; subst he)
      | fail "no arm")
    exact bodyPost_ret (v := .tuple #[.pointer none, .bool false]) (by simp [results, Tryz.results56, go_sem]) rfl (Hno.out _ (by with_reducible repeat (first | exact Only.refl _ _ | assumption | refine Only.drewN ?_ _ | refine Only.drew ?_ | refine Only.alloc ?_ _ | refine Only.setCell ?_ (by intro hh; exfalso; simp at hh; try omega) _ | refine Only.trans ?_ (by assumption))) HV.out)
  rcases hr2 : inR sy 0 lg.size
  · have hv : vb = false := by
      rw [HVB.out]
      refine validF_no fun hc => ?_
      have h1 : 0 ≤ sy ∧ sy ≤ lg.size := hc.2.2
      rw [inR_iff.2 h1] at hr2
      cases hr2
    have HV := Lib.hid hv
    have HR := Lib.hid hr1
    have HR2 := Lib.hid hr2
    clear hv hr1 hr2
    go_enter Tryz.func56, Tryz.ntmps56
    go_wp2_with (first
      | (go_at_call 66; (with_reducible refine (within_any nx 0 3000 _).mono ?_); rintro e w1 ⟨he, h1⟩; subst h1; rw [HR.out] at he; subst he)
      | (go_at_call 66; (with_reducible refine (within_any sy 0 lg.size _).mono ?_); rintro e w1 ⟨he, h1⟩; subst h1; rw [HR2.out] at he; subst he)
      | fail "no arm")
    exact bodyPost_ret (v := .tuple #[.pointer none, .bool false]) (by simp [results, Tryz.results56, go_sem]) rfl (Hno.out _ (by with_reducible repeat (first | exact Only.refl _ _ | assumption | refine Only.drewN ?_ _ | refine Only.drew ?_ | refine Only.alloc ?_ _ | refine Only.setCell ?_ (by intro hh; exfalso; simp at hh; try omega) _ | refine Only.trans ?_ (by assumption))) HV.out)
  have hnr := inR_iff.1 hr1
  have hsr := inR_iff.1 hr2
  have HR := Lib.hid hr1
  have HR2 := Lib.hid hr2
  clear hr1 hr2
  obtain ⟨ok, hok⟩ : ∃ ok, ok = (bTab x tr).isSome := ⟨_, rfl⟩
  have HcS := Lib.hid (fun (V : World) (hV : Only [] w V) => start_any [.int .i64 x.points, .string x.names, .slice A0 x.moves.length C0] x _ (.slice A1 tr.length C1) tr _ V (Rp.keep hh hV) (Rp.keep hk1 hV) htl)
  cases ok
  · have hv : vb = false := by rw [HVB.out]; exact validF_no (fun hc => by have h1 : (bTab x tr).isSome = true := hc.1; rw [← hok] at h1; cases h1)
    have HV := Lib.hid hv
    have Hok := Lib.hid hok
    clear hv hok
    go_enter Tryz.func56, Tryz.ntmps56
    go_wp2_with (first
      | (go_at_call 66; (with_reducible refine (within_any nx 0 3000 _).mono ?_); rintro e w1 ⟨he, h1⟩; subst h1; rw [HR.out] at he; subst he)
      | (go_at_call 66; (with_reducible refine (within_any sy 0 lg.size _).mono ?_); rintro e w1 ⟨he, h1⟩; subst h1; rw [HR2.out] at he; subst he)
      | (go_at_call 106; (with_reducible refine (HcS.out _ (by with_reducible repeat (first | exact Only.refl _ _ | assumption | refine Only.drewN ?_ _ | refine Only.drew ?_ | refine Only.alloc ?_ _ | refine Only.setCell ?_ (by intro hh; exfalso; simp at hh; try omega) _ | refine Only.trans ?_ (by assumption)))).mono ?_); rintro e w2 ⟨q, he, hq, t2⟩; rw [← Hok.out] at he; subst he)
      | fail "no arm")
    exact bodyPost_ret (v := .tuple #[.pointer none, .bool false]) (by simp [results, Tryz.results56, go_sem]) rfl (Hno.out _ (by with_reducible repeat (first | exact Only.refl _ _ | assumption | refine Only.drewN ?_ _ | refine Only.drew ?_ | refine Only.alloc ?_ _ | refine Only.setCell ?_ (by intro hh; exfalso; simp at hh; try omega) _ | refine Only.trans ?_ (by assumption))) HV.out)
  have Hok := Lib.hid hok
  clear hok
  go_enter Tryz.func56, Tryz.ntmps56
  go_wp2_with (first
    | (go_at_call 66; (with_reducible refine (within_any nx 0 3000 _).mono ?_); rintro e w1 ⟨he, h1⟩; subst h1; rw [HR.out] at he; subst he)
    | (go_at_call 66; (with_reducible refine (within_any sy 0 lg.size _).mono ?_); rintro e w1 ⟨he, h1⟩; subst h1; rw [HR2.out] at he; subst he)
    | (go_at_call 106; (with_reducible refine (HcS.out _ (by with_reducible repeat (first | exact Only.refl _ _ | assumption | refine Only.drewN ?_ _ | refine Only.drew ?_ | refine Only.alloc ?_ _ | refine Only.setCell ?_ (by intro hh; exfalso; simp at hh; try omega) _ | refine Only.trans ?_ (by assumption)))).mono ?_); rintro e w2 ⟨q, he, hq, t2⟩; rw [← Hok.out] at he; subst he; obtain ⟨B, g, rfl, hB, hFil⟩ := hq Hok.out.symm)
    | fail "no arm")
  have K2 : Only [] w w2 := (by with_reducible repeat (first | exact Only.refl _ _ | assumption | refine Only.drewN ?_ _ | refine Only.drew ?_ | refine Only.alloc ?_ _ | refine Only.setCell ?_ (by intro hh; exfalso; simp at hh; try omega) _ | refine Only.trans ?_ (by assumption)))
  have J2 := HB1.out.keep t2
  have P2_ := HB0.out.keep t2
  have hBs : w.heap.size + 2 ≤ B := by simpa using hB
  clear hB
  go_loopw [] (fun wr => ∃ m : Nat, okF x tr m ∧ (m : Int) ≤ nx ∧ Fil x B g wr (chF x tr 0 m) ∧ Blk wr (w.heap.size + 1) [.slice A1 tr.length C1, .slice A2 ps.length C2, .slice A3 ds.length C3, .int .i64 nx, .string lg, .int .i64 sy] ∧ OnlyB B w2 wr)
    (fun wr => nx.toNat - (intOf ((wr.cell? ⟨g, 3, none⟩).getD undef)).toNat)
  case atStart => exact ⟨0, fun m hm => absurd hm (Nat.not_lt_zero _), hnr.1, hFil, J2, OnlyB.of (Only.refl [] _)⟩
  case round =>
    obtain ⟨W2, hnew⟩ : ∃ W, W = wr := ⟨_, rfl⟩
    subst hnew
    obtain ⟨m, hokm, hmn, hF, hJ, hO⟩ := hrel
    have hgo := chF_go (s := 0) Hok.out.symm hokm
    obtain ⟨JJ, hJJ⟩ : ∃ JJ, JJ = chF x tr 0 m := ⟨_, rfl⟩
    rw [← hJJ] at hF hgo
    have HJJ := Lib.hid hJJ
    clear hJJ
    obtain ⟨⟨tr', ps', ds'⟩, nx', lg', sy'⟩ := JJ
    have hnn : nx' = (m : Int) := hgo.nx
    subst hnn
    have HGo := Lib.hid hgo
    have Hokm := Lib.hid hokm
    have HF := Lib.hid hF
    clear hgo hokm
    obtain ⟨M, v1, vm, f1, fm, ex, u2, u3, fs, hL⟩ := hF
    have hL0 : FL B g M v1 vm (.int .i64 (m : Int)) (.string lg') (.int .i64 sy') tr' ((ltrs x.moves.length).map (mv x.moves)) f1 fm ex ps' ps' ds' W2 u2 u3 fs := hL
    clear hL
    have y3 := hL0.blk.cell 3 rfl
    have j3 := hJ.cell 3 rfl
    have KO : Only [] w W2 := hO.old K2 (by omega)
    by_cases hd : (m : Int) < nx
    · have HcT := Lib.hid (fun (V : World) (hV : Only [] W2 V) => step_any x tr' ps' ds' m lg' sy' V (HF.out.keep hV) HGo.out)
      rcases hst : (stepF x ⟨⟨tr', ps', ds'⟩, (m : Int), lg', sy'⟩).2
      · have hv : vb = false := by rw [HVB.out]; exact validF_stuck (j := (⟨⟨tr, ps, ds⟩, nx, lg, sy⟩ : FillJob)) (m := m) (s := 0) Hokm.out hd (by show (stepF x (chF x tr 0 m)).2 = false; rw [← HJJ.out]; exact hst)
        have HV := Lib.hid hv
        have HST := Lib.hid hst
        clear hv hst
        go_wp2_with fail
        go_quiet (fail)
        go_wp2_with (first
          | (go_at_call 61; (with_reducible refine (HcT.out _ (by with_reducible repeat (first | exact Only.refl _ _ | assumption | refine Only.drewN ?_ _ | refine Only.drew ?_ | refine Only.alloc ?_ _ | refine Only.setCell ?_ (by intro hh; exfalso; simp at hh; try omega) _ | refine Only.trans ?_ (by assumption)))).mono ?_); rintro e w4 ⟨he, hF4, t4⟩; rw [HST.out] at he; subst he)
          | fail "no arm")
        exact bodyPost_ret (v := .tuple #[.pointer none, .bool false]) (by simp [results, Tryz.results56, go_sem]) rfl (Hno.out _ (t4.old (KO.trans ((Only.refl [] _).drewN _)) (by omega)) HV.out)
      · have hstep := chF_step (s := 0) Hok.out.symm Hokm.out (by rw [← HJJ.out]; exact hst)
        have hokm1 := hstep.1
        have hj1 : (stepF x ⟨⟨tr', ps', ds'⟩, (m : Int), lg', sy'⟩).1 = chF x tr 0 (m + 1) := by rw [← hstep.2, ← HJJ.out]
        have HJ1 := Lib.hid hj1
        have HST := Lib.hid hst
        clear hstep hj1 hst
        go_wp2_with fail
        go_quiet (fail)
        go_wp2_with (first
          | (go_at_call 61; (with_reducible refine (HcT.out _ (by with_reducible repeat (first | exact Only.refl _ _ | assumption | refine Only.drewN ?_ _ | refine Only.drew ?_ | refine Only.alloc ?_ _ | refine Only.setCell ?_ (by intro hh; exfalso; simp at hh; try omega) _ | refine Only.trans ?_ (by assumption)))).mono ?_); rintro e w4 ⟨he, hF4, t4⟩; rw [HST.out] at he; rw [HJ1.out] at hF4; subst he)
          | fail "no arm")
        have hJ4 := t4.blk (hJ.keep ((Only.refl [] _).drewN _)) (by omega)
        have hO4 : OnlyB B w2 w4 := (hO.then_ ((Only.refl [] _).drewN _)).trans t4
        have hn4 : (chF x tr 0 (m + 1)).next = ((m + 1 : Nat) : Int) := (chF_go (s := 0) Hok.out.symm hokm1).nx
        have hc4 : w4.cell? ⟨g, 3, none⟩ = some (.int .i64 ((m + 1 : Nat) : Int)) := by
          obtain ⟨M', a1, am, b1, bm, ex', b2, b3, fs', hL4⟩ := hF4
          rw [← hn4]
          exact hL4.blk.cell 3 rfl
        go_roundw
        case rel => exact ⟨m + 1, hokm1, by omega, hF4, hJ4, hO4⟩
        case measure => rw [hc4, y3]; simp [intOf]; omega
    · have hme : nx = (m : Int) := by omega
      have hmid := HGo.out
      have hE1 : (atF x tr m).log = lg' := by have := congrArg FillJob.log HJJ.out; exact this.symm
      have hE2 : (atF x tr m).table = ⟨tr', ps', ds'⟩ := by have := congrArg FillJob.table HJJ.out; exact this.symm
      obtain ⟨tb, htb⟩ : ∃ tb, tb = eqV (⟨tr', ps', ds'⟩ : Table) ⟨tr, ps, ds⟩ := ⟨_, rfl⟩
      have hvE : vb = (decide (lg' = lg) && tb) := by
        have h1 := validF_end (x := x) (j := (⟨⟨tr, ps, ds⟩, nx, lg, sy⟩ : FillJob)) (m := m) Hok.out.symm (by show lg.size ≤ 60000; omega) hsr Hokm.out hme
        rw [HVB.out, htb]
        rw [show (atF x (⟨⟨tr, ps, ds⟩, nx, lg, sy⟩ : FillJob).table.tracked m).log = lg' from hE1, show (atF x (⟨⟨tr, ps, ds⟩, nx, lg, sy⟩ : FillJob).table.tracked m).table = ⟨tr', ps', ds'⟩ from hE2] at h1
        exact h1
      have HVE := Lib.hid hvE
      have HTB := Lib.hid htb
      have Hme := Lib.hid hme
      clear hvE htb hme hE1 hE2 hmid
      have htk := hL0.tk
      obtain ⟨Q1, R1, _, _, rfl, -⟩ := htk.open_
      obtain ⟨Q2, R2, rfl⟩ := hL0.pt.form
      obtain ⟨Q3, R3, rfl⟩ := hL0.dt.form
      clear htk
      go_wp2_with fail
      go_quiet (fail)
      have hL3 := hL0.keep ((Only.refl [] W2).drewN nq)
      have hJ3 := hJ.keep ((Only.refl [] W2).drewN nq)
      have z5 := hL3.blk.cell 5 rfl
      have p5 := hL3.blk.frozen 5
      have j5 := hJ3.cell 5 rfl
      have hL4 := hL3.store 5 (.int .i64 sy) rfl
      have hs5 : Only [g] (W2.drewN nq) ((W2.drewN nq).setCell ⟨g, 5, none⟩ (.int .i64 sy)) := (Only.refl _ _).setCell (by simp) _
      have hgB : B ≤ g := (hL0.fam.rng [g] (List.mem_of_getElem? (i := 0) rfl) g (by simp)).1
      have hJ4 := hJ3.only hs5 (by simp; omega)
      have hO4 : OnlyB B w2 ((W2.drewN nq).setCell ⟨g, 5, none⟩ (.int .i64 sy)) := (hO.then_ ((Only.refl [] _).drewN nq)).trans ⟨[g], fun b hb => by simp at hb; omega, hs5⟩
      go_upto_region 10 with fail
      obtain ⟨W4, hW4⟩ : ∃ W4, W4 = (W2.drewN nq).setCell ⟨g, 5, none⟩ (.int .i64 sy) := ⟨_, rfl⟩
      rw [← hW4] at hL4 hJ4 hO4
      rw [← hW4]
      clear hW4 hL3 hJ3 hs5 z5 p5 j5
      have z0 := hL4.blk.cell 0 rfl
      have z1 := hL4.blk.cell 1 rfl
      have z2 := hL4.blk.cell 2 rfl
      have z4 := hL4.blk.cell 4 rfl
      have i0 := hJ4.cell 0 rfl
      have i1 := hJ4.cell 1 rfl
      have i2 := hJ4.cell 2 rfl
      have i4 := hJ4.cell 4 rfl
      have KO4 : Only [] w W4 := hO4.old K2 (by omega)
      have HcE := Lib.hid (fun (V : World) (hV : Only [] W4 V) => implSameTable_any [.slice Q1 tr'.length R1, .slice Q2 ps'.length R2, .slice Q3 ds'.length R3] [.slice A1 tr.length C1, .slice A2 ps.length C2, .slice A3 ds.length C3] (⟨tr', ps', ds'⟩ : Table) ⟨tr, ps, ds⟩ _ _ V (Rp.keep hL4.job.rd hV) (Rp.keep hT (KO4.trans hV)))
      have HL4 := Lib.hid hL4
      have hend : ∀ w' : World, Only [] W4 w' → ∃ q, Ending.returned (.tuple #[.pointer (some ⟨g, 0, none⟩), .bool vb]) = .returned (.tuple #[.pointer q, .bool vb]) ∧ (vb = true → ∃ B g, q = some ⟨g, 0, none⟩ ∧ w.heap.size ≤ B ∧ Fil x B g w' (⟨⟨tr, ps, ds⟩, nx, lg, sy⟩ : FillJob)) ∧ Only [] w w' := fun w' hK => by
        refine ⟨_, rfl, fun hv => ⟨B, g, rfl, by omega, ?_⟩, KO4.trans hK⟩
        have h1 := HVE.out
        rw [hv] at h1
        have h2 := (Bool.and_eq_true _ _).mp h1.symm
        have h3 : lg' = lg := of_decide_eq_true h2.1
        have h4 : (⟨tr', ps', ds'⟩ : Table) = ⟨tr, ps, ds⟩ := eqV_iff.1 (by rw [← HTB.out]; exact h2.2)
        injection h4 with e1 e2 e3
        have h5 := Hme.out
        have h6 := HL4.out.keep hK
        rw [h5, ← h3, ← e1, ← e2, ← e3]
        exact ⟨_, _, _, _, _, _, _, _, _, h6⟩
      have Hend := Lib.hid hend
      clear hend hL4 hJ4 hO4 hL0 hJ hO
      by_cases hlg : lg' = lg
      · have b2 := str_eq hlg
        have b3 : lg'.toList = lg.toList := by rw [hlg]
        have hvt : vb = tb := by rw [HVE.out, decide_eq_true hlg]; rfl
        have HVT := Lib.hid hvt
        clear hlg hvt
        refine wp_region_held_drew (S := fun w' => Only [] W4 w' ∧ w'.cell? ⟨g, 0, none⟩ = some (.slice Q1 tr'.length R1) ∧ w'.cell? ⟨g, 1, none⟩ = some (.slice Q2 ps'.length R2) ∧ w'.cell? ⟨g, 2, none⟩ = some (.slice Q3 ds'.length R3) ∧ w'.cell? ⟨g, 4, none⟩ = some (Value.string lg') ∧ w'.cell? ⟨w.heap.size + 1, 0, none⟩ = some (.slice A1 tr.length C1) ∧ w'.cell? ⟨w.heap.size + 1, 1, none⟩ = some (.slice A2 ps.length C2) ∧ w'.cell? ⟨w.heap.size + 1, 2, none⟩ = some (.slice A3 ds.length C3) ∧ w'.cell? ⟨w.heap.size + 1, 4, none⟩ = some (Value.string lg)) (by kernel_rfl) (and_of (Only.refl [] W4).drew (fun h__ => ⟨h__.cell (by simp) z0, h__.cell (by simp) z1, h__.cell (by simp) z2, h__.cell (by simp) z4, h__.cell (by simp) i0, h__.cell (by simp) i1, h__.cell (by simp) i2, h__.cell (by simp) i4⟩)) (fun hHeld => ?_)
        (refine wpAnyH_take (i := 0) (v := ?v1) rfl (by kernel_rfl) (by kernel_rfl) (by kernel_rfl) (fun _ _ _ h => h) (Or.inl ⟨by rfl, ?hy1⟩) (by assumption) ?rest1); (case hy1 => (intro w__ hSw; (try dsimp only at hSw); go_simp; try with_reducible rfl)); (try simp only [Act.put, List.getElem_toArray, List.getElem_cons_zero, List.getElem_cons_succ, List.setIfInBounds_toArray, List.set_cons_zero, List.set_cons_succ])
        (refine wpAnyH_take (i := 1) (v := ?v2) rfl (by kernel_rfl) (by kernel_rfl) (by kernel_rfl) (fun _ _ _ h => h) (Or.inl ⟨by rfl, ?hy2⟩) (by assumption) ?rest2); (case hy2 => (intro w__ hSw; (try dsimp only at hSw); go_simp; try with_reducible rfl)); (try simp only [Act.put, List.getElem_toArray, List.getElem_cons_zero, List.getElem_cons_succ, List.setIfInBounds_toArray, List.set_cons_zero, List.set_cons_succ])
        (refine wpAnyH_take (i := 2) (v := ?v3) rfl (by kernel_rfl) (by kernel_rfl) (by kernel_rfl) (fun _ _ _ h => h) (Or.inl ⟨by rfl, ?hy3⟩) (by assumption) ?rest3); (case hy3 => (intro w__ hSw; (try dsimp only at hSw); go_simp; try with_reducible rfl)); (try simp only [Act.put, List.getElem_toArray, List.getElem_cons_zero, List.getElem_cons_succ, List.setIfInBounds_toArray, List.set_cons_zero, List.set_cons_succ])
        (refine wpAnyH_take (i := 3) (v := ?v4) rfl (by kernel_rfl) (by kernel_rfl) (by kernel_rfl) (fun _ _ _ h => h) (Or.inl ⟨by rfl, ?hy4⟩) (by assumption) ?rest4); (case hy4 => (intro w__ hSw; (try dsimp only at hSw); go_simp; try with_reducible rfl)); (try simp only [Act.put, List.getElem_toArray, List.getElem_cons_zero, List.getElem_cons_succ, List.setIfInBounds_toArray, List.set_cons_zero, List.set_cons_succ])
        (refine wpAnyH_take (i := 4) (v := ?v5) rfl (by kernel_rfl) (by kernel_rfl) (by kernel_rfl) (fun _ _ _ h => h) (Or.inl ⟨by rfl, ?hy5⟩) (by assumption) ?rest5); (case hy5 => (intro w__ hSw; (try dsimp only at hSw); go_simp; try with_reducible rfl)); (try simp only [Act.put, List.getElem_toArray, List.getElem_cons_zero, List.getElem_cons_succ, List.setIfInBounds_toArray, List.set_cons_zero, List.set_cons_succ])
        (refine wpAnyH_take (i := 5) (v := ?v6) rfl (by kernel_rfl) (by kernel_rfl) (by kernel_rfl) (fun _ _ _ h => h) (Or.inl ⟨by rfl, ?hy6⟩) (by assumption) ?rest6); (case hy6 => (intro w__ hSw; (try dsimp only at hSw); go_simp; try with_reducible rfl)); (try simp only [Act.put, List.getElem_toArray, List.getElem_cons_zero, List.getElem_cons_succ, List.setIfInBounds_toArray, List.set_cons_zero, List.set_cons_succ])
        (refine wpAnyH_take (i := 6) (v := ?v7) rfl (by kernel_rfl) (by kernel_rfl) (by kernel_rfl) (fun _ _ _ h => h) (Or.inl ⟨by rfl, ?hy7⟩) (by assumption) ?rest7); (case hy7 => (intro w__ hSw; (try dsimp only at hSw); go_simp; try with_reducible rfl)); (try simp only [Act.put, List.getElem_toArray, List.getElem_cons_zero, List.getElem_cons_succ, List.setIfInBounds_toArray, List.set_cons_zero, List.set_cons_succ])
        (refine wpAnyH_take (i := 7) (v := ?v8) rfl (by kernel_rfl) (by kernel_rfl) (by kernel_rfl) (fun _ _ _ h => h) (Or.inl ⟨by rfl, ?hy8⟩) (by assumption) ?rest8); (case hy8 => (intro w__ hSw; (try dsimp only at hSw); go_simp; try with_reducible rfl)); (try simp only [Act.put, List.getElem_toArray, List.getElem_cons_zero, List.getElem_cons_succ, List.setIfInBounds_toArray, List.set_cons_zero, List.set_cons_succ])
        (refine wpAnyH_take (i := 8) (v := ?v9) rfl (by kernel_rfl) (by kernel_rfl) (by kernel_rfl) (fun _ _ _ h => h) (Or.inl ⟨by rfl, ?hy9⟩) (by assumption) ?rest9); (case hy9 => (intro w__ hSw; (try dsimp only at hSw); go_simp; try with_reducible rfl)); (try simp only [Act.put, List.getElem_toArray, List.getElem_cons_zero, List.getElem_cons_succ, List.setIfInBounds_toArray, List.set_cons_zero, List.set_cons_succ])
        (refine wpAnyH_take (i := 9) (v := ?v10) rfl (by kernel_rfl) (by kernel_rfl) (by kernel_rfl) (fun _ _ _ h => h) (Or.inl ⟨by rfl, ?hy10⟩) (by assumption) ?rest10); (case hy10 => (intro w__ hSw; (try dsimp only at hSw); go_simp; try with_reducible rfl)); (try simp only [Act.put, List.getElem_toArray, List.getElem_cons_zero, List.getElem_cons_succ, List.setIfInBounds_toArray, List.set_cons_zero, List.set_cons_succ])
        (refine wpAnyH_take (i := 10) (v := ?v11) rfl (by kernel_rfl) (by kernel_rfl) (by kernel_rfl) (fun _ _ _ h => h) (Or.inl ⟨by rfl, ?hy11⟩) (by assumption) ?rest11); (case hy11 => (intro w__ hSw; (try dsimp only at hSw); go_simp; try with_reducible rfl)); (try simp only [Act.put, List.getElem_toArray, List.getElem_cons_zero, List.getElem_cons_succ, List.setIfInBounds_toArray, List.set_cons_zero, List.set_cons_succ])
        (refine wpAnyH_take (i := 11) (v := ?v12) rfl (by kernel_rfl) (by kernel_rfl) (by kernel_rfl) (fun _ _ _ h => h) (Or.inl ⟨by rfl, ?hy12⟩) (by assumption) ?rest12); (case hy12 => (intro w__ hSw; (try dsimp only at hSw); go_simp; try with_reducible rfl)); (try simp only [Act.put, List.getElem_toArray, List.getElem_cons_zero, List.getElem_cons_succ, List.setIfInBounds_toArray, List.set_cons_zero, List.set_cons_succ])
        (refine wpAnyH_take (i := 12) (v := ?v13) rfl (by kernel_rfl) (by kernel_rfl) (by kernel_rfl) (fun _ _ _ h => h) (Or.inl ⟨by rfl, ?hy13⟩) (by assumption) ?rest13); (case hy13 => (intro w__ hSw; (try dsimp only at hSw); go_simp; try with_reducible rfl)); (try simp only [Act.put, List.getElem_toArray, List.getElem_cons_zero, List.getElem_cons_succ, List.setIfInBounds_toArray, List.set_cons_zero, List.set_cons_succ])
        (refine wpAnyH_take (i := 13) (v := ?v14) rfl (by kernel_rfl) (by kernel_rfl) (by kernel_rfl) (fun _ _ _ h => h) (Or.inl ⟨by rfl, ?hy14⟩) (by assumption) ?rest14); (case hy14 => (intro w__ hSw; (try dsimp only at hSw); go_simp; try with_reducible rfl)); (try simp only [Act.put, List.getElem_toArray, List.getElem_cons_zero, List.getElem_cons_succ, List.setIfInBounds_toArray, List.set_cons_zero, List.set_cons_succ])
        (refine wpAnyH_take (i := 14) (v := ?v15) rfl (by kernel_rfl) (by kernel_rfl) (by kernel_rfl) (fun _ _ _ h => h) (Or.inl ⟨by rfl, ?hy15⟩) (by assumption) ?rest15); (case hy15 => (intro w__ hSw; (try dsimp only at hSw); go_simp; try with_reducible rfl)); (try simp only [Act.put, List.getElem_toArray, List.getElem_cons_zero, List.getElem_cons_succ, List.setIfInBounds_toArray, List.set_cons_zero, List.set_cons_succ])
        (refine wpAnyH_take (i := 15) (v := ?v16) rfl (by kernel_rfl) (by kernel_rfl) (by kernel_rfl) (fun _ _ _ h => h) (Or.inl ⟨by rfl, ?hy16⟩) (by assumption) ?rest16); (case hy16 => (intro w__ hSw; (try dsimp only at hSw); go_simp; try with_reducible rfl)); (try simp only [Act.put, List.getElem_toArray, List.getElem_cons_zero, List.getElem_cons_succ, List.setIfInBounds_toArray, List.set_cons_zero, List.set_cons_succ])
        (refine wpAnyH_take (i := 16) (v := ?v17) rfl (by kernel_rfl) (by kernel_rfl) (by kernel_rfl) (fun _ _ _ h => h) (Or.inl ⟨by rfl, ?hy17⟩) (by assumption) ?rest17); (case hy17 => (intro w__ hSw; (try dsimp only at hSw); go_simp; try with_reducible rfl)); (try simp only [Act.put, List.getElem_toArray, List.getElem_cons_zero, List.getElem_cons_succ, List.setIfInBounds_toArray, List.set_cons_zero, List.set_cons_succ])
        refine wpAnyH_ready (rs := [17]) (by kernel_rfl) (by simp) ?_
        refine AllReadyH.cons rfl (fun K hK => ?_) AllReadyH.nil
        go_simp
        (go_at_call 107; (with_reducible refine (HcE.out _ (by with_reducible repeat (first | assumption | exact .refl _ _ | refine .drew ?_ | refine .alloc ?_ _ | refine .trans ?_ (by assumption)))).mono ?_); rintro e w5 ⟨he, t5⟩; rw [← HTB.out] at he; subst he)
        go_wp2_with fail
        refine hK.out _ _ ?hSE (fun hHeld => ?restE)
        case hSE => ((refine and_of ?_ (fun h__ => ⟨h__.cell (by simp) z0, h__.cell (by simp) z1, h__.cell (by simp) z2, h__.cell (by simp) z4, h__.cell (by simp) i0, h__.cell (by simp) i1, h__.cell (by simp) i2, h__.cell (by simp) i4⟩)); first | exact Only.trans (And.left (by assumption)) (by assumption) | exact And.left (by assumption) | assumption)
        clear hK K
        (try simp only [Act.put, List.getElem_toArray, List.getElem_cons_zero, List.getElem_cons_succ, List.setIfInBounds_toArray, List.set_cons_zero, List.set_cons_succ])
        (refine wpAnyH_take (i := 18) (v := ?v18) rfl (by kernel_rfl) (by kernel_rfl) (by kernel_rfl) (fun _ _ _ h => h) (Or.inl ⟨by rfl, ?hy18⟩) (by assumption) ?rest18); (case hy18 => (intro w__ hSw; (try dsimp only at hSw); go_simp; try with_reducible rfl)); (try simp only [Act.put, List.getElem_toArray, List.getElem_cons_zero, List.getElem_cons_succ, List.setIfInBounds_toArray, List.set_cons_zero, List.set_cons_succ])
        (refine wpAnyH_take (i := 19) (v := ?v19) rfl (by kernel_rfl) (by kernel_rfl) (by kernel_rfl) (fun _ _ _ h => h) (Or.inl ⟨by rfl, ?hy19⟩) (by assumption) ?rest19); (case hy19 => (intro w__ hSw; (try dsimp only at hSw); go_simp; try with_reducible rfl)); (try simp only [Act.put, List.getElem_toArray, List.getElem_cons_zero, List.getElem_cons_succ, List.setIfInBounds_toArray, List.set_cons_zero, List.set_cons_succ])
        (refine wpAnyH_take (i := 20) (v := ?v20) rfl (by kernel_rfl) (by kernel_rfl) (by kernel_rfl) (fun _ _ _ h => h) (Or.inl ⟨by rfl, ?hy20⟩) (by assumption) ?rest20); (case hy20 => (intro w__ hSw; (try dsimp only at hSw); go_simp; try with_reducible rfl)); (try simp only [Act.put, List.getElem_toArray, List.getElem_cons_zero, List.getElem_cons_succ, List.setIfInBounds_toArray, List.set_cons_zero, List.set_cons_succ])
        refine wpAnyH_done (by kernel_rfl) ?_ _
        have KL : Only [] W4 w5 := (by with_reducible repeat (first | assumption | exact .refl _ _ | refine .drew ?_ | refine .alloc ?_ _ | refine .trans ?_ (by assumption)))
        go_wp2_with fail
        refine bodyPost_ret (v := .tuple #[.pointer (some ⟨g, 0, none⟩), .bool tb]) (by simp [results, Tryz.results56, go_sem]) rfl ?_
        rw [← HVT.out]
        exact Hend.out _ KL
      · have b2 := str_ne hlg
        have b3 : ¬ lg'.toList = lg.toList := by simpa using b2
        have hvt : vb = false := by rw [HVE.out, decide_eq_false hlg]; rfl
        have HVT := Lib.hid hvt
        clear hlg hvt
        refine wp_region_held_drew (S := fun w' => Only [] W4 w' ∧ w'.cell? ⟨g, 0, none⟩ = some (.slice Q1 tr'.length R1) ∧ w'.cell? ⟨g, 1, none⟩ = some (.slice Q2 ps'.length R2) ∧ w'.cell? ⟨g, 2, none⟩ = some (.slice Q3 ds'.length R3) ∧ w'.cell? ⟨g, 4, none⟩ = some (Value.string lg') ∧ w'.cell? ⟨w.heap.size + 1, 0, none⟩ = some (.slice A1 tr.length C1) ∧ w'.cell? ⟨w.heap.size + 1, 1, none⟩ = some (.slice A2 ps.length C2) ∧ w'.cell? ⟨w.heap.size + 1, 2, none⟩ = some (.slice A3 ds.length C3) ∧ w'.cell? ⟨w.heap.size + 1, 4, none⟩ = some (Value.string lg)) (by kernel_rfl) (and_of (Only.refl [] W4).drew (fun h__ => ⟨h__.cell (by simp) z0, h__.cell (by simp) z1, h__.cell (by simp) z2, h__.cell (by simp) z4, h__.cell (by simp) i0, h__.cell (by simp) i1, h__.cell (by simp) i2, h__.cell (by simp) i4⟩)) (fun hHeld => ?_)
        (refine wpAnyH_take (i := 0) (v := ?v21) rfl (by kernel_rfl) (by kernel_rfl) (by kernel_rfl) (fun _ _ _ h => h) (Or.inl ⟨by rfl, ?hy21⟩) (by assumption) ?rest21); (case hy21 => (intro w__ hSw; (try dsimp only at hSw); go_simp; try with_reducible rfl)); (try simp only [Act.put, List.getElem_toArray, List.getElem_cons_zero, List.getElem_cons_succ, List.setIfInBounds_toArray, List.set_cons_zero, List.set_cons_succ])
        (refine wpAnyH_take (i := 1) (v := ?v22) rfl (by kernel_rfl) (by kernel_rfl) (by kernel_rfl) (fun _ _ _ h => h) (Or.inl ⟨by rfl, ?hy22⟩) (by assumption) ?rest22); (case hy22 => (intro w__ hSw; (try dsimp only at hSw); go_simp; try with_reducible rfl)); (try simp only [Act.put, List.getElem_toArray, List.getElem_cons_zero, List.getElem_cons_succ, List.setIfInBounds_toArray, List.set_cons_zero, List.set_cons_succ])
        (refine wpAnyH_take (i := 2) (v := ?v23) rfl (by kernel_rfl) (by kernel_rfl) (by kernel_rfl) (fun _ _ _ h => h) (Or.inl ⟨by rfl, ?hy23⟩) (by assumption) ?rest23); (case hy23 => (intro w__ hSw; (try dsimp only at hSw); go_simp; try with_reducible rfl)); (try simp only [Act.put, List.getElem_toArray, List.getElem_cons_zero, List.getElem_cons_succ, List.setIfInBounds_toArray, List.set_cons_zero, List.set_cons_succ])
        (refine wpAnyH_take (i := 3) (v := ?v24) rfl (by kernel_rfl) (by kernel_rfl) (by kernel_rfl) (fun _ _ _ h => h) (Or.inl ⟨by rfl, ?hy24⟩) (by assumption) ?rest24); (case hy24 => (intro w__ hSw; (try dsimp only at hSw); go_simp; try with_reducible rfl)); (try simp only [Act.put, List.getElem_toArray, List.getElem_cons_zero, List.getElem_cons_succ, List.setIfInBounds_toArray, List.set_cons_zero, List.set_cons_succ])
        (refine wpAnyH_take (i := 4) (v := ?v25) rfl (by kernel_rfl) (by kernel_rfl) (by kernel_rfl) (fun _ _ _ h => h) (Or.inl ⟨by rfl, ?hy25⟩) (by assumption) ?rest25); (case hy25 => (intro w__ hSw; (try dsimp only at hSw); go_simp; try with_reducible rfl)); (try simp only [Act.put, List.getElem_toArray, List.getElem_cons_zero, List.getElem_cons_succ, List.setIfInBounds_toArray, List.set_cons_zero, List.set_cons_succ])
        (refine wpAnyH_take (i := 5) (v := ?v26) rfl (by kernel_rfl) (by kernel_rfl) (by kernel_rfl) (fun _ _ _ h => h) (Or.inl ⟨by rfl, ?hy26⟩) (by assumption) ?rest26); (case hy26 => (intro w__ hSw; (try dsimp only at hSw); go_simp; try with_reducible rfl)); (try simp only [Act.put, List.getElem_toArray, List.getElem_cons_zero, List.getElem_cons_succ, List.setIfInBounds_toArray, List.set_cons_zero, List.set_cons_succ])
        (refine wpAnyH_take (i := 6) (v := ?v27) rfl (by kernel_rfl) (by kernel_rfl) (by kernel_rfl) (fun _ _ _ h => h) (Or.inl ⟨by rfl, ?hy27⟩) (by assumption) ?rest27); (case hy27 => (intro w__ hSw; (try dsimp only at hSw); go_simp; try with_reducible rfl)); (try simp only [Act.put, List.getElem_toArray, List.getElem_cons_zero, List.getElem_cons_succ, List.setIfInBounds_toArray, List.set_cons_zero, List.set_cons_succ])
        (refine wpAnyH_take (i := 7) (v := ?v28) rfl (by kernel_rfl) (by kernel_rfl) (by kernel_rfl) (fun _ _ _ h => h) (Or.inl ⟨by rfl, ?hy28⟩) (by assumption) ?rest28); (case hy28 => (intro w__ hSw; (try dsimp only at hSw); go_simp; try with_reducible rfl)); (try simp only [Act.put, List.getElem_toArray, List.getElem_cons_zero, List.getElem_cons_succ, List.setIfInBounds_toArray, List.set_cons_zero, List.set_cons_succ])
        (refine wpAnyH_take (i := 8) (v := ?v29) rfl (by kernel_rfl) (by kernel_rfl) (by kernel_rfl) (fun _ _ _ h => h) (Or.inl ⟨by rfl, ?hy29⟩) (by assumption) ?rest29); (case hy29 => (intro w__ hSw; (try dsimp only at hSw); go_simp; try with_reducible rfl)); (try simp only [Act.put, List.getElem_toArray, List.getElem_cons_zero, List.getElem_cons_succ, List.setIfInBounds_toArray, List.set_cons_zero, List.set_cons_succ])
        (refine wpAnyH_take (i := 9) (v := ?v30) rfl (by kernel_rfl) (by kernel_rfl) (by kernel_rfl) (fun _ _ _ h => h) (Or.inl ⟨by rfl, ?hy30⟩) (by assumption) ?rest30); (case hy30 => (intro w__ hSw; (try dsimp only at hSw); go_simp; try with_reducible rfl)); (try simp only [Act.put, List.getElem_toArray, List.getElem_cons_zero, List.getElem_cons_succ, List.setIfInBounds_toArray, List.set_cons_zero, List.set_cons_succ])
        (refine wpAnyH_take (i := 10) (v := undef) rfl (by kernel_rfl) (by kernel_rfl) (by kernel_rfl) (fun _ _ _ h => h) (Or.inr ⟨by rfl, rfl⟩) (by assumption) ?_); (try simp only [Act.put, List.getElem_toArray, List.getElem_cons_zero, List.getElem_cons_succ, List.setIfInBounds_toArray, List.set_cons_zero, List.set_cons_succ])
        (refine wpAnyH_take (i := 11) (v := undef) rfl (by kernel_rfl) (by kernel_rfl) (by kernel_rfl) (fun _ _ _ h => h) (Or.inr ⟨by rfl, rfl⟩) (by assumption) ?_); (try simp only [Act.put, List.getElem_toArray, List.getElem_cons_zero, List.getElem_cons_succ, List.setIfInBounds_toArray, List.set_cons_zero, List.set_cons_succ])
        (refine wpAnyH_take (i := 12) (v := undef) rfl (by kernel_rfl) (by kernel_rfl) (by kernel_rfl) (fun _ _ _ h => h) (Or.inr ⟨by rfl, rfl⟩) (by assumption) ?_); (try simp only [Act.put, List.getElem_toArray, List.getElem_cons_zero, List.getElem_cons_succ, List.setIfInBounds_toArray, List.set_cons_zero, List.set_cons_succ])
        (refine wpAnyH_take (i := 13) (v := undef) rfl (by kernel_rfl) (by kernel_rfl) (by kernel_rfl) (fun _ _ _ h => h) (Or.inr ⟨by rfl, rfl⟩) (by assumption) ?_); (try simp only [Act.put, List.getElem_toArray, List.getElem_cons_zero, List.getElem_cons_succ, List.setIfInBounds_toArray, List.set_cons_zero, List.set_cons_succ])
        (refine wpAnyH_take (i := 14) (v := undef) rfl (by kernel_rfl) (by kernel_rfl) (by kernel_rfl) (fun _ _ _ h => h) (Or.inr ⟨by rfl, rfl⟩) (by assumption) ?_); (try simp only [Act.put, List.getElem_toArray, List.getElem_cons_zero, List.getElem_cons_succ, List.setIfInBounds_toArray, List.set_cons_zero, List.set_cons_succ])
        (refine wpAnyH_take (i := 15) (v := undef) rfl (by kernel_rfl) (by kernel_rfl) (by kernel_rfl) (fun _ _ _ h => h) (Or.inr ⟨by rfl, rfl⟩) (by assumption) ?_); (try simp only [Act.put, List.getElem_toArray, List.getElem_cons_zero, List.getElem_cons_succ, List.setIfInBounds_toArray, List.set_cons_zero, List.set_cons_succ])
        (refine wpAnyH_take (i := 16) (v := undef) rfl (by kernel_rfl) (by kernel_rfl) (by kernel_rfl) (fun _ _ _ h => h) (Or.inr ⟨by rfl, rfl⟩) (by assumption) ?_); (try simp only [Act.put, List.getElem_toArray, List.getElem_cons_zero, List.getElem_cons_succ, List.setIfInBounds_toArray, List.set_cons_zero, List.set_cons_succ])
        (refine wpAnyH_take (i := 17) (v := undef) rfl (by kernel_rfl) (by kernel_rfl) (by kernel_rfl) (fun _ _ _ h => h) (Or.inr ⟨by rfl, rfl⟩) (by assumption) ?_); (try simp only [Act.put, List.getElem_toArray, List.getElem_cons_zero, List.getElem_cons_succ, List.setIfInBounds_toArray, List.set_cons_zero, List.set_cons_succ])
        (refine wpAnyH_take (i := 18) (v := ?v39) rfl (by kernel_rfl) (by kernel_rfl) (by kernel_rfl) (fun _ _ _ h => h) (Or.inl ⟨by rfl, ?hy39⟩) (by assumption) ?rest39); (case hy39 => (intro w__ hSw; (try dsimp only at hSw); go_simp; try with_reducible rfl)); (try simp only [Act.put, List.getElem_toArray, List.getElem_cons_zero, List.getElem_cons_succ, List.setIfInBounds_toArray, List.set_cons_zero, List.set_cons_succ])
        (refine wpAnyH_take (i := 19) (v := ?v40) rfl (by kernel_rfl) (by kernel_rfl) (by kernel_rfl) (fun _ _ _ h => h) (Or.inl ⟨by rfl, ?hy40⟩) (by assumption) ?rest40); (case hy40 => (intro w__ hSw; (try dsimp only at hSw); go_simp; try with_reducible rfl)); (try simp only [Act.put, List.getElem_toArray, List.getElem_cons_zero, List.getElem_cons_succ, List.setIfInBounds_toArray, List.set_cons_zero, List.set_cons_succ])
        (refine wpAnyH_take (i := 20) (v := ?v41) rfl (by kernel_rfl) (by kernel_rfl) (by kernel_rfl) (fun _ _ _ h => h) (Or.inl ⟨by rfl, ?hy41⟩) (by assumption) ?rest41); (case hy41 => (intro w__ hSw; (try dsimp only at hSw); go_simp; try with_reducible rfl)); (try simp only [Act.put, List.getElem_toArray, List.getElem_cons_zero, List.getElem_cons_succ, List.setIfInBounds_toArray, List.set_cons_zero, List.set_cons_succ])
        refine wpAnyH_done (by kernel_rfl) ?_ _
        go_wp2_with fail
        refine bodyPost_ret (v := .tuple #[.pointer (some ⟨g, 0, none⟩), .bool false]) (by simp [results, Tryz.results56, go_sem]) rfl ?_
        rw [← HVT.out]
        exact Hend.out _ (Only.refl _ _).drew
end Go.Proofs.YtlcoejncdbkhcaaGreat

namespace Go.Proofs.YtlcoejncdbkhcaaGreat
open Go.RowKit
set_option maxRecDepth 10000
theorem Fil.jobrd {x : Puzzle} {B g : Nat} {w : World} {j : FillJob} (h : Fil x B g w j) (hn : I64 j.next) (hl : j.log.size ≤ maxLen) (hs : I64 j.synced) :
    ∃ M vm Q1 R1 Q2 R2 Q3 R3 fj, Blk w g [.slice Q1 j.table.tracked.length R1, .slice Q2 j.table.patterns.length R2, .slice Q3 j.table.distances.length R3, .int .i64 j.next, .string j.log, .int .i64 j.synced, vm, .map (some M)] ∧
      Rp.rep w [.slice Q1 j.table.tracked.length R1, .slice Q2 j.table.patterns.length R2, .slice Q3 j.table.distances.length R3, .int .i64 j.next, .string j.log, .int .i64 j.synced] j fj ∧ Fresh B w fj := by
  obtain ⟨M, v1, vm, f1, fm, ex, u2, u3, fs, hL⟩ := h
  have hj := hL.job
  have htk := hL.tk
  obtain ⟨Q1, R1, _, _, rfl, -⟩ := htk.open_
  obtain ⟨Q2, R2, rfl⟩ := hL.pt.form
  obtain ⟨Q3, R3, rfl⟩ := hL.dt.form
  exact ⟨M, vm, Q1, R1, Q2, R2, Q3, R3, _, hL.blk, ⟨_, rfl, hn, hl, hs, hj.rd⟩, hj.fr⟩
end Go.Proofs.YtlcoejncdbkhcaaGreat

namespace Go.Proofs.YtlcoejncdbkhcaaGreat
open Go.RowKit
set_option maxRecDepth 10000

theorem tab_cnt_of {t : Table} {n : Nat} (h1 : t.tracked.length ≤ 20) (h2 : t.patterns.length ≤ n) (h3 : ∀ q ∈ t.patterns, q.length ≤ 20) (h4 : t.distances.length ≤ n) : Mk.cnt t ≤ 20 + n * 20 + n := by
  show cntL t.tracked + cntL t.patterns + cntL t.distances ≤ _
  have e1 := cntL_ints t.tracked
  have e2 := cntL_ints t.distances
  have e3 := cntL_rows h3
  have e4 : t.patterns.length * 20 ≤ n * 20 := Nat.mul_le_mul_right _ h2
  omega
theorem GoF.small {x : Puzzle} {j : FillJob} {n : Nat} (h : GoF x j n) : j.table.tracked.length ≤ 20 ∧ ∀ q ∈ j.table.patterns, q.length ≤ 20 := by
  have h1 := (trackB_iff.1 h.tr).2.len
  have h2 := (validPz_facts h.vp).2.1
  refine ⟨by omega, fun q hq => ?_⟩
  have := (patB_iff.1 (h.ps q hq)).1
  omega
theorem GoF.cnt {x : Puzzle} {j : FillJob} {n : Nat} (h : GoF x j n) : Mk.cnt j ≤ 100000 := by
  obtain ⟨h1, h2⟩ := h.small
  have h3 := tab_cnt_of (n := 4000) h1 (by have := h.le; omega) h2 (by have := h.le; have := h.ln; omega)
  exact Nat.le_trans h3 (by omega)
theorem noFill_cnt : Mk.cnt noFill = 0 := by simp [noFill, noTab, Mk.cnt, cntL]
theorem sm_fill {j : FillJob} (h : Sm.sm j) : j.table.tracked.length ≤ 2097152 := by
  obtain ⟨h5, -, -⟩ : Sm.sm j.table := h
  exact h5.1
/-- what a call that returns a job and a word leaves: the result's box, the word -/
def FK1 (W wx : World) (s8 s9 : Value) (o : FillJob × Bool) : Prop :=
  ∃ g Q0 R0 Q1 R1 Q2 R2 f, W.heap.size ≤ g ∧ s8 = .pointer (some ⟨g, 0, none⟩) ∧ s9 = .bool o.2 ∧ Blk wx g [.slice Q0 o.1.table.tracked.length R0, .slice Q1 o.1.table.patterns.length R1, .slice Q2 o.1.table.distances.length R2, .int .i64 o.1.next, .string o.1.log, .int .i64 o.1.synced] ∧ Rp.rep wx [.slice Q0 o.1.table.tracked.length R0, .slice Q1 o.1.table.patterns.length R1, .slice Q2 o.1.table.distances.length R2, .int .i64 o.1.next, .string o.1.log, .int .i64 o.1.synced] o.1 f ∧ Fresh W.heap.size wx f ∧ Only [] W wx
theorem FK1.of {W w5 : World} {o : FillJob × Bool} {g : Nat} {cs : List Value} {Q0 Q1 Q2 : Option Addr} {R0 R1 R2 : Nat} {f : List Nat} (hz : Blk w5 g cs) (hcs : cs.length = 6) (hK : Only [] W w5) (hr : Rp.rep w5 [.slice Q0 o.1.table.tracked.length R0, .slice Q1 o.1.table.patterns.length R1, .slice Q2 o.1.table.distances.length R2, .int .i64 o.1.next, .string o.1.log, .int .i64 o.1.synced] o.1 f) (hF : Fresh W.heap.size w5 f) (hg : g ∉ f) (hW : W.heap.size ≤ g) :
    FK1 W ((((((w5.setCell ⟨g, 0, none⟩ (.slice Q0 o.1.table.tracked.length R0)).setCell ⟨g, 1, none⟩ (.slice Q1 o.1.table.patterns.length R1)).setCell ⟨g, 2, none⟩ (.slice Q2 o.1.table.distances.length R2)).setCell ⟨g, 3, none⟩ (.int .i64 o.1.next)).setCell ⟨g, 4, none⟩ (.string o.1.log)).setCell ⟨g, 5, none⟩ (.int .i64 o.1.synced)) (.pointer (some ⟨g, 0, none⟩)) (.bool o.2) o := by
  have ho : Only [g] w5 ((((((w5.setCell ⟨g, 0, none⟩ (.slice Q0 o.1.table.tracked.length R0)).setCell ⟨g, 1, none⟩ (.slice Q1 o.1.table.patterns.length R1)).setCell ⟨g, 2, none⟩ (.slice Q2 o.1.table.distances.length R2)).setCell ⟨g, 3, none⟩ (.int .i64 o.1.next)).setCell ⟨g, 4, none⟩ (.string o.1.log)).setCell ⟨g, 5, none⟩ (.int .i64 o.1.synced)) := (((((((Only.refl _ _).setCell (by simp) _).setCell (by simp) _).setCell (by simp) _).setCell (by simp) _).setCell (by simp) _).setCell (by simp) _)
  have hnf : ∀ b ∈ f, b ∉ [g] := fun b hm1 hm => by simp at hm; subst hm; exact hg hm1
  have hb := ((((((hz.set 0 (.slice Q0 o.1.table.tracked.length R0)).set 1 (.slice Q1 o.1.table.patterns.length R1)).set 2 (.slice Q2 o.1.table.distances.length R2)).set 3 (.int .i64 o.1.next)).set 4 (.string o.1.log)).set 5 (.int .i64 o.1.synced))
  refine ⟨g, Q0, R0, Q1, R1, Q2, R2, f, hW, rfl, rfl, ?_, Rp.only hr ho hnf, hF.only ho hnf, hK.then_ ho (by intro b hm hl; simp at hm; omega)⟩
  obtain ⟨u0, u1, u2, u3, u4, u5, rfl⟩ : ∃ u0 u1 u2 u3 u4 u5, cs = [u0, u1, u2, u3, u4, u5] := by
    match cs, hcs with
    | [u0, u1, u2, u3, u4, u5], _ => exact ⟨u0, u1, u2, u3, u4, u5, rfl⟩
  simpa only [List.set] using hb
theorem FK1.of2 {W w5 : World} {o : FillJob × Bool} {g : Nat} {e : TypeId} {Q0 Q1 Q2 : Option Addr} {R0 R1 R2 : Nat} {f : List Nat} (hK : Only [] W w5) (hr : Rp.rep w5 [.slice Q0 o.1.table.tracked.length R0, .slice Q1 o.1.table.patterns.length R1, .slice Q2 o.1.table.distances.length R2, .int .i64 o.1.next, .string o.1.log, .int .i64 o.1.synced] o.1 f) (hF : Fresh W.heap.size w5 f) (hg : g = w5.heap.size) :
    FK1 W (w5.alloc (.cells #[.slice Q0 o.1.table.tracked.length R0, .slice Q1 o.1.table.patterns.length R1, .slice Q2 o.1.table.distances.length R2, .int .i64 o.1.next, .string o.1.log, .int .i64 o.1.synced] e)) (.pointer (some ⟨g, 0, none⟩)) (.bool o.2) o := by
  subst hg
  have ho : Only [] w5 (w5.alloc (.cells #[.slice Q0 o.1.table.tracked.length R0, .slice Q1 o.1.table.patterns.length R1, .slice Q2 o.1.table.distances.length R2, .int .i64 o.1.next, .string o.1.log, .int .i64 o.1.synced] e)) := (Only.refl _ _).alloc _
  exact ⟨_, Q0, R0, Q1, R1, Q2, R2, f, hK.size, rfl, rfl, Blk.new w5 _ e, Rp.keep hr ho, hF.keep ho, hK.trans ho⟩
end Go.Proofs.YtlcoejncdbkhcaaGreat

namespace Go.Proofs.YtlcoejncdbkhcaaGreat
open Go.RowKit
set_option maxRecDepth 10000

noncomputable def runFF (x : Puzzle) (j : FillJob) (k : Int) : FillJob × Int := if validF x j = true ∧ 0 ≤ k then ((runF x j k.toNat).1, ((runF x j k.toNat).2 : Int)) else (noFill, -1)
theorem runF_yes {x : Puzzle} {j : FillJob} {n : Nat} (h : (stepF x j).2 = true) : (runF x j (n + 1)).1 = (runF x (stepF x j).1 n).1 ∧ (runF x j (n + 1)).2 = (runF x (stepF x j).1 n).2 + 1 := by
  show (if (stepF x j).2 = true then ((runF x (stepF x j).1 n).1, (runF x (stepF x j).1 n).2 + 1) else (j, 0)).1 = _ ∧ (if (stepF x j).2 = true then ((runF x (stepF x j).1 n).1, (runF x (stepF x j).1 n).2 + 1) else (j, 0)).2 = _
  rw [if_pos h]
  exact ⟨rfl, rfl⟩
theorem runF_no {x : Puzzle} {j : FillJob} {n : Nat} (h : (stepF x j).2 = false) : runF x j n = (j, 0) := by
  cases n with
  | zero => rfl
  | succ n => unfold runF; rw [if_neg (by rw [h]; simp)]
set_option maxHeartbeats 4000000 in
theorem implRunFill_raw (cs : List Value) (x : Puzzle) (fp : List Nat) (c1 c2 c3 : Value) (tr : List Int) (ps : List (List Int)) (ds : List Int) (nx : Int) (lg : ByteArray) (sy : Int) (ks : Int) (g1 g2 g3 : List Nat) (w : World) (h : Rp.rep w cs x fp)
    (k1 : Rd w c1 tr g1) (k2 : Rd w c2 ps g2) (k3 : Rd w c3 ds g3) (hnx : I64 nx) (hsy : I64 sy) (hks : I64 ks) (hlm : lg.size ≤ maxLen) (htl : tr.length ≤ 2097152) :
    Calls Tryz.prog 26 #[.agg cs.toArray, .agg #[c1, c2, c3, .int .i64 nx, .string lg, .int .i64 sy], .int .i64 ks] w fun e w' => ∃ cs' fp', e = .returned (.tuple #[.agg (List.toArray cs'), .int .i64 (runFF x (⟨⟨tr, ps, ds⟩, nx, lg, sy⟩ : FillJob) ks).2]) ∧ Rp.rep w' cs' (runFF x (⟨⟨tr, ps, ds⟩, nx, lg, sy⟩ : FillJob) ks).1 fp' ∧ Fresh w.heap.size w' fp' ∧ Only [] w w' := by
  have hh := h
  obtain ⟨v2, rfl, p0, p1, h2⟩ := h
  obtain ⟨A0, C0, _, _, rfl, -, -⟩ := h2.open_
  have hk1 := k1; have hk2 := k2; have hk3 := k3
  obtain ⟨A1, C1, _, _, rfl, -⟩ := k1.open_
  obtain ⟨A2, C2, _, _, rfl, -⟩ := k2.open_
  obtain ⟨A3, C3, _, _, rfl, -⟩ := k3.open_
  obtain ⟨st, hst⟩ : ∃ st, st = runFF x (⟨⟨tr, ps, ds⟩, nx, lg, sy⟩ : FillJob) ks := ⟨_, rfl⟩
  rw [← hst]
  have HS := Lib.hid hst
  clear hst k1 k2 k3 p0 p1
  unfold I64 at hks
  have k0 : Only [] w (((w.alloc (.cells #[.int .i64 x.points, .string x.names, .slice A0 x.moves.length C0] 37)).alloc (.cells #[.slice A1 tr.length C1, .slice A2 ps.length C2, .slice A3 ds.length C3, .int .i64 nx, .string lg, .int .i64 sy] 34)).alloc (.cells #[.slice none 0 0, .slice none 0 0, .slice none 0 0, .int .i64 0, .string ⟨#[]⟩, .int .i64 0] 34)) := (((Only.refl _ _).alloc _).alloc _).alloc _
  have B2 : Blk (((w.alloc (.cells #[.int .i64 x.points, .string x.names, .slice A0 x.moves.length C0] 37)).alloc (.cells #[.slice A1 tr.length C1, .slice A2 ps.length C2, .slice A3 ds.length C3, .int .i64 nx, .string lg, .int .i64 sy] 34)).alloc (.cells #[.slice none 0 0, .slice none 0 0, .slice none 0 0, .int .i64 0, .string ⟨#[]⟩, .int .i64 0] 34)) (w.heap.size + 2) [.slice none 0 0, .slice none 0 0, .slice none 0 0, .int .i64 0, .string ⟨#[]⟩, .int .i64 0] := Blk.new_at (by simp)
  have HB2 := Lib.hid B2
  clear B2
  have HcR := Lib.hid (fun (V : World) (hV : Only [] w V) => resume_any [.int .i64 x.points, .string x.names, .slice A0 x.moves.length C0] x _ (.slice A1 tr.length C1) (.slice A2 ps.length C2) (.slice A3 ds.length C3) tr ps ds nx lg sy _ _ _ V (Rp.keep hh hV) (Rp.keep hk1 hV) (Rp.keep hk2 hV) (Rp.keep hk3 hV) hnx hsy hlm htl)
  obtain ⟨vb, hvb⟩ : ∃ vb, vb = validF x (⟨⟨tr, ps, ds⟩, nx, lg, sy⟩ : FillJob) := ⟨_, rfl⟩
  have HVB := Lib.hid hvb
  clear hvb
  cases vb
  · have he : st = (noFill, -1) := by rw [HS.out]; unfold runFF; rw [← HVB.out]; simp
    have HE := Lib.hid he
    clear he
    go_enter Tryz.func26, Tryz.ntmps26
    go_upto_region 3 with (first
      | (go_at_call 56; (with_reducible refine (HcR.out _ k0).mono ?_); rintro e w1 ⟨q, he, -, t1⟩; rw [← HVB.out] at he; subst he)
      | fail "no arm")
    have YR := HB2.out.keep t1
    have K1 : Only [] w w1 := k0.trans t1
    have g0 := YR.cell 0 rfl
    have q0 := YR.frozen 0
    have g1 := YR.cell 1 rfl
    have q1 := YR.frozen 1
    have g2 := YR.cell 2 rfl
    have q2 := YR.frozen 2
    have g3 := YR.cell 3 rfl
    have q3 := YR.frozen 3
    have g4 := YR.cell 4 rfl
    have q4 := YR.frozen 4
    have g5 := YR.cell 5 rfl
    have q5 := YR.frozen 5
    have Yf := ((((((YR.set 0 (.slice none 0 0)).set 1 (.slice none 0 0)).set 2 (.slice none 0 0)).set 3 (.int .i64 0)).set 4 (.string ⟨#[]⟩)).set 5 (.int .i64 0))
    have kf : Only [w.heap.size + 2] w1 ((((((w1.setCell ⟨w.heap.size + 2, 0, none⟩ (.slice none 0 0)).setCell ⟨w.heap.size + 2, 1, none⟩ (.slice none 0 0)).setCell ⟨w.heap.size + 2, 2, none⟩ (.slice none 0 0)).setCell ⟨w.heap.size + 2, 3, none⟩ (.int .i64 0)).setCell ⟨w.heap.size + 2, 4, none⟩ (.string ⟨#[]⟩)).setCell ⟨w.heap.size + 2, 5, none⟩ (.int .i64 0)) := (((((((Only.refl _ _).setCell (by simp) _).setCell (by simp) _).setCell (by simp) _).setCell (by simp) _).setCell (by simp) _).setCell (by simp) _)
    go_wp2_with fail
    obtain ⟨wf, hwf⟩ : ∃ wf, wf = ((((((w1.setCell ⟨w.heap.size + 2, 0, none⟩ (.slice none 0 0)).setCell ⟨w.heap.size + 2, 1, none⟩ (.slice none 0 0)).setCell ⟨w.heap.size + 2, 2, none⟩ (.slice none 0 0)).setCell ⟨w.heap.size + 2, 3, none⟩ (.int .i64 0)).setCell ⟨w.heap.size + 2, 4, none⟩ (.string ⟨#[]⟩)).setCell ⟨w.heap.size + 2, 5, none⟩ (.int .i64 0)) := ⟨_, rfl⟩
    rw [← hwf] at Yf kf ⊢
    simp only [List.set] at Yf
    clear hwf g0 q0 g1 q1 g2 q2 g3 q3 g4 q4 g5 q5
    have z0 := Yf.cell 0 rfl
    have z1 := Yf.cell 1 rfl
    have z2 := Yf.cell 2 rfl
    have z3 := Yf.cell 3 rfl
    have z4 := Yf.cell 4 rfl
    have z5 := Yf.cell 5 rfl
    refine bodyPost_ret (v := .tuple #[.agg #[.slice none 0 0, .slice none 0 0, .slice none 0 0, .int .i64 0, .string ⟨#[]⟩, .int .i64 0], .int .i64 (-1)]) (by simp [results, Tryz.results26, go_sem, z0, z1, z2, z3, z4, z5]) rfl ⟨[.slice none 0 0, .slice none 0 0, .slice none 0 0, .int .i64 0, .string ⟨#[]⟩, .int .i64 0], _, by rw [HE.out], by rw [HE.out]; exact noFill_rd wf, Fresh.nil _ _, K1.then_ kf (by simp)⟩
  by_cases hneg : ks < 0
  · have he : st = (noFill, -1) := by rw [HS.out]; unfold runFF; rw [if_neg (by omega)]
    have HE := Lib.hid he
    clear he
    go_enter Tryz.func26, Tryz.ntmps26
    go_upto_region 3 with (first
      | (go_at_call 56; (with_reducible refine (HcR.out _ k0).mono ?_); rintro e w1 ⟨q, he, -, t1⟩; rw [← HVB.out] at he; subst he)
      | fail "no arm")
    have YR := HB2.out.keep t1
    have K1 : Only [] w w1 := k0.trans t1
    have g0 := YR.cell 0 rfl
    have q0 := YR.frozen 0
    have g1 := YR.cell 1 rfl
    have q1 := YR.frozen 1
    have g2 := YR.cell 2 rfl
    have q2 := YR.frozen 2
    have g3 := YR.cell 3 rfl
    have q3 := YR.frozen 3
    have g4 := YR.cell 4 rfl
    have q4 := YR.frozen 4
    have g5 := YR.cell 5 rfl
    have q5 := YR.frozen 5
    have Yf := ((((((YR.set 0 (.slice none 0 0)).set 1 (.slice none 0 0)).set 2 (.slice none 0 0)).set 3 (.int .i64 0)).set 4 (.string ⟨#[]⟩)).set 5 (.int .i64 0))
    have kf : Only [w.heap.size + 2] w1 ((((((w1.setCell ⟨w.heap.size + 2, 0, none⟩ (.slice none 0 0)).setCell ⟨w.heap.size + 2, 1, none⟩ (.slice none 0 0)).setCell ⟨w.heap.size + 2, 2, none⟩ (.slice none 0 0)).setCell ⟨w.heap.size + 2, 3, none⟩ (.int .i64 0)).setCell ⟨w.heap.size + 2, 4, none⟩ (.string ⟨#[]⟩)).setCell ⟨w.heap.size + 2, 5, none⟩ (.int .i64 0)) := (((((((Only.refl _ _).setCell (by simp) _).setCell (by simp) _).setCell (by simp) _).setCell (by simp) _).setCell (by simp) _).setCell (by simp) _)
    go_wp2_with fail
    obtain ⟨wf, hwf⟩ : ∃ wf, wf = ((((((w1.setCell ⟨w.heap.size + 2, 0, none⟩ (.slice none 0 0)).setCell ⟨w.heap.size + 2, 1, none⟩ (.slice none 0 0)).setCell ⟨w.heap.size + 2, 2, none⟩ (.slice none 0 0)).setCell ⟨w.heap.size + 2, 3, none⟩ (.int .i64 0)).setCell ⟨w.heap.size + 2, 4, none⟩ (.string ⟨#[]⟩)).setCell ⟨w.heap.size + 2, 5, none⟩ (.int .i64 0)) := ⟨_, rfl⟩
    rw [← hwf] at Yf kf ⊢
    simp only [List.set] at Yf
    clear hwf g0 q0 g1 q1 g2 q2 g3 q3 g4 q4 g5 q5
    have z0 := Yf.cell 0 rfl
    have z1 := Yf.cell 1 rfl
    have z2 := Yf.cell 2 rfl
    have z3 := Yf.cell 3 rfl
    have z4 := Yf.cell 4 rfl
    have z5 := Yf.cell 5 rfl
    refine bodyPost_ret (v := .tuple #[.agg #[.slice none 0 0, .slice none 0 0, .slice none 0 0, .int .i64 0, .string ⟨#[]⟩, .int .i64 0], .int .i64 (-1)]) (by simp [results, Tryz.results26, go_sem, z0, z1, z2, z3, z4, z5]) rfl ⟨[.slice none 0 0, .slice none 0 0, .slice none 0 0, .int .i64 0, .string ⟨#[]⟩, .int .i64 0], _, by rw [HE.out], by rw [HE.out]; exact noFill_rd wf, Fresh.nil _ _, K1.then_ kf (by simp)⟩
  have HVT := Lib.hid (show validF x (⟨⟨tr, ps, ds⟩, nx, lg, sy⟩ : FillJob) = true from HVB.out.symm)
  obtain ⟨kn, hkn⟩ : ∃ kn : Nat, ks = kn := ⟨ks.toNat, by omega⟩
  subst hkn
  obtain ⟨n, htb, hokn, hje⟩ := chF_valid HVT.out
  obtain ⟨R, hR⟩ : ∃ R, R = runF x (⟨⟨tr, ps, ds⟩, nx, lg, sy⟩ : FillJob) kn := ⟨_, rfl⟩
  have he : st = (R.1, (R.2 : Int)) := by rw [HS.out]; unfold runFF; rw [if_pos ⟨HVT.out, by omega⟩, Int.toNat_natCast, ← hR]
  rw [hje] at hR
  have hR' : R = runF x (chF x tr sy n) kn := hR
  have htb' : (bTab x tr).isSome = true := htb
  have hokn' : okF x tr n := hokn
  have hje' : (⟨⟨tr, ps, ds⟩, nx, lg, sy⟩ : FillJob) = chF x tr sy n := hje
  have HE := Lib.hid he
  have HR := Lib.hid hR'
  have HTb := Lib.hid htb'
  have HJE := Lib.hid hje'
  clear he hR hje hR' htb htb' hje' hokn
  go_enter Tryz.func26, Tryz.ntmps26
  go_upto_region 4 with (first
    | (go_at_call 56; (with_reducible refine (HcR.out _ k0).mono ?_); rintro e w1 ⟨q, he, hq, t1⟩; rw [← HVB.out] at he; subst he; obtain ⟨B, g, rfl, hB, hFil⟩ := hq HVT.out)
    | fail "no arm")
  have hB3 : w.heap.size + 3 ≤ B := by simpa using hB
  have K1 : Only [] w w1 := k0.trans t1
  have Y1 := HB2.out.keep t1
  rw [HJE.out] at hFil
  clear hB hq
  go_wp2_with fail
  go_loopw [10] (fun c wr => ∃ (i m : Nat), i ≤ kn ∧ c = .int .i64 i ∧ okF x tr m ∧ Fil x B g wr (chF x tr sy m) ∧ OnlyB B w1 wr ∧ R.1 = (runF x (chF x tr sy m) (kn - i)).1 ∧ R.2 = i + (runF x (chF x tr sy m) (kn - i)).2)
    (fun c _ => kn - (intOf c).toNat)
  case atStart => exact ⟨0, n, Nat.zero_le _, rfl, hokn', hFil, OnlyB.of (Only.refl [] _), by rw [HR.out]; simp, by rw [HR.out]; simp⟩
  case round =>
    obtain ⟨W2, hnew⟩ : ∃ W, W = wr := ⟨_, rfl⟩
    subst hnew
    obtain ⟨i, m, hi, rfl, hokm, hF, hO, hR1, hR2⟩ := hrel
    have hgo := chF_go (s := sy) HTb.out hokm
    have KO : Only [] w W2 := hO.old K1 (by omega)
    have YW := hO.blk Y1 (by omega)
    obtain ⟨JX, hJX⟩ : ∃ JX, JX = chF x tr sy m := ⟨_, rfl⟩
    rw [← hJX] at hF hgo hR1 hR2
    have hsy2 : JX.synced = sy := by rw [hJX]; rfl
    have hnx2 := hgo.nx
    have hml : m ≤ 3000 := by have h1 := hgo.lt; have h2 := hgo.le; omega
    have hlg2 := hgo.lg
    have hsm : I64 JX.next ∧ JX.log.size ≤ maxLen ∧ I64 JX.synced := ⟨by rw [hnx2]; unfold I64; omega, by unfold maxLen; omega, by rw [hsy2]; exact hsy⟩
    have HJX := Lib.hid hJX
    have HR1 := Lib.hid hR1
    have HR2 := Lib.hid hR2
    have HGo := Lib.hid hgo
    have HF := Lib.hid hF
    clear hJX hR1 hR2 hgo hF hsy2 hnx2 hlg2
    by_cases hlt : i < kn
    · have hlt2 : (i : Int) < (kn : Int) := by omega
      have hwi : IntKind.i64.wrap ((i : Int) + 1) = (i : Int) + 1 := by rw [IntKind.wrap_i64]; omega
      obtain ⟨d, hd⟩ : ∃ d, kn - i = d + 1 := ⟨kn - i - 1, by omega⟩
      have HcT : Hid (∀ V : World, Only [] W2 V → Calls Tryz.prog 61 #[.pointer (some ⟨g, 0, none⟩)] V fun e w' => e = .returned (.bool (stepF x JX).2) ∧ Fil x B g w' (stepF x JX).1 ∧ OnlyB B V w') := by
        obtain ⟨⟨tr', ps', ds'⟩, nx', lg', sy'⟩ := JX
        have hnn : nx' = (m : Int) := HGo.out.nx
        subst hnn
        exact Lib.hid (fun V hV => step_any x tr' ps' ds' m lg' sy' V (HF.out.keep hV) HGo.out)
      rcases hst : (stepF x JX).2
      · have hstay := chF_stay hst
        have hres : st = (JX, (i : Int)) := by
          have h1 := HR1.out
          have h2 := HR2.out
          rw [runF_no hst] at h1 h2
          rw [HE.out, h1, h2]
          simp
        have HST := Lib.hid hst
        have HStay := Lib.hid hstay
        have Hres := Lib.hid hres
        clear hst hstay hres hd
        go_upto_region 7 with (first
          | (go_at_call 61; (with_reducible refine (HcT.out _ (by with_reducible repeat (first | exact Only.refl _ _ | assumption | refine Only.drewN ?_ _ | refine Only.drew ?_ | refine Only.alloc ?_ _ | refine Only.setCell ?_ (by intro hh; exfalso; simp at hh; try omega) _ | refine Only.trans ?_ (by assumption)))).mono ?_); rintro e w4 ⟨he, hF4, t4⟩; rw [HST.out] at he; rw [HStay.out] at hF4; subst he)
          | fail "no arm")
        have Ke : Only [] w w4 := t4.old KO (by omega)
        have Ye := t4.blk YW (by omega)
        have hFe := hF4
        clear hF4
        obtain ⟨M1, vm1, Q1, R1, Q2, R2, Q3, R3, fj, hbk, hrj, hfj⟩ := hFe.jobrd hsm.1 hsm.2.1 hsm.2.2
        have YR := Ye
        have e0 := hbk.cell 0 rfl
        have e1 := hbk.cell 1 rfl
        have e2 := hbk.cell 2 rfl
        have e3 := hbk.cell 3 rfl
        have e4 := hbk.cell 4 rfl
        have e5 := hbk.cell 5 rfl
        have hfd : ∀ b ∈ fj, b ∉ [w.heap.size + 2] := fun b hb hm => by have := hfj.ge b hb; simp at hm; omega
        have g0 := YR.cell 0 rfl
        have q0 := YR.frozen 0
        have g1 := YR.cell 1 rfl
        have q1 := YR.frozen 1
        have g2 := YR.cell 2 rfl
        have q2 := YR.frozen 2
        have g3 := YR.cell 3 rfl
        have q3 := YR.frozen 3
        have g4 := YR.cell 4 rfl
        have q4 := YR.frozen 4
        have g5 := YR.cell 5 rfl
        have q5 := YR.frozen 5
        have Yf := ((((((YR.set 0 (.slice Q1 JX.table.tracked.length R1)).set 1 (.slice Q2 JX.table.patterns.length R2)).set 2 (.slice Q3 JX.table.distances.length R3)).set 3 (.int .i64 JX.next)).set 4 (.string JX.log)).set 5 (.int .i64 JX.synced))
        have kf : Only [w.heap.size + 2] w4 ((((((w4.setCell ⟨w.heap.size + 2, 0, none⟩ (.slice Q1 JX.table.tracked.length R1)).setCell ⟨w.heap.size + 2, 1, none⟩ (.slice Q2 JX.table.patterns.length R2)).setCell ⟨w.heap.size + 2, 2, none⟩ (.slice Q3 JX.table.distances.length R3)).setCell ⟨w.heap.size + 2, 3, none⟩ (.int .i64 JX.next)).setCell ⟨w.heap.size + 2, 4, none⟩ (.string JX.log)).setCell ⟨w.heap.size + 2, 5, none⟩ (.int .i64 JX.synced)) := (((((((Only.refl _ _).setCell (by simp) _).setCell (by simp) _).setCell (by simp) _).setCell (by simp) _).setCell (by simp) _).setCell (by simp) _)
        go_wp2_with fail
        obtain ⟨wf, hwf⟩ : ∃ wf, wf = ((((((w4.setCell ⟨w.heap.size + 2, 0, none⟩ (.slice Q1 JX.table.tracked.length R1)).setCell ⟨w.heap.size + 2, 1, none⟩ (.slice Q2 JX.table.patterns.length R2)).setCell ⟨w.heap.size + 2, 2, none⟩ (.slice Q3 JX.table.distances.length R3)).setCell ⟨w.heap.size + 2, 3, none⟩ (.int .i64 JX.next)).setCell ⟨w.heap.size + 2, 4, none⟩ (.string JX.log)).setCell ⟨w.heap.size + 2, 5, none⟩ (.int .i64 JX.synced)) := ⟨_, rfl⟩
        rw [← hwf] at Yf kf ⊢
        simp only [List.set] at Yf
        clear hwf g0 q0 g1 q1 g2 q2 g3 q3 g4 q4 g5 q5
        have z0 := Yf.cell 0 rfl
        have z1 := Yf.cell 1 rfl
        have z2 := Yf.cell 2 rfl
        have z3 := Yf.cell 3 rfl
        have z4 := Yf.cell 4 rfl
        have z5 := Yf.cell 5 rfl
        refine bodyPost_ret (v := .tuple #[.agg #[.slice Q1 JX.table.tracked.length R1, .slice Q2 JX.table.patterns.length R2, .slice Q3 JX.table.distances.length R3, .int .i64 JX.next, .string JX.log, .int .i64 JX.synced], .int .i64 (i)]) (by simp [results, Tryz.results26, go_sem, z0, z1, z2, z3, z4, z5]) rfl ⟨[.slice Q1 JX.table.tracked.length R1, .slice Q2 JX.table.patterns.length R2, .slice Q3 JX.table.distances.length R3, .int .i64 JX.next, .string JX.log, .int .i64 JX.synced], _, by rw [Hres.out], by rw [Hres.out]; exact Rp.only hrj kf hfd, (hfj.mono (by omega)).only kf hfd, Ke.then_ kf (by simp)⟩
      · have hstep := chF_step (s := sy) HTb.out hokm (by rw [← HJX.out]; exact hst)
        have hj1 : (stepF x JX).1 = chF x tr sy (m + 1) := by rw [← hstep.2, ← HJX.out]
        have hn1 : R.1 = (runF x (chF x tr sy (m + 1)) (kn - (i + 1))).1 ∧ R.2 = (i + 1) + (runF x (chF x tr sy (m + 1)) (kn - (i + 1))).2 := by
          have h1 := HR1.out
          have h2 := HR2.out
          rw [hd] at h1 h2
          have h3 := runF_yes (n := d) hst
          rw [hj1] at h3
          have h4 : kn - (i + 1) = d := by omega
          rw [h4]
          exact ⟨by rw [h1, h3.1], by rw [h2, h3.2]; omega⟩
        have hok1 := hstep.1
        have HJ1 := Lib.hid hj1
        have HN1 := Lib.hid hn1
        have HST := Lib.hid hst
        clear hst hj1 hn1 hstep hd
        go_wp2_with (first
          | (go_at_call 61; (with_reducible refine (HcT.out _ (by with_reducible repeat (first | exact Only.refl _ _ | assumption | refine Only.drewN ?_ _ | refine Only.drew ?_ | refine Only.alloc ?_ _ | refine Only.setCell ?_ (by intro hh; exfalso; simp at hh; try omega) _ | refine Only.trans ?_ (by assumption)))).mono ?_); rintro e w4 ⟨he, hF4, t4⟩; rw [HST.out] at he; rw [HJ1.out] at hF4; subst he)
          | fail "no arm")
        go_roundw
        case rel => exact ⟨i + 1, m + 1, by omega, by go_num, hok1, hF4, hO.trans t4, HN1.out.1, HN1.out.2⟩
        case measure => simp [intOf]; omega
    · obtain rfl : i = kn := by omega
      have hres : st = (JX, (i : Int)) := by
        have h1 := HR1.out
        have h2 := HR2.out
        rw [Nat.sub_self] at h1 h2
        rw [HE.out, h1, h2]
        simp [runF]
      have hlt2 : ¬ ((i : Int) < (i : Int)) := by omega
      have Hres := Lib.hid hres
      clear hres
      go_upto_region 7 with fail
      have Ke := KO
      have Ye := YW
      have hFe := HF.out
      obtain ⟨M1, vm1, Q1, R1, Q2, R2, Q3, R3, fj, hbk, hrj, hfj⟩ := hFe.jobrd hsm.1 hsm.2.1 hsm.2.2
      have YR := Ye
      have e0 := hbk.cell 0 rfl
      have e1 := hbk.cell 1 rfl
      have e2 := hbk.cell 2 rfl
      have e3 := hbk.cell 3 rfl
      have e4 := hbk.cell 4 rfl
      have e5 := hbk.cell 5 rfl
      have hfd : ∀ b ∈ fj, b ∉ [w.heap.size + 2] := fun b hb hm => by have := hfj.ge b hb; simp at hm; omega
      have g0 := YR.cell 0 rfl
      have q0 := YR.frozen 0
      have g1 := YR.cell 1 rfl
      have q1 := YR.frozen 1
      have g2 := YR.cell 2 rfl
      have q2 := YR.frozen 2
      have g3 := YR.cell 3 rfl
      have q3 := YR.frozen 3
      have g4 := YR.cell 4 rfl
      have q4 := YR.frozen 4
      have g5 := YR.cell 5 rfl
      have q5 := YR.frozen 5
      have Yf := ((((((YR.set 0 (.slice Q1 JX.table.tracked.length R1)).set 1 (.slice Q2 JX.table.patterns.length R2)).set 2 (.slice Q3 JX.table.distances.length R3)).set 3 (.int .i64 JX.next)).set 4 (.string JX.log)).set 5 (.int .i64 JX.synced))
      have kf : Only [w.heap.size + 2] W2 ((((((W2.setCell ⟨w.heap.size + 2, 0, none⟩ (.slice Q1 JX.table.tracked.length R1)).setCell ⟨w.heap.size + 2, 1, none⟩ (.slice Q2 JX.table.patterns.length R2)).setCell ⟨w.heap.size + 2, 2, none⟩ (.slice Q3 JX.table.distances.length R3)).setCell ⟨w.heap.size + 2, 3, none⟩ (.int .i64 JX.next)).setCell ⟨w.heap.size + 2, 4, none⟩ (.string JX.log)).setCell ⟨w.heap.size + 2, 5, none⟩ (.int .i64 JX.synced)) := (((((((Only.refl _ _).setCell (by simp) _).setCell (by simp) _).setCell (by simp) _).setCell (by simp) _).setCell (by simp) _).setCell (by simp) _)
      go_wp2_with fail
      obtain ⟨wf, hwf⟩ : ∃ wf, wf = ((((((W2.setCell ⟨w.heap.size + 2, 0, none⟩ (.slice Q1 JX.table.tracked.length R1)).setCell ⟨w.heap.size + 2, 1, none⟩ (.slice Q2 JX.table.patterns.length R2)).setCell ⟨w.heap.size + 2, 2, none⟩ (.slice Q3 JX.table.distances.length R3)).setCell ⟨w.heap.size + 2, 3, none⟩ (.int .i64 JX.next)).setCell ⟨w.heap.size + 2, 4, none⟩ (.string JX.log)).setCell ⟨w.heap.size + 2, 5, none⟩ (.int .i64 JX.synced)) := ⟨_, rfl⟩
      rw [← hwf] at Yf kf ⊢
      simp only [List.set] at Yf
      clear hwf g0 q0 g1 q1 g2 q2 g3 q3 g4 q4 g5 q5
      have z0 := Yf.cell 0 rfl
      have z1 := Yf.cell 1 rfl
      have z2 := Yf.cell 2 rfl
      have z3 := Yf.cell 3 rfl
      have z4 := Yf.cell 4 rfl
      have z5 := Yf.cell 5 rfl
      refine bodyPost_ret (v := .tuple #[.agg #[.slice Q1 JX.table.tracked.length R1, .slice Q2 JX.table.patterns.length R2, .slice Q3 JX.table.distances.length R3, .int .i64 JX.next, .string JX.log, .int .i64 JX.synced], .int .i64 (i)]) (by simp [results, Tryz.results26, go_sem, z0, z1, z2, z3, z4, z5]) rfl ⟨[.slice Q1 JX.table.tracked.length R1, .slice Q2 JX.table.patterns.length R2, .slice Q3 JX.table.distances.length R3, .int .i64 JX.next, .string JX.log, .int .i64 JX.synced], by rw [Hres.out], _, by rw [Hres.out]; exact Rp.only hrj kf hfd, (hfj.mono (by omega)).only kf hfd, Ke.then_ kf (by simp)⟩
end Go.Proofs.YtlcoejncdbkhcaaGreat
