/- Fill jobs, the reference: RunFill. (Printed by mkfillspec9.py.) RunFill as the law's walk wants it. -/
import Derived.Test.YtlcoejncdbkhcaaGreatRowRunFillG17
namespace Go.Proofs.YtlcoejncdbkhcaaGreat
open Go.RowKit
set_option maxRecDepth 10000

set_option maxHeartbeats 4000000 in
theorem specRunFill_raw (cs : List Value) (x : Puzzle) (fp : List Nat) (c1 c2 c3 : Value) (tr : List Int) (ps : List (List Int)) (ds : List Int) (nx : Int) (lg : ByteArray) (sy : Int) (ks : Int) (g1 g2 g3 : List Nat) (w : World) (h : Rp.rep w cs x fp)
    (k1 : Rd w c1 tr g1) (k2 : Rd w c2 ps g2) (k3 : Rd w c3 ds g3) (hnx : I64 nx) (hsy : I64 sy) (hks : I64 ks) (hlm : lg.size ≤ maxLen) (htl : tr.length ≤ 2097152) :
    Calls Tryz.prog 25 #[.agg cs.toArray, .agg #[c1, c2, c3, .int .i64 nx, .string lg, .int .i64 sy], .int .i64 ks] w fun e w' => ∃ cs' fp', e = .returned (.tuple #[.agg (List.toArray cs'), .int .i64 (runFF x (⟨⟨tr, ps, ds⟩, nx, lg, sy⟩ : FillJob) ks).2]) ∧ Rp.rep w' cs' (runFF x (⟨⟨tr, ps, ds⟩, nx, lg, sy⟩ : FillJob) ks).1 fp' ∧ Fresh w.heap.size w' fp' ∧ Only [] w w' := by
  have hh := h
  obtain ⟨v2, rfl, p0, p1, h2⟩ := h
  obtain ⟨A0, C0, _, _, rfl, -, -⟩ := h2.open_
  have hk1 := k1; have hk2 := k2; have hk3 := k3
  have hrep : Rp.rep w [c1, c2, c3, .int .i64 nx, .string lg, .int .i64 sy] (⟨⟨tr, ps, ds⟩, nx, lg, sy⟩ : FillJob) (g1 ++ (g2 ++ g3)) := ⟨[c1, c2, c3], rfl, hnx, hlm, hsy, ⟨_, _, _, _, _, _, rfl, rfl, k1, k2, k3⟩⟩
  obtain ⟨A1, C1, _, _, rfl, -⟩ := k1.open_
  obtain ⟨A2, C2, _, _, rfl, -⟩ := k2.open_
  obtain ⟨A3, C3, _, _, rfl, -⟩ := k3.open_
  obtain ⟨st, hst⟩ : ∃ st, st = runFF x (⟨⟨tr, ps, ds⟩, nx, lg, sy⟩ : FillJob) ks := ⟨_, rfl⟩
  rw [← hst]
  have HS := Lib.hid hst
  clear hst k1 k2 k3 p0 p1
  unfold I64 at hks
  have k0 : Only [] w (((w.alloc (.cells #[.int .i64 x.points, .string x.names, .slice A0 x.moves.length C0] 37)).alloc (.cells #[.slice A1 tr.length C1, .slice A2 ps.length C2, .slice A3 ds.length C3, .int .i64 nx, .string lg, .int .i64 sy] 34)).alloc (.cells #[.slice none 0 0, .slice none 0 0, .slice none 0 0, .int .i64 0, .string ⟨#[]⟩, .int .i64 0] 34)) := (((Only.refl _ _).alloc _).alloc _).alloc _
  have B2 : Blk (((w.alloc (.cells #[.int .i64 x.points, .string x.names, .slice A0 x.moves.length C0] 37)).alloc (.cells #[.slice A1 tr.length C1, .slice A2 ps.length C2, .slice A3 ds.length C3, .int .i64 nx, .string lg, .int .i64 sy] 34)).alloc (.cells #[.slice none 0 0, .slice none 0 0, .slice none 0 0, .int .i64 0, .string ⟨#[]⟩, .int .i64 0] 34)) (w.heap.size + 2) [.slice none 0 0, .slice none 0 0, .slice none 0 0, .int .i64 0, .string ⟨#[]⟩, .int .i64 0] := Blk.new_at (by simp)
  have B1 : Blk (((w.alloc (.cells #[.int .i64 x.points, .string x.names, .slice A0 x.moves.length C0] 37)).alloc (.cells #[.slice A1 tr.length C1, .slice A2 ps.length C2, .slice A3 ds.length C3, .int .i64 nx, .string lg, .int .i64 sy] 34)).alloc (.cells #[.slice none 0 0, .slice none 0 0, .slice none 0 0, .int .i64 0, .string ⟨#[]⟩, .int .i64 0] 34)) (w.heap.size + 1) [.slice A1 tr.length C1, .slice A2 ps.length C2, .slice A3 ds.length C3, .int .i64 nx, .string lg, .int .i64 sy] := Blk.keep (Blk.new_at (by simp)) ((Only.refl _ _).alloc _)
  have B0 : Blk (((w.alloc (.cells #[.int .i64 x.points, .string x.names, .slice A0 x.moves.length C0] 37)).alloc (.cells #[.slice A1 tr.length C1, .slice A2 ps.length C2, .slice A3 ds.length C3, .int .i64 nx, .string lg, .int .i64 sy] 34)).alloc (.cells #[.slice none 0 0, .slice none 0 0, .slice none 0 0, .int .i64 0, .string ⟨#[]⟩, .int .i64 0] 34)) w.heap.size [.int .i64 x.points, .string x.names, .slice A0 x.moves.length C0] := Blk.keep (Blk.keep (Blk.new_at rfl) ((Only.refl _ _).alloc _)) ((Only.refl _ _).alloc _)
  have HB2 := Lib.hid B2
  have HB1 := Lib.hid B1
  have HB0 := Lib.hid B0
  clear B2 B1 B0
  have HcR := Lib.hid (fun (V : World) (hV : Only [] w V) => specIsValidFill_raw [.int .i64 x.points, .string x.names, .slice A0 x.moves.length C0] x _ (.slice A1 tr.length C1) (.slice A2 ps.length C2) (.slice A3 ds.length C3) tr ps ds nx lg sy _ _ _ V (Rp.keep hh hV) (Rp.keep hk1 hV) (Rp.keep hk2 hV) (Rp.keep hk3 hV) hnx hsy hlm htl)
  obtain ⟨vb, hvb⟩ : ∃ vb, vb = validF x (⟨⟨tr, ps, ds⟩, nx, lg, sy⟩ : FillJob) := ⟨_, rfl⟩
  have HVB := Lib.hid hvb
  clear hvb
  cases vb
  · have he : st = (noFill, -1) := by rw [HS.out]; unfold runFF; rw [← HVB.out]; simp
    have HE := Lib.hid he
    clear he
    go_enter Tryz.func25, Tryz.ntmps25
    go_upto_region 2 with (first
      | (go_at_call 53; (with_reducible refine (HcR.out _ k0).mono ?_); rintro e w1 ⟨he, t1⟩; rw [← HVB.out] at he; subst he)
      | fail "no arm")
    have YR := HB2.out.keep t1
    have K1 : Only [] w w1 := k0.trans t1
    have g0 := YR.cell 0 rfl
    have q0 := YR.frozen 0
    have g1 := YR.cell 1 rfl
    have q1 := YR.frozen 1
    have g2 := YR.cell 2 rfl
    have q2 := YR.frozen 2
    have g3 := YR.cell 3 rfl
    have q3 := YR.frozen 3
    have g4 := YR.cell 4 rfl
    have q4 := YR.frozen 4
    have g5 := YR.cell 5 rfl
    have q5 := YR.frozen 5
    have Yf := ((((((YR.set 0 (.slice none 0 0)).set 1 (.slice none 0 0)).set 2 (.slice none 0 0)).set 3 (.int .i64 0)).set 4 (.string ⟨#[]⟩)).set 5 (.int .i64 0))
    have kf : Only [w.heap.size + 2] w1 ((((((w1.setCell ⟨w.heap.size + 2, 0, none⟩ (.slice none 0 0)).setCell ⟨w.heap.size + 2, 1, none⟩ (.slice none 0 0)).setCell ⟨w.heap.size + 2, 2, none⟩ (.slice none 0 0)).setCell ⟨w.heap.size + 2, 3, none⟩ (.int .i64 0)).setCell ⟨w.heap.size + 2, 4, none⟩ (.string ⟨#[]⟩)).setCell ⟨w.heap.size + 2, 5, none⟩ (.int .i64 0)) := (((((((Only.refl _ _).setCell (by simp) _).setCell (by simp) _).setCell (by simp) _).setCell (by simp) _).setCell (by simp) _).setCell (by simp) _)
    go_wp2_with fail
    obtain ⟨wf, hwf⟩ : ∃ wf, wf = ((((((w1.setCell ⟨w.heap.size + 2, 0, none⟩ (.slice none 0 0)).setCell ⟨w.heap.size + 2, 1, none⟩ (.slice none 0 0)).setCell ⟨w.heap.size + 2, 2, none⟩ (.slice none 0 0)).setCell ⟨w.heap.size + 2, 3, none⟩ (.int .i64 0)).setCell ⟨w.heap.size + 2, 4, none⟩ (.string ⟨#[]⟩)).setCell ⟨w.heap.size + 2, 5, none⟩ (.int .i64 0)) := ⟨_, rfl⟩
    rw [← hwf] at Yf kf ⊢
    simp only [List.set] at Yf
    clear hwf g0 q0 g1 q1 g2 q2 g3 q3 g4 q4 g5 q5
    have z0 := Yf.cell 0 rfl
    have z1 := Yf.cell 1 rfl
    have z2 := Yf.cell 2 rfl
    have z3 := Yf.cell 3 rfl
    have z4 := Yf.cell 4 rfl
    have z5 := Yf.cell 5 rfl
    refine bodyPost_ret (v := .tuple #[.agg #[.slice none 0 0, .slice none 0 0, .slice none 0 0, .int .i64 0, .string ⟨#[]⟩, .int .i64 0], .int .i64 (-1)]) (by simp [results, Tryz.results25, go_sem, z0, z1, z2, z3, z4, z5]) rfl ⟨[.slice none 0 0, .slice none 0 0, .slice none 0 0, .int .i64 0, .string ⟨#[]⟩, .int .i64 0], _, by rw [HE.out], by rw [HE.out]; exact noFill_rd wf, Fresh.nil _ _, K1.then_ kf (by simp)⟩
  by_cases hneg : ks < 0
  · have he : st = (noFill, -1) := by rw [HS.out]; unfold runFF; rw [if_neg (by omega)]
    have HE := Lib.hid he
    clear he
    go_enter Tryz.func25, Tryz.ntmps25
    go_upto_region 2 with (first
      | (go_at_call 53; (with_reducible refine (HcR.out _ k0).mono ?_); rintro e w1 ⟨he, t1⟩; rw [← HVB.out] at he; subst he)
      | fail "no arm")
    have YR := HB2.out.keep t1
    have K1 : Only [] w w1 := k0.trans t1
    have g0 := YR.cell 0 rfl
    have q0 := YR.frozen 0
    have g1 := YR.cell 1 rfl
    have q1 := YR.frozen 1
    have g2 := YR.cell 2 rfl
    have q2 := YR.frozen 2
    have g3 := YR.cell 3 rfl
    have q3 := YR.frozen 3
    have g4 := YR.cell 4 rfl
    have q4 := YR.frozen 4
    have g5 := YR.cell 5 rfl
    have q5 := YR.frozen 5
    have Yf := ((((((YR.set 0 (.slice none 0 0)).set 1 (.slice none 0 0)).set 2 (.slice none 0 0)).set 3 (.int .i64 0)).set 4 (.string ⟨#[]⟩)).set 5 (.int .i64 0))
    have kf : Only [w.heap.size + 2] w1 ((((((w1.setCell ⟨w.heap.size + 2, 0, none⟩ (.slice none 0 0)).setCell ⟨w.heap.size + 2, 1, none⟩ (.slice none 0 0)).setCell ⟨w.heap.size + 2, 2, none⟩ (.slice none 0 0)).setCell ⟨w.heap.size + 2, 3, none⟩ (.int .i64 0)).setCell ⟨w.heap.size + 2, 4, none⟩ (.string ⟨#[]⟩)).setCell ⟨w.heap.size + 2, 5, none⟩ (.int .i64 0)) := (((((((Only.refl _ _).setCell (by simp) _).setCell (by simp) _).setCell (by simp) _).setCell (by simp) _).setCell (by simp) _).setCell (by simp) _)
    go_wp2_with fail
    obtain ⟨wf, hwf⟩ : ∃ wf, wf = ((((((w1.setCell ⟨w.heap.size + 2, 0, none⟩ (.slice none 0 0)).setCell ⟨w.heap.size + 2, 1, none⟩ (.slice none 0 0)).setCell ⟨w.heap.size + 2, 2, none⟩ (.slice none 0 0)).setCell ⟨w.heap.size + 2, 3, none⟩ (.int .i64 0)).setCell ⟨w.heap.size + 2, 4, none⟩ (.string ⟨#[]⟩)).setCell ⟨w.heap.size + 2, 5, none⟩ (.int .i64 0)) := ⟨_, rfl⟩
    rw [← hwf] at Yf kf ⊢
    simp only [List.set] at Yf
    clear hwf g0 q0 g1 q1 g2 q2 g3 q3 g4 q4 g5 q5
    have z0 := Yf.cell 0 rfl
    have z1 := Yf.cell 1 rfl
    have z2 := Yf.cell 2 rfl
    have z3 := Yf.cell 3 rfl
    have z4 := Yf.cell 4 rfl
    have z5 := Yf.cell 5 rfl
    refine bodyPost_ret (v := .tuple #[.agg #[.slice none 0 0, .slice none 0 0, .slice none 0 0, .int .i64 0, .string ⟨#[]⟩, .int .i64 0], .int .i64 (-1)]) (by simp [results, Tryz.results25, go_sem, z0, z1, z2, z3, z4, z5]) rfl ⟨[.slice none 0 0, .slice none 0 0, .slice none 0 0, .int .i64 0, .string ⟨#[]⟩, .int .i64 0], _, by rw [HE.out], by rw [HE.out]; exact noFill_rd wf, Fresh.nil _ _, K1.then_ kf (by simp)⟩
  have HVT := Lib.hid (show validF x (⟨⟨tr, ps, ds⟩, nx, lg, sy⟩ : FillJob) = true from HVB.out.symm)
  obtain ⟨kn, hkn⟩ : ∃ kn : Nat, ks = kn := ⟨ks.toNat, by omega⟩
  subst hkn
  obtain ⟨n, htb, hokn, hje⟩ := chF_valid HVT.out
  obtain ⟨n', hgo'⟩ := validF_go HVT.out
  have hmid : midT (⟨tr, ps, ds⟩ : Table) := hgo'.mid
  obtain ⟨R, hR⟩ : ∃ R, R = runF x (⟨⟨tr, ps, ds⟩, nx, lg, sy⟩ : FillJob) kn := ⟨_, rfl⟩
  have he : st = (R.1, (R.2 : Int)) := by rw [HS.out]; unfold runFF; rw [if_pos ⟨HVT.out, by omega⟩, Int.toNat_natCast, ← hR]
  rw [hje] at hR
  have hR' : R = runF x (chF x tr sy n) kn := hR
  have htb' : (bTab x tr).isSome = true := htb
  have hokn' : okF x tr n := hokn
  have hje' : (⟨⟨tr, ps, ds⟩, nx, lg, sy⟩ : FillJob) = chF x tr sy n := hje
  have HE := Lib.hid he
  have HR := Lib.hid hR'
  have HTb := Lib.hid htb'
  have HJE := Lib.hid hje'
  have HRP := Lib.hid hrep
  clear he hR hje hR' htb htb' hje' hokn hgo' hrep
  go_enter Tryz.func25, Tryz.ntmps25
  go_upto_region 3 with (first
    | (go_at_call 53; (with_reducible refine (HcR.out _ k0).mono ?_); rintro e w1 ⟨he, t1⟩; rw [← HVB.out] at he; subst he)
    | fail "no arm")
  have K1 : Only [] w w1 := k0.trans t1
  have P1 := HB0.out.keep t1
  have J1 := HB1.out.keep t1
  have Z1 := HB2.out.keep t1
  have s1 := t1.size
  simp at s1
  have i0 := J1.cell 0 rfl
  have i1 := J1.cell 1 rfl
  have i2 := J1.cell 2 rfl
  have i3 := J1.cell 3 rfl
  have i4 := J1.cell 4 rfl
  have i5 := J1.cell 5 rfl
  go_wp2_with fail
  with_reducible refine (copyFill_any [.slice A1 tr.length C1, .slice A2 ps.length C2, .slice A3 ds.length C3, .int .i64 nx, .string lg, .int .i64 sy] (⟨⟨tr, ps, ds⟩, nx, lg, sy⟩ : FillJob) _ _ (Rp.keep HRP.out K1) hmid).mono ?_
  rintro e w2 ⟨cs2, f2, rfl, r2, F2, t2⟩
  have t2s := t2.size
  obtain ⟨JX, hJX⟩ : ∃ JX, JX = (⟨⟨tr, ps, ds⟩, nx, lg, sy⟩ : FillJob) := ⟨_, rfl⟩
  rw [← hJX] at r2
  have HJX := Lib.hid (hJX.trans HJE.out)
  have q2 := r2
  obtain ⟨d0, rfl, a1, a2, a3, q3⟩ := q2
  obtain ⟨x0, x1, x2, y0, y1, y2, rfl, -, m0, m1, m2⟩ := q3
  obtain ⟨Q0, R0, _, _, rfl, -⟩ := m0.open_
  obtain ⟨Q1, R1, _, _, rfl, -⟩ := m1.open_
  obtain ⟨Q2, R2, _, _, rfl, -⟩ := m2.open_
  clear i0 i1 i2 i3 i4 i5 m0 m1 m2 hJX a1 a2 a3
  have J2 := J1.keep t2
  have j0 := J2.cell 0 rfl
  have jf0 := J2.frozen 0
  have j1 := J2.cell 1 rfl
  have jf1 := J2.frozen 1
  have j2 := J2.cell 2 rfl
  have jf2 := J2.frozen 2
  have j3 := J2.cell 3 rfl
  have jf3 := J2.frozen 3
  have j4 := J2.cell 4 rfl
  have jf4 := J2.frozen 4
  have j5 := J2.cell 5 rfl
  have jf5 := J2.frozen 5
  have BN := ((((((J2.set 0 (.slice Q0 JX.table.tracked.length R0)).set 1 (.slice Q1 JX.table.patterns.length R1)).set 2 (.slice Q2 JX.table.distances.length R2)).set 3 (.int .i64 JX.next)).set 4 (.string JX.log)).set 5 (.int .i64 JX.synced))
  simp only [List.set] at BN
  have kj : Only [w.heap.size + 1] w2 ((((((w2.setCell ⟨w.heap.size + 1, 0, none⟩ (.slice Q0 JX.table.tracked.length R0)).setCell ⟨w.heap.size + 1, 1, none⟩ (.slice Q1 JX.table.patterns.length R1)).setCell ⟨w.heap.size + 1, 2, none⟩ (.slice Q2 JX.table.distances.length R2)).setCell ⟨w.heap.size + 1, 3, none⟩ (.int .i64 JX.next)).setCell ⟨w.heap.size + 1, 4, none⟩ (.string JX.log)).setCell ⟨w.heap.size + 1, 5, none⟩ (.int .i64 JX.synced)) := (((((((Only.refl _ _).setCell (by simp) _).setCell (by simp) _).setCell (by simp) _).setCell (by simp) _).setCell (by simp) _).setCell (by simp) _)
  go_upto_region 4 with fail
  obtain ⟨w3, hw3⟩ : ∃ w3, w3 = ((((((w2.setCell ⟨w.heap.size + 1, 0, none⟩ (.slice Q0 JX.table.tracked.length R0)).setCell ⟨w.heap.size + 1, 1, none⟩ (.slice Q1 JX.table.patterns.length R1)).setCell ⟨w.heap.size + 1, 2, none⟩ (.slice Q2 JX.table.distances.length R2)).setCell ⟨w.heap.size + 1, 3, none⟩ (.int .i64 JX.next)).setCell ⟨w.heap.size + 1, 4, none⟩ (.string JX.log)).setCell ⟨w.heap.size + 1, 5, none⟩ (.int .i64 JX.synced)) := ⟨_, rfl⟩
  rw [← hw3] at BN kj
  rw [← hw3]
  have F2' : Fresh (w.heap.size + 3) w2 f2 := F2.mono (by omega)
  have hfj : ∀ b ∈ f2, b ∉ [w.heap.size + 1] := fun b hb hm => by have := F2'.ge b hb; simp at hm; omega
  have r3 := Rp.only r2 kj hfj
  have F3 := F2'.only kj hfj
  have P3 := (P1.keep t2).only kj (by simp)
  have Z3 := (Z1.keep t2).only kj (by simp)
  have K3 : Only [] w w3 := (K1.trans t2).then_ kj (fun b hb hl => by simp at hb; omega)
  clear hw3 j0 j1 j2 j3 j4 j5 jf0 jf1 jf2 jf3 jf4 jf5 kj r2 F2 F2' J1 J2 P1 Z1 t2
  go_wp2_with fail
  go_loopw [8] (fun c wr => ∃ (i m : Nat) (JX : FillJob) (Q0 Q1 Q2 : Option Addr) (R0 R1 R2 : Nat) (f : List Nat), i ≤ kn ∧ c = .int .i64 i ∧ okF x tr m ∧ Hid (JX = chF x tr sy m) ∧ Blk wr (w.heap.size + 1) [.slice Q0 JX.table.tracked.length R0, .slice Q1 JX.table.patterns.length R1, .slice Q2 JX.table.distances.length R2, .int .i64 JX.next, .string JX.log, .int .i64 JX.synced] ∧ Rp.rep wr [.slice Q0 JX.table.tracked.length R0, .slice Q1 JX.table.patterns.length R1, .slice Q2 JX.table.distances.length R2, .int .i64 JX.next, .string JX.log, .int .i64 JX.synced] JX f ∧ Fresh (w.heap.size + 3) wr f ∧ Blk wr w.heap.size [.int .i64 x.points, .string x.names, .slice A0 x.moves.length C0] ∧ Blk wr (w.heap.size + 2) [.slice none 0 0, .slice none 0 0, .slice none 0 0, .int .i64 0, .string ⟨#[]⟩, .int .i64 0] ∧ Only [] w wr ∧ Hid (R.1 = (runF x JX (kn - i)).1 ∧ R.2 = i + (runF x JX (kn - i)).2))
    (fun c _ => kn - (intOf c).toNat)
  case atStart => exact ⟨0, n, JX, Q0, Q1, Q2, R0, R1, R2, f2, Nat.zero_le _, rfl, hokn', HJX, BN, r3, F3, P3, Z3, K3, Lib.hid ⟨by rw [HR.out, HJX.out]; simp, by rw [HR.out, HJX.out]; simp⟩⟩
  case round =>
    obtain ⟨W2, hnew⟩ : ∃ W, W = wr := ⟨_, rfl⟩
    subst hnew
    clear BN r3 F3 P3 Z3 K3 HJX
    obtain ⟨i, m, JX, Q0, Q1, Q2, R0, R1, R2, f, hi, rfl, hokm, HJX, hJb, hr, hF, hP, hZ, hK, HRR⟩ := hrel
    have hgo := chF_go (s := sy) HTb.out hokm
    rw [← HJX.out] at hgo
    have hw3s := hK.size
    have hsy2 : JX.synced = sy := by rw [HJX.out]; rfl
    have HGo := Lib.hid hgo
    have HSy := Lib.hid hsy2
    clear hgo hsy2
    by_cases hlt : i < kn
    · have hlt2 : (i : Int) < (kn : Int) := by omega
      have hwi : IntKind.i64.wrap ((i : Int) + 1) = (i : Int) + 1 := by rw [IntKind.wrap_i64]; omega
      obtain ⟨d, hd⟩ : ∃ d, kn - i = d + 1 := ⟨kn - i - 1, by omega⟩
      have HcT : Hid (∀ V : World, Only [] W2 V → Calls Tryz.prog 60 #[.agg [.int .i64 x.points, .string x.names, .slice A0 x.moves.length C0].toArray, .agg [.slice Q0 JX.table.tracked.length R0, .slice Q1 JX.table.patterns.length R1, .slice Q2 JX.table.distances.length R2, .int .i64 JX.next, .string JX.log, .int .i64 JX.synced].toArray] V fun e w' => ∃ cs' fp', e = .returned (.tuple #[.agg (List.toArray cs'), .bool (stepF x JX).2]) ∧ Rp.rep w' cs' (stepF x JX).1 fp' ∧ (fp' = f ∨ Fresh V.heap.size w' fp') ∧ Only [] V w') := by
        obtain ⟨⟨tr', ps', ds'⟩, nx', lg', sy'⟩ := JX
        have hnn : nx' = (m : Int) := HGo.out.nx
        subst hnn
        have hss : sy' = sy := HSy.out
        refine Lib.hid fun V hV => ?_
        obtain ⟨d0, hd0, b1, b2, b3, q3⟩ := hr
        obtain ⟨x0, x1, x2, y0, y1, y2, rfl, hfe, m0, m1, m2⟩ := q3
        injection hd0 with e0 hd0
        injection hd0 with e1 hd0
        injection hd0 with e2 hd0
        subst e0
        subst e1
        subst e2
        rw [hfe]
        exact step28_raw [.int .i64 x.points, .string x.names, .slice A0 x.moves.length C0] x _ _ _ _ tr' ps' ds' m lg' sy' _ _ _ V (Rp.keep hh (hK.trans hV)) (Rp.keep m0 hV) (Rp.keep m1 hV) (Rp.keep m2 hV) (by rw [hss]; exact hsy) HGo.out
      have p00 := hP.cell 0 rfl
      have p01 := hP.cell 1 rfl
      have p02 := hP.cell 2 rfl
      have i0 := hJb.cell 0 rfl
      have i1 := hJb.cell 1 rfl
      have i2 := hJb.cell 2 rfl
      have i3 := hJb.cell 3 rfl
      have i4 := hJb.cell 4 rfl
      have i5 := hJb.cell 5 rfl
      obtain ⟨JY, hJY⟩ : ∃ JY, JY = (stepF x JX).1 := ⟨_, rfl⟩
      have HJY := Lib.hid hJY
      clear hJY
      rcases hst : (stepF x JX).2
      · have hstay := chF_stay hst
        have hres : st = (JX, (i : Int)) := by
          have h1 := HRR.out.1
          have h2 := HRR.out.2
          rw [runF_no hst] at h1 h2
          rw [HE.out, h1, h2]
          simp
        have HST := Lib.hid hst
        have Hres := Lib.hid hres
        clear hst hstay hres hd
        go_upto_region 10 with (first
          | (go_at_call 60; (with_reducible refine (HcT.out _ (by with_reducible repeat (first | exact Only.refl _ _ | assumption | refine Only.drewN ?_ _ | refine Only.drew ?_ | refine Only.alloc ?_ _ | refine Only.setCell ?_ (by intro hh; exfalso; simp at hh; try omega) _ | refine Only.trans ?_ (by assumption)))).mono ?_); rintro e w4 ⟨cs4, f4, he, r4, F4, t4⟩; rw [HST.out] at he; rw [← HJY.out] at r4; obtain ⟨d0, rfl, a1, a2, a3, q3⟩ := r4; obtain ⟨x0, x1, x2, y0, y1, y2, rfl, hfe, m0, m1, m2⟩ := q3; obtain ⟨G0, H0, _, _, rfl, -⟩ := m0.open_; obtain ⟨G1, H1, _, _, rfl, -⟩ := m1.open_; obtain ⟨G2, H2, _, _, rfl, -⟩ := m2.open_; subst he)
          | fail "no arm")
        have kA : Only [] W2 (w4.alloc (.cells #[.slice G0 JY.table.tracked.length H0, .slice G1 JY.table.patterns.length H1, .slice G2 JY.table.distances.length H2, .int .i64 JY.next, .string JY.log, .int .i64 JY.synced] 34)) := t4.trans ((Only.refl _ _).alloc _)
        obtain ⟨w5, hw5⟩ : ∃ w5, w5 = w4.alloc (.cells #[.slice G0 JY.table.tracked.length H0, .slice G1 JY.table.patterns.length H1, .slice G2 JY.table.distances.length H2, .int .i64 JY.next, .string JY.log, .int .i64 JY.synced] 34) := ⟨_, rfl⟩
        rw [← hw5] at kA
        rw [← hw5]
        clear hw5 p00 p01 p02 i0 i1 i2 i3 i4 i5
        have hJ5 := hJb.keep kA
        have i0 := hJ5.cell 0 rfl
        have i1 := hJ5.cell 1 rfl
        have i2 := hJ5.cell 2 rfl
        have i3 := hJ5.cell 3 rfl
        have i4 := hJ5.cell 4 rfl
        have i5 := hJ5.cell 5 rfl
        have YR := hZ.keep kA
        have r5 := Rp.keep hr kA
        have F5 := hF.keep kA
        have hfd : ∀ b ∈ f, b ∉ [w.heap.size + 2] := fun b hb hm => by have := hF.ge b hb; simp at hm; omega
        have g0 := YR.cell 0 rfl
        have q0 := YR.frozen 0
        have g1 := YR.cell 1 rfl
        have q1 := YR.frozen 1
        have g2 := YR.cell 2 rfl
        have q2 := YR.frozen 2
        have g3 := YR.cell 3 rfl
        have q3 := YR.frozen 3
        have g4 := YR.cell 4 rfl
        have q4 := YR.frozen 4
        have g5 := YR.cell 5 rfl
        have q5 := YR.frozen 5
        have Yf := ((((((YR.set 0 (.slice Q0 JX.table.tracked.length R0)).set 1 (.slice Q1 JX.table.patterns.length R1)).set 2 (.slice Q2 JX.table.distances.length R2)).set 3 (.int .i64 JX.next)).set 4 (.string JX.log)).set 5 (.int .i64 JX.synced))
        have kf : Only [w.heap.size + 2] w5 ((((((w5.setCell ⟨w.heap.size + 2, 0, none⟩ (.slice Q0 JX.table.tracked.length R0)).setCell ⟨w.heap.size + 2, 1, none⟩ (.slice Q1 JX.table.patterns.length R1)).setCell ⟨w.heap.size + 2, 2, none⟩ (.slice Q2 JX.table.distances.length R2)).setCell ⟨w.heap.size + 2, 3, none⟩ (.int .i64 JX.next)).setCell ⟨w.heap.size + 2, 4, none⟩ (.string JX.log)).setCell ⟨w.heap.size + 2, 5, none⟩ (.int .i64 JX.synced)) := (((((((Only.refl _ _).setCell (by simp) _).setCell (by simp) _).setCell (by simp) _).setCell (by simp) _).setCell (by simp) _).setCell (by simp) _)
        go_wp2_with fail
        obtain ⟨wf, hwf⟩ : ∃ wf, wf = ((((((w5.setCell ⟨w.heap.size + 2, 0, none⟩ (.slice Q0 JX.table.tracked.length R0)).setCell ⟨w.heap.size + 2, 1, none⟩ (.slice Q1 JX.table.patterns.length R1)).setCell ⟨w.heap.size + 2, 2, none⟩ (.slice Q2 JX.table.distances.length R2)).setCell ⟨w.heap.size + 2, 3, none⟩ (.int .i64 JX.next)).setCell ⟨w.heap.size + 2, 4, none⟩ (.string JX.log)).setCell ⟨w.heap.size + 2, 5, none⟩ (.int .i64 JX.synced)) := ⟨_, rfl⟩
        rw [← hwf] at Yf kf ⊢
        simp only [List.set] at Yf
        clear hwf g0 q0 g1 q1 g2 q2 g3 q3 g4 q4 g5 q5
        have z0 := Yf.cell 0 rfl
        have z1 := Yf.cell 1 rfl
        have z2 := Yf.cell 2 rfl
        have z3 := Yf.cell 3 rfl
        have z4 := Yf.cell 4 rfl
        have z5 := Yf.cell 5 rfl
        refine bodyPost_ret (v := .tuple #[.agg #[.slice Q0 JX.table.tracked.length R0, .slice Q1 JX.table.patterns.length R1, .slice Q2 JX.table.distances.length R2, .int .i64 JX.next, .string JX.log, .int .i64 JX.synced], .int .i64 i]) (by simp [results, Tryz.results25, go_sem, z0, z1, z2, z3, z4, z5]) rfl ⟨[.slice Q0 JX.table.tracked.length R0, .slice Q1 JX.table.patterns.length R1, .slice Q2 JX.table.distances.length R2, .int .i64 JX.next, .string JX.log, .int .i64 JX.synced], _, by rw [Hres.out], by rw [Hres.out]; exact Rp.only r5 kf hfd, (F5.mono (by omega)).only kf hfd, (hK.trans kA).then_ kf (by simp)⟩
      · have hstep := chF_step (s := sy) HTb.out hokm (by rw [← HJX.out]; exact hst)
        have hj1 : (stepF x JX).1 = chF x tr sy (m + 1) := by rw [← hstep.2, ← HJX.out]
        have hn1 : R.1 = (runF x JY (kn - (i + 1))).1 ∧ R.2 = ((i + 1 : Nat) : Int).toNat + (runF x JY (kn - (i + 1))).2 := by
          have h1 := HRR.out.1
          have h2 := HRR.out.2
          rw [hd] at h1 h2
          have h3 := runF_yes (n := d) hst
          rw [← HJY.out] at h3
          have h4 : kn - (i + 1) = d := by omega
          rw [h4, Int.toNat_natCast]
          exact ⟨by rw [h1, h3.1], by rw [h2, h3.2]; omega⟩
        rw [Int.toNat_natCast] at hn1
        have hok1 := hstep.1
        have HJ1 := Lib.hid (HJY.out.trans hj1)
        have HN1 := Lib.hid hn1
        have HST := Lib.hid hst
        clear hst hj1 hn1 hstep hd
        go_upto_region 8 with (first
          | (go_at_call 60; (with_reducible refine (HcT.out _ (by with_reducible repeat (first | exact Only.refl _ _ | assumption | refine Only.drewN ?_ _ | refine Only.drew ?_ | refine Only.alloc ?_ _ | refine Only.setCell ?_ (by intro hh; exfalso; simp at hh; try omega) _ | refine Only.trans ?_ (by assumption)))).mono ?_); rintro e w4 ⟨cs4, f4, he, r4, F4, t4⟩; rw [HST.out] at he; rw [← HJY.out] at r4; have r40 := r4; obtain ⟨d0, rfl, a1, a2, a3, q3⟩ := r4; obtain ⟨x0, x1, x2, y0, y1, y2, rfl, hfe, m0, m1, m2⟩ := q3; obtain ⟨G0, H0, _, _, rfl, -⟩ := m0.open_; obtain ⟨G1, H1, _, _, rfl, -⟩ := m1.open_; obtain ⟨G2, H2, _, _, rfl, -⟩ := m2.open_; subst he)
          | fail "no arm")
        have kl : Only [] w4 (w4.alloc (.cells #[.slice G0 JY.table.tracked.length H0, .slice G1 JY.table.patterns.length H1, .slice G2 JY.table.distances.length H2, .int .i64 JY.next, .string JY.log, .int .i64 JY.synced] 34)) := (Only.refl _ _).alloc _
        have kA := t4.trans kl
        have N5 : Blk (w4.alloc (.cells #[.slice G0 JY.table.tracked.length H0, .slice G1 JY.table.patterns.length H1, .slice G2 JY.table.distances.length H2, .int .i64 JY.next, .string JY.log, .int .i64 JY.synced] 34)) w4.heap.size [.slice G0 JY.table.tracked.length H0, .slice G1 JY.table.patterns.length H1, .slice G2 JY.table.distances.length H2, .int .i64 JY.next, .string JY.log, .int .i64 JY.synced] := Blk.new w4 _ _
        have hF4 : Fresh (w.heap.size + 3) w4 f4 := by
          rcases F4 with h9 | h9
          · rw [h9]; exact hF.keep t4
          · exact h9.mono (by have := hP.lt; have := hZ.lt; (try simp); omega)
        obtain ⟨w5, hw5⟩ : ∃ w5, w5 = w4.alloc (.cells #[.slice G0 JY.table.tracked.length H0, .slice G1 JY.table.patterns.length H1, .slice G2 JY.table.distances.length H2, .int .i64 JY.next, .string JY.log, .int .i64 JY.synced] 34) := ⟨_, rfl⟩
        rw [← hw5] at kA N5 kl
        rw [← hw5]
        clear hw5 p00 p01 p02 i0 i1 i2 i3 i4 i5
        have n0 := N5.cell 0 rfl
        have n1 := N5.cell 1 rfl
        have n2 := N5.cell 2 rfl
        have n3 := N5.cell 3 rfl
        have n4 := N5.cell 4 rfl
        have n5 := N5.cell 5 rfl
        have hJ5 := hJb.keep kA
        have j0 := hJ5.cell 0 rfl
        have jf0 := hJ5.frozen 0
        have j1 := hJ5.cell 1 rfl
        have jf1 := hJ5.frozen 1
        have j2 := hJ5.cell 2 rfl
        have jf2 := hJ5.frozen 2
        have j3 := hJ5.cell 3 rfl
        have jf3 := hJ5.frozen 3
        have j4 := hJ5.cell 4 rfl
        have jf4 := hJ5.frozen 4
        have j5 := hJ5.cell 5 rfl
        have jf5 := hJ5.frozen 5
        have BN := ((((((hJ5.set 0 (.slice G0 JY.table.tracked.length H0)).set 1 (.slice G1 JY.table.patterns.length H1)).set 2 (.slice G2 JY.table.distances.length H2)).set 3 (.int .i64 JY.next)).set 4 (.string JY.log)).set 5 (.int .i64 JY.synced))
        simp only [List.set] at BN
        have kj : Only [w.heap.size + 1] w5 ((((((w5.setCell ⟨w.heap.size + 1, 0, none⟩ (.slice G0 JY.table.tracked.length H0)).setCell ⟨w.heap.size + 1, 1, none⟩ (.slice G1 JY.table.patterns.length H1)).setCell ⟨w.heap.size + 1, 2, none⟩ (.slice G2 JY.table.distances.length H2)).setCell ⟨w.heap.size + 1, 3, none⟩ (.int .i64 JY.next)).setCell ⟨w.heap.size + 1, 4, none⟩ (.string JY.log)).setCell ⟨w.heap.size + 1, 5, none⟩ (.int .i64 JY.synced)) := (((((((Only.refl _ _).setCell (by simp) _).setCell (by simp) _).setCell (by simp) _).setCell (by simp) _).setCell (by simp) _).setCell (by simp) _)
        have r5 : Rp.rep w5 [.slice G0 JY.table.tracked.length H0, .slice G1 JY.table.patterns.length H1, .slice G2 JY.table.distances.length H2, .int .i64 JY.next, .string JY.log, .int .i64 JY.synced] JY f4 := Rp.keep r40 kl
        have F5 := hF4.keep kl
        have hfj : ∀ b ∈ f4, b ∉ [w.heap.size + 1] := fun b hb hm => by have := hF4.ge b hb; simp at hm; omega
        have r6 := Rp.only r5 kj hfj
        have F6 := F5.only kj hfj
        have P6 := (hP.keep kA).only kj (by simp)
        have Z6 := (hZ.keep kA).only kj (by simp)
        have K6 := (hK.trans kA).then_ kj (fun b hb hl => by simp at hb; omega)
        go_wp2_with fail
        go_roundw
        case rel => exact ⟨i + 1, m + 1, JY, _, _, _, _, _, _, f4, by omega, by go_num, hok1, HJ1, BN, r6, F6, P6, Z6, K6, HN1⟩
        case measure => simp [intOf]; omega
    · obtain rfl : i = kn := by omega
      have hres : st = (JX, (i : Int)) := by
        have h1 := HRR.out.1
        have h2 := HRR.out.2
        rw [Nat.sub_self] at h1 h2
        rw [HE.out, h1, h2]
        simp [runF]
      have hlt2 : ¬ ((i : Int) < (i : Int)) := by omega
      have Hres := Lib.hid hres
      clear hres
      have i0 := hJb.cell 0 rfl
      have i1 := hJb.cell 1 rfl
      have i2 := hJb.cell 2 rfl
      have i3 := hJb.cell 3 rfl
      have i4 := hJb.cell 4 rfl
      have i5 := hJb.cell 5 rfl
      go_upto_region 10 with fail
      have YR := hZ
      have r5 := hr
      have F5 := hF
      have kA : Only [] W2 W2 := Only.refl _ _
      have hfd : ∀ b ∈ f, b ∉ [w.heap.size + 2] := fun b hb hm => by have := hF.ge b hb; simp at hm; omega
      have g0 := YR.cell 0 rfl
      have q0 := YR.frozen 0
      have g1 := YR.cell 1 rfl
      have q1 := YR.frozen 1
      have g2 := YR.cell 2 rfl
      have q2 := YR.frozen 2
      have g3 := YR.cell 3 rfl
      have q3 := YR.frozen 3
      have g4 := YR.cell 4 rfl
      have q4 := YR.frozen 4
      have g5 := YR.cell 5 rfl
      have q5 := YR.frozen 5
      have Yf := ((((((YR.set 0 (.slice Q0 JX.table.tracked.length R0)).set 1 (.slice Q1 JX.table.patterns.length R1)).set 2 (.slice Q2 JX.table.distances.length R2)).set 3 (.int .i64 JX.next)).set 4 (.string JX.log)).set 5 (.int .i64 JX.synced))
      have kf : Only [w.heap.size + 2] W2 ((((((W2.setCell ⟨w.heap.size + 2, 0, none⟩ (.slice Q0 JX.table.tracked.length R0)).setCell ⟨w.heap.size + 2, 1, none⟩ (.slice Q1 JX.table.patterns.length R1)).setCell ⟨w.heap.size + 2, 2, none⟩ (.slice Q2 JX.table.distances.length R2)).setCell ⟨w.heap.size + 2, 3, none⟩ (.int .i64 JX.next)).setCell ⟨w.heap.size + 2, 4, none⟩ (.string JX.log)).setCell ⟨w.heap.size + 2, 5, none⟩ (.int .i64 JX.synced)) := (((((((Only.refl _ _).setCell (by simp) _).setCell (by simp) _).setCell (by simp) _).setCell (by simp) _).setCell (by simp) _).setCell (by simp) _)
      go_wp2_with fail
      obtain ⟨wf, hwf⟩ : ∃ wf, wf = ((((((W2.setCell ⟨w.heap.size + 2, 0, none⟩ (.slice Q0 JX.table.tracked.length R0)).setCell ⟨w.heap.size + 2, 1, none⟩ (.slice Q1 JX.table.patterns.length R1)).setCell ⟨w.heap.size + 2, 2, none⟩ (.slice Q2 JX.table.distances.length R2)).setCell ⟨w.heap.size + 2, 3, none⟩ (.int .i64 JX.next)).setCell ⟨w.heap.size + 2, 4, none⟩ (.string JX.log)).setCell ⟨w.heap.size + 2, 5, none⟩ (.int .i64 JX.synced)) := ⟨_, rfl⟩
      rw [← hwf] at Yf kf ⊢
      simp only [List.set] at Yf
      clear hwf g0 q0 g1 q1 g2 q2 g3 q3 g4 q4 g5 q5
      have z0 := Yf.cell 0 rfl
      have z1 := Yf.cell 1 rfl
      have z2 := Yf.cell 2 rfl
      have z3 := Yf.cell 3 rfl
      have z4 := Yf.cell 4 rfl
      have z5 := Yf.cell 5 rfl
      refine bodyPost_ret (v := .tuple #[.agg #[.slice Q0 JX.table.tracked.length R0, .slice Q1 JX.table.patterns.length R1, .slice Q2 JX.table.distances.length R2, .int .i64 JX.next, .string JX.log, .int .i64 JX.synced], .int .i64 i]) (by simp [results, Tryz.results25, go_sem, z0, z1, z2, z3, z4, z5]) rfl ⟨[.slice Q0 JX.table.tracked.length R0, .slice Q1 JX.table.patterns.length R1, .slice Q2 JX.table.distances.length R2, .int .i64 JX.next, .string JX.log, .int .i64 JX.synced], by rw [Hres.out], _, by rw [Hres.out]; exact Rp.only r5 kf hfd, (F5.mono (by omega)).only kf hfd, (hK.trans kA).then_ kf (by simp)⟩
end Go.Proofs.YtlcoejncdbkhcaaGreat

namespace Go.Proofs.YtlcoejncdbkhcaaGreat
open Go.RowKit
set_option maxRecDepth 10000

theorem runF_ch {x : Puzzle} {tr : List Int} {s : Int} (h1 : (bTab x tr).isSome = true) : ∀ (k n : Nat), okF x tr n → ∃ m, okF x tr m ∧ (runF x (chF x tr s n) k).1 = chF x tr s m
  | 0, n, h => ⟨n, h, rfl⟩
  | k + 1, n, h => by
    rcases hst : (stepF x (chF x tr s n)).2
    · rw [runF_no hst]; exact ⟨n, h, rfl⟩
    · obtain ⟨h2, h3⟩ := chF_step (s := s) h1 h hst
      rw [(runF_yes hst).1, h3]
      exact runF_ch h1 k (n + 1) h2
theorem runFF_cnt (x : Puzzle) (j : FillJob) (k : Int) : Mk.cnt (runFF x j k).1 ≤ 100000 := by
  unfold runFF
  by_cases h : validF x j = true ∧ 0 ≤ k
  · rw [if_pos h]
    obtain ⟨n, h1, h2, h3⟩ := chF_valid h.1
    rw [h3]
    obtain ⟨m, h4, h5⟩ := runF_ch (s := j.synced) h1 k.toNat n h2
    show Mk.cnt (runF x (chF x j.table.tracked j.synced n) k.toNat).1 ≤ 100000
    rw [h5]
    exact (chF_go (s := j.synced) h1 h4).cnt
  · rw [if_neg h]; simp [noFill_cnt]
/-- what a call that returns a job and a number leaves: the result's box, the word -/
def FK2 (W wx : World) (s8 s9 : Value) (o : FillJob × Int) : Prop :=
  ∃ g Q0 R0 Q1 R1 Q2 R2 f, W.heap.size ≤ g ∧ s8 = .pointer (some ⟨g, 0, none⟩) ∧ s9 = .int .i64 o.2 ∧ Blk wx g [.slice Q0 o.1.table.tracked.length R0, .slice Q1 o.1.table.patterns.length R1, .slice Q2 o.1.table.distances.length R2, .int .i64 o.1.next, .string o.1.log, .int .i64 o.1.synced] ∧ Rp.rep wx [.slice Q0 o.1.table.tracked.length R0, .slice Q1 o.1.table.patterns.length R1, .slice Q2 o.1.table.distances.length R2, .int .i64 o.1.next, .string o.1.log, .int .i64 o.1.synced] o.1 f ∧ Fresh W.heap.size wx f ∧ Only [] W wx
theorem FK2.of {W w5 : World} {o : FillJob × Int} {g : Nat} {cs : List Value} {Q0 Q1 Q2 : Option Addr} {R0 R1 R2 : Nat} {f : List Nat} (hz : Blk w5 g cs) (hcs : cs.length = 6) (hK : Only [] W w5) (hr : Rp.rep w5 [.slice Q0 o.1.table.tracked.length R0, .slice Q1 o.1.table.patterns.length R1, .slice Q2 o.1.table.distances.length R2, .int .i64 o.1.next, .string o.1.log, .int .i64 o.1.synced] o.1 f) (hF : Fresh W.heap.size w5 f) (hg : g ∉ f) (hW : W.heap.size ≤ g) :
    FK2 W ((((((w5.setCell ⟨g, 0, none⟩ (.slice Q0 o.1.table.tracked.length R0)).setCell ⟨g, 1, none⟩ (.slice Q1 o.1.table.patterns.length R1)).setCell ⟨g, 2, none⟩ (.slice Q2 o.1.table.distances.length R2)).setCell ⟨g, 3, none⟩ (.int .i64 o.1.next)).setCell ⟨g, 4, none⟩ (.string o.1.log)).setCell ⟨g, 5, none⟩ (.int .i64 o.1.synced)) (.pointer (some ⟨g, 0, none⟩)) (.int .i64 o.2) o := by
  have ho : Only [g] w5 ((((((w5.setCell ⟨g, 0, none⟩ (.slice Q0 o.1.table.tracked.length R0)).setCell ⟨g, 1, none⟩ (.slice Q1 o.1.table.patterns.length R1)).setCell ⟨g, 2, none⟩ (.slice Q2 o.1.table.distances.length R2)).setCell ⟨g, 3, none⟩ (.int .i64 o.1.next)).setCell ⟨g, 4, none⟩ (.string o.1.log)).setCell ⟨g, 5, none⟩ (.int .i64 o.1.synced)) := (((((((Only.refl _ _).setCell (by simp) _).setCell (by simp) _).setCell (by simp) _).setCell (by simp) _).setCell (by simp) _).setCell (by simp) _)
  have hnf : ∀ b ∈ f, b ∉ [g] := fun b hm1 hm => by simp at hm; subst hm; exact hg hm1
  have hb := ((((((hz.set 0 (.slice Q0 o.1.table.tracked.length R0)).set 1 (.slice Q1 o.1.table.patterns.length R1)).set 2 (.slice Q2 o.1.table.distances.length R2)).set 3 (.int .i64 o.1.next)).set 4 (.string o.1.log)).set 5 (.int .i64 o.1.synced))
  refine ⟨g, Q0, R0, Q1, R1, Q2, R2, f, hW, rfl, rfl, ?_, Rp.only hr ho hnf, hF.only ho hnf, hK.then_ ho (by intro b hm hl; simp at hm; omega)⟩
  obtain ⟨u0, u1, u2, u3, u4, u5, rfl⟩ : ∃ u0 u1 u2 u3 u4 u5, cs = [u0, u1, u2, u3, u4, u5] := by
    match cs, hcs with
    | [u0, u1, u2, u3, u4, u5], _ => exact ⟨u0, u1, u2, u3, u4, u5, rfl⟩
  simpa only [List.set] using hb
theorem FK2.of2 {W w5 : World} {o : FillJob × Int} {g : Nat} {e : TypeId} {Q0 Q1 Q2 : Option Addr} {R0 R1 R2 : Nat} {f : List Nat} (hK : Only [] W w5) (hr : Rp.rep w5 [.slice Q0 o.1.table.tracked.length R0, .slice Q1 o.1.table.patterns.length R1, .slice Q2 o.1.table.distances.length R2, .int .i64 o.1.next, .string o.1.log, .int .i64 o.1.synced] o.1 f) (hF : Fresh W.heap.size w5 f) (hg : g = w5.heap.size) :
    FK2 W (w5.alloc (.cells #[.slice Q0 o.1.table.tracked.length R0, .slice Q1 o.1.table.patterns.length R1, .slice Q2 o.1.table.distances.length R2, .int .i64 o.1.next, .string o.1.log, .int .i64 o.1.synced] e)) (.pointer (some ⟨g, 0, none⟩)) (.int .i64 o.2) o := by
  subst hg
  have ho : Only [] w5 (w5.alloc (.cells #[.slice Q0 o.1.table.tracked.length R0, .slice Q1 o.1.table.patterns.length R1, .slice Q2 o.1.table.distances.length R2, .int .i64 o.1.next, .string o.1.log, .int .i64 o.1.synced] e)) := (Only.refl _ _).alloc _
  exact ⟨_, Q0, R0, Q1, R1, Q2, R2, f, hK.size, rfl, rfl, Blk.new w5 _ e, Rp.keep hr ho, hF.keep ho, hK.trans ho⟩
theorem specRunFill_any (cs dd : List Value) (x : Puzzle) (j : FillJob) (ks : Int) (fp fj : List Nat) (w : World) (h : Rp.rep w cs x fp) (h2 : Rp.rep w dd j fj) (hk : I64 ks) (hsm : j.table.tracked.length ≤ 2097152) :
    Calls Tryz.prog 25 #[.agg cs.toArray, .agg dd.toArray, .int .i64 ks] w fun e w' => ∃ cs' fp', e = .returned (.tuple #[.agg (List.toArray cs'), .int .i64 (runFF x j ks).2]) ∧ Rp.rep w' cs' (runFF x j ks).1 fp' ∧ Fresh w.heap.size w' fp' ∧ Only [] w w' := by
  obtain ⟨⟨tr, ps, ds⟩, nx, lg, sy⟩ := j
  obtain ⟨c0, rfl, i1, i2, i3, h0⟩ := h2
  obtain ⟨u1, u2, u3, f1, f2, f3, rfl, -, k1, k2, k3⟩ := h0
  exact specRunFill_raw cs x fp u1 u2 u3 tr ps ds nx lg sy ks f1 f2 f3 w h k1 k2 k3 i1 i3 hk i2 hsm
theorem implRunFill_any (cs dd : List Value) (x : Puzzle) (j : FillJob) (ks : Int) (fp fj : List Nat) (w : World) (h : Rp.rep w cs x fp) (h2 : Rp.rep w dd j fj) (hk : I64 ks) (hsm : j.table.tracked.length ≤ 2097152) :
    Calls Tryz.prog 26 #[.agg cs.toArray, .agg dd.toArray, .int .i64 ks] w fun e w' => ∃ cs' fp', e = .returned (.tuple #[.agg (List.toArray cs'), .int .i64 (runFF x j ks).2]) ∧ Rp.rep w' cs' (runFF x j ks).1 fp' ∧ Fresh w.heap.size w' fp' ∧ Only [] w w' := by
  obtain ⟨⟨tr, ps, ds⟩, nx, lg, sy⟩ := j
  obtain ⟨c0, rfl, i1, i2, i3, h0⟩ := h2
  obtain ⟨u1, u2, u3, f1, f2, f3, rfl, -, k1, k2, k3⟩ := h0
  exact implRunFill_raw cs x fp u1 u2 u3 tr ps ds nx lg sy ks f1 f2 f3 w h k1 k2 k3 i1 i3 hk i2 hsm
end Go.Proofs.YtlcoejncdbkhcaaGreat
