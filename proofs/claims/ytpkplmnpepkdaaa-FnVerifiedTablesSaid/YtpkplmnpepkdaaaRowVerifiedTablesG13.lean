/- Fill jobs whose tables can be written to and appended to: a step, the start (laws 26, 49). (Printed by mkfillb.py.) -/
import Derived.Test.YtpkplmnpepkdaaaRowVerifiedTablesG12
namespace Go.Proofs.Ytpkplmnpepkdaaa
open Go.RowKit
set_option maxRecDepth 10000

/-- the memory of a table of the call's own -/
def TBf (v1 v2 v3 : Value) (fs : List (List Nat)) : List Nat := v1.ownBlock.toList ++ ((v2.ownBlock.toList ++ fs.flatten) ++ v3.ownBlock.toList)
set_option maxHeartbeats 4000000 in
theorem step28_acc (cs : List Value) (x : Puzzle) (fp : List Nat) (c1 c2 c3 : Value) (tr : List Int) (ps : List (List Int)) (ds : List Int) (n : Nat) (lg : ByteArray) (sy : Int) (B : Nat) (fs : List (List Nat)) (w : World) (h : Rp.rep w cs x fp)
    (hB : B ≤ w.heap.size) (hT : TB B w c1 c2 c3 ⟨tr, ps, ds⟩ fs) (hsy : I64 sy) (hc : GoF x ⟨⟨tr, ps, ds⟩, (n : Int), lg, sy⟩ n) :
    Calls Try.prog 33 #[.agg cs.toArray, .agg #[c1, c2, c3, .int .i64 n, .string lg, .int .i64 sy]] w fun e w' => ∃ v1 v2 v3 fs', e = .returned (.tuple #[.agg #[v1, v2, v3, .int .i64 (stepF x ⟨⟨tr, ps, ds⟩, (n : Int), lg, sy⟩).1.next, .string (stepF x ⟨⟨tr, ps, ds⟩, (n : Int), lg, sy⟩).1.log, .int .i64 (stepF x ⟨⟨tr, ps, ds⟩, (n : Int), lg, sy⟩).1.synced], .bool (stepF x ⟨⟨tr, ps, ds⟩, (n : Int), lg, sy⟩).2]) ∧ TB B w' v1 v2 v3 (stepF x ⟨⟨tr, ps, ds⟩, (n : Int), lg, sy⟩).1.table fs' ∧ (∀ b ∈ TBf v1 v2 v3 fs', b ∈ TBf c1 c2 c3 fs ∨ w.heap.size ≤ b) ∧ Only [] w w' := by
  have hh := h
  have k1 : Rd w c1 tr _ := hT.tk.rd
  have k2 : Rd w c2 ps _ := hT.pt.rd (by decide)
  have k3 : Rd w c3 ds _ := hT.dt.rd
  obtain ⟨v2, rfl, p0, p1, h2⟩ := h
  obtain ⟨A0, C0, _, _, rfl, -, -⟩ := h2.open_
  have hlt : n ≤ ps.length := hc.lt
  have hle : ps.length ≤ 3000 := hc.le
  have hlg : lg.size ≤ 2000000 := hc.lg
  have hrep : Rp.rep w [c1, c2, c3, .int .i64 n, .string lg, .int .i64 sy] (⟨⟨tr, ps, ds⟩, (n : Int), lg, sy⟩ : FillJob) _ :=
    ⟨[c1, c2, c3], rfl, by unfold I64; show -9223372036854775808 ≤ (n : Int) ∧ (n : Int) ≤ 9223372036854775807; omega, by show lg.size ≤ maxLen; unfold maxLen; omega, hsy, ⟨_, _, _, _, _, _, rfl, rfl, k1, k2, k3⟩⟩
  have hk1 := k1; have hk2 := k2; have hk3 := k3
  obtain ⟨A1, C1, _, _, rfl, -⟩ := k1.open_
  obtain ⟨A2, C2, _, _, rfl, -⟩ := k2.open_
  obtain ⟨A3, C3, _, _, rfl, -⟩ := k3.open_
  have HC := Lib.hid hc; clear hc
  obtain ⟨st, hst⟩ : ∃ st, st = stepF x ⟨⟨tr, ps, ds⟩, (n : Int), lg, sy⟩ := ⟨_, rfl⟩
  rw [← hst]
  have HS := Lib.hid hst; clear hst
  have k0 : Only [] w (((w.alloc (.cells #[.int .i64 x.points, .string x.names, .slice A0 x.moves.length C0] 26)).alloc (.cells #[.slice A1 tr.length C1, .slice A2 ps.length C2, .slice A3 ds.length C3, .int .i64 n, .string lg, .int .i64 sy] 57)).alloc (.cells #[.slice none 0 0, .slice none 0 0, .slice none 0 0, .int .i64 0, .string ⟨#[]⟩, .int .i64 0] 57)) := (((Only.refl _ _).alloc _).alloc _).alloc _
  have B1 : Blk (((w.alloc (.cells #[.int .i64 x.points, .string x.names, .slice A0 x.moves.length C0] 26)).alloc (.cells #[.slice A1 tr.length C1, .slice A2 ps.length C2, .slice A3 ds.length C3, .int .i64 n, .string lg, .int .i64 sy] 57)).alloc (.cells #[.slice none 0 0, .slice none 0 0, .slice none 0 0, .int .i64 0, .string ⟨#[]⟩, .int .i64 0] 57)) (w.heap.size + 1) [.slice A1 tr.length C1, .slice A2 ps.length C2, .slice A3 ds.length C3, .int .i64 n, .string lg, .int .i64 sy] := Blk.keep (Blk.new_at (by simp)) ((Only.refl _ _).alloc _)
  have B2 : Blk (((w.alloc (.cells #[.int .i64 x.points, .string x.names, .slice A0 x.moves.length C0] 26)).alloc (.cells #[.slice A1 tr.length C1, .slice A2 ps.length C2, .slice A3 ds.length C3, .int .i64 n, .string lg, .int .i64 sy] 57)).alloc (.cells #[.slice none 0 0, .slice none 0 0, .slice none 0 0, .int .i64 0, .string ⟨#[]⟩, .int .i64 0] 57)) (w.heap.size + 2) [.slice none 0 0, .slice none 0 0, .slice none 0 0, .int .i64 0, .string ⟨#[]⟩, .int .i64 0] := Blk.new_at (by simp)
  by_cases hd : n = ps.length
  · have hb : ((n : Int) == (ps.length : Int)) = true := by simp [hd]
    have he := HS.out.trans (stepF_done (x := x) (j := ⟨⟨tr, ps, ds⟩, (n : Int), lg, sy⟩) (by show (n : Int) = (ps.length : Int); omega))
    have HE := Lib.hid he; clear he
    have HD := Lib.hid hd; clear hd
    go_enter Try.func33, Try.ntmps33
    go_wp2_with fail
    refine bodyPost_ret (v := .tuple #[.agg #[.slice A1 tr.length C1, .slice A2 ps.length C2, .slice A3 ds.length C3, .int .i64 n, .string lg, .int .i64 sy], .bool false]) (by simp [results, Try.results33, go_sem]) rfl ⟨_, _, _, fs, by rw [HE.out], by rw [HE.out]; exact hT.keep (by with_reducible repeat (first | exact Only.refl _ _ | assumption | refine Only.drewN ?_ _ | refine Only.drew ?_ | refine Only.alloc ?_ _ | refine Only.setCell ?_ (by intro hh; exfalso; simp at hh; try omega) _ | refine Only.trans ?_ (by assumption))), fun b hb => .inl hb, (by with_reducible repeat (first | exact Only.refl _ _ | assumption | refine Only.drewN ?_ _ | refine Only.drew ?_ | refine Only.alloc ?_ _ | refine Only.setCell ?_ (by intro hh; exfalso; simp at hh; try omega) _ | refine Only.trans ?_ (by assumption)))⟩
  have hb : ((n : Int) == (ps.length : Int)) = false := by simp; omega
  have hd1 := Lib.hid hd; clear hd
  obtain ⟨W0, hW0⟩ : ∃ W0, W0 = (((w.alloc (.cells #[.int .i64 x.points, .string x.names, .slice A0 x.moves.length C0] 26)).alloc (.cells #[.slice A1 tr.length C1, .slice A2 ps.length C2, .slice A3 ds.length C3, .int .i64 n, .string lg, .int .i64 sy] 57)).alloc (.cells #[.slice none 0 0, .slice none 0 0, .slice none 0 0, .int .i64 0, .string ⟨#[]⟩, .int .i64 0] 57)) := ⟨_, rfl⟩
  rw [← hW0] at k0 B1 B2
  have hz0 : W0.heap.size = w.heap.size + 3 := by rw [hW0]; simp
  have HW := Lib.hid hW0; clear hW0
  have hB1 := Lib.hid B1; have hB2 := Lib.hid B2
  clear B1 B2
  go_enter Try.func33, Try.ntmps33
  go_wp2_with fail
  rw [← HW.out]
  with_reducible refine (expand28_acc [.int .i64 x.points, .string x.names, .slice A0 x.moves.length C0] x _ (.slice A1 tr.length C1) (.slice A2 ps.length C2) (.slice A3 ds.length C3) tr ps ds n lg sy _ _ _ _ (Rp.keep hh k0) (Rp.keep hk1 k0) (Rp.keep hk2 k0) (Rp.keep hk3 k0) hsy (HC.out.can (by have := hd1.out; show n < ps.length; omega))).mono ?_
  rintro e w1 ⟨u1, u2, u3, fs1, rfl, hT1, t1⟩
  obtain ⟨jx, hjx⟩ : ∃ jx, jx = expandF x ⟨⟨tr, ps, ds⟩, (n : Int), lg, sy⟩ := ⟨_, rfl⟩
  rw [← hjx] at hT1 ⊢
  obtain ⟨D1, E1, rfl⟩ := hT1.tk.form
  obtain ⟨D2, E2, rfl⟩ := hT1.pt.form
  obtain ⟨D3, E3, rfl⟩ := hT1.dt.form
  have HT1 := Lib.hid hT1; clear hT1
  have HT := Lib.hid hT; clear hT
  have HJ := Lib.hid hjx; clear hjx
  have t1s := t1.size
  have ka : Only [] w1 (w1.alloc (.cells #[.slice D1 jx.table.tracked.length E1, .slice D2 jx.table.patterns.length E2, .slice D3 jx.table.distances.length E3, .int .i64 jx.next, .string jx.log, .int .i64 jx.synced] 57)) := (Only.refl _ _).alloc _
  have Y1 := (hB1.out.keep t1).keep ka
  have YZ := (hB2.out.keep t1).keep ka
  have m0 := Y1.cell 0 rfl
  have l0 := Y1.frozen 0
  have m1 := Y1.cell 1 rfl
  have l1 := Y1.frozen 1
  have m2 := Y1.cell 2 rfl
  have l2 := Y1.frozen 2
  have m3 := Y1.cell 3 rfl
  have l3 := Y1.frozen 3
  have m4 := Y1.cell 4 rfl
  have l4 := Y1.frozen 4
  have m5 := Y1.cell 5 rfl
  have l5 := Y1.frozen 5
  have g0 := YZ.cell 0 rfl
  have q0 := YZ.frozen 0
  have g1 := YZ.cell 1 rfl
  have q1 := YZ.frozen 1
  have g2 := YZ.cell 2 rfl
  have q2 := YZ.frozen 2
  have g3 := YZ.cell 3 rfl
  have q3 := YZ.frozen 3
  have g4 := YZ.cell 4 rfl
  have q4 := YZ.frozen 4
  have g5 := YZ.cell 5 rfl
  have q5 := YZ.frozen 5
  have K1 : Only [] w (w1.alloc (.cells #[.slice D1 jx.table.tracked.length E1, .slice D2 jx.table.patterns.length E2, .slice D3 jx.table.distances.length E3, .int .i64 jx.next, .string jx.log, .int .i64 jx.synced] 57)) := (k0.trans t1).trans ka
  by_cases hl : 60000 < jx.log.size
  · have he := HS.out.trans (stepF_long (x := x) (j := ⟨⟨tr, ps, ds⟩, (n : Int), lg, sy⟩) (by have := hd1.out; show (n : Int) ≠ (ps.length : Int); omega) (by rw [← HJ.out]; exact hl))
    have HE := Lib.hid he; clear he
    have Yf := ((((((YZ.set 0 (.slice A1 tr.length C1)).set 1 (.slice A2 ps.length C2)).set 2 (.slice A3 ds.length C3)).set 3 (.int .i64 n)).set 4 (.string lg)).set 5 (.int .i64 sy))
    have kf : Only [w.heap.size + 2] (w1.alloc (.cells #[.slice D1 jx.table.tracked.length E1, .slice D2 jx.table.patterns.length E2, .slice D3 jx.table.distances.length E3, .int .i64 jx.next, .string jx.log, .int .i64 jx.synced] 57)) (((((((w1.alloc (.cells #[.slice D1 jx.table.tracked.length E1, .slice D2 jx.table.patterns.length E2, .slice D3 jx.table.distances.length E3, .int .i64 jx.next, .string jx.log, .int .i64 jx.synced] 57)).setCell ⟨w.heap.size + 2, 0, none⟩ (.slice A1 tr.length C1)).setCell ⟨w.heap.size + 2, 1, none⟩ (.slice A2 ps.length C2)).setCell ⟨w.heap.size + 2, 2, none⟩ (.slice A3 ds.length C3)).setCell ⟨w.heap.size + 2, 3, none⟩ (.int .i64 n)).setCell ⟨w.heap.size + 2, 4, none⟩ (.string lg)).setCell ⟨w.heap.size + 2, 5, none⟩ (.int .i64 sy)) := (((((((Only.refl _ _).setCell (by simp) _).setCell (by simp) _).setCell (by simp) _).setCell (by simp) _).setCell (by simp) _).setCell (by simp) _)
    go_wp2_with fail
    obtain ⟨wf, hwf⟩ : ∃ wf, wf = (((((((w1.alloc (.cells #[.slice D1 jx.table.tracked.length E1, .slice D2 jx.table.patterns.length E2, .slice D3 jx.table.distances.length E3, .int .i64 jx.next, .string jx.log, .int .i64 jx.synced] 57)).setCell ⟨w.heap.size + 2, 0, none⟩ (.slice A1 tr.length C1)).setCell ⟨w.heap.size + 2, 1, none⟩ (.slice A2 ps.length C2)).setCell ⟨w.heap.size + 2, 2, none⟩ (.slice A3 ds.length C3)).setCell ⟨w.heap.size + 2, 3, none⟩ (.int .i64 n)).setCell ⟨w.heap.size + 2, 4, none⟩ (.string lg)).setCell ⟨w.heap.size + 2, 5, none⟩ (.int .i64 sy)) := ⟨_, rfl⟩
    rw [← hwf] at Yf kf ⊢
    simp only [List.set] at Yf
    clear hwf g0 q0 g1 q1 g2 q2 g3 q3 g4 q4 g5 q5
    have z0 := Yf.cell 0 rfl
    have z1 := Yf.cell 1 rfl
    have z2 := Yf.cell 2 rfl
    have z3 := Yf.cell 3 rfl
    have z4 := Yf.cell 4 rfl
    have z5 := Yf.cell 5 rfl
    refine bodyPost_ret (v := .tuple #[.agg #[.slice A1 tr.length C1, .slice A2 ps.length C2, .slice A3 ds.length C3, .int .i64 n, .string lg, .int .i64 sy], .bool false]) (by simp [results, Try.results33, go_sem, z0, z1, z2, z3, z4, z5]) rfl ⟨_, _, _, fs, by rw [HE.out], by rw [HE.out]; exact (HT.out.keep K1).only kf (fun b hb hm => by have := HT.out.fr.lt b hb; simp at hm; omega), fun b hb => .inl hb, K1.then_ kf (by simp)⟩
  · have he := HS.out.trans (stepF_go (x := x) (j := ⟨⟨tr, ps, ds⟩, (n : Int), lg, sy⟩) (by have := hd1.out; show (n : Int) ≠ (ps.length : Int); omega) (by rw [← HJ.out]; exact hl))
    have HE := Lib.hid he; clear he
    have Yf := ((((((YZ.set 0 (.slice D1 jx.table.tracked.length E1)).set 1 (.slice D2 jx.table.patterns.length E2)).set 2 (.slice D3 jx.table.distances.length E3)).set 3 (.int .i64 jx.next)).set 4 (.string jx.log)).set 5 (.int .i64 jx.synced))
    have kf : Only [w.heap.size + 2] (w1.alloc (.cells #[.slice D1 jx.table.tracked.length E1, .slice D2 jx.table.patterns.length E2, .slice D3 jx.table.distances.length E3, .int .i64 jx.next, .string jx.log, .int .i64 jx.synced] 57)) (((((((w1.alloc (.cells #[.slice D1 jx.table.tracked.length E1, .slice D2 jx.table.patterns.length E2, .slice D3 jx.table.distances.length E3, .int .i64 jx.next, .string jx.log, .int .i64 jx.synced] 57)).setCell ⟨w.heap.size + 2, 0, none⟩ (.slice D1 jx.table.tracked.length E1)).setCell ⟨w.heap.size + 2, 1, none⟩ (.slice D2 jx.table.patterns.length E2)).setCell ⟨w.heap.size + 2, 2, none⟩ (.slice D3 jx.table.distances.length E3)).setCell ⟨w.heap.size + 2, 3, none⟩ (.int .i64 jx.next)).setCell ⟨w.heap.size + 2, 4, none⟩ (.string jx.log)).setCell ⟨w.heap.size + 2, 5, none⟩ (.int .i64 jx.synced)) := (((((((Only.refl _ _).setCell (by simp) _).setCell (by simp) _).setCell (by simp) _).setCell (by simp) _).setCell (by simp) _).setCell (by simp) _)
    go_wp2_with fail
    obtain ⟨wf, hwf⟩ : ∃ wf, wf = (((((((w1.alloc (.cells #[.slice D1 jx.table.tracked.length E1, .slice D2 jx.table.patterns.length E2, .slice D3 jx.table.distances.length E3, .int .i64 jx.next, .string jx.log, .int .i64 jx.synced] 57)).setCell ⟨w.heap.size + 2, 0, none⟩ (.slice D1 jx.table.tracked.length E1)).setCell ⟨w.heap.size + 2, 1, none⟩ (.slice D2 jx.table.patterns.length E2)).setCell ⟨w.heap.size + 2, 2, none⟩ (.slice D3 jx.table.distances.length E3)).setCell ⟨w.heap.size + 2, 3, none⟩ (.int .i64 jx.next)).setCell ⟨w.heap.size + 2, 4, none⟩ (.string jx.log)).setCell ⟨w.heap.size + 2, 5, none⟩ (.int .i64 jx.synced)) := ⟨_, rfl⟩
    rw [← hwf] at Yf kf ⊢
    simp only [List.set] at Yf
    clear hwf g0 q0 g1 q1 g2 q2 g3 q3 g4 q4 g5 q5
    have z0 := Yf.cell 0 rfl
    have z1 := Yf.cell 1 rfl
    have z2 := Yf.cell 2 rfl
    have z3 := Yf.cell 3 rfl
    have z4 := Yf.cell 4 rfl
    have z5 := Yf.cell 5 rfl
    refine bodyPost_ret (v := .tuple #[.agg #[.slice D1 jx.table.tracked.length E1, .slice D2 jx.table.patterns.length E2, .slice D3 jx.table.distances.length E3, .int .i64 jx.next, .string jx.log, .int .i64 jx.synced], .bool true]) (by simp [results, Try.results33, go_sem, z0, z1, z2, z3, z4, z5]) rfl ⟨_, _, _, fs1, by rw [HE.out, ← HJ.out], by rw [HE.out, ← HJ.out]; exact ((HT1.out.keep ka).only kf (fun b hb hm => by have := HT1.out.fr.ge b hb; simp at hm this; omega)).lower (by omega), fun b hb => .inr (by have := HT1.out.fr.ge b hb; omega), K1.then_ kf (by simp)⟩
set_option maxHeartbeats 2000000 in
theorem start28_acc (v : Value) (tr : List Int) (fp : List Nat) (w : World) (h : Rd w v tr fp) (hl : tr.length ≤ 2097152) :
    Calls Try.prog 53 #[v] w fun e w' => ∃ v1 v2 v3 fs, e = .returned (.agg #[v1, v2, v3, .int .i64 0, .string ⟨#[]⟩, .int .i64 0]) ∧ TB w.heap.size w' v1 v2 v3 (startF tr).table fs ∧ Only [] w w' := by
  have X1 : Blk (w.alloc (.cells #[.slice none 0 0, .slice none 0 0, .slice none 0 0, .int .i64 0, .string ⟨#[]⟩, .int .i64 0] 57)) w.heap.size [.slice none 0 0, .slice none 0 0, .slice none 0 0, .int .i64 0, .string ⟨#[]⟩, .int .i64 0] := Blk.new_at rfl
  have HX := Lib.hid X1; clear X1
  have k0 : Only [] w (w.alloc (.cells #[.slice none 0 0, .slice none 0 0, .slice none 0 0, .int .i64 0, .string ⟨#[]⟩, .int .i64 0] 57)) := (Only.refl _ _).alloc _
  go_enter Try.func53, Try.ntmps53
  go_wp2_with fail
  with_reducible refine (copyInts_accI v tr _ _ (Rp.keep h k0) (by omega)).mono ?_
  rintro e w1 ⟨u1, rfl, a1, t1⟩
  obtain ⟨D1, E1, rfl⟩ := a1.form
  have r1 := a1.rd
  have F1 := a1.fresh
  go_wp2_with fail
  with_reducible refine (copyInts_rd v tr _ _ (Rp.keep (Rp.keep h k0) t1) (by omega)).mono ?_
  rintro e w2 ⟨u2, f2, rfl, r2, F2, t2⟩
  obtain ⟨D2, E2, _, _, rfl, -⟩ := r2.open_
  have Y1 := (HX.out.keep t1).keep t2
  have hs1 := t1.size
  have hs2 := t2.size
  simp at hs1
  have s2 : w.heap.size < w2.heap.size := by omega
  have A1 := Acc.one (α := List Int) (w := w2) w1.heap.size 27 (cs := [.slice D2 tr.length E2]) (x := tr) (fp := f2) r2 rfl hs2
  have A2 := Acc.one (α := Int) (w := w2.alloc (.cells #[.slice D2 tr.length E2] 27)) (w2.heap.size + 1) 2 (g := w2.heap.size + 1) (cs := [.int .i64 0]) (x := 0) (fp := []) (int_rd _ (by unfold I64; omega)) (by simp) (Nat.le_refl _)
  have K3 : Only [] w2 (((w2.alloc (.cells #[.slice D2 tr.length E2] 27)).alloc (.cells #[.int .i64 0] 2)).alloc (.cells #[.slice D1 tr.length E1, .slice (some ⟨w2.heap.size, 0, none⟩) 1 1, .slice (some ⟨w2.heap.size + 1, 0, none⟩) 1 1] 29)) := (((Only.refl _ _).alloc _).alloc _).alloc _
  have K5 : Only [] ((w2.alloc (.cells #[.slice D2 tr.length E2] 27)).alloc (.cells #[.int .i64 0] 2)) (((w2.alloc (.cells #[.slice D2 tr.length E2] 27)).alloc (.cells #[.int .i64 0] 2)).alloc (.cells #[.slice D1 tr.length E1, .slice (some ⟨w2.heap.size, 0, none⟩) 1 1, .slice (some ⟨w2.heap.size + 1, 0, none⟩) 1 1] 29)) := (Only.refl _ _).alloc _
  have K4 : Only [] (w2.alloc (.cells #[.slice D2 tr.length E2] 27)) ((w2.alloc (.cells #[.slice D2 tr.length E2] 27)).alloc (.cells #[.int .i64 0] 2)) := (Only.refl _ _).alloc _
  have Y3 : Blk (((w2.alloc (.cells #[.slice D2 tr.length E2] 27)).alloc (.cells #[.int .i64 0] 2)).alloc (.cells #[.slice D1 tr.length E1, .slice (some ⟨w2.heap.size, 0, none⟩) 1 1, .slice (some ⟨w2.heap.size + 1, 0, none⟩) 1 1] 29)) w.heap.size [.slice none 0 0, .slice none 0 0, .slice none 0 0, .int .i64 0, .string ⟨#[]⟩, .int .i64 0] := Y1.keep K3
  have R1 := Rp.keep (Rp.keep r1 t2) K3
  have R2 := Rp.keep (Rp.keep (A1.rd (by decide)) K4) K5
  have R3 := Rp.keep (A2.rd (by decide)) K5
  have P1 := A1.fresh (by simpa using F2.keep ((Only.refl _ _).alloc _))
  have P2 := A2.fresh (by simpa using Fresh.nil _ _)
  have P12 := ((P1.keep K4).append P2 (by omega) (fun b hb => by have := P1.lt b hb; simpa using this)).keep K5
  have P := ((F1.keep t2).keep K3).append P12 t1.size (fun b hb => F1.lt b hb)
  have K0 : Only [] w (((w2.alloc (.cells #[.slice D2 tr.length E2] 27)).alloc (.cells #[.int .i64 0] 2)).alloc (.cells #[.slice D1 tr.length E1, .slice (some ⟨w2.heap.size, 0, none⟩) 1 1, .slice (some ⟨w2.heap.size + 1, 0, none⟩) 1 1] 29)) := ((k0.trans t1).trans t2).trans K3
  have g0 := Y3.cell 0 rfl
  have q0 := Y3.frozen 0
  have g1 := Y3.cell 1 rfl
  have q1 := Y3.frozen 1
  have g2 := Y3.cell 2 rfl
  have q2 := Y3.frozen 2
  have g3 := Y3.cell 3 rfl
  have q3 := Y3.frozen 3
  have g4 := Y3.cell 4 rfl
  have q4 := Y3.frozen 4
  have g5 := Y3.cell 5 rfl
  have q5 := Y3.frozen 5
  go_wp2_with fail
  have hP : ∀ b ∈ (Value.slice D1 tr.length E1).ownBlock.toList ++ (((Value.slice (some ⟨w2.heap.size, 0, none⟩) 1 1).ownBlock.toList ++ [f2].flatten) ++ ((Value.slice (some ⟨w2.heap.size + 1, 0, none⟩) 1 1).ownBlock.toList ++ [([] : List Nat)].flatten)), b ∉ [w.heap.size] := fun b hb hm => by have := P.ge b hb; simp at this hm; omega
  have Yf := ((((((Y3.set 0 (.slice D1 tr.length E1)).set 1 (.slice (some ⟨w2.heap.size, 0, none⟩) 1 1)).set 2 (.slice (some ⟨w2.heap.size + 1, 0, none⟩) 1 1)).set 3 (.int .i64 0)).set 4 (.string ⟨#[]⟩)).set 5 (.int .i64 0))
  have kf : Only [w.heap.size] (((w2.alloc (.cells #[.slice D2 tr.length E2] 27)).alloc (.cells #[.int .i64 0] 2)).alloc (.cells #[.slice D1 tr.length E1, .slice (some ⟨w2.heap.size, 0, none⟩) 1 1, .slice (some ⟨w2.heap.size + 1, 0, none⟩) 1 1] 29)) (((((((((w2.alloc (.cells #[.slice D2 tr.length E2] 27)).alloc (.cells #[.int .i64 0] 2)).alloc (.cells #[.slice D1 tr.length E1, .slice (some ⟨w2.heap.size, 0, none⟩) 1 1, .slice (some ⟨w2.heap.size + 1, 0, none⟩) 1 1] 29)).setCell ⟨w.heap.size, 0, none⟩ (.slice D1 tr.length E1)).setCell ⟨w.heap.size, 1, none⟩ (.slice (some ⟨w2.heap.size, 0, none⟩) 1 1)).setCell ⟨w.heap.size, 2, none⟩ (.slice (some ⟨w2.heap.size + 1, 0, none⟩) 1 1)).setCell ⟨w.heap.size, 3, none⟩ (.int .i64 0)).setCell ⟨w.heap.size, 4, none⟩ (.string ⟨#[]⟩)).setCell ⟨w.heap.size, 5, none⟩ (.int .i64 0)) := (((((((Only.refl _ _).setCell (by simp) _).setCell (by simp) _).setCell (by simp) _).setCell (by simp) _).setCell (by simp) _).setCell (by simp) _)
  obtain ⟨wf, hwf⟩ : ∃ wf, wf = (((((((((w2.alloc (.cells #[.slice D2 tr.length E2] 27)).alloc (.cells #[.int .i64 0] 2)).alloc (.cells #[.slice D1 tr.length E1, .slice (some ⟨w2.heap.size, 0, none⟩) 1 1, .slice (some ⟨w2.heap.size + 1, 0, none⟩) 1 1] 29)).setCell ⟨w.heap.size, 0, none⟩ (.slice D1 tr.length E1)).setCell ⟨w.heap.size, 1, none⟩ (.slice (some ⟨w2.heap.size, 0, none⟩) 1 1)).setCell ⟨w.heap.size, 2, none⟩ (.slice (some ⟨w2.heap.size + 1, 0, none⟩) 1 1)).setCell ⟨w.heap.size, 3, none⟩ (.int .i64 0)).setCell ⟨w.heap.size, 4, none⟩ (.string ⟨#[]⟩)).setCell ⟨w.heap.size, 5, none⟩ (.int .i64 0)) := ⟨_, rfl⟩
  rw [← hwf] at Yf kf ⊢
  simp only [List.set] at Yf
  clear hwf g0 q0 g1 q1 g2 q2 g3 q3 g4 q4 g5 q5
  have z0 := Yf.cell 0 rfl
  have z1 := Yf.cell 1 rfl
  have z2 := Yf.cell 2 rfl
  have z3 := Yf.cell 3 rfl
  have z4 := Yf.cell 4 rfl
  have z5 := Yf.cell 5 rfl
  refine bodyPost_ret (v := .agg #[.slice D1 tr.length E1, .slice (some ⟨w2.heap.size, 0, none⟩) 1 1, .slice (some ⟨w2.heap.size + 1, 0, none⟩) 1 1, .int .i64 0, .string ⟨#[]⟩, .int .i64 0]) (by simp [results, Try.results53, go_sem, z0, z1, z2, z3, z4, z5]) rfl ⟨_, _, _, [f2], rfl, ?_, K0.then_ kf (by simp)⟩
  have hs3 := K3.size
  have T0 : TB w.heap.size (((w2.alloc (.cells #[.slice D2 tr.length E2] 27)).alloc (.cells #[.int .i64 0] 2)).alloc (.cells #[.slice D1 tr.length E1, .slice (some ⟨w2.heap.size, 0, none⟩) 1 1, .slice (some ⟨w2.heap.size + 1, 0, none⟩) 1 1] 29)) (.slice D1 tr.length E1) (.slice (some ⟨w2.heap.size, 0, none⟩) 1 1) (.slice (some ⟨w2.heap.size + 1, 0, none⟩) 1 1) (startF tr).table [f2] :=
    ⟨((a1.keep t2).keep K3).low2 (by simp), ((A1.keep K4).keep K5).lower (by omega), AccI.low2 ⟨_, A2.keep K5⟩ (by omega), (show Fresh w.heap.size _ _ from by simpa using P.mono (show w.heap.size ≤ _ by simp))⟩
  exact T0.only kf (fun b hb => hP b (by simpa using hb))
set_option maxHeartbeats 2000000 in
theorem specStartFill_acc (cs : List Value) (x : Puzzle) (fp : List Nat) (v : Value) (tr : List Int) (ft : List Nat) (w : World) (h : Rp.rep w cs x fp) (hv : Rd w v tr ft) (hl : tr.length ≤ 2097152) :
    Calls Try.prog 32 #[.agg cs.toArray, v] w fun e w' => ∃ v1 v2 v3 fs, e = .returned (.tuple #[.agg #[v1, v2, v3, .int .i64 0, .string ⟨#[]⟩, .int .i64 0], .bool (bTab x tr).isSome]) ∧ ((bTab x tr).isSome = true → TB w.heap.size w' v1 v2 v3 (startF tr).table fs) ∧ ((bTab x tr).isSome = false → v1 = .slice none 0 0 ∧ v2 = .slice none 0 0 ∧ v3 = .slice none 0 0) ∧ Only [] w w' := by
  have hh := h
  obtain ⟨v2, rfl, p0, p1, h2⟩ := h
  obtain ⟨A2, C2, _, _, rfl, -, -⟩ := h2.open_
  have X1 : Blk ((w.alloc (.cells #[.int .i64 x.points, .string x.names, .slice A2 x.moves.length C2] 26)).alloc (.cells #[.slice none 0 0, .slice none 0 0, .slice none 0 0, .int .i64 0, .string ⟨#[]⟩, .int .i64 0] 57)) (w.heap.size + 1) [.slice none 0 0, .slice none 0 0, .slice none 0 0, .int .i64 0, .string ⟨#[]⟩, .int .i64 0] := Blk.new_at (by simp)
  have HX := Lib.hid X1; clear X1
  have k0 : Only [] w ((w.alloc (.cells #[.int .i64 x.points, .string x.names, .slice A2 x.moves.length C2] 26)).alloc (.cells #[.slice none 0 0, .slice none 0 0, .slice none 0 0, .int .i64 0, .string ⟨#[]⟩, .int .i64 0] 57)) := ((Only.refl _ _).alloc _).alloc _
  go_enter Try.func32, Try.ntmps32
  go_wp2_with fail
  with_reducible refine (specBuildTable_any [.int .i64 x.points, .string x.names, .slice A2 x.moves.length C2] x _ v tr _ _ (Rp.keep hh k0) (Rp.keep hv k0) hl).mono ?_
  rintro e w1 ⟨cs1, f1, rfl, r1, F1, t1⟩
  have r1' := r1
  obtain ⟨b1, b2, b3, _, _, _, rfl, -, kk1, kk2, kk3⟩ := r1'
  obtain ⟨D1, E1, _, _, rfl, -⟩ := kk1.open_
  obtain ⟨D2, E2, _, _, rfl, -⟩ := kk2.open_
  obtain ⟨D3, E3, _, _, rfl, -⟩ := kk3.open_
  generalize hn1 : ((bTab x tr).getD noTab).tracked.length = n1 at *
  generalize hn2 : ((bTab x tr).getD noTab).patterns.length = n2 at *
  generalize hn3 : ((bTab x tr).getD noTab).distances.length = n3 at *
  clear r1 kk1 kk2 kk3 hn1 hn2 hn3
  have Y1 := HX.out.keep t1
  have hs1 := t1.size
  simp at hs1
  have KV : Only [] w1 (w1.alloc (.cells #[.slice D1 n1 E1, .slice D2 n2 E2, .slice D3 n3 E3] 29)) := (Only.refl _ _).alloc _
  have Y2 : Blk (w1.alloc (.cells #[.slice D1 n1 E1, .slice D2 n2 E2, .slice D3 n3 E3] 29)) (w.heap.size + 1) [.slice none 0 0, .slice none 0 0, .slice none 0 0, .int .i64 0, .string ⟨#[]⟩, .int .i64 0] := Y1.keep KV
  have B2 : Blk (w1.alloc (.cells #[.slice D1 n1 E1, .slice D2 n2 E2, .slice D3 n3 E3] 29)) w1.heap.size [.slice D1 n1 E1, .slice D2 n2 E2, .slice D3 n3 E3] := Blk.new_at rfl
  have T0 : Only [] w (w1.alloc (.cells #[.slice D1 n1 E1, .slice D2 n2 E2, .slice D3 n3 E3] 29)) := (k0.trans t1).trans KV
  rcases hb : (bTab x tr).isSome
  · have g0 := Y2.cell 0 rfl
    have q0 := Y2.frozen 0
    have g1 := Y2.cell 1 rfl
    have q1 := Y2.frozen 1
    have g2 := Y2.cell 2 rfl
    have q2 := Y2.frozen 2
    have g3 := Y2.cell 3 rfl
    have q3 := Y2.frozen 3
    have g4 := Y2.cell 4 rfl
    have q4 := Y2.frozen 4
    have g5 := Y2.cell 5 rfl
    have q5 := Y2.frozen 5
    go_wp2_with fail
    have Yf := ((((((Y2.set 0 (.slice none 0 0)).set 1 (.slice none 0 0)).set 2 (.slice none 0 0)).set 3 (.int .i64 0)).set 4 (.string ⟨#[]⟩)).set 5 (.int .i64 0))
    have kf : Only [w.heap.size + 1] (w1.alloc (.cells #[.slice D1 n1 E1, .slice D2 n2 E2, .slice D3 n3 E3] 29)) (((((((w1.alloc (.cells #[.slice D1 n1 E1, .slice D2 n2 E2, .slice D3 n3 E3] 29)).setCell ⟨w.heap.size + 1, 0, none⟩ (.slice none 0 0)).setCell ⟨w.heap.size + 1, 1, none⟩ (.slice none 0 0)).setCell ⟨w.heap.size + 1, 2, none⟩ (.slice none 0 0)).setCell ⟨w.heap.size + 1, 3, none⟩ (.int .i64 0)).setCell ⟨w.heap.size + 1, 4, none⟩ (.string ⟨#[]⟩)).setCell ⟨w.heap.size + 1, 5, none⟩ (.int .i64 0)) := (((((((Only.refl _ _).setCell (by simp) _).setCell (by simp) _).setCell (by simp) _).setCell (by simp) _).setCell (by simp) _).setCell (by simp) _)
    obtain ⟨wf, hwf⟩ : ∃ wf, wf = (((((((w1.alloc (.cells #[.slice D1 n1 E1, .slice D2 n2 E2, .slice D3 n3 E3] 29)).setCell ⟨w.heap.size + 1, 0, none⟩ (.slice none 0 0)).setCell ⟨w.heap.size + 1, 1, none⟩ (.slice none 0 0)).setCell ⟨w.heap.size + 1, 2, none⟩ (.slice none 0 0)).setCell ⟨w.heap.size + 1, 3, none⟩ (.int .i64 0)).setCell ⟨w.heap.size + 1, 4, none⟩ (.string ⟨#[]⟩)).setCell ⟨w.heap.size + 1, 5, none⟩ (.int .i64 0)) := ⟨_, rfl⟩
    rw [← hwf] at Yf kf ⊢
    simp only [List.set] at Yf
    clear hwf g0 q0 g1 q1 g2 q2 g3 q3 g4 q4 g5 q5
    have z0 := Yf.cell 0 rfl
    have z1 := Yf.cell 1 rfl
    have z2 := Yf.cell 2 rfl
    have z3 := Yf.cell 3 rfl
    have z4 := Yf.cell 4 rfl
    have z5 := Yf.cell 5 rfl
    refine bodyPost_ret (v := .tuple #[.agg #[.slice none 0 0, .slice none 0 0, .slice none 0 0, .int .i64 0, .string ⟨#[]⟩, .int .i64 0], .bool false]) (by simp [results, Try.results32, go_sem, z0, z1, z2, z3, z4, z5]) rfl ⟨_, _, _, [], by rw [hb], fun h => (by rw [hb] at h; cases h), fun _ => ⟨rfl, rfl, rfl⟩, T0.then_ kf (by simp)⟩
  · go_wp2_with fail
    with_reducible refine (start28_acc v tr _ _ (Rp.keep hv T0) hl).mono ?_
    rintro e w2 ⟨d1, d2, d3, fs2, rfl, hT2, t2⟩
    obtain ⟨a1, c1, rfl⟩ := hT2.tk.form
    obtain ⟨a2, c2, rfl⟩ := hT2.pt.form
    obtain ⟨a3, c3, rfl⟩ := hT2.dt.form
    have HT2 := Lib.hid hT2
    clear hT2
    have Y3 := Y2.keep t2
    have g0 := Y3.cell 0 rfl
    have q0 := Y3.frozen 0
    have g1 := Y3.cell 1 rfl
    have q1 := Y3.frozen 1
    have g2 := Y3.cell 2 rfl
    have q2 := Y3.frozen 2
    have g3 := Y3.cell 3 rfl
    have q3 := Y3.frozen 3
    have g4 := Y3.cell 4 rfl
    have q4 := Y3.frozen 4
    have g5 := Y3.cell 5 rfl
    have q5 := Y3.frozen 5
    have hs2 := t2.size
    simp at hs2
    go_wp2_with fail
    have hF : ∀ b ∈ (Value.slice a1 (startF tr).table.tracked.length c1).ownBlock.toList ++ (((Value.slice a2 (startF tr).table.patterns.length c2).ownBlock.toList ++ fs2.flatten) ++ (Value.slice a3 (startF tr).table.distances.length c3).ownBlock.toList), b ∉ [w.heap.size + 1] := fun b hb hm => by have := HT2.out.fr.ge b hb; simp at this hm; omega
    have Yf := ((((((Y3.set 0 (.slice a1 (startF tr).table.tracked.length c1)).set 1 (.slice a2 (startF tr).table.patterns.length c2)).set 2 (.slice a3 (startF tr).table.distances.length c3)).set 3 (.int .i64 0)).set 4 (.string ⟨#[]⟩)).set 5 (.int .i64 0))
    have kf : Only [w.heap.size + 1] w2 ((((((w2.setCell ⟨w.heap.size + 1, 0, none⟩ (.slice a1 (startF tr).table.tracked.length c1)).setCell ⟨w.heap.size + 1, 1, none⟩ (.slice a2 (startF tr).table.patterns.length c2)).setCell ⟨w.heap.size + 1, 2, none⟩ (.slice a3 (startF tr).table.distances.length c3)).setCell ⟨w.heap.size + 1, 3, none⟩ (.int .i64 0)).setCell ⟨w.heap.size + 1, 4, none⟩ (.string ⟨#[]⟩)).setCell ⟨w.heap.size + 1, 5, none⟩ (.int .i64 0)) := (((((((Only.refl _ _).setCell (by simp) _).setCell (by simp) _).setCell (by simp) _).setCell (by simp) _).setCell (by simp) _).setCell (by simp) _)
    obtain ⟨wf, hwf⟩ : ∃ wf, wf = ((((((w2.setCell ⟨w.heap.size + 1, 0, none⟩ (.slice a1 (startF tr).table.tracked.length c1)).setCell ⟨w.heap.size + 1, 1, none⟩ (.slice a2 (startF tr).table.patterns.length c2)).setCell ⟨w.heap.size + 1, 2, none⟩ (.slice a3 (startF tr).table.distances.length c3)).setCell ⟨w.heap.size + 1, 3, none⟩ (.int .i64 0)).setCell ⟨w.heap.size + 1, 4, none⟩ (.string ⟨#[]⟩)).setCell ⟨w.heap.size + 1, 5, none⟩ (.int .i64 0)) := ⟨_, rfl⟩
    rw [← hwf] at Yf kf ⊢
    simp only [List.set] at Yf
    clear hwf g0 q0 g1 q1 g2 q2 g3 q3 g4 q4 g5 q5
    have z0 := Yf.cell 0 rfl
    have z1 := Yf.cell 1 rfl
    have z2 := Yf.cell 2 rfl
    have z3 := Yf.cell 3 rfl
    have z4 := Yf.cell 4 rfl
    have z5 := Yf.cell 5 rfl
    refine bodyPost_ret (v := .tuple #[.agg #[.slice a1 (startF tr).table.tracked.length c1, .slice a2 (startF tr).table.patterns.length c2, .slice a3 (startF tr).table.distances.length c3, .int .i64 0, .string ⟨#[]⟩, .int .i64 0], .bool true]) (by simp [results, Try.results32, go_sem, z0, z1, z2, z3, z4, z5]) rfl ⟨_, _, _, fs2, by rw [hb], fun _ => (HT2.out.only kf hF).lower (by simp; omega), fun h => (by rw [hb] at h; cases h), (T0.trans t2).then_ kf (by simp)⟩
end Go.Proofs.Ytpkplmnpepkdaaa
