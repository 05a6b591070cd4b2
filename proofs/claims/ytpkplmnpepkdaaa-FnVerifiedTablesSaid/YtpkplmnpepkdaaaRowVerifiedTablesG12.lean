/- Fill jobs whose tables can be written to and appended to: copies, an expansion, a step, the start (laws 26, 49). (Printed by mkfilla.py.) -/
import Derived.Test.YtpkplmnpepkdaaaRowVerifiedTablesG11
import Derived.Test.YtpkplmnpepkdaaaRowVerifiedTablesG10
namespace Go.Proofs.Ytpkplmnpepkdaaa
open Go.RowKit
set_option maxRecDepth 10000

/-- a table of the call's own: its parts can be written to, its patterns and distances appended to -/
structure TB (B : Nat) (w : World) (v1 v2 v3 : Value) (t : Table) (fs : List (List Nat)) : Prop where
  tk : AccI B 2 w v1 t.tracked
  pt : Acc B 27 w v2 t.patterns fs
  dt : AccI B 2 w v3 t.distances
  fr : Fresh B w (v1.ownBlock.toList ++ ((v2.ownBlock.toList ++ fs.flatten) ++ v3.ownBlock.toList))
theorem TB.ta {B : Nat} {w : World} {v1 v2 v3 : Value} {t : Table} {fs : List (List Nat)} (h : TB B w v1 v2 v3 t fs) : TA B w v1 v2 v3 t v1.ownBlock.toList fs := ⟨h.tk.rd, h.pt, h.dt, h.fr⟩
theorem TB.only {B : Nat} {w w' : World} {v1 v2 v3 : Value} {t : Table} {fp : List Nat} {fs : List (List Nat)} (h : TB B w v1 v2 v3 t fs) (ho : Only fp w w') (hd : ∀ b ∈ v1.ownBlock.toList ++ ((v2.ownBlock.toList ++ fs.flatten) ++ v3.ownBlock.toList), b ∉ fp) : TB B w' v1 v2 v3 t fs :=
  ⟨h.tk.only ho (fun g hg => hd g (List.mem_append_left _ (by simp [hg]))), (h.ta.only ho hd).pt, (h.ta.only ho hd).dt, (h.ta.only ho hd).fr⟩
theorem TB.keep {B : Nat} {w w' : World} {v1 v2 v3 : Value} {t : Table} {fs : List (List Nat)} (h : TB B w v1 v2 v3 t fs) (ho : Only [] w w') : TB B w' v1 v2 v3 t fs := h.only ho (by simp)
theorem TB.lower {B B' : Nat} {w : World} {v1 v2 v3 : Value} {t : Table} {fs : List (List Nat)} (h : TB B w v1 v2 v3 t fs) (hB : B' ≤ B) : TB B' w v1 v2 v3 t fs := ⟨h.tk.low2 hB, h.pt.lower hB, h.dt.lower hB, h.fr.mono hB⟩
theorem TB.of {B : Nat} {w : World} {v1 v2 v3 : Value} {t : Table} {fs : List (List Nat)} (h : TA B w v1 v2 v3 t v1.ownBlock.toList fs) (h1 : AccI B 2 w v1 t.tracked) : TB B w v1 v2 v3 t fs := ⟨h1, h.pt, h.dt, h.fr⟩
set_option maxHeartbeats 2000000 in
theorem copyTableB_any (cs : List Value) (t : Table) (fp : List Nat) (w : World) (h : Rp.rep w cs t fp) (hm : midT t) :
    Calls Try.prog 86 #[.agg cs.toArray] w fun e w' => ∃ v1 v2 v3 fs, e = .returned (.agg #[v1, v2, v3]) ∧ TB w.heap.size w' v1 v2 v3 t fs ∧ Only [] w w' := by
  obtain ⟨v1, v2, v3, g1, g2, g3, rfl, -, h1, h2, h3⟩ := h
  obtain ⟨m1, m2, m3, m4⟩ := hm
  obtain ⟨A1, C1, _, _, rfl, -⟩ := h1.open_
  obtain ⟨A2, C2, _, _, rfl, -⟩ := h2.open_
  obtain ⟨A3, C3, _, _, rfl, -⟩ := h3.open_
  have hW0 : Only [] w ((w.alloc (.cells #[.slice A1 t.tracked.length C1, .slice A2 t.patterns.length C2, .slice A3 t.distances.length C3] 29)).alloc (.cells #[.slice none 0 0, .slice none 0 0, .slice none 0 0] 29)) := ((Only.refl _ _).alloc _).alloc _
  have hB : Blk ((w.alloc (.cells #[.slice A1 t.tracked.length C1, .slice A2 t.patterns.length C2, .slice A3 t.distances.length C3] 29)).alloc (.cells #[.slice none 0 0, .slice none 0 0, .slice none 0 0] 29)) w.heap.size [.slice A1 t.tracked.length C1, .slice A2 t.patterns.length C2, .slice A3 t.distances.length C3] := Blk.keep (Blk.new_at rfl) ((Only.refl _ _).alloc _)
  have HB := Lib.hid hB; clear hB
  have X1 : Blk ((w.alloc (.cells #[.slice A1 t.tracked.length C1, .slice A2 t.patterns.length C2, .slice A3 t.distances.length C3] 29)).alloc (.cells #[.slice none 0 0, .slice none 0 0, .slice none 0 0] 29)) (w.heap.size + 1) [.slice none 0 0, .slice none 0 0, .slice none 0 0] := Blk.new_at (by simp)
  have HX := Lib.hid X1; clear X1
  go_enter Try.func86, Try.ntmps86
  go_wp2
  go_region_held3 (fun w' => Only [w.heap.size + 1] ((w.alloc (.cells #[.slice A1 t.tracked.length C1, .slice A2 t.patterns.length C2, .slice A3 t.distances.length C3] 29)).alloc (.cells #[.slice none 0 0, .slice none 0 0, .slice none 0 0] 29)) w' ∧ w'.cell? ⟨w.heap.size, 0, none⟩ = some (.slice A1 t.tracked.length C1) ∧ w'.cell? ⟨w.heap.size, 1, none⟩ = some (.slice A2 t.patterns.length C2) ∧ w'.cell? ⟨w.heap.size, 2, none⟩ = some (.slice A3 t.distances.length C3)) ((refine and_of ?_ (fun h__ => ⟨(Blk.only HB.out h__ (by simp)).cell 0 rfl, (Blk.only HB.out h__ (by simp)).cell 1 rfl, (Blk.only HB.out h__ (by simp)).cell 2 rfl⟩); first | with_reducible exact (Only.refl _ _).drew | with_reducible exact Only.keepThen (And.left (by assumption)) (by assumption) | with_reducible exact Only.setCell (Only.setCell (Only.setCell (And.left (by assumption)) (by intro _; simp) _) (by intro _; simp) _) (by intro _; simp) _)) (first
    | (go_at_call 15; (with_reducible refine (copyInts_accI _ t.tracked _ _ (Rp.keep h1 (Only.own1 hW0 (And.left (by assumption)) (Nat.le_succ _))) (by omega)).mono ?_); rintro e w1 ⟨u1, rfl, a1, t1⟩; have Y1 := HX.out.keep (((Only.refl [] _).drew).trans t1); obtain ⟨D1, E1, rfl⟩ := a1.form)
    | (go_at_call 16; (with_reducible refine (copyLists_accR _ t.patterns _ _ (Rp.keep h2 (Only.own1 hW0 (And.left (by assumption)) (Nat.le_succ _))) m2 m3).mono ?_); rintro e w2 ⟨u2, fs, rfl, a2, F2, t2⟩; have Y2 := Y1.keep t2; obtain ⟨D2, E2, rfl⟩ := a2.form)
    | (go_at_call 15; (with_reducible refine (copyInts_accI _ t.distances _ _ (Rp.keep h3 (Only.own1 hW0 (And.left (by assumption)) (Nat.le_succ _))) (by omega)).mono ?_); rintro e w3 ⟨u3, rfl, a3, t3⟩; have Y3 := Y2.keep t3; obtain ⟨D3, E3, rfl⟩ := a3.form; have g0 := Y3.cell 0 rfl; have q0 := Y3.frozen 0; have g1 := Y3.cell 1 rfl; have q1 := Y3.frozen 1; have g2 := Y3.cell 2 rfl; have q2 := Y3.frozen 2)
    | fail "no arm")
  have hz1 := t1.size
  simp at hz1
  have hz2 := t2.size
  have hz3 := t3.size
  have F1 := a1.fresh
  have G1 : ∀ b' ∈ (Value.slice D1 t.tracked.length E1).ownBlock.toList, w.heap.size + 2 ≤ b' ∧ b' < w1.heap.size := fun b' hb => ⟨by have := F1.ge b' hb; simp at this; omega, F1.lt b' hb⟩
  have T3 : Only [] w w3 := hW0.trans (((((Only.refl _ _).drew.trans t1).trans t2)).trans t3)
  have FP := a2.fresh F2
  have FD := a3.fresh
  have F23 := (FP.keep t3).append FD hz2 (fun b hb => FP.lt b hb)
  have F := (F1.keep (t2.trans t3)).append F23 t1.size (fun b hb => F1.lt b hb)
  have hd : ∀ b ∈ (Value.slice D1 t.tracked.length E1).ownBlock.toList ++ (((Value.slice D2 t.patterns.length E2).ownBlock.toList ++ fs.flatten) ++ (Value.slice D3 t.distances.length E3).ownBlock.toList), b ∉ [w.heap.size + 1] := fun b hb hm => by have := F.ge b hb; simp at this hm; omega
  have HT := Lib.hid (TB.mk (B := w.heap.size) (AccI.lower (a1.keep (t2.trans t3)) (by simp; omega)) (Acc.lower (a2.keep t3) (by omega)) (AccI.lower a3 (by omega)) (F.mono (by simp; omega)))
  have Yf := (((Y3.set 0 (.slice D1 t.tracked.length E1)).set 1 (.slice D2 t.patterns.length E2)).set 2 (.slice D3 t.distances.length E3))
  have kf : Only [w.heap.size + 1] w3 (((w3.setCell ⟨w.heap.size + 1, 0, none⟩ (.slice D1 t.tracked.length E1)).setCell ⟨w.heap.size + 1, 1, none⟩ (.slice D2 t.patterns.length E2)).setCell ⟨w.heap.size + 1, 2, none⟩ (.slice D3 t.distances.length E3)) := ((((Only.refl _ _).setCell (by simp) _).setCell (by simp) _).setCell (by simp) _)
  go_wp2_with fail
  obtain ⟨wf, hwf⟩ : ∃ wf, wf = (((w3.setCell ⟨w.heap.size + 1, 0, none⟩ (.slice D1 t.tracked.length E1)).setCell ⟨w.heap.size + 1, 1, none⟩ (.slice D2 t.patterns.length E2)).setCell ⟨w.heap.size + 1, 2, none⟩ (.slice D3 t.distances.length E3)) := ⟨_, rfl⟩
  rw [← hwf] at Yf kf ⊢
  simp only [List.set] at Yf
  clear hwf g0 q0 g1 q1 g2 q2
  have z0 := Yf.cell 0 rfl
  have z1 := Yf.cell 1 rfl
  have z2 := Yf.cell 2 rfl
  refine bodyPost_ret (v := .agg #[.slice D1 t.tracked.length E1, .slice D2 t.patterns.length E2, .slice D3 t.distances.length E3]) (by simp [results, Try.results86, go_sem, z0, z1, z2]) rfl ⟨_, _, _, fs, rfl, HT.out.only kf hd, T3.then_ kf (by simp)⟩
set_option maxHeartbeats 2000000 in
theorem copyFillB_any (cs : List Value) (j : FillJob) (fp : List Nat) (w : World) (h : Rp.rep w cs j fp) (hm : midT j.table) :
    Calls Try.prog 70 #[.agg cs.toArray] w fun e w' => ∃ v1 v2 v3 fs, e = .returned (.agg #[v1, v2, v3, .int .i64 j.next, .string j.log, .int .i64 j.synced]) ∧ TB w.heap.size w' v1 v2 v3 j.table fs ∧ Only [] w w' := by
  obtain ⟨c0, rfl, p1, p2, p3, h0⟩ := h
  have q := h0
  obtain ⟨v1, v2, v3, g1, g2, g3, rfl, -, h1, h2, h3⟩ := q
  obtain ⟨A1, C1, _, _, rfl, -⟩ := h1.open_
  obtain ⟨A2, C2, _, _, rfl, -⟩ := h2.open_
  obtain ⟨A3, C3, _, _, rfl, -⟩ := h3.open_
  have hW0 : Only [] w ((w.alloc (.cells #[.slice A1 j.table.tracked.length C1, .slice A2 j.table.patterns.length C2, .slice A3 j.table.distances.length C3, .int .i64 j.next, .string j.log, .int .i64 j.synced] 57)).alloc (.cells #[.slice none 0 0, .slice none 0 0, .slice none 0 0, .int .i64 0, .string ⟨#[]⟩, .int .i64 0] 57)) := ((Only.refl _ _).alloc _).alloc _
  have hB : Blk ((w.alloc (.cells #[.slice A1 j.table.tracked.length C1, .slice A2 j.table.patterns.length C2, .slice A3 j.table.distances.length C3, .int .i64 j.next, .string j.log, .int .i64 j.synced] 57)).alloc (.cells #[.slice none 0 0, .slice none 0 0, .slice none 0 0, .int .i64 0, .string ⟨#[]⟩, .int .i64 0] 57)) w.heap.size [.slice A1 j.table.tracked.length C1, .slice A2 j.table.patterns.length C2, .slice A3 j.table.distances.length C3, .int .i64 j.next, .string j.log, .int .i64 j.synced] := Blk.keep (Blk.new_at rfl) ((Only.refl _ _).alloc _)
  have HB := Lib.hid hB; clear hB
  have X1 : Blk ((w.alloc (.cells #[.slice A1 j.table.tracked.length C1, .slice A2 j.table.patterns.length C2, .slice A3 j.table.distances.length C3, .int .i64 j.next, .string j.log, .int .i64 j.synced] 57)).alloc (.cells #[.slice none 0 0, .slice none 0 0, .slice none 0 0, .int .i64 0, .string ⟨#[]⟩, .int .i64 0] 57)) (w.heap.size + 1) [.slice none 0 0, .slice none 0 0, .slice none 0 0, .int .i64 0, .string ⟨#[]⟩, .int .i64 0] := Blk.new_at (by simp)
  have HX := Lib.hid X1; clear X1
  go_enter Try.func70, Try.ntmps70
  go_wp2
  go_region_held3 (fun w' => Only [w.heap.size + 1] ((w.alloc (.cells #[.slice A1 j.table.tracked.length C1, .slice A2 j.table.patterns.length C2, .slice A3 j.table.distances.length C3, .int .i64 j.next, .string j.log, .int .i64 j.synced] 57)).alloc (.cells #[.slice none 0 0, .slice none 0 0, .slice none 0 0, .int .i64 0, .string ⟨#[]⟩, .int .i64 0] 57)) w' ∧ w'.cell? ⟨w.heap.size, 0, none⟩ = some (Value.slice A1 j.table.tracked.length C1) ∧ w'.cell? ⟨w.heap.size, 1, none⟩ = some (Value.slice A2 j.table.patterns.length C2) ∧ w'.cell? ⟨w.heap.size, 2, none⟩ = some (Value.slice A3 j.table.distances.length C3) ∧ w'.cell? ⟨w.heap.size, 3, none⟩ = some (Value.int .i64 j.next) ∧ w'.cell? ⟨w.heap.size, 4, none⟩ = some (Value.string j.log) ∧ w'.cell? ⟨w.heap.size, 5, none⟩ = some (Value.int .i64 j.synced)) ((refine and_of ?_ (fun h__ => ⟨(Blk.only HB.out h__ (by simp)).cell 0 rfl, (Blk.only HB.out h__ (by simp)).cell 1 rfl, (Blk.only HB.out h__ (by simp)).cell 2 rfl, (Blk.only HB.out h__ (by simp)).cell 3 rfl, (Blk.only HB.out h__ (by simp)).cell 4 rfl, (Blk.only HB.out h__ (by simp)).cell 5 rfl⟩); first | with_reducible exact (Only.refl _ _).drew | with_reducible exact Only.keepThen (And.left (by assumption)) (by assumption) | with_reducible exact Only.setCell (Only.setCell (Only.setCell (Only.setCell (Only.setCell (Only.setCell (And.left (by assumption)) (by intro _; simp) _) (by intro _; simp) _) (by intro _; simp) _) (by intro _; simp) _) (by intro _; simp) _) (by intro _; simp) _)) (first
    | (go_at_call 86; (with_reducible refine (copyTableB_any [.slice A1 j.table.tracked.length C1, .slice A2 j.table.patterns.length C2, .slice A3 j.table.distances.length C3] j.table _ _ (Rp.keep h0 (Only.own1 hW0 (And.left (by assumption)) (Nat.le_succ _))) hm).mono ?_); rintro e w1 ⟨u1, u2, u3, fs, rfl, a1, t1⟩; obtain ⟨D1, E1, _, _, rfl, -⟩ := a1.tk.form; obtain ⟨D2, E2, rfl⟩ := a1.pt.form; obtain ⟨D3, E3, rfl⟩ := a1.dt.form; have Y1 := HX.out.keep (((Only.refl [] _).drew).trans t1); have g0 := Y1.cell 0 rfl; have q0 := Y1.frozen 0; have g1 := Y1.cell 1 rfl; have q1 := Y1.frozen 1; have g2 := Y1.cell 2 rfl; have q2 := Y1.frozen 2; have g3 := Y1.cell 3 rfl; have q3 := Y1.frozen 3; have g4 := Y1.cell 4 rfl; have q4 := Y1.frozen 4; have g5 := Y1.cell 5 rfl; have q5 := Y1.frozen 5)
    | fail "no arm")
  have K1 : Only [] w w1 := hW0.trans (((Only.refl _ _).drew).trans t1)
  have hd : ∀ b ∈ (Value.slice D1 j.table.tracked.length E1).ownBlock.toList ++ (((Value.slice D2 j.table.patterns.length E2).ownBlock.toList ++ fs.flatten) ++ (Value.slice D3 j.table.distances.length E3).ownBlock.toList), b ∉ [w.heap.size + 1] := fun b hb hm => by have := a1.fr.ge b hb; simp at this hm; omega
  have Yf := ((((((Y1.set 0 (.slice D1 j.table.tracked.length E1)).set 1 (.slice D2 j.table.patterns.length E2)).set 2 (.slice D3 j.table.distances.length E3)).set 3 (.int .i64 j.next)).set 4 (.string j.log)).set 5 (.int .i64 j.synced))
  have kf : Only [w.heap.size + 1] w1 ((((((w1.setCell ⟨w.heap.size + 1, 0, none⟩ (.slice D1 j.table.tracked.length E1)).setCell ⟨w.heap.size + 1, 1, none⟩ (.slice D2 j.table.patterns.length E2)).setCell ⟨w.heap.size + 1, 2, none⟩ (.slice D3 j.table.distances.length E3)).setCell ⟨w.heap.size + 1, 3, none⟩ (.int .i64 j.next)).setCell ⟨w.heap.size + 1, 4, none⟩ (.string j.log)).setCell ⟨w.heap.size + 1, 5, none⟩ (.int .i64 j.synced)) := (((((((Only.refl _ _).setCell (by simp) _).setCell (by simp) _).setCell (by simp) _).setCell (by simp) _).setCell (by simp) _).setCell (by simp) _)
  have HT := Lib.hid (TB.lower (B' := w.heap.size) a1 (by simp; omega)); clear a1
  go_wp2_with fail
  obtain ⟨wf, hwf⟩ : ∃ wf, wf = ((((((w1.setCell ⟨w.heap.size + 1, 0, none⟩ (.slice D1 j.table.tracked.length E1)).setCell ⟨w.heap.size + 1, 1, none⟩ (.slice D2 j.table.patterns.length E2)).setCell ⟨w.heap.size + 1, 2, none⟩ (.slice D3 j.table.distances.length E3)).setCell ⟨w.heap.size + 1, 3, none⟩ (.int .i64 j.next)).setCell ⟨w.heap.size + 1, 4, none⟩ (.string j.log)).setCell ⟨w.heap.size + 1, 5, none⟩ (.int .i64 j.synced)) := ⟨_, rfl⟩
  rw [← hwf] at Yf kf ⊢
  simp only [List.set] at Yf
  clear hwf g0 q0 g1 q1 g2 q2 g3 q3 g4 q4 g5 q5
  have z0 := Yf.cell 0 rfl
  have z1 := Yf.cell 1 rfl
  have z2 := Yf.cell 2 rfl
  have z3 := Yf.cell 3 rfl
  have z4 := Yf.cell 4 rfl
  have z5 := Yf.cell 5 rfl
  refine bodyPost_ret (v := .agg #[.slice D1 j.table.tracked.length E1, .slice D2 j.table.patterns.length E2, .slice D3 j.table.distances.length E3, .int .i64 j.next, .string j.log, .int .i64 j.synced]) (by simp [results, Try.results70, go_sem, z0, z1, z2, z3, z4, z5]) rfl ⟨_, _, _, fs, rfl, HT.out.only kf hd, K1.then_ kf (by simp)⟩
set_option maxHeartbeats 4000000 in
theorem expand28_acc (cs : List Value) (x : Puzzle) (fp : List Nat) (c1 c2 c3 : Value) (tr : List Int) (ps : List (List Int)) (ds : List Int) (n : Nat) (lg : ByteArray) (sy : Int) (g1 g2 g3 : List Nat) (w : World) (h : Rp.rep w cs x fp)
    (k1 : Rd w c1 tr g1) (k2 : Rd w c2 ps g2) (k3 : Rd w c3 ds g3) (hsy : I64 sy) (hc : CanF x ⟨⟨tr, ps, ds⟩, (n : Int), lg, sy⟩ n) :
    Calls Try.prog 54 #[.agg cs.toArray, .agg #[c1, c2, c3, .int .i64 n, .string lg, .int .i64 sy]] w fun e w' => ∃ v1 v2 v3 fs, e = .returned (.agg #[v1, v2, v3, .int .i64 (expandF x ⟨⟨tr, ps, ds⟩, (n : Int), lg, sy⟩).next, .string (expandF x ⟨⟨tr, ps, ds⟩, (n : Int), lg, sy⟩).log, .int .i64 (expandF x ⟨⟨tr, ps, ds⟩, (n : Int), lg, sy⟩).synced]) ∧ TB w.heap.size w' v1 v2 v3 (expandF x ⟨⟨tr, ps, ds⟩, (n : Int), lg, sy⟩).table fs ∧ Only [] w w' := by
  have hh := h
  obtain ⟨v2, rfl, p0, p1, h2⟩ := h
  obtain ⟨A0, C0, _, _, rfl, -, -⟩ := h2.open_
  have hlt : n < ps.length := hc.lt
  have hle : ps.length ≤ 3000 := hc.le
  have Hln := Lib.hid (show ds.length = ps.length from hc.ln)
  have hlg : lg.size ≤ 2000000 := hc.lg
  have hrep : Rp.rep w [c1, c2, c3, .int .i64 n, .string lg, .int .i64 sy] (⟨⟨tr, ps, ds⟩, (n : Int), lg, sy⟩ : FillJob) (g1 ++ (g2 ++ g3)) :=
    ⟨[c1, c2, c3], rfl, by unfold I64; show -9223372036854775808 ≤ (n : Int) ∧ (n : Int) ≤ 9223372036854775807; omega, by show lg.size ≤ maxLen; unfold maxLen; omega, hsy, ⟨_, _, _, _, _, _, rfl, rfl, k1, k2, k3⟩⟩
  obtain ⟨A1, C1, _, _, rfl, -⟩ := k1.open_
  obtain ⟨A2, C2, ob, fps, rfl, -, S2⟩ := k2.open_
  obtain ⟨A3, C3, rfl, I3⟩ := k3.ints
  obtain ⟨b, off, u, rfl, -, hrow, hu⟩ := S2.atRow n hlt
  obtain ⟨A4, C4, rfl, I4⟩ := hu.ints
  have hM : midT (⟨tr, ps, ds⟩ : Table) := hc.mid
  have HC := Lib.hid hc; clear hc
  have hn1 : (0 : Int) ≤ (n : Int) := by omega
  have hn2 : (n : Int) < (ps.length : Int) := by omega
  have k0 : Only [] w (((w.alloc (.cells #[.int .i64 x.points, .string x.names, .slice A0 x.moves.length C0] 26)).alloc (.cells #[.slice A1 tr.length C1, .slice (some ⟨b, off, none⟩) ps.length C2, .slice A3 ds.length C3, .int .i64 n, .string lg, .int .i64 sy] 57)).alloc (.cells #[.slice none 0 0, .slice none 0 0, .slice none 0 0, .int .i64 0, .string ⟨#[]⟩, .int .i64 0] 57)) := (((Only.refl _ _).alloc _).alloc _).alloc _
  obtain ⟨W0, hW0⟩ : ∃ W0, W0 = (((w.alloc (.cells #[.int .i64 x.points, .string x.names, .slice A0 x.moves.length C0] 26)).alloc (.cells #[.slice A1 tr.length C1, .slice (some ⟨b, off, none⟩) ps.length C2, .slice A3 ds.length C3, .int .i64 n, .string lg, .int .i64 sy] 57)).alloc (.cells #[.slice none 0 0, .slice none 0 0, .slice none 0 0, .int .i64 0, .string ⟨#[]⟩, .int .i64 0] 57)) := ⟨_, rfl⟩
  have B0 : Blk W0 w.heap.size [.int .i64 x.points, .string x.names, .slice A0 x.moves.length C0] := by rw [hW0]; exact Blk.keep (Blk.keep (Blk.new_at rfl) ((Only.refl _ _).alloc _)) ((Only.refl _ _).alloc _)
  have B1 : Blk W0 (w.heap.size + 1) [.slice A1 tr.length C1, .slice (some ⟨b, off, none⟩) ps.length C2, .slice A3 ds.length C3, .int .i64 n, .string lg, .int .i64 sy] := by rw [hW0]; exact Blk.keep (Blk.new_at (by simp)) ((Only.refl _ _).alloc _)
  have B2 : Blk W0 (w.heap.size + 2) [.slice none 0 0, .slice none 0 0, .slice none 0 0, .int .i64 0, .string ⟨#[]⟩, .int .i64 0] := by rw [hW0]; exact Blk.new_at (by simp)
  have hz0 : W0.heap.size = w.heap.size + 3 := by rw [hW0]; simp
  rw [← hW0] at k0
  have HW := Lib.hid hW0; clear hW0
  have hB0 := Lib.hid B0; have hB1 := Lib.hid B1; have hB2 := Lib.hid B2
  clear B0 B1 B2
  go_enter Try.func54, Try.ntmps54
  go_wp2_with fail
  rw [← HW.out]
  with_reducible refine (copyFillB_any [.slice A1 tr.length C1, .slice (some ⟨b, off, none⟩) ps.length C2, .slice A3 ds.length C3, .int .i64 n, .string lg, .int .i64 sy] (⟨⟨tr, ps, ds⟩, (n : Int), lg, sy⟩ : FillJob) _ _ (Rp.keep hrep k0) hM).mono ?_
  rintro e w1 ⟨o1, o2, o3, fs, rfl, hTB, t1⟩
  have hT := hTB.ta
  obtain ⟨D1, E1, rfl⟩ := hTB.tk.form
  obtain ⟨f1, hf1⟩ : ∃ f, f = (Value.slice D1 tr.length E1).ownBlock.toList := ⟨_, rfl⟩
  have hTk := hTB.tk
  clear hTB
  simp only at hT hTk
  rw [← hf1] at hT
  have Hf1 := Lib.hid hf1
  clear hf1
  obtain ⟨D2, E2, rfl⟩ := hT.pt.form
  obtain ⟨D3, E3, rfl⟩ := hT.dt.form
  have t1s := t1.size
  have B0 := (hB0.out.keep t1).keep ((Only.refl [] w1).alloc (.cells #[.slice D1 tr.length E1, .slice D2 ps.length E2, .slice D3 ds.length E3, .int .i64 n, .string lg, .int .i64 sy] 57))
  have B1 := (hB1.out.keep t1).keep ((Only.refl [] w1).alloc (.cells #[.slice D1 tr.length E1, .slice D2 ps.length E2, .slice D3 ds.length E3, .int .i64 n, .string lg, .int .i64 sy] 57))
  have c10 := B1.cell 0 rfl
  have c11 := B1.cell 1 rfl
  have c13 := B1.cell 3 rfl
  have c00 := B0.cell 0 rfl
  have c01 := B0.cell 1 rfl
  have c02 := B0.cell 2 rfl
  have hrow1 := ((k0.trans t1).trans ((Only.refl [] w1).alloc (.cells #[.slice D1 tr.length E1, .slice D2 ps.length E2, .slice D3 ds.length E3, .int .i64 n, .string lg, .int .i64 sy] 57))).cell (by simp) hrow
  go_wp2_with fail
  have ka1 : Only [] w1 (w1.alloc (.cells #[.slice D1 tr.length E1, .slice D2 ps.length E2, .slice D3 ds.length E3, .int .i64 n, .string lg, .int .i64 sy] 57)) := (Only.refl _ _).alloc _
  have K1 : Only [] w w1 := k0.trans t1
  with_reducible refine (specLetters_any [.int .i64 x.points, .string x.names, .slice A0 x.moves.length C0] x _ _ (Rp.keep hh (K1.trans ka1)) HC.out.vp).mono ?_
  rintro e w2 ⟨u7, f7, rfl, r7, F7, t7⟩
  obtain ⟨ls, hls⟩ : ∃ ls, ls = ltrs x.moves.length := ⟨_, rfl⟩
  rw [← hls] at r7
  have hll : ls.length ≤ 1000 := by rw [hls, ltrs_len]; have := (validPz_facts HC.out.vp).2.2.1; omega
  have hlm : ∀ a ∈ ls, a ∈ ltrs x.moves.length := fun a ha => by rw [← hls]; exact ha
  obtain ⟨A7, C7, rfl, I7⟩ := r7.ints
  have Hls := Lib.hid hls
  have Hlm := Lib.hid hlm
  clear hls hlm
  have q0 : patB x.points tr.length ps[n] = true := HC.out.ps _ (List.getElem_mem hlt)
  obtain ⟨q, hq⟩ : ∃ q, q = ps[n] := ⟨_, rfl⟩
  rw [← hq] at q0 hrow hrow1 hu I4 ⊢
  have Hq := Lib.hid hq
  have Hq0 := Lib.hid q0
  clear hq q0
  have hnd : n < ds.length := by have := Hln.out; omega
  obtain ⟨d0, hd0⟩ : ∃ d0, d0 = ds[n] := ⟨_, rfl⟩
  have hd0r : 0 ≤ d0 ∧ d0 ≤ 3000 := by rw [hd0]; exact HC.out.ds _ (List.getElem_mem hnd)
  obtain ⟨b3, o3, rfl, -, hdc⟩ := I3.at_ n hnd
  rw [← hd0] at hdc
  have Hd0 := Lib.hid hd0
  have hd0a := hd0r.1
  have hd0b := hd0r.2
  have hwd : IntKind.i64.wrap (d0 + 1) = d0 + 1 := by rw [IntKind.wrap_i64]; omega
  clear hd0 hd0r
  obtain ⟨W, hW⟩ : ∃ W, W = w2.alloc (.cells #[] 27) := ⟨_, rfl⟩
  have kW2 : Only [] w2 W := by rw [hW]; exact (Only.refl _ _).alloc _
  have k1W : Only [] w1 W := (ka1.trans t7).trans kW2
  have BO : Blk W w1.heap.size [.slice D1 tr.length E1, .slice D2 ps.length E2, .slice D3 ds.length E3, .int .i64 n, .string lg, .int .i64 sy] := (Blk.keep (Blk.keep (Blk.new w1 [.slice D1 tr.length E1, .slice D2 ps.length E2, .slice D3 ds.length E3, .int .i64 n, .string lg, .int .i64 sy] 57) t7) kW2)
  have hz7 := t7.size
  simp at hz7
  have hAW : Acc w.heap.size 27 W (.slice (some ⟨w2.heap.size, 0, none⟩) 0 0) ([] : List (List Int)) [] := by rw [hW]; exact Acc.made _ _ _ rfl (by have := K1.size; omega)
  have KW : Only [] w W := K1.trans k1W
  have BW0 := (hB0.out.keep t1).keep k1W
  have BW1 := (hB1.out.keep t1).keep k1W
  have BW2 := (hB2.out.keep t1).keep k1W
  have RW7 := Rp.keep r7 kW2
  have RW1 := Rp.keep hT.tk k1W
  obtain ⟨ex, hex⟩ : ∃ ex, ex = [w.heap.size, w.heap.size + 1, w.heap.size + 2] ++ (f1 ++ f7) := ⟨_, rfl⟩
  have hx0 : w.heap.size ∈ ex := by rw [hex]; simp
  have hx1 : w.heap.size + 1 ∈ ex := by rw [hex]; simp
  have hx2 : w.heap.size + 2 ∈ ex := by rw [hex]; simp
  have hxf1 : ∀ b ∈ f1, b ∈ ex := fun b hb => by rw [hex]; exact List.mem_append_right _ (List.mem_append_left _ hb)
  have hxf7 : ∀ b ∈ f7, b ∈ ex := fun b hb => by rw [hex]; exact List.mem_append_right _ (List.mem_append_right _ hb)
  have hfr := hT.fr
  have F1 := hfr.left
  have hK1s := t1.size
  have hexp : ∀ b ∈ ex, b < W.heap.size ∧ b ≠ w1.heap.size ∧ b ≠ w2.heap.size ∧ b ∉ (Value.slice D2 ps.length E2).ownBlock.toList ∧ b ∉ (Value.slice D3 ds.length E3).ownBlock.toList := fun b hb => by
    have hWs : W.heap.size = w2.heap.size + 1 := by rw [hW]; simp
    have l2 : ∀ b ∈ (Value.slice D2 ps.length E2).ownBlock.toList, W0.heap.size ≤ b ∧ b < w1.heap.size := fun b hb => hT.pt.ownlt b (by simpa using hb)
    have l3 : ∀ b ∈ (Value.slice D3 ds.length E3).ownBlock.toList, W0.heap.size ≤ b ∧ b < w1.heap.size := fun b hb => hT.dt.ownlt b (by simpa using hb)
    rw [hex] at hb
    rcases List.mem_append.1 hb with hb | hb
    · have hb3 : b ≤ w.heap.size + 2 := by simp at hb; omega
      exact ⟨by omega, by omega, by omega, fun hm => by have := l2 b hm; omega, fun hm => by have := l3 b hm; omega⟩
    · rcases List.mem_append.1 hb with hb | hb
      · have := F1.lt b hb
        refine ⟨by omega, by omega, by omega, fun hm => ?_, fun hm => ?_⟩
        · exact (List.nodup_append.1 hfr.nd).2.2 b hb b (List.mem_append_left _ (List.mem_append_left _ hm)) rfl
        · exact (List.nodup_append.1 hfr.nd).2.2 b hb b (List.mem_append_right _ hm) rfl
      · have h1 := F7.ge b hb
        have h2 := F7.lt b hb
        simp at h1
        exact ⟨by omega, by omega, by omega, fun hm => by have := l2 b hm; omega, fun hm => by have := l3 b hm; omega⟩
  have X0 : XX w w1.heap.size (.slice D1 tr.length E1) (.int .i64 n) (.string lg) (.int .i64 sy) ps ds [] W (.slice D2 ps.length E2) (.slice D3 ds.length E3) (.slice (some ⟨w2.heap.size, 0, none⟩) 0 0) fs [] ex W :=
    XX.start hT (by omega) K1 k1W BO (Nat.le_refl _) hAW (by omega) hexp
  have hf1fs : ∀ b ∈ f1, b ∉ fs.flatten := fun b hb hm => (List.nodup_append.1 hfr.nd).2.2 b hb b (List.mem_append_left _ (List.mem_append_right _ hm)) rfl
  have hf1l : ∀ b ∈ f1, b < W.heap.size := fun b hb => (hexp b (hxf1 b hb)).1
  have hf1g : ∀ b ∈ f1, w.heap.size + 3 ≤ b := fun b hb => by have := F1.ge b hb; omega
  obtain ⟨fx, hfx⟩ : ∃ fx, fx = (w.heap.size + 2) :: f1 := ⟨_, rfl⟩
  have hxfx : ∀ b ∈ fx, b ∈ ex := fun b hb => by
    rw [hfx] at hb
    rcases List.mem_cons.1 hb with rfl | hb
    · exact hx2
    · exact hxf1 b hb
  have hfxfs : ∀ b ∈ fx, b ∉ fs.flatten := fun b hb hm => by
    rw [hfx] at hb
    rcases List.mem_cons.1 hb with rfl | hb
    · have := hfr.right.left.right.ge _ hm; omega
    · exact hf1fs b hb hm
  have Hfx := Lib.hid hfx
  clear hfx
  have F1W := (F1.keep k1W).mono (show w.heap.size ≤ W0.heap.size by omega)
  clear hex hexp hT hAW BO hfr F1 F7 t7 ka1 I7
  obtain ⟨iL, hiL, hL0, hL1, hL2⟩ := info_parts Try.info22
  obtain ⟨iI, hiI, hzI0, hzI1, hzI2⟩ := info_parts Try.info2
  have HTk := Lib.hid (hTk.keep k1W)
  clear hTk
  have HWW := Lib.hid hW
  clear hW
  go_wp2_with fail
  rw [← HWW.out]
  go_loopw [8, 9] (fun o i wr => ∃ (j : Nat) (L2 a : List (List Int)) (L3 : List Int) (u2 u3 : Value) (gs fa : List (List Nat)), j ≤ ls.length ∧ i = .int .i64 j ∧ a = addL x ps q (ls.take j) [] ∧ L2 = ps ++ a ∧ L3 = ds ++ List.replicate a.length (d0 + 1) ∧ (∀ b ∈ fx, b ∉ gs.flatten) ∧ XX w w1.heap.size (.slice D1 tr.length E1) (.int .i64 n) (.string lg) (.int .i64 sy) L2 L3 a wr u2 u3 o gs fa ex W)
    (fun _ i _ => ls.length - (intOf i).toNat)
  case atStart => exact ⟨0, ps, [], ds, _, _, fs, [], Nat.zero_le _, rfl, by simp [addL], by simp, by simp, hfxfs, X0⟩
  case round =>
    obtain ⟨W2, hnew⟩ : ∃ W, W = wr := ⟨_, rfl⟩
    subst hnew
    obtain ⟨j, L2, a, L3, u2, u3, gs, fa, hj, rfl, ha, hL2, hL3, hgf, hX⟩ := hrel
    have hal : a.length ≤ 1000 := by
      have h1 := (addL_pre x ps q (ls.take j) []).2
      rw [ha]
      simp only [List.length_nil, List.length_take] at h1
      omega
    have hl2 : L2.length ≤ 4000 := by rw [hL2, List.length_append]; omega
    have hl3 : L3.length ≤ 4000 := by rw [hL3, List.length_append, List.length_replicate]; have := Hln.out; omega
    have Ha := Lib.hid ha
    have HL2 := Lib.hid hL2
    have HL3 := Lib.hid hL3
    clear ha hL2 hL3 X0
    have hBW : w.heap.size ≤ W2.heap.size := hX.on.size
    obtain ⟨P2, Q2, rfl⟩ := hX.pt.form
    obtain ⟨P3, Q3, rfl⟩ := hX.dt.form
    obtain ⟨P8, Q8, rfl⟩ := hX.ad.form
    have y0 := hX.blk_ex hx0 BW0
    have y1 := hX.blk_ex hx1 BW1
    by_cases hlj : j < ls.length
    · have RW7' : Rd W2 (.slice A7 ls.length C7) ls f7 := hX.held RW7 hxf7
      obtain ⟨a7, c7, he7, I7⟩ := RW7'.ints
      injection he7 with e1 _ e2
      subst e1
      subst e2
      obtain ⟨b7, o7, rfl, -, -⟩ := I7.at_ j hlj
      have hcap := I7.len
      have hcj : ¬ C7 = j := by omega
      have hjc : (j : Int) + 1 ≤ (C7 : Int) := by omega
      have hj0 : (0 : Int) ≤ (j : Int) := by omega
      have hj1 : (j : Int) ≤ (C7 : Int) := by omega
      have hj2 : (j : Int) ≤ (j : Int) + 1 := by omega
      have hj3 : (0 : Int) ≤ (j : Int) + 1 := by omega
      have hj4 : (j : Int) < (ls.length : Int) := by omega
      have hwj : IntKind.i64.wrap ((j : Int) + 1) = (j : Int) + 1 := by rw [IntKind.wrap_i64]; omega
      have I1 := (I7.drop_ (k := j) (by omega)).take 1
      have e1 : (ls.drop j).take 1 = [ls[j]] := by rw [List.drop_eq_getElem_cons hlj]; rfl
      rw [e1] at I1
      have R1 := I1.rd
      have hlmj := Hlm.out ls[j] (List.getElem_mem hlj)
      have HcP := Lib.hid (fun (V : World) (hV : Only [] W2 V) => specPatternAfter_any [.int .i64 x.points, .string x.names, .slice A0 x.moves.length C0] x fp (.slice A1 tr.length C1) (.slice A4 q.length C4) (.slice (some ⟨b7, o7 + j, none⟩) 1 (C7 - j)) tr q [ls[j]] _ _ _ V (Rp.keep hh (hX.on.trans hV)) (Rp.keep k1 (hX.on.trans hV)) (Rp.keep I4.rd (hX.on.trans hV)) (Rp.keep R1 hV) HC.out.vp HC.out.tr Hq0.out (by intro z hz; simp at hz; subst hz; exact hlmj) (by simp))
      obtain ⟨y, hy⟩ : ∃ y, y = nxt x q ls[j] := ⟨_, rfl⟩
      have Hy := Lib.hid hy
      have Hyp := Lib.hid (show patB x.points tr.length y = true by rw [hy]; exact nxt_pat HC.out.vp Hq0.out hlmj)
      clear hy hlmj e1 I1 R1
      have x00 := y0.cell 0 rfl
      have x01 := y0.cell 1 rfl
      have x02 := y0.cell 2 rfl
      have x10 := y1.cell 0 rfl
      go_upto_region 8 with fail
      go_region_held3 (fun w' => Only [] W2 w' ∧ w'.cell? ⟨w.heap.size, 0, none⟩ = some (Value.int .i64 x.points) ∧ w'.cell? ⟨w.heap.size, 1, none⟩ = some (Value.string x.names) ∧ w'.cell? ⟨w.heap.size, 2, none⟩ = some (.slice A0 x.moves.length C0) ∧ w'.cell? ⟨w.heap.size + 1, 0, none⟩ = some (.slice A1 tr.length C1)) ((refine and_of ?_ (fun h__ => ⟨h__.cell (by simp) x00, h__.cell (by simp) x01, h__.cell (by simp) x02, h__.cell (by simp) x10⟩); first | with_reducible exact (Only.refl _ _).drew | with_reducible exact Only.keepThen (And.left (by assumption)) (by assumption))) (first
        | (go_at_call 72; (with_reducible refine (HcP.out _ (And.left (by assumption))).mono ?_); rintro e w3 ⟨uy, fy, rfl, ry, Fy, t3⟩; have ry' : Rd w3 uy y fy := (by rw [Hy.out]; exact ry); obtain ⟨Ay, Cy, rfl, Iy⟩ := ry'.ints; clear ry)
        | fail "no arm")
      have KA : Only [] W2 w3 := ((Only.refl [] _).drew).trans t3
      have hfy : ∀ b ∈ fy, W2.heap.size ≤ b ∧ b < w3.heap.size := fun b hb => ⟨by have := Fy.ge b hb; simpa using this, Fy.lt b hb⟩
      have X3 := hX.hold KA hfy
      have z1 := X3.blk.cell 1 rfl
      have hat := addL_take x ps q ls j hlj
      rw [← Hy.out, ← Ha.out, ← HL2.out] at hat
      by_cases hm : y ∈ L2
      · rw [if_pos hm] at hat
        have Hat := Lib.hid hat
        have hge := idxL_ge hm
        have hnl : ¬ (idxL L2 y < 0) := by omega
        clear hat hm
        go_wp2_with (first
          | (go_at_call 73; (with_reducible refine (indexOfList_rd (.slice P2 L2.length Q2) (.slice Ay y.length Cy) L2 y _ _ _ (X3.pt.rd (by decide)) Iy.rd).mono ?_); rintro e w4 ⟨rfl, n4, rfl⟩)
          | fail "no arm")
        go_roundw
        case rel => exact ⟨j + 1, L2, a, L3, _, _, gs, fa, by omega, by go_num, Hat.out.symm, HL2.out, HL3.out, hgf, (hX.keep KA).keep ((Only.refl [] _).drewN _)⟩
        case measure => simp [intOf]; omega
      · rw [if_neg hm] at hat
        have Hat := Lib.hid hat
        have hnl : idxL L2 y < 0 := idxL_neg hm
        clear hat hm
        have hap4 : ∀ b ∈ fy, (Value.slice P2 L2.length Q2).ownBlock ≠ some b := fun b hb he => (X3.ro b (List.mem_append_right _ (List.mem_append_right _ hb))).2 _ (List.mem_of_getElem? (i := 1) rfl) (by rw [he]; simp)
        have hap8 : ∀ b ∈ fy, b ∉ gs.flatten := fun b hb hm => by have := hX.pt.lt b hm; have := (hfy b hb).1; omega
        have hf9 : ∀ b ∈ fy, b ∈ ex ++ fy ∧ b ∉ gs.flatten := fun b hb => ⟨List.mem_append_right _ hb, hap8 b hb⟩
        have hlq : L2.length + 1 ≤ 1073741824 := by omega
        have hlr : L3.length + 1 ≤ 1073741824 := by omega
        have hla : a.length + 1 ≤ 1073741824 := by omega
        have Fy3 : Fresh w.heap.size w3 fy := Fy.mono (by simp; omega)
        have hgfy : ∀ b ∈ fx, b ∉ (gs ++ [fy]).flatten := fun b hb hm => by
          rw [List.flatten_append] at hm
          rcases List.mem_append.1 hm with hm | hm
          · exact hgf b hb hm
          · have h1 := (hX.ro b (List.mem_append_right _ (hxfx b hb))).1
            have h2 := (hfy b (by simpa using hm)).1
            omega
        have y13 := y1.keep KA
        have hdrop : ∀ b ∈ ex, w3.heap[b]? = W.heap[b]? := fun b hb => (KA.block b (hX.ro b (List.mem_append_right _ hb)).1 (by simp)).trans (hX.kp b hb)
        have HX3 := Lib.hid X3
        have Hgfy := Lib.hid hgfy
        have Hry := Lib.hid Iy.rd
        clear X3 hX hgf hgfy Iy Fy t3
        go_upto_region 11 with (first
          | (go_at_call 73; (with_reducible refine (indexOfList_rd (.slice P2 L2.length Q2) (.slice Ay y.length Cy) L2 y _ _ _ (HX3.out.pt.rd (by decide)) Hry.out).mono ?_); rintro e w4 ⟨rfl, t4⟩; have k4 : Only [] w3 w4 := (let ⟨n, hn⟩ := t4; hn ▸ (Only.refl [] w3).drewN n); clear t4; have X4 := HX3.out.keep k4; have z41 := X4.blk.cell 1 rfl; have kl4 : Only [] w4 (w4.alloc (.cells #[.slice Ay y.length Cy] 27)) := (Only.refl _ _).alloc _; have X4a := X4.keep kl4; have z41a := X4a.blk.cell 1 rfl; have ry4 := Rp.keep (Rp.keep Hry.out k4) kl4; have F4a := (Fy3.keep k4).keep kl4; have hB4 : w.heap.size ≤ w4.heap.size := X4.on.size; have A4p := X4.pt; have HX4a := Lib.hid X4a; clear X4 X4a)
          | (at_builtin; refine wpList_push2w rfl _ _ 24 rfl w.heap.size 27 iL _ 24 Try.underlying24 hiL hL0 hL1 hL2 rfl (by decide) (by decide) w4 (.slice P2 L2.length Q2) L2 gs rfl A4p kl4 hB4 w4.heap.size 1 [.slice Ay y.length Cy] y fy rfl (lit_src w4 [.slice Ay y.length Cy] _ rfl) (by intro u hu; simp at hu; subst hu; rfl) ry4 hap4 hlq ?_; intro v9 w9 hA9 hO9 hP9 hQ9 hN9; obtain ⟨a9, n9, c9, rfl⟩ : ∃ a n c, v9 = Value.slice a n c := (let ⟨a, c, hh⟩ := hA9.form; ⟨a, _, c, hh⟩); have B9 := HX4a.out.blk.only hO9 (fun hm => HX4a.out.fam.disj 0 1 (by decide) rfl rfl _ (by simp) hm); have z9 := B9.cell 1 rfl; have p9 := B9.frozen 1; have X5 := HX4a.out.push2 hA9 hO9 hN9 hf9 F4a)
          | fail "no arm")
        obtain ⟨W5, hW5⟩ : ∃ W5, W5 = w9.setCell ⟨w1.heap.size, 1, none⟩ (.slice a9 n9 c9) := ⟨_, rfl⟩
        rw [← hW5] at X5
        rw [← hW5]
        have y15 := X5.blk_ex (List.mem_append_left _ hx1) y13
        have d5 := X5.on.cell (p := ⟨b3, o3 + n, none⟩) (by simp) hdc
        have kl5 : Only [] W5 (W5.alloc (.cells #[.int .i64 (d0 + 1)] 2)) := (Only.refl _ _).alloc _
        have e2 := X5.blk.cell 2 rfl
        have e2a := kl5.cell (by simp) e2
        have j2 := y15.cell 2 rfl
        have j3 := y15.cell 3 rfl
        have hB5 : w.heap.size ≤ W5.heap.size := X5.on.size
        have HId := Lib.hid (show I64 (d0 + 1) by unfold I64; omega)
        have HX5 := Lib.hid X5
        have hnd1 : (n : Int) < (ds.length : Int) := by omega
        clear hW5 X5 B9 z9 p9 z41 z41a hA9 hO9 hP9 hQ9 hN9 ry4 A4p y15
        go_cut [] (fun wx => ∃ u3', XX w w1.heap.size (.slice D1 tr.length E1) (.int .i64 n) (.string lg) (.int .i64 sy) (L2 ++ [y]) (L3 ++ [d0 + 1]) a wx (.slice a9 n9 c9) u3' (.slice P8 a.length Q8) (gs ++ [fy]) fa (ex ++ fy) w3)
        case first =>
          go_region_law (first
            | (refine step_pushI rfl _ _ 27 rfl w.heap.size 2 iI _ Try.underlying27 hiI hzI0 hzI1 hzI2 rfl W5 (.slice P3 L3.length Q3) L3 rfl HX5.out.dt (by with_reducible repeat (first | exact Only.refl _ _ | assumption | refine Only.drewN ?_ _ | refine Only.drew ?_ | refine Only.alloc ?_ _ | refine Only.setCell ?_ (by intro hh; exfalso; simp at hh; try omega) _ | refine Only.trans ?_ (by assumption))) hB5 _ 1 (d0 + 1) rfl (lit1 W5 _ _ rfl) HId.out hlr ?_; intro v10 w10 hA10 hO10 hN10; obtain ⟨a10, n10, c10, rfl⟩ : ∃ a n c, v10 = Value.slice a n c := (let ⟨a, c, hh⟩ := hA10.form; ⟨a, _, c, hh⟩); have EA := (HX5.out.keep kl5).keep ((Only.refl [] _).drew); have B10 := EA.blk.only hO10 (fun hm => EA.fam.disj 0 2 (by decide) rfl rfl _ (by simp) hm); have e4 := B10.cell 2 rfl; have p4 := B10.frozen 2)
            | fail "no arm")
          all_goals go_wp2_with fail
          all_goals go_meet
          all_goals exact ⟨_, EA.push3 hA10 hO10 hN10⟩
        case rest =>
          obtain ⟨W6, hnew⟩ : ∃ W, W = wc := ⟨_, rfl⟩
          subst hnew
          obtain ⟨u3', X6⟩ := hcut
          have kl6 : Only [] W6 (W6.alloc (.cells #[.slice Ay y.length Cy] 27)) := (Only.refl _ _).alloc _
          have ry6 : Rd (W6.alloc (.cells #[.slice Ay y.length Cy] 27)) (.slice Ay y.length Cy) y fy := Rp.keep (X6.held Hry.out (fun b hb => List.mem_append_right _ hb)) kl6
          have hB6 : w.heap.size ≤ W6.heap.size := X6.on.size
          have hap6 : ∀ b ∈ fy, (Value.slice P8 a.length Q8).ownBlock ≠ some b := fun b hb he => (X6.ro b (List.mem_append_right _ (List.mem_append_right _ hb))).2 _ (List.mem_of_getElem? (i := 3) rfl) (by rw [he]; simp)
          have A6 := X6.ad
          have HX6a := Lib.hid (X6.keep kl6)
          clear X6 d5 e2 e2a j2 j3
          go_wp2_with (first
            | (at_builtin; refine wpList_push2w rfl _ _ 24 rfl w.heap.size 27 iL _ 24 Try.underlying24 hiL hL0 hL1 hL2 rfl (by decide) (by decide) W6 (.slice P8 a.length Q8) a fa rfl A6 kl6 hB6 W6.heap.size 1 [.slice Ay y.length Cy] y fy rfl (lit_src W6 [.slice Ay y.length Cy] _ rfl) (by intro u hu; simp at hu; subst hu; rfl) ry6 hap6 hla ?_; intro v11 w11 hA11 hO11 hP11 hQ11 hN11)
            | fail "no arm")
          have X7 := (HX6a.out.pushA hA11 hO11 hN11 (fun b hb => List.mem_append_right _ hb)).drop hdrop
          go_roundw
          case rel => exact ⟨j + 1, L2 ++ [y], a ++ [y], L3 ++ [d0 + 1], _, _, gs ++ [fy], fa ++ [fy], by omega, by go_num, Hat.out.symm, by rw [HL2.out, List.append_assoc], by rw [HL3.out, List.append_assoc, List.length_append, List.length_singleton, List.replicate_succ'], Hgfy.out, X7⟩
          case measure => simp [intOf]; omega
    · obtain rfl : j = ls.length := by omega
      have hat := Ha.out
      rw [List.take_length] at hat
      have hrow28 : ∀ z ∈ a, z.length ≤ 100 := fun z hz => by
        rw [hat] at hz
        have h1 := addL_pat HC.out.vp Hq0.out ls [] Hlm.out (by simp) z hz
        have h2 := (patB_iff.1 h1).1
        have h3 := (trackB_iff.1 HC.out.tr).2.len
        have h4 := (validPz_facts HC.out.vp).2.1
        simp only at h3
        omega
      obtain ⟨rec, hrec⟩ : ∃ rec, rec = recB (n : Int) a := ⟨_, rfl⟩
      have hrs : rec.size ≤ 200000 := by
        rw [hrec]
        unfold recB recL
        rw [kB_size]
        have := flatten_len hrow28
        simp only [List.length_append, List.length_cons, List.length_nil]
        omega
      have hrm : rec.size ≤ maxLen := by unfold maxLen; omega
      have hcs := csum_rng rec
      obtain ⟨ck, hck⟩ : ∃ ck, ck = csum rec := ⟨_, rfl⟩
      rw [← hck] at hcs
      obtain ⟨c4, hc4⟩ : ∃ c4, c4 = nbB ck 4 := ⟨_, rfl⟩
      have hc4s : c4.size = 4 := by rw [hc4]; unfold nbB; rw [kB_size, nbL_len]
      have Hat := Lib.hid hat
      have Hrec := Lib.hid hrec
      have Hck := Lib.hid hck
      have Hc4 := Lib.hid hc4
      have HXe := Lib.hid hX
      have j3 := y1.cell 3 rfl
      have hn0 : (n : Int) ≤ 1000000 := by omega
      clear hat hrec hck hc4
      go_upto_region 14 with (first
        | (go_at_call 74; (with_reducible refine (l28Record_any (n : Int) (.slice P8 a.length Q8) a _ _ ((HXe.out.keep (by with_reducible repeat (first | exact Only.refl _ _ | assumption | refine Only.drewN ?_ _ | refine Only.drew ?_ | refine Only.alloc ?_ _ | refine Only.setCell ?_ (by intro hh; exfalso; simp at hh; try omega) _ | refine Only.trans ?_ (by assumption)))).ad.rd (by decide)) hn1 hn0 (by omega) hrow28).mono ?_); rintro e w3 ⟨he, t3⟩; rw [← Hrec.out] at he; subst he)
        | fail "no arm")
      have K3 : Only [] W2 w3 := (by with_reducible repeat (first | exact Only.refl _ _ | assumption | refine Only.drewN ?_ _ | refine Only.drew ?_ | refine Only.alloc ?_ _ | refine Only.setCell ?_ (by intro hh; exfalso; simp at hh; try omega) _ | refine Only.trans ?_ (by assumption)))
      have X3 := hX.keep K3
      have BO3 := X3.blk
      have b4 := BO3.cell 4 rfl
      have p4 := BO3.frozen 4
      have hs1 : ¬ (9223372036854775807 < lg.size + rec.size) := by omega
      have hs2 : ¬ (9223372036854775807 < (lg ++ rec).size + c4.size) := by rw [ByteArray.size_append]; omega
      have hs3 : ¬ (9223372036854775807 < lg.size + rec.size + c4.size) := by omega
      have Hc4s := Lib.hid hc4s
      clear hc4s
      go_cut [] (fun wx => Only [w1.heap.size] w3 wx ∧ Blk wx w1.heap.size [.slice D1 tr.length E1, .slice P2 L2.length Q2, .slice P3 L3.length Q3, .int .i64 n, .string ((lg ++ rec) ++ c4), .int .i64 sy])
      case first =>
        go_region_law (first
          | (go_simp; go_at_call 76; (with_reducible refine (specChecksum_any rec _ hrm).mono ?_); rintro e w4 ⟨he, t4⟩; rw [← Hck.out] at he; subst he; have k4 : Only [] w3 w4 := Only.trans (by with_reducible repeat (first | exact Only.refl _ _ | refine Only.drew ?_)) (let ⟨n, hn⟩ := t4; hn ▸ (Only.refl [] _).drewN n); have b44 := k4.cell (by simp) b4)
          | (go_simp; go_at_call 75; (with_reducible refine (l29Uint32_any ck _ hcs.1 hcs.2).mono ?_); rintro e w5 ⟨he, t5⟩; rw [← Hc4.out] at he; subst he; have k5 : Only [] w3 w5 := k4.trans (Only.trans (by with_reducible repeat (first | exact Only.refl _ _ | refine Only.drew ?_)) t5); have b45 := k5.cell (by simp) b4; have B5 := BO3.keep k5; have p45 := B5.frozen 4)
          | fail "no arm")
        all_goals go_wp2_with fail
        all_goals go_meet
        all_goals exact ⟨(k5.weaken _).setCell (by simp) _, B5.set 4 _⟩
      case rest =>
        obtain ⟨W4, hnew⟩ : ∃ W, W = wc := ⟨_, rfl⟩
        subst hnew
        obtain ⟨K4, BO4⟩ := hcut
        have hz1 : w.heap.size + 3 ≤ w1.heap.size := by omega
        have y14 := (y1.keep K3).only K4 (by simp; omega)
        have j34 := y14.cell 3 rfl
        have o34 := BO4.cell 3 rfl
        have f34 := BO4.frozen 3
        have hwn1 : IntKind.i64.wrap ((n : Int) + 1) = (n : Int) + 1 := by rw [IntKind.wrap_i64]; omega
        have B5 := BO4.set 3 (.int .i64 ((n : Int) + 1))
        simp only [List.set] at B5
        have k5 : Only [w1.heap.size] W4 (W4.setCell ⟨w1.heap.size, 3, none⟩ (.int .i64 ((n : Int) + 1))) := (Only.refl _ _).setCell (by simp) _
        have YR := (((HXe.out.blk_ex hx2 BW2).keep K3).only K4 (by simp; omega)).only k5 (by simp; omega)
        have a0 := B5.cell 0 rfl
        have a1 := B5.cell 1 rfl
        have a2 := B5.cell 2 rfl
        have a3 := B5.cell 3 rfl
        have a4 := B5.cell 4 rfl
        have a5 := B5.cell 5 rfl
        have g0 := YR.cell 0 rfl
        have q0 := YR.frozen 0
        have g1 := YR.cell 1 rfl
        have q1 := YR.frozen 1
        have g2 := YR.cell 2 rfl
        have q2 := YR.frozen 2
        have g3 := YR.cell 3 rfl
        have q3 := YR.frozen 3
        have g4 := YR.cell 4 rfl
        have q4 := YR.frozen 4
        have g5 := YR.cell 5 rfl
        have q5 := YR.frozen 5
        go_upto_region 16 with fail
        obtain ⟨W5, hW5⟩ : ∃ W5, W5 = W4.setCell ⟨w1.heap.size, 3, none⟩ (.int .i64 ((n : Int) + 1)) := ⟨_, rfl⟩
        rw [← hW5] at a0 a1 a2 a3 a4 a5 g0 q0 g1 q1 g2 q2 g3 q3 g4 q4 g5 q5 YR k5 B5
        rw [← hW5]
        clear hW5
        have Yf := ((((((YR.set 0 (.slice D1 tr.length E1)).set 1 (.slice P2 L2.length Q2)).set 2 (.slice P3 L3.length Q3)).set 3 (.int .i64 ((n : Int) + 1))).set 4 (.string ((lg ++ rec) ++ c4))).set 5 (.int .i64 sy))
        have kf : Only [w.heap.size + 2] W5 ((((((W5.setCell ⟨w.heap.size + 2, 0, none⟩ (.slice D1 tr.length E1)).setCell ⟨w.heap.size + 2, 1, none⟩ (.slice P2 L2.length Q2)).setCell ⟨w.heap.size + 2, 2, none⟩ (.slice P3 L3.length Q3)).setCell ⟨w.heap.size + 2, 3, none⟩ (.int .i64 ((n : Int) + 1))).setCell ⟨w.heap.size + 2, 4, none⟩ (.string ((lg ++ rec) ++ c4))).setCell ⟨w.heap.size + 2, 5, none⟩ (.int .i64 sy)) := (((((((Only.refl _ _).setCell (by simp) _).setCell (by simp) _).setCell (by simp) _).setCell (by simp) _).setCell (by simp) _).setCell (by simp) _)
        have XE := HXe.out
        have hT0 := XE.ta (XE.held RW1 hxf1) ⟨F1W.nd, F1W.ge, F1W.own.frame (fun b hb => XE.kp b (hxf1 b hb))⟩ (fun b hb => ⟨hxf1 b hb, hgf b (by rw [Hfx.out]; exact List.mem_cons_of_mem _ hb)⟩)
        have hfp : ∀ b ∈ (f1 ++ (((Value.slice P2 L2.length Q2).ownBlock.toList ++ gs.flatten) ++ (Value.slice P3 L3.length Q3).ownBlock.toList)), b ≠ w1.heap.size ∧ b ≠ w.heap.size + 2 := fun b hb => by
          have h2x := (XE.ro _ (List.mem_append_right _ hx2)).2
          rcases List.mem_append.1 hb with hb | hb
          · refine ⟨fun e => ?_, fun e => by have := hf1g b hb; omega⟩
            subst e
            exact (XE.ro _ (List.mem_append_right _ (hxf1 _ hb))).2 [w1.heap.size] (List.mem_of_getElem? (i := 0) rfl) (by simp)
          · rcases List.mem_append.1 hb with hb | hb
            · rcases List.mem_append.1 hb with hb | hb
              · refine ⟨fun e => ?_, fun e => ?_⟩
                · subst e; exact XE.fam.disj 0 1 (by decide) rfl rfl _ (by simp) hb
                · subst e; exact h2x _ (List.mem_of_getElem? (i := 1) rfl) hb
              · refine ⟨fun e => ?_, fun e => ?_⟩
                · subst e; exact (XE.ro _ (List.mem_append_left _ (List.mem_append_left _ hb))).2 [w1.heap.size] (List.mem_of_getElem? (i := 0) rfl) (by simp)
                · subst e; exact hgf _ (by rw [Hfx.out]; simp) hb
            · refine ⟨fun e => ?_, fun e => ?_⟩
              · subst e; exact XE.fam.disj 0 2 (by decide) rfl rfl _ (by simp) hb
              · subst e; exact h2x _ (List.mem_of_getElem? (i := 2) rfl) hb
        have hfg : ∀ b ∈ (f1 ++ (((Value.slice P2 L2.length Q2).ownBlock.toList ++ gs.flatten) ++ (Value.slice P3 L3.length Q3).ownBlock.toList)), b ∉ [w1.heap.size] := fun b hb hm => (hfp b hb).1 (by simpa using hm)
        have hfg2 : ∀ b ∈ (f1 ++ (((Value.slice P2 L2.length Q2).ownBlock.toList ++ gs.flatten) ++ (Value.slice P3 L3.length Q3).ownBlock.toList)), b ∉ [w.heap.size + 2] := fun b hb hm => (hfp b hb).2 (by simpa using hm)
        have a0T : AccI w.heap.size 2 W2 (.slice D1 tr.length E1) tr := (HTk.out.low2 (by omega)).frame (fun b hb => XE.kp b (hxf1 b (by rw [Hf1.out]; exact hb)))
        have T5 : TA w.heap.size W5 (.slice D1 tr.length E1) (.slice P2 L2.length Q2) (.slice P3 L3.length Q3) ⟨tr, L2, L3⟩ f1 gs := ((hT0.keep K3).only K4 hfg).only k5 hfg
        have hg1 : ∀ g', (Value.slice D1 tr.length E1).ownBlock = some g' → g' ∉ [w1.heap.size] := fun g' hg' => hfg g' (List.mem_append_left _ (by rw [Hf1.out, hg']; simp))
        have hg2' : ∀ g', (Value.slice D1 tr.length E1).ownBlock = some g' → g' ∉ [w.heap.size + 2] := fun g' hg' => hfg2 g' (List.mem_append_left _ (by rw [Hf1.out, hg']; simp))
        have a5T := ((a0T.keep K3).only K4 hg1).only k5 hg1
        have KO : Only [] w W5 := ((XE.on.trans K3).then_ K4 (fun b hb hl => by simp at hb; omega)).then_ k5 (fun b hb hl => by simp at hb; omega)
        have he : expandF x ⟨⟨tr, ps, ds⟩, (n : Int), lg, sy⟩ = ⟨⟨tr, L2, L3⟩, (n : Int) + 1, (lg ++ rec) ++ c4, sy⟩ := by
          have hnew : newF x ⟨⟨tr, ps, ds⟩, (n : Int), lg, sy⟩ = a := by
            unfold newF
            simp only [Int.toNat_natCast]
            rw [getD_get hlt, ← Hq.out, ← Hls.out, Hat.out]
          unfold expandF
          rw [hnew]
          simp only [Int.toNat_natCast]
          rw [getD_get hnd, ← Hd0.out, ← HL2.out, ← HL3.out]
          unfold recF
          rw [← Hrec.out, ← Hck.out, ← Hc4.out, ByteArray.append_assoc]
        have HE := Lib.hid he
        have HTf : TB w.heap.size W5 (.slice D1 tr.length E1) (.slice P2 L2.length Q2) (.slice P3 L3.length Q3) ⟨tr, L2, L3⟩ gs := TB.of (by rw [← Hf1.out]; exact T5) a5T
        have HT6 := Lib.hid HTf
        rw [Hf1.out] at hfg2
        have hfg2H := Lib.hid hfg2
        clear HTf T5 a5T hfg2 a0T
        have hI2 : I64 ((n : Int) + 1) := by unfold I64; omega
        have hsz : ((lg ++ rec) ++ c4).size ≤ maxLen := by rw [ByteArray.size_append, ByteArray.size_append, Hc4s.out]; unfold maxLen; omega
        clear he hfp XE hX
        go_wp2_with fail
        obtain ⟨wf, hwf⟩ : ∃ wf, wf = ((((((W5.setCell ⟨w.heap.size + 2, 0, none⟩ (.slice D1 tr.length E1)).setCell ⟨w.heap.size + 2, 1, none⟩ (.slice P2 L2.length Q2)).setCell ⟨w.heap.size + 2, 2, none⟩ (.slice P3 L3.length Q3)).setCell ⟨w.heap.size + 2, 3, none⟩ (.int .i64 ((n : Int) + 1))).setCell ⟨w.heap.size + 2, 4, none⟩ (.string ((lg ++ rec) ++ c4))).setCell ⟨w.heap.size + 2, 5, none⟩ (.int .i64 sy)) := ⟨_, rfl⟩
        rw [← hwf] at Yf kf ⊢
        simp only [List.set] at Yf
        clear hwf g0 q0 g1 q1 g2 q2 g3 q3 g4 q4 g5 q5
        have z0 := Yf.cell 0 rfl
        have z1 := Yf.cell 1 rfl
        have z2 := Yf.cell 2 rfl
        have z3 := Yf.cell 3 rfl
        have z4 := Yf.cell 4 rfl
        have z5 := Yf.cell 5 rfl
        refine bodyPost_ret (v := .agg #[.slice D1 tr.length E1, .slice P2 L2.length Q2, .slice P3 L3.length Q3, .int .i64 ((n : Int) + 1), .string ((lg ++ rec) ++ c4), .int .i64 sy]) (by simp [results, Try.results54, go_sem, z0, z1, z2, z3, z4, z5]) rfl ⟨.slice D1 tr.length E1, .slice P2 L2.length Q2, .slice P3 L3.length Q3, gs, by rw [HE.out], by rw [HE.out]; exact HT6.out.only kf hfg2H.out, KO.then_ kf (by simp)⟩
end Go.Proofs.Ytpkplmnpepkdaaa
