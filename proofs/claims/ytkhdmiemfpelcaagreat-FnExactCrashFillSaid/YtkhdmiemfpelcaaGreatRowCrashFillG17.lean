/- Fill jobs as the laws' walks want them: contracts on jobs, what they hold, counted. The program's RunFill. (Printed by mkfillimp10.py.) Fill jobs, the reference: RunFill. (Printed by mkfillspec9.py.) Fill jobs in plain words: the records of a log are replayed (law 31). Fill jobs, the reference: l28Replay. (Printed by mkfillspec10.py.) Fill jobs, the reference: CrashFill. (Printed by mkfillspec11.py.) -/
import Derived.Test.YtkhdmiemfpelcaaGreatRowCrashFillG16
import Derived.Deep.QuietTactic
import Derived.Deep.RegionHeld3
namespace Go.Proofs.YtkhdmiemfpelcaaGreat
open Go.RowKit
set_option maxRecDepth 10000

theorem tab_cnt_of {t : Table} {n : Nat} (h1 : t.tracked.length ≤ 20) (h2 : t.patterns.length ≤ n) (h3 : ∀ q ∈ t.patterns, q.length ≤ 20) (h4 : t.distances.length ≤ n) : Mk.cnt t ≤ 20 + n * 20 + n := by
  show cntL t.tracked + cntL t.patterns + cntL t.distances ≤ _
  have e1 := cntL_ints t.tracked
  have e2 := cntL_ints t.distances
  have e3 := cntL_rows h3
  have e4 : t.patterns.length * 20 ≤ n * 20 := Nat.mul_le_mul_right _ h2
  omega
theorem GoF.small {x : Puzzle} {j : FillJob} {n : Nat} (h : GoF x j n) : j.table.tracked.length ≤ 20 ∧ ∀ q ∈ j.table.patterns, q.length ≤ 20 := by
  have h1 := (trackB_iff.1 h.tr).2.len
  have h2 := (validPz_facts h.vp).2.1
  refine ⟨by omega, fun q hq => ?_⟩
  have := (patB_iff.1 (h.ps q hq)).1
  omega
theorem GoF.cnt {x : Puzzle} {j : FillJob} {n : Nat} (h : GoF x j n) : Mk.cnt j ≤ 100000 := by
  obtain ⟨h1, h2⟩ := h.small
  have h3 := tab_cnt_of (n := 4000) h1 (by have := h.le; omega) h2 (by have := h.le; have := h.ln; omega)
  exact Nat.le_trans h3 (by omega)
theorem noFill_cnt : Mk.cnt noFill = 0 := by simp [noFill, noTab, Mk.cnt, cntL]
theorem sm_fill {j : FillJob} (h : Sm.sm j) : j.table.tracked.length ≤ 2097152 := by
  obtain ⟨h5, -, -⟩ : Sm.sm j.table := h
  exact h5.1
/-- what a call that returns a job and a word leaves: the result's box, the word -/
def FK1 (W wx : World) (s8 s9 : Value) (o : FillJob × Bool) : Prop :=
  ∃ g Q0 R0 Q1 R1 Q2 R2 f, W.heap.size ≤ g ∧ s8 = .pointer (some ⟨g, 0, none⟩) ∧ s9 = .bool o.2 ∧ Blk wx g [.slice Q0 o.1.table.tracked.length R0, .slice Q1 o.1.table.patterns.length R1, .slice Q2 o.1.table.distances.length R2, .int .i64 o.1.next, .string o.1.log, .int .i64 o.1.synced] ∧ Rp.rep wx [.slice Q0 o.1.table.tracked.length R0, .slice Q1 o.1.table.patterns.length R1, .slice Q2 o.1.table.distances.length R2, .int .i64 o.1.next, .string o.1.log, .int .i64 o.1.synced] o.1 f ∧ Fresh W.heap.size wx f ∧ Only [] W wx
theorem FK1.of {W w5 : World} {o : FillJob × Bool} {g : Nat} {cs : List Value} {Q0 Q1 Q2 : Option Addr} {R0 R1 R2 : Nat} {f : List Nat} (hz : Blk w5 g cs) (hcs : cs.length = 6) (hK : Only [] W w5) (hr : Rp.rep w5 [.slice Q0 o.1.table.tracked.length R0, .slice Q1 o.1.table.patterns.length R1, .slice Q2 o.1.table.distances.length R2, .int .i64 o.1.next, .string o.1.log, .int .i64 o.1.synced] o.1 f) (hF : Fresh W.heap.size w5 f) (hg : g ∉ f) (hW : W.heap.size ≤ g) :
    FK1 W ((((((w5.setCell ⟨g, 0, none⟩ (.slice Q0 o.1.table.tracked.length R0)).setCell ⟨g, 1, none⟩ (.slice Q1 o.1.table.patterns.length R1)).setCell ⟨g, 2, none⟩ (.slice Q2 o.1.table.distances.length R2)).setCell ⟨g, 3, none⟩ (.int .i64 o.1.next)).setCell ⟨g, 4, none⟩ (.string o.1.log)).setCell ⟨g, 5, none⟩ (.int .i64 o.1.synced)) (.pointer (some ⟨g, 0, none⟩)) (.bool o.2) o := by
  have ho : Only [g] w5 ((((((w5.setCell ⟨g, 0, none⟩ (.slice Q0 o.1.table.tracked.length R0)).setCell ⟨g, 1, none⟩ (.slice Q1 o.1.table.patterns.length R1)).setCell ⟨g, 2, none⟩ (.slice Q2 o.1.table.distances.length R2)).setCell ⟨g, 3, none⟩ (.int .i64 o.1.next)).setCell ⟨g, 4, none⟩ (.string o.1.log)).setCell ⟨g, 5, none⟩ (.int .i64 o.1.synced)) := (((((((Only.refl _ _).setCell (by simp) _).setCell (by simp) _).setCell (by simp) _).setCell (by simp) _).setCell (by simp) _).setCell (by simp) _)
  have hnf : ∀ b ∈ f, b ∉ [g] := fun b hm1 hm => by simp at hm; subst hm; exact hg hm1
  have hb := ((((((hz.set 0 (.slice Q0 o.1.table.tracked.length R0)).set 1 (.slice Q1 o.1.table.patterns.length R1)).set 2 (.slice Q2 o.1.table.distances.length R2)).set 3 (.int .i64 o.1.next)).set 4 (.string o.1.log)).set 5 (.int .i64 o.1.synced))
  refine ⟨g, Q0, R0, Q1, R1, Q2, R2, f, hW, rfl, rfl, ?_, Rp.only hr ho hnf, hF.only ho hnf, hK.then_ ho (by intro b hm hl; simp at hm; omega)⟩
  obtain ⟨u0, u1, u2, u3, u4, u5, rfl⟩ : ∃ u0 u1 u2 u3 u4 u5, cs = [u0, u1, u2, u3, u4, u5] := by
    match cs, hcs with
    | [u0, u1, u2, u3, u4, u5], _ => exact ⟨u0, u1, u2, u3, u4, u5, rfl⟩
  simpa only [List.set] using hb
theorem FK1.of2 {W w5 : World} {o : FillJob × Bool} {g : Nat} {e : TypeId} {Q0 Q1 Q2 : Option Addr} {R0 R1 R2 : Nat} {f : List Nat} (hK : Only [] W w5) (hr : Rp.rep w5 [.slice Q0 o.1.table.tracked.length R0, .slice Q1 o.1.table.patterns.length R1, .slice Q2 o.1.table.distances.length R2, .int .i64 o.1.next, .string o.1.log, .int .i64 o.1.synced] o.1 f) (hF : Fresh W.heap.size w5 f) (hg : g = w5.heap.size) :
    FK1 W (w5.alloc (.cells #[.slice Q0 o.1.table.tracked.length R0, .slice Q1 o.1.table.patterns.length R1, .slice Q2 o.1.table.distances.length R2, .int .i64 o.1.next, .string o.1.log, .int .i64 o.1.synced] e)) (.pointer (some ⟨g, 0, none⟩)) (.bool o.2) o := by
  subst hg
  have ho : Only [] w5 (w5.alloc (.cells #[.slice Q0 o.1.table.tracked.length R0, .slice Q1 o.1.table.patterns.length R1, .slice Q2 o.1.table.distances.length R2, .int .i64 o.1.next, .string o.1.log, .int .i64 o.1.synced] e)) := (Only.refl _ _).alloc _
  exact ⟨_, Q0, R0, Q1, R1, Q2, R2, f, hK.size, rfl, rfl, Blk.new w5 _ e, Rp.keep hr ho, hF.keep ho, hK.trans ho⟩




end Go.Proofs.YtkhdmiemfpelcaaGreat

namespace Go.Proofs.YtkhdmiemfpelcaaGreat
open Go.RowKit
set_option maxRecDepth 10000
end Go.Proofs.YtkhdmiemfpelcaaGreat

namespace Go.Proofs.YtkhdmiemfpelcaaGreat
open Go.RowKit
set_option maxRecDepth 10000


end Go.Proofs.YtkhdmiemfpelcaaGreat

namespace Go.Proofs.YtkhdmiemfpelcaaGreat
open Go.RowKit
set_option maxRecDepth 10000

/-- the next step's log is the beginning of lg -/
def onF (x : Puzzle) (lg : ByteArray) (j : FillJob) : Prop := (stepF x j).2 = true ∧ (stepF x j).1.log.size ≤ lg.size ∧ (stepF x j).1.log = lg.extract 0 (stepF x j).1.log.size
open Classical in
/-- the replay: at most k records -/
noncomputable def repF (x : Puzzle) (lg : ByteArray) : Nat → FillJob → FillJob
  | 0, j => j
  | k + 1, j => if onF x lg j then repF x lg k (stepF x j).1 else j
noncomputable def crashJ (x : Puzzle) (j : FillJob) (kept : Int) : FillJob :=
  { repF x (j.log.extract 0 kept.toNat) 3001 (startF j.table.tracked) with synced := ((repF x (j.log.extract 0 kept.toNat) 3001 (startF j.table.tracked)).log.size : Int) }
noncomputable def crashF (x : Puzzle) (j : FillJob) (kept : Int) : FillJob × Bool := if validF x j = true ∧ inR kept j.synced j.log.size = true then (crashJ x j kept, true) else (noFill, false)
theorem repF_go {x : Puzzle} {lg : ByteArray} {j : FillJob} {k : Nat} (h : onF x lg j) : repF x lg (k + 1) j = repF x lg k (stepF x j).1 := by
  unfold repF
  rw [if_pos h]
  cases k <;> rfl
theorem repF_stop {x : Puzzle} {lg : ByteArray} {j : FillJob} {k : Nat} (h : ¬ onF x lg j) : repF x lg k j = j := by
  cases k with
  | zero => rfl
  | succ k => unfold repF; rw [if_neg h]
/-- the chain ends before 3001 steps -/
theorem onF_lt {x : Puzzle} {lg : ByteArray} {tr : List Int} {s : Int} {n : Nat} (h1 : (bTab x tr).isSome = true) (h2 : okF x tr n) (h : onF x lg (chF x tr s n)) : n < 3000 ∧ okF x tr (n + 1) ∧ (stepF x (chF x tr s n)).1 = chF x tr s (n + 1) := by
  obtain ⟨h3, h4⟩ := chF_step (s := s) h1 h2 h.1
  refine ⟨?_, h3, h4⟩
  have h5 := h3 n (by omega)
  have h6 := (chF_go (s := s) h1 h2).le
  have h7 : (chF x tr s n).table.patterns.length = (atF x tr n).table.patterns.length := rfl
  omega
end Go.Proofs.YtkhdmiemfpelcaaGreat

namespace Go.Proofs.YtkhdmiemfpelcaaGreat
open Go.RowKit
set_option maxRecDepth 10000

theorem rep_sync {w : World} {S0 S1 S2 : Value} {j : FillJob} {f : List Nat} {k : Int} (h : Rp.rep w [S0, S1, S2, .int .i64 j.next, .string j.log, .int .i64 j.synced] j f) (hk : I64 k) : Rp.rep w [S0, S1, S2, .int .i64 j.next, .string j.log, .int .i64 k] ({ j with synced := k } : FillJob) f := by
  obtain ⟨d0, hd0, b1, b2, b3, q3⟩ := h
  obtain ⟨x0, x1, x2, y0, y1, y2, rfl, hfe, m0, m1, m2⟩ := q3
  injection hd0 with e0 hd0
  injection hd0 with e1 hd0
  injection hd0 with e2 hd0
  subst e0
  subst e1
  subst e2
  exact ⟨_, rfl, b1, b2, hk, ⟨_, _, _, _, _, _, rfl, hfe, m0, m1, m2⟩⟩
set_option maxHeartbeats 4000000 in
theorem specReplay_any (cs dd : List Value) (x : Puzzle) (fp : List Nat) (tr : List Int) (J0 : FillJob) (sy : Int) (n0 : Nat) (f0 : List Nat) (lg : ByteArray) (B : Nat) (w : World) (h : Rp.rep w cs x fp) (hJ : Rp.rep w dd J0 f0) (hF0 : Fresh B w f0) (hB : B ≤ w.heap.size) (hsy : I64 sy) (hlm : lg.size ≤ maxLen)
    (htb : (bTab x tr).isSome = true) (hok0 : okF x tr n0) (hj0 : J0 = chF x tr sy n0) :
    Calls Tryz.prog 19 #[.agg cs.toArray, .agg dd.toArray, .string lg] w fun e w' => ∃ cs' fp', e = .returned (.agg (List.toArray cs')) ∧ Rp.rep w' cs' { repF x lg (3001 - n0) J0 with synced := ((repF x lg (3001 - n0) J0).log.size : Int) } fp' ∧ Fresh B w' fp' ∧ Only [] w w' := by
  have hh := h
  obtain ⟨v2, rfl, p0, p1, h2⟩ := h
  obtain ⟨A0, C0, _, _, rfl, -, -⟩ := h2.open_
  have hJ' := hJ
  obtain ⟨d0, rfl, a1, a2, a3, q3⟩ := hJ
  obtain ⟨x0, x1, x2, y0, y1, y2, rfl, -, m0, m1, m2⟩ := q3
  obtain ⟨Q0, R0, _, _, rfl, -⟩ := m0.open_
  obtain ⟨Q1, R1, _, _, rfl, -⟩ := m1.open_
  obtain ⟨Q2, R2, _, _, rfl, -⟩ := m2.open_
  clear m0 m1 m2 p0 p1 a1 a2 a3
  obtain ⟨JR, hJR⟩ : ∃ JR, JR = repF x lg (3001 - n0) J0 := ⟨_, rfl⟩
  rw [← hJR]
  have HJR := Lib.hid hJR
  have HJ0 := Lib.hid hj0
  have HTb := Lib.hid htb
  have hn0 := (chF_go (s := sy) htb hok0).lt
  have hn0' := (chF_go (s := sy) htb hok0).le
  have hn3 : n0 ≤ 3000 := by omega
  unfold maxLen at hlm
  clear hJR hj0 htb hn0 hn0'
  have k0 : Only [] w (((w.alloc (.cells #[.int .i64 x.points, .string x.names, .slice A0 x.moves.length C0] 37)).alloc (.cells #[.slice Q0 J0.table.tracked.length R0, .slice Q1 J0.table.patterns.length R1, .slice Q2 J0.table.distances.length R2, .int .i64 J0.next, .string J0.log, .int .i64 J0.synced] 34)).alloc (.cells #[.slice none 0 0, .slice none 0 0, .slice none 0 0, .int .i64 0, .string ⟨#[]⟩, .int .i64 0] 34)) := (((Only.refl _ _).alloc _).alloc _).alloc _
  have B2 : Blk (((w.alloc (.cells #[.int .i64 x.points, .string x.names, .slice A0 x.moves.length C0] 37)).alloc (.cells #[.slice Q0 J0.table.tracked.length R0, .slice Q1 J0.table.patterns.length R1, .slice Q2 J0.table.distances.length R2, .int .i64 J0.next, .string J0.log, .int .i64 J0.synced] 34)).alloc (.cells #[.slice none 0 0, .slice none 0 0, .slice none 0 0, .int .i64 0, .string ⟨#[]⟩, .int .i64 0] 34)) (w.heap.size + 2) [.slice none 0 0, .slice none 0 0, .slice none 0 0, .int .i64 0, .string ⟨#[]⟩, .int .i64 0] := Blk.new_at (by simp)
  have B1 : Blk (((w.alloc (.cells #[.int .i64 x.points, .string x.names, .slice A0 x.moves.length C0] 37)).alloc (.cells #[.slice Q0 J0.table.tracked.length R0, .slice Q1 J0.table.patterns.length R1, .slice Q2 J0.table.distances.length R2, .int .i64 J0.next, .string J0.log, .int .i64 J0.synced] 34)).alloc (.cells #[.slice none 0 0, .slice none 0 0, .slice none 0 0, .int .i64 0, .string ⟨#[]⟩, .int .i64 0] 34)) (w.heap.size + 1) [.slice Q0 J0.table.tracked.length R0, .slice Q1 J0.table.patterns.length R1, .slice Q2 J0.table.distances.length R2, .int .i64 J0.next, .string J0.log, .int .i64 J0.synced] := Blk.keep (Blk.new_at (by simp)) ((Only.refl _ _).alloc _)
  have B0 : Blk (((w.alloc (.cells #[.int .i64 x.points, .string x.names, .slice A0 x.moves.length C0] 37)).alloc (.cells #[.slice Q0 J0.table.tracked.length R0, .slice Q1 J0.table.patterns.length R1, .slice Q2 J0.table.distances.length R2, .int .i64 J0.next, .string J0.log, .int .i64 J0.synced] 34)).alloc (.cells #[.slice none 0 0, .slice none 0 0, .slice none 0 0, .int .i64 0, .string ⟨#[]⟩, .int .i64 0] 34)) w.heap.size [.int .i64 x.points, .string x.names, .slice A0 x.moves.length C0] := Blk.keep (Blk.keep (Blk.new_at rfl) ((Only.refl _ _).alloc _)) ((Only.refl _ _).alloc _)
  have hr0 := Rp.keep hJ' k0
  have F00 := hF0.keep k0
  have hfl0 : ∀ b ∈ f0, b < w.heap.size := fun b hb => Rp.lt hJ' b hb
  obtain ⟨w1, hw1⟩ : ∃ w1, w1 = (((w.alloc (.cells #[.int .i64 x.points, .string x.names, .slice A0 x.moves.length C0] 37)).alloc (.cells #[.slice Q0 J0.table.tracked.length R0, .slice Q1 J0.table.patterns.length R1, .slice Q2 J0.table.distances.length R2, .int .i64 J0.next, .string J0.log, .int .i64 J0.synced] 34)).alloc (.cells #[.slice none 0 0, .slice none 0 0, .slice none 0 0, .int .i64 0, .string ⟨#[]⟩, .int .i64 0] 34)) := ⟨_, rfl⟩
  have hs1 : w1.heap.size = w.heap.size + 3 := by rw [hw1]; simp
  have hs1' := Nat.le_of_eq hs1.symm
  rw [← hw1] at k0 B2 B1 B0 hr0 F00
  have HW := Lib.hid hw1
  clear hw1 hs1
  go_enter Tryz.func19, Tryz.ntmps19
  go_wp2_with fail
  rw [← HW.out]
  go_loopw [] (fun wr => ∃ (m : Nat) (JX : FillJob) (Q0 Q1 Q2 : Option Addr) (R0 R1 R2 : Nat) (f : List Nat), m ≤ 3000 ∧ okF x tr m ∧ Hid (JX = chF x tr sy m) ∧ Hid (JX.next = (m : Int)) ∧ Blk wr (w.heap.size + 1) [.slice Q0 JX.table.tracked.length R0, .slice Q1 JX.table.patterns.length R1, .slice Q2 JX.table.distances.length R2, .int .i64 JX.next, .string JX.log, .int .i64 JX.synced] ∧ Rp.rep wr [.slice Q0 JX.table.tracked.length R0, .slice Q1 JX.table.patterns.length R1, .slice Q2 JX.table.distances.length R2, .int .i64 JX.next, .string JX.log, .int .i64 JX.synced] JX f ∧ Fresh B wr f ∧ (∀ b ∈ f, b < w.heap.size ∨ w.heap.size + 3 ≤ b) ∧ Blk wr w.heap.size [.int .i64 x.points, .string x.names, .slice A0 x.moves.length C0] ∧ Blk wr (w.heap.size + 2) [.slice none 0 0, .slice none 0 0, .slice none 0 0, .int .i64 0, .string ⟨#[]⟩, .int .i64 0] ∧ Only [] w wr ∧ w.heap.size + 3 ≤ wr.heap.size ∧ Hid (JR = repF x lg (3001 - m) JX))
    (fun wr => 3001 - (intOf ((wr.cell? ⟨w.heap.size + 1, 3, none⟩).getD undef)).toNat)
  case atStart => exact ⟨n0, J0, Q0, Q1, Q2, R0, R1, R2, f0, hn3, hok0, HJ0, Lib.hid (by rw [HJ0.out]; exact (chF_go (s := sy) HTb.out hok0).nx), B1, hr0, F00, fun b hb => .inl (hfl0 b hb), B0, B2, k0, hs1', HJR⟩
  case round =>
    obtain ⟨W2, hnew⟩ : ∃ W, W = wr := ⟨_, rfl⟩
    subst hnew
    clear B1 B0 B2 hr0 F00 HJ0
    obtain ⟨m, JX, Q0, Q1, Q2, R0, R1, R2, f, hm3, hokm, HJX, HNX, hJb, hr, hF, hfb, hP, hZ, hK, hsz, HRR⟩ := hrel
    have hgo := chF_go (s := sy) HTb.out hokm
    rw [← HJX.out] at hgo
    have hsy2 : JX.synced = sy := by rw [HJX.out]; rfl
    have HGo := Lib.hid hgo
    have HSy := Lib.hid hsy2
    clear hgo hsy2
    have HcT : Hid (∀ V : World, Only [] W2 V → Calls Tryz.prog 35 #[.agg [.int .i64 x.points, .string x.names, .slice A0 x.moves.length C0].toArray, .agg [.slice Q0 JX.table.tracked.length R0, .slice Q1 JX.table.patterns.length R1, .slice Q2 JX.table.distances.length R2, .int .i64 JX.next, .string JX.log, .int .i64 JX.synced].toArray] V fun e w' => ∃ cs' fp', e = .returned (.tuple #[.agg (List.toArray cs'), .bool (stepF x JX).2]) ∧ Rp.rep w' cs' (stepF x JX).1 fp' ∧ (fp' = f ∨ Fresh V.heap.size w' fp') ∧ Only [] V w') := by
      obtain ⟨⟨tr', ps', ds'⟩, nx', lg', sy'⟩ := JX
      have hnn : nx' = (m : Int) := HGo.out.nx
      subst hnn
      have hss : sy' = sy := HSy.out
      refine Lib.hid fun V hV => ?_
      obtain ⟨d0, hd0, b1, b2, b3, q3⟩ := hr
      obtain ⟨x0, x1, x2, y0, y1, y2, rfl, hfe, m0, m1, m2⟩ := q3
      injection hd0 with e0 hd0
      injection hd0 with e1 hd0
      injection hd0 with e2 hd0
      subst e0
      subst e1
      subst e2
      rw [hfe]
      exact step28_raw [.int .i64 x.points, .string x.names, .slice A0 x.moves.length C0] x _ _ _ _ tr' ps' ds' m lg' sy' _ _ _ V (Rp.keep hh (hK.trans hV)) (Rp.keep m0 hV) (Rp.keep m1 hV) (Rp.keep m2 hV) (by rw [hss]; exact hsy) HGo.out
    have p00 := hP.cell 0 rfl
    have p01 := hP.cell 1 rfl
    have p02 := hP.cell 2 rfl
    have i0 := hJb.cell 0 rfl
    have i1 := hJb.cell 1 rfl
    have i2 := hJb.cell 2 rfl
    have i3 := hJb.cell 3 rfl
    have i4 := hJb.cell 4 rfl
    have i5 := hJb.cell 5 rfl
    obtain ⟨JY, hJY⟩ : ∃ JY, JY = (stepF x JX).1 := ⟨_, rfl⟩
    have HJY := Lib.hid hJY
    clear hJY
    have hstop : ¬ onF x lg JX → JR = JX := fun hn => HRR.out.trans (repF_stop hn)
    have Hstop := Lib.hid hstop
    clear hstop
    rcases hst : (stepF x JX).2
    · have hje := Hstop.out (fun hn => by rw [hn.1] at hst; cases hst)
      have HJE := Lib.hid hje
      have HST := Lib.hid hst
      clear hst hje
      go_upto_region 2 with (first
        | (go_at_call 35; (with_reducible refine (HcT.out _ (by with_reducible repeat (first | exact Only.refl _ _ | assumption | refine Only.drewN ?_ _ | refine Only.drew ?_ | refine Only.alloc ?_ _ | refine Only.setCell ?_ (by intro hh; exfalso; simp at hh; try omega) _ | refine Only.trans ?_ (by assumption)))).mono ?_); rintro e w4 ⟨cs4, f4, he, r4, F4, t4⟩; rw [HST.out] at he; rw [← HJY.out] at r4; obtain ⟨d0, rfl, a1, a2, a3, q3⟩ := r4; obtain ⟨x0, x1, x2, y0, y1, y2, rfl, hfe, m0, m1, m2⟩ := q3; obtain ⟨G0, H0, _, _, rfl, -⟩ := m0.open_; obtain ⟨G1, H1, _, _, rfl, -⟩ := m1.open_; obtain ⟨G2, H2, _, _, rfl, -⟩ := m2.open_; subst he)
        | fail "no arm")
      go_quiet (fail)
      have kA : Only [] W2 ((w4.alloc (.cells #[.slice G0 JY.table.tracked.length H0, .slice G1 JY.table.patterns.length H1, .slice G2 JY.table.distances.length H2, .int .i64 JY.next, .string JY.log, .int .i64 JY.synced] 34)).drewN nq) := (t4.trans ((Only.refl _ _).alloc _)).drewN nq
      have hJ5 := hJb.keep kA
      clear i0 i1 i2 i3 i4 i5 p00 p01 p02
      have i4 := hJ5.cell 4 rfl
      have i5 := hJ5.cell 5 rfl
      have jf5 := hJ5.frozen 5
      have B6 := hJ5.set 5 (.int .i64 (JX.log.size : Int))
      simp only [List.set] at B6
      have k5 : Only [w.heap.size + 1] ((w4.alloc (.cells #[.slice G0 JY.table.tracked.length H0, .slice G1 JY.table.patterns.length H1, .slice G2 JY.table.distances.length H2, .int .i64 JY.next, .string JY.log, .int .i64 JY.synced] 34)).drewN nq) (((w4.alloc (.cells #[.slice G0 JY.table.tracked.length H0, .slice G1 JY.table.patterns.length H1, .slice G2 JY.table.distances.length H2, .int .i64 JY.next, .string JY.log, .int .i64 JY.synced] 34)).drewN nq).setCell ⟨w.heap.size + 1, 5, none⟩ (.int .i64 (JX.log.size : Int))) := (Only.refl _ _).setCell (by simp) _
      have YR := (hZ.keep kA).only k5 (by simp)
      have hlgX := HGo.out.lg
      have r5 := Rp.only (rep_sync (k := (JX.log.size : Int)) (Rp.keep hr kA) (by unfold I64; omega)) k5 (fun b hb hm => by have := hfb b hb; simp at hm; omega)
      have F5 := (hF.keep kA).only k5 (fun b hb hm => by have := hfb b hb; simp at hm; omega)
      have K5 := (hK.trans kA).then_ k5 (fun b hb hl => by simp at hb; omega)
      go_upto_region 5 with fail
      obtain ⟨w6, hw6⟩ : ∃ w6, w6 = ((w4.alloc (.cells #[.slice G0 JY.table.tracked.length H0, .slice G1 JY.table.patterns.length H1, .slice G2 JY.table.distances.length H2, .int .i64 JY.next, .string JY.log, .int .i64 JY.synced] 34)).drewN nq).setCell ⟨w.heap.size + 1, 5, none⟩ (.int .i64 (JX.log.size : Int)) := ⟨_, rfl⟩
      rw [← hw6] at B6 YR r5 F5 K5
      rw [← hw6]
      clear hw6 i4 i5 jf5 k5 hlgX
      have i0 := B6.cell 0 rfl
      have i1 := B6.cell 1 rfl
      have i2 := B6.cell 2 rfl
      have i3 := B6.cell 3 rfl
      have i4 := B6.cell 4 rfl
      have i5 := B6.cell 5 rfl
      have hfd : ∀ b ∈ f, b ∉ [w.heap.size + 2] := fun b hb hm => by have := hfb b hb; simp at hm; omega
      have g0 := YR.cell 0 rfl
      have q0 := YR.frozen 0
      have g1 := YR.cell 1 rfl
      have q1 := YR.frozen 1
      have g2 := YR.cell 2 rfl
      have q2 := YR.frozen 2
      have g3 := YR.cell 3 rfl
      have q3 := YR.frozen 3
      have g4 := YR.cell 4 rfl
      have q4 := YR.frozen 4
      have g5 := YR.cell 5 rfl
      have q5 := YR.frozen 5
      have Yf := ((((((YR.set 0 (.slice Q0 JX.table.tracked.length R0)).set 1 (.slice Q1 JX.table.patterns.length R1)).set 2 (.slice Q2 JX.table.distances.length R2)).set 3 (.int .i64 JX.next)).set 4 (.string JX.log)).set 5 (.int .i64 (JX.log.size : Int)))
      have kf : Only [w.heap.size + 2] w6 ((((((w6.setCell ⟨w.heap.size + 2, 0, none⟩ (.slice Q0 JX.table.tracked.length R0)).setCell ⟨w.heap.size + 2, 1, none⟩ (.slice Q1 JX.table.patterns.length R1)).setCell ⟨w.heap.size + 2, 2, none⟩ (.slice Q2 JX.table.distances.length R2)).setCell ⟨w.heap.size + 2, 3, none⟩ (.int .i64 JX.next)).setCell ⟨w.heap.size + 2, 4, none⟩ (.string JX.log)).setCell ⟨w.heap.size + 2, 5, none⟩ (.int .i64 (JX.log.size : Int))) := (((((((Only.refl _ _).setCell (by simp) _).setCell (by simp) _).setCell (by simp) _).setCell (by simp) _).setCell (by simp) _).setCell (by simp) _)
      go_wp2_with fail
      obtain ⟨wf, hwf⟩ : ∃ wf, wf = ((((((w6.setCell ⟨w.heap.size + 2, 0, none⟩ (.slice Q0 JX.table.tracked.length R0)).setCell ⟨w.heap.size + 2, 1, none⟩ (.slice Q1 JX.table.patterns.length R1)).setCell ⟨w.heap.size + 2, 2, none⟩ (.slice Q2 JX.table.distances.length R2)).setCell ⟨w.heap.size + 2, 3, none⟩ (.int .i64 JX.next)).setCell ⟨w.heap.size + 2, 4, none⟩ (.string JX.log)).setCell ⟨w.heap.size + 2, 5, none⟩ (.int .i64 (JX.log.size : Int))) := ⟨_, rfl⟩
      rw [← hwf] at Yf kf ⊢
      simp only [List.set] at Yf
      clear hwf g0 q0 g1 q1 g2 q2 g3 q3 g4 q4 g5 q5
      have z0 := Yf.cell 0 rfl
      have z1 := Yf.cell 1 rfl
      have z2 := Yf.cell 2 rfl
      have z3 := Yf.cell 3 rfl
      have z4 := Yf.cell 4 rfl
      have z5 := Yf.cell 5 rfl
      refine bodyPost_ret (v := .agg #[.slice Q0 JX.table.tracked.length R0, .slice Q1 JX.table.patterns.length R1, .slice Q2 JX.table.distances.length R2, .int .i64 JX.next, .string JX.log, .int .i64 (JX.log.size : Int)]) (by simp [results, Tryz.results19, go_sem, z0, z1, z2, z3, z4, z5]) rfl ⟨[.slice Q0 JX.table.tracked.length R0, .slice Q1 JX.table.patterns.length R1, .slice Q2 JX.table.distances.length R2, .int .i64 JX.next, .string JX.log, .int .i64 (JX.log.size : Int)], _, rfl, by rw [HJE.out]; exact Rp.only r5 kf hfd, F5.only kf hfd, K5.then_ kf (by simp)⟩
    · by_cases hfit : JY.log.size ≤ lg.size
      · by_cases hpre : JY.log = lg.extract 0 JY.log.size
        · have hon : onF x lg JX := ⟨hst, by rw [← HJY.out]; exact hfit, by rw [← HJY.out]; exact hpre⟩
          obtain ⟨hm1, hok1, hj1⟩ := onF_lt (s := sy) HTb.out hokm (by rw [← HJX.out]; exact hon)
          rw [← HJX.out, ← HJY.out] at hj1
          have hnx1 : JY.next = ((m + 1 : Nat) : Int) := by rw [hj1]; exact (chF_go (s := sy) HTb.out hok1).nx
          have hrr : JR = repF x lg (3001 - (m + 1)) JY := by
            have h1 := HRR.out
            rw [show 3001 - m = (3001 - (m + 1)) + 1 by omega, repF_go hon, ← HJY.out] at h1
            exact h1
          have b2 := str_eq hpre
          have b3 : JY.log.toList = (lg.extract 0 JY.log.size).toList := by rw [← hpre]
          have hfi : ¬ ((lg.size : Int) < (JY.log.size : Int)) := by omega
          have hf0 : (0 : Int) ≤ (JY.log.size : Int) := by omega
          have hf1 : (JY.log.size : Int) ≤ (lg.size : Int) := by omega
          have HJ1 := Lib.hid hj1
          have HNX1 := Lib.hid hnx1
          have HR1 := Lib.hid hrr
          have HST := Lib.hid hst
          clear hst hj1 hnx1 hrr hpre hon
          go_upto_region 2 with (first
            | (go_at_call 35; (with_reducible refine (HcT.out _ (by with_reducible repeat (first | exact Only.refl _ _ | assumption | refine Only.drewN ?_ _ | refine Only.drew ?_ | refine Only.alloc ?_ _ | refine Only.setCell ?_ (by intro hh; exfalso; simp at hh; try omega) _ | refine Only.trans ?_ (by assumption)))).mono ?_); rintro e w4 ⟨cs4, f4, he, r4, F4, t4⟩; rw [HST.out] at he; rw [← HJY.out] at r4; have r40 := r4; obtain ⟨d0, rfl, a1, a2, a3, q3⟩ := r4; obtain ⟨x0, x1, x2, y0, y1, y2, rfl, hfe, m0, m1, m2⟩ := q3; obtain ⟨G0, H0, _, _, rfl, -⟩ := m0.open_; obtain ⟨G1, H1, _, _, rfl, -⟩ := m1.open_; obtain ⟨G2, H2, _, _, rfl, -⟩ := m2.open_; subst he)
            | fail "no arm")
          go_quiet (fail)
          go_upto_region 3 with fail
          have kl : Only [] w4 ((w4.alloc (.cells #[.slice G0 JY.table.tracked.length H0, .slice G1 JY.table.patterns.length H1, .slice G2 JY.table.distances.length H2, .int .i64 JY.next, .string JY.log, .int .i64 JY.synced] 34)).drewN nq) := ((Only.refl _ _).alloc _).drewN nq
          have kA : Only [] W2 ((w4.alloc (.cells #[.slice G0 JY.table.tracked.length H0, .slice G1 JY.table.patterns.length H1, .slice G2 JY.table.distances.length H2, .int .i64 JY.next, .string JY.log, .int .i64 JY.synced] 34)).drewN nq) := t4.trans kl
          have N5 : Blk ((w4.alloc (.cells #[.slice G0 JY.table.tracked.length H0, .slice G1 JY.table.patterns.length H1, .slice G2 JY.table.distances.length H2, .int .i64 JY.next, .string JY.log, .int .i64 JY.synced] 34)).drewN nq) w4.heap.size [.slice G0 JY.table.tracked.length H0, .slice G1 JY.table.patterns.length H1, .slice G2 JY.table.distances.length H2, .int .i64 JY.next, .string JY.log, .int .i64 JY.synced] := (Blk.new w4 _ _).keep ((Only.refl [] _).drewN nq)
          obtain ⟨w5, hw5⟩ : ∃ w5, w5 = ((w4.alloc (.cells #[.slice G0 JY.table.tracked.length H0, .slice G1 JY.table.patterns.length H1, .slice G2 JY.table.distances.length H2, .int .i64 JY.next, .string JY.log, .int .i64 JY.synced] 34)).drewN nq) := ⟨_, rfl⟩
          rw [← hw5] at kl kA N5
          rw [← hw5]
          clear hw5
          have hJ5 := hJb.keep kA
          clear i0 i1 i2 i3 i4 i5 p00 p01 p02
          have n0 := N5.cell 0 rfl
          have n1 := N5.cell 1 rfl
          have n2 := N5.cell 2 rfl
          have n3 := N5.cell 3 rfl
          have n4 := N5.cell 4 rfl
          have n5 := N5.cell 5 rfl
          have j0 := hJ5.cell 0 rfl
          have jf0 := hJ5.frozen 0
          have j1 := hJ5.cell 1 rfl
          have jf1 := hJ5.frozen 1
          have j2 := hJ5.cell 2 rfl
          have jf2 := hJ5.frozen 2
          have j3 := hJ5.cell 3 rfl
          have jf3 := hJ5.frozen 3
          have j4 := hJ5.cell 4 rfl
          have jf4 := hJ5.frozen 4
          have j5 := hJ5.cell 5 rfl
          have jf5 := hJ5.frozen 5
          have BN := ((((((hJ5.set 0 (.slice G0 JY.table.tracked.length H0)).set 1 (.slice G1 JY.table.patterns.length H1)).set 2 (.slice G2 JY.table.distances.length H2)).set 3 (.int .i64 JY.next)).set 4 (.string JY.log)).set 5 (.int .i64 JY.synced))
          simp only [List.set] at BN
          have kj : Only [w.heap.size + 1] w5 ((((((w5.setCell ⟨w.heap.size + 1, 0, none⟩ (.slice G0 JY.table.tracked.length H0)).setCell ⟨w.heap.size + 1, 1, none⟩ (.slice G1 JY.table.patterns.length H1)).setCell ⟨w.heap.size + 1, 2, none⟩ (.slice G2 JY.table.distances.length H2)).setCell ⟨w.heap.size + 1, 3, none⟩ (.int .i64 JY.next)).setCell ⟨w.heap.size + 1, 4, none⟩ (.string JY.log)).setCell ⟨w.heap.size + 1, 5, none⟩ (.int .i64 JY.synced)) := (((((((Only.refl _ _).setCell (by simp) _).setCell (by simp) _).setCell (by simp) _).setCell (by simp) _).setCell (by simp) _).setCell (by simp) _)
          have hF4 : Fresh B w4 f4 := by
            rcases F4 with h9 | h9
            · rw [h9]; exact hF.keep t4
            · exact h9.mono (by (try simp); omega)
          have hfb4 : ∀ b ∈ f4, b < w.heap.size ∨ w.heap.size + 3 ≤ b := fun b hb => by
            rcases F4 with h9 | h9
            · rw [h9] at hb; exact hfb b hb
            · right; have := h9.ge b hb; (try simp at this); omega
          have hfj : ∀ b ∈ f4, b ∉ [w.heap.size + 1] := fun b hb hm => by have := hfb4 b hb; simp at hm; omega
          have r6 := Rp.only (Rp.keep r40 kl) kj hfj
          have F6 := (hF4.keep kl).only kj hfj
          have P6 := (hP.keep kA).only kj (by simp)
          have Z6 := (hZ.keep kA).only kj (by simp)
          have K6 := (hK.trans kA).then_ kj (fun b hb hl => by simp at hb; omega)
          have S6 := Nat.le_trans hsz (Nat.le_trans kA.size kj.size)
          clear b2 b3 hfi hf0 hf1 hfit
          go_wp2_with fail
          go_roundw
          case rel => exact ⟨m + 1, JY, _, _, _, _, _, _, f4, by omega, hok1, HJ1, HNX1, BN, r6, F6, hfb4, P6, Z6, K6, S6, HR1⟩
          case measure => (have c33 := BN.cell 3 rfl; have o33 := hJb.cell 3 rfl; rw [c33, o33, HNX1.out, HNX.out]; simp [intOf]; omega)
        · have hje := Hstop.out (fun hn => hpre (by have := hn.2.2; rw [← HJY.out] at this; exact this))
          have b2 := str_ne hpre
          have b3 : ¬ JY.log.toList = (lg.extract 0 JY.log.size).toList := by simpa using b2
          have hfi : ¬ ((lg.size : Int) < (JY.log.size : Int)) := by omega
          have hf0 : (0 : Int) ≤ (JY.log.size : Int) := by omega
          have hf1 : (JY.log.size : Int) ≤ (lg.size : Int) := by omega
          have HJE := Lib.hid hje
          have HST := Lib.hid hst
          clear hst hje hpre
          go_upto_region 2 with (first
            | (go_at_call 35; (with_reducible refine (HcT.out _ (by with_reducible repeat (first | exact Only.refl _ _ | assumption | refine Only.drewN ?_ _ | refine Only.drew ?_ | refine Only.alloc ?_ _ | refine Only.setCell ?_ (by intro hh; exfalso; simp at hh; try omega) _ | refine Only.trans ?_ (by assumption)))).mono ?_); rintro e w4 ⟨cs4, f4, he, r4, F4, t4⟩; rw [HST.out] at he; rw [← HJY.out] at r4; have r40 := r4; obtain ⟨d0, rfl, a1, a2, a3, q3⟩ := r4; obtain ⟨x0, x1, x2, y0, y1, y2, rfl, hfe, m0, m1, m2⟩ := q3; obtain ⟨G0, H0, _, _, rfl, -⟩ := m0.open_; obtain ⟨G1, H1, _, _, rfl, -⟩ := m1.open_; obtain ⟨G2, H2, _, _, rfl, -⟩ := m2.open_; subst he)
            | fail "no arm")
          go_quiet (fail)
          have kA : Only [] W2 ((w4.alloc (.cells #[.slice G0 JY.table.tracked.length H0, .slice G1 JY.table.patterns.length H1, .slice G2 JY.table.distances.length H2, .int .i64 JY.next, .string JY.log, .int .i64 JY.synced] 34)).drewN nq) := (t4.trans ((Only.refl _ _).alloc _)).drewN nq
          have hJ5 := hJb.keep kA
          clear i0 i1 i2 i3 i4 i5 p00 p01 p02
          have i4 := hJ5.cell 4 rfl
          have i5 := hJ5.cell 5 rfl
          have jf5 := hJ5.frozen 5
          have B6 := hJ5.set 5 (.int .i64 (JX.log.size : Int))
          simp only [List.set] at B6
          have k5 : Only [w.heap.size + 1] ((w4.alloc (.cells #[.slice G0 JY.table.tracked.length H0, .slice G1 JY.table.patterns.length H1, .slice G2 JY.table.distances.length H2, .int .i64 JY.next, .string JY.log, .int .i64 JY.synced] 34)).drewN nq) (((w4.alloc (.cells #[.slice G0 JY.table.tracked.length H0, .slice G1 JY.table.patterns.length H1, .slice G2 JY.table.distances.length H2, .int .i64 JY.next, .string JY.log, .int .i64 JY.synced] 34)).drewN nq).setCell ⟨w.heap.size + 1, 5, none⟩ (.int .i64 (JX.log.size : Int))) := (Only.refl _ _).setCell (by simp) _
          have YR := (hZ.keep kA).only k5 (by simp)
          have hlgX := HGo.out.lg
          have r5 := Rp.only (rep_sync (k := (JX.log.size : Int)) (Rp.keep hr kA) (by unfold I64; omega)) k5 (fun b hb hm => by have := hfb b hb; simp at hm; omega)
          have F5 := (hF.keep kA).only k5 (fun b hb hm => by have := hfb b hb; simp at hm; omega)
          have K5 := (hK.trans kA).then_ k5 (fun b hb hl => by simp at hb; omega)
          go_upto_region 5 with fail
          obtain ⟨w6, hw6⟩ : ∃ w6, w6 = ((w4.alloc (.cells #[.slice G0 JY.table.tracked.length H0, .slice G1 JY.table.patterns.length H1, .slice G2 JY.table.distances.length H2, .int .i64 JY.next, .string JY.log, .int .i64 JY.synced] 34)).drewN nq).setCell ⟨w.heap.size + 1, 5, none⟩ (.int .i64 (JX.log.size : Int)) := ⟨_, rfl⟩
          rw [← hw6] at B6 YR r5 F5 K5
          rw [← hw6]
          clear hw6 i4 i5 jf5 k5 hlgX
          have i0 := B6.cell 0 rfl
          have i1 := B6.cell 1 rfl
          have i2 := B6.cell 2 rfl
          have i3 := B6.cell 3 rfl
          have i4 := B6.cell 4 rfl
          have i5 := B6.cell 5 rfl
          have hfd : ∀ b ∈ f, b ∉ [w.heap.size + 2] := fun b hb hm => by have := hfb b hb; simp at hm; omega
          have g0 := YR.cell 0 rfl
          have q0 := YR.frozen 0
          have g1 := YR.cell 1 rfl
          have q1 := YR.frozen 1
          have g2 := YR.cell 2 rfl
          have q2 := YR.frozen 2
          have g3 := YR.cell 3 rfl
          have q3 := YR.frozen 3
          have g4 := YR.cell 4 rfl
          have q4 := YR.frozen 4
          have g5 := YR.cell 5 rfl
          have q5 := YR.frozen 5
          have Yf := ((((((YR.set 0 (.slice Q0 JX.table.tracked.length R0)).set 1 (.slice Q1 JX.table.patterns.length R1)).set 2 (.slice Q2 JX.table.distances.length R2)).set 3 (.int .i64 JX.next)).set 4 (.string JX.log)).set 5 (.int .i64 (JX.log.size : Int)))
          have kf : Only [w.heap.size + 2] w6 ((((((w6.setCell ⟨w.heap.size + 2, 0, none⟩ (.slice Q0 JX.table.tracked.length R0)).setCell ⟨w.heap.size + 2, 1, none⟩ (.slice Q1 JX.table.patterns.length R1)).setCell ⟨w.heap.size + 2, 2, none⟩ (.slice Q2 JX.table.distances.length R2)).setCell ⟨w.heap.size + 2, 3, none⟩ (.int .i64 JX.next)).setCell ⟨w.heap.size + 2, 4, none⟩ (.string JX.log)).setCell ⟨w.heap.size + 2, 5, none⟩ (.int .i64 (JX.log.size : Int))) := (((((((Only.refl _ _).setCell (by simp) _).setCell (by simp) _).setCell (by simp) _).setCell (by simp) _).setCell (by simp) _).setCell (by simp) _)
          go_wp2_with fail
          obtain ⟨wf, hwf⟩ : ∃ wf, wf = ((((((w6.setCell ⟨w.heap.size + 2, 0, none⟩ (.slice Q0 JX.table.tracked.length R0)).setCell ⟨w.heap.size + 2, 1, none⟩ (.slice Q1 JX.table.patterns.length R1)).setCell ⟨w.heap.size + 2, 2, none⟩ (.slice Q2 JX.table.distances.length R2)).setCell ⟨w.heap.size + 2, 3, none⟩ (.int .i64 JX.next)).setCell ⟨w.heap.size + 2, 4, none⟩ (.string JX.log)).setCell ⟨w.heap.size + 2, 5, none⟩ (.int .i64 (JX.log.size : Int))) := ⟨_, rfl⟩
          rw [← hwf] at Yf kf ⊢
          simp only [List.set] at Yf
          clear hwf g0 q0 g1 q1 g2 q2 g3 q3 g4 q4 g5 q5
          have z0 := Yf.cell 0 rfl
          have z1 := Yf.cell 1 rfl
          have z2 := Yf.cell 2 rfl
          have z3 := Yf.cell 3 rfl
          have z4 := Yf.cell 4 rfl
          have z5 := Yf.cell 5 rfl
          refine bodyPost_ret (v := .agg #[.slice Q0 JX.table.tracked.length R0, .slice Q1 JX.table.patterns.length R1, .slice Q2 JX.table.distances.length R2, .int .i64 JX.next, .string JX.log, .int .i64 (JX.log.size : Int)]) (by simp [results, Tryz.results19, go_sem, z0, z1, z2, z3, z4, z5]) rfl ⟨[.slice Q0 JX.table.tracked.length R0, .slice Q1 JX.table.patterns.length R1, .slice Q2 JX.table.distances.length R2, .int .i64 JX.next, .string JX.log, .int .i64 (JX.log.size : Int)], _, rfl, by rw [HJE.out]; exact Rp.only r5 kf hfd, F5.only kf hfd, K5.then_ kf (by simp)⟩
      · have hje := Hstop.out (fun hn => hfit (by have := hn.2.1; rw [← HJY.out] at this; exact this))
        have HJE := Lib.hid hje
        have HST := Lib.hid hst
        have hfi : (lg.size : Int) < (JY.log.size : Int) := by omega
        clear hst hje hfit
        go_upto_region 2 with (first
          | (go_at_call 35; (with_reducible refine (HcT.out _ (by with_reducible repeat (first | exact Only.refl _ _ | assumption | refine Only.drewN ?_ _ | refine Only.drew ?_ | refine Only.alloc ?_ _ | refine Only.setCell ?_ (by intro hh; exfalso; simp at hh; try omega) _ | refine Only.trans ?_ (by assumption)))).mono ?_); rintro e w4 ⟨cs4, f4, he, r4, F4, t4⟩; rw [HST.out] at he; rw [← HJY.out] at r4; have r40 := r4; obtain ⟨d0, rfl, a1, a2, a3, q3⟩ := r4; obtain ⟨x0, x1, x2, y0, y1, y2, rfl, hfe, m0, m1, m2⟩ := q3; obtain ⟨G0, H0, _, _, rfl, -⟩ := m0.open_; obtain ⟨G1, H1, _, _, rfl, -⟩ := m1.open_; obtain ⟨G2, H2, _, _, rfl, -⟩ := m2.open_; subst he)
          | fail "no arm")
        go_quiet (fail)
        have kA : Only [] W2 ((w4.alloc (.cells #[.slice G0 JY.table.tracked.length H0, .slice G1 JY.table.patterns.length H1, .slice G2 JY.table.distances.length H2, .int .i64 JY.next, .string JY.log, .int .i64 JY.synced] 34)).drewN nq) := (t4.trans ((Only.refl _ _).alloc _)).drewN nq
        have hJ5 := hJb.keep kA
        clear i0 i1 i2 i3 i4 i5 p00 p01 p02
        have i4 := hJ5.cell 4 rfl
        have i5 := hJ5.cell 5 rfl
        have jf5 := hJ5.frozen 5
        have B6 := hJ5.set 5 (.int .i64 (JX.log.size : Int))
        simp only [List.set] at B6
        have k5 : Only [w.heap.size + 1] ((w4.alloc (.cells #[.slice G0 JY.table.tracked.length H0, .slice G1 JY.table.patterns.length H1, .slice G2 JY.table.distances.length H2, .int .i64 JY.next, .string JY.log, .int .i64 JY.synced] 34)).drewN nq) (((w4.alloc (.cells #[.slice G0 JY.table.tracked.length H0, .slice G1 JY.table.patterns.length H1, .slice G2 JY.table.distances.length H2, .int .i64 JY.next, .string JY.log, .int .i64 JY.synced] 34)).drewN nq).setCell ⟨w.heap.size + 1, 5, none⟩ (.int .i64 (JX.log.size : Int))) := (Only.refl _ _).setCell (by simp) _
        have YR := (hZ.keep kA).only k5 (by simp)
        have hlgX := HGo.out.lg
        have r5 := Rp.only (rep_sync (k := (JX.log.size : Int)) (Rp.keep hr kA) (by unfold I64; omega)) k5 (fun b hb hm => by have := hfb b hb; simp at hm; omega)
        have F5 := (hF.keep kA).only k5 (fun b hb hm => by have := hfb b hb; simp at hm; omega)
        have K5 := (hK.trans kA).then_ k5 (fun b hb hl => by simp at hb; omega)
        go_upto_region 5 with fail
        obtain ⟨w6, hw6⟩ : ∃ w6, w6 = ((w4.alloc (.cells #[.slice G0 JY.table.tracked.length H0, .slice G1 JY.table.patterns.length H1, .slice G2 JY.table.distances.length H2, .int .i64 JY.next, .string JY.log, .int .i64 JY.synced] 34)).drewN nq).setCell ⟨w.heap.size + 1, 5, none⟩ (.int .i64 (JX.log.size : Int)) := ⟨_, rfl⟩
        rw [← hw6] at B6 YR r5 F5 K5
        rw [← hw6]
        clear hw6 i4 i5 jf5 k5 hlgX
        have i0 := B6.cell 0 rfl
        have i1 := B6.cell 1 rfl
        have i2 := B6.cell 2 rfl
        have i3 := B6.cell 3 rfl
        have i4 := B6.cell 4 rfl
        have i5 := B6.cell 5 rfl
        have hfd : ∀ b ∈ f, b ∉ [w.heap.size + 2] := fun b hb hm => by have := hfb b hb; simp at hm; omega
        have g0 := YR.cell 0 rfl
        have q0 := YR.frozen 0
        have g1 := YR.cell 1 rfl
        have q1 := YR.frozen 1
        have g2 := YR.cell 2 rfl
        have q2 := YR.frozen 2
        have g3 := YR.cell 3 rfl
        have q3 := YR.frozen 3
        have g4 := YR.cell 4 rfl
        have q4 := YR.frozen 4
        have g5 := YR.cell 5 rfl
        have q5 := YR.frozen 5
        have Yf := ((((((YR.set 0 (.slice Q0 JX.table.tracked.length R0)).set 1 (.slice Q1 JX.table.patterns.length R1)).set 2 (.slice Q2 JX.table.distances.length R2)).set 3 (.int .i64 JX.next)).set 4 (.string JX.log)).set 5 (.int .i64 (JX.log.size : Int)))
        have kf : Only [w.heap.size + 2] w6 ((((((w6.setCell ⟨w.heap.size + 2, 0, none⟩ (.slice Q0 JX.table.tracked.length R0)).setCell ⟨w.heap.size + 2, 1, none⟩ (.slice Q1 JX.table.patterns.length R1)).setCell ⟨w.heap.size + 2, 2, none⟩ (.slice Q2 JX.table.distances.length R2)).setCell ⟨w.heap.size + 2, 3, none⟩ (.int .i64 JX.next)).setCell ⟨w.heap.size + 2, 4, none⟩ (.string JX.log)).setCell ⟨w.heap.size + 2, 5, none⟩ (.int .i64 (JX.log.size : Int))) := (((((((Only.refl _ _).setCell (by simp) _).setCell (by simp) _).setCell (by simp) _).setCell (by simp) _).setCell (by simp) _).setCell (by simp) _)
        go_wp2_with fail
        obtain ⟨wf, hwf⟩ : ∃ wf, wf = ((((((w6.setCell ⟨w.heap.size + 2, 0, none⟩ (.slice Q0 JX.table.tracked.length R0)).setCell ⟨w.heap.size + 2, 1, none⟩ (.slice Q1 JX.table.patterns.length R1)).setCell ⟨w.heap.size + 2, 2, none⟩ (.slice Q2 JX.table.distances.length R2)).setCell ⟨w.heap.size + 2, 3, none⟩ (.int .i64 JX.next)).setCell ⟨w.heap.size + 2, 4, none⟩ (.string JX.log)).setCell ⟨w.heap.size + 2, 5, none⟩ (.int .i64 (JX.log.size : Int))) := ⟨_, rfl⟩
        rw [← hwf] at Yf kf ⊢
        simp only [List.set] at Yf
        clear hwf g0 q0 g1 q1 g2 q2 g3 q3 g4 q4 g5 q5
        have z0 := Yf.cell 0 rfl
        have z1 := Yf.cell 1 rfl
        have z2 := Yf.cell 2 rfl
        have z3 := Yf.cell 3 rfl
        have z4 := Yf.cell 4 rfl
        have z5 := Yf.cell 5 rfl
        refine bodyPost_ret (v := .agg #[.slice Q0 JX.table.tracked.length R0, .slice Q1 JX.table.patterns.length R1, .slice Q2 JX.table.distances.length R2, .int .i64 JX.next, .string JX.log, .int .i64 (JX.log.size : Int)]) (by simp [results, Tryz.results19, go_sem, z0, z1, z2, z3, z4, z5]) rfl ⟨[.slice Q0 JX.table.tracked.length R0, .slice Q1 JX.table.patterns.length R1, .slice Q2 JX.table.distances.length R2, .int .i64 JX.next, .string JX.log, .int .i64 (JX.log.size : Int)], _, rfl, by rw [HJE.out]; exact Rp.only r5 kf hfd, F5.only kf hfd, K5.then_ kf (by simp)⟩
end Go.Proofs.YtkhdmiemfpelcaaGreat

namespace Go.Proofs.YtkhdmiemfpelcaaGreat
open Go.RowKit
set_option maxRecDepth 10000

set_option maxHeartbeats 8000000 in
theorem specCrashFill_raw (cs : List Value) (x : Puzzle) (fp : List Nat) (c1 c2 c3 : Value) (tr : List Int) (ps : List (List Int)) (ds : List Int) (nx : Int) (lg : ByteArray) (sy : Int) (kept : Int) (g1 g2 g3 : List Nat) (w : World) (h : Rp.rep w cs x fp)
    (k1 : Rd w c1 tr g1) (k2 : Rd w c2 ps g2) (k3 : Rd w c3 ds g3) (hnx : I64 nx) (hsy : I64 sy) (hkp : I64 kept) (hlm : lg.size ≤ maxLen) (htl : tr.length ≤ 2097152) :
    Calls Tryz.prog 6 #[.agg cs.toArray, .agg #[c1, c2, c3, .int .i64 nx, .string lg, .int .i64 sy], .int .i64 kept] w fun e w' => ∃ cs' fp', e = .returned (.tuple #[.agg (List.toArray cs'), .bool (crashF x (⟨⟨tr, ps, ds⟩, nx, lg, sy⟩ : FillJob) kept).2]) ∧ Rp.rep w' cs' (crashF x (⟨⟨tr, ps, ds⟩, nx, lg, sy⟩ : FillJob) kept).1 fp' ∧ Fresh w.heap.size w' fp' ∧ Only [] w w' := by
  have hh := h
  obtain ⟨v2, rfl, p0, p1, h2⟩ := h
  obtain ⟨A0, C0, _, _, rfl, -, -⟩ := h2.open_
  have hk1 := k1; have hk2 := k2; have hk3 := k3
  obtain ⟨A1, C1, _, _, rfl, -⟩ := k1.open_
  obtain ⟨A2, C2, _, _, rfl, -⟩ := k2.open_
  obtain ⟨A3, C3, _, _, rfl, -⟩ := k3.open_
  obtain ⟨st, hst⟩ : ∃ st, st = crashF x (⟨⟨tr, ps, ds⟩, nx, lg, sy⟩ : FillJob) kept := ⟨_, rfl⟩
  rw [← hst]
  have HS := Lib.hid hst
  clear hst k1 k2 k3 p0 p1
  have hlm2 := hlm
  unfold maxLen at hlm2
  have k0 : Only [] w (((w.alloc (.cells #[.int .i64 x.points, .string x.names, .slice A0 x.moves.length C0] 37)).alloc (.cells #[.slice A1 tr.length C1, .slice A2 ps.length C2, .slice A3 ds.length C3, .int .i64 nx, .string lg, .int .i64 sy] 34)).alloc (.cells #[.slice none 0 0, .slice none 0 0, .slice none 0 0, .int .i64 0, .string ⟨#[]⟩, .int .i64 0] 34)) := (((Only.refl _ _).alloc _).alloc _).alloc _
  have B2 : Blk (((w.alloc (.cells #[.int .i64 x.points, .string x.names, .slice A0 x.moves.length C0] 37)).alloc (.cells #[.slice A1 tr.length C1, .slice A2 ps.length C2, .slice A3 ds.length C3, .int .i64 nx, .string lg, .int .i64 sy] 34)).alloc (.cells #[.slice none 0 0, .slice none 0 0, .slice none 0 0, .int .i64 0, .string ⟨#[]⟩, .int .i64 0] 34)) (w.heap.size + 2) [.slice none 0 0, .slice none 0 0, .slice none 0 0, .int .i64 0, .string ⟨#[]⟩, .int .i64 0] := Blk.new_at (by simp)
  have B1 : Blk (((w.alloc (.cells #[.int .i64 x.points, .string x.names, .slice A0 x.moves.length C0] 37)).alloc (.cells #[.slice A1 tr.length C1, .slice A2 ps.length C2, .slice A3 ds.length C3, .int .i64 nx, .string lg, .int .i64 sy] 34)).alloc (.cells #[.slice none 0 0, .slice none 0 0, .slice none 0 0, .int .i64 0, .string ⟨#[]⟩, .int .i64 0] 34)) (w.heap.size + 1) [.slice A1 tr.length C1, .slice A2 ps.length C2, .slice A3 ds.length C3, .int .i64 nx, .string lg, .int .i64 sy] := Blk.keep (Blk.new_at (by simp)) ((Only.refl _ _).alloc _)
  have B0 : Blk (((w.alloc (.cells #[.int .i64 x.points, .string x.names, .slice A0 x.moves.length C0] 37)).alloc (.cells #[.slice A1 tr.length C1, .slice A2 ps.length C2, .slice A3 ds.length C3, .int .i64 nx, .string lg, .int .i64 sy] 34)).alloc (.cells #[.slice none 0 0, .slice none 0 0, .slice none 0 0, .int .i64 0, .string ⟨#[]⟩, .int .i64 0] 34)) w.heap.size [.int .i64 x.points, .string x.names, .slice A0 x.moves.length C0] := Blk.keep (Blk.keep (Blk.new_at rfl) ((Only.refl _ _).alloc _)) ((Only.refl _ _).alloc _)
  have HB2 := Lib.hid B2
  have HB1 := Lib.hid B1
  have HB0 := Lib.hid B0
  clear B2 B1 B0
  have HcR := Lib.hid (fun (V : World) (hV : Only [] w V) => specIsValidFill_raw [.int .i64 x.points, .string x.names, .slice A0 x.moves.length C0] x _ (.slice A1 tr.length C1) (.slice A2 ps.length C2) (.slice A3 ds.length C3) tr ps ds nx lg sy _ _ _ V (Rp.keep hh hV) (Rp.keep hk1 hV) (Rp.keep hk2 hV) (Rp.keep hk3 hV) hnx hsy hlm htl)
  obtain ⟨vb, hvb⟩ : ∃ vb, vb = validF x (⟨⟨tr, ps, ds⟩, nx, lg, sy⟩ : FillJob) := ⟨_, rfl⟩
  have HVB := Lib.hid hvb
  clear hvb
  cases vb
  · have he : st = (noFill, false) := by rw [HS.out]; unfold crashF; rw [← HVB.out]; simp
    have HE := Lib.hid he
    clear he
    go_enter Tryz.func6, Tryz.ntmps6
    go_upto_region 2 with (first
      | (go_at_call 17; (with_reducible refine (HcR.out _ k0).mono ?_); rintro e w1 ⟨he, t1⟩; rw [← HVB.out] at he; subst he)
      | fail "no arm")
    have YR := HB2.out.keep t1
    have K1 : Only [] w w1 := k0.trans t1
    have g0 := YR.cell 0 rfl
    have q0 := YR.frozen 0
    have g1 := YR.cell 1 rfl
    have q1 := YR.frozen 1
    have g2 := YR.cell 2 rfl
    have q2 := YR.frozen 2
    have g3 := YR.cell 3 rfl
    have q3 := YR.frozen 3
    have g4 := YR.cell 4 rfl
    have q4 := YR.frozen 4
    have g5 := YR.cell 5 rfl
    have q5 := YR.frozen 5
    have Yf := ((((((YR.set 0 (.slice none 0 0)).set 1 (.slice none 0 0)).set 2 (.slice none 0 0)).set 3 (.int .i64 0)).set 4 (.string ⟨#[]⟩)).set 5 (.int .i64 0))
    have kf : Only [w.heap.size + 2] w1 ((((((w1.setCell ⟨w.heap.size + 2, 0, none⟩ (.slice none 0 0)).setCell ⟨w.heap.size + 2, 1, none⟩ (.slice none 0 0)).setCell ⟨w.heap.size + 2, 2, none⟩ (.slice none 0 0)).setCell ⟨w.heap.size + 2, 3, none⟩ (.int .i64 0)).setCell ⟨w.heap.size + 2, 4, none⟩ (.string ⟨#[]⟩)).setCell ⟨w.heap.size + 2, 5, none⟩ (.int .i64 0)) := (((((((Only.refl _ _).setCell (by simp) _).setCell (by simp) _).setCell (by simp) _).setCell (by simp) _).setCell (by simp) _).setCell (by simp) _)
    go_wp2_with fail
    obtain ⟨wf, hwf⟩ : ∃ wf, wf = ((((((w1.setCell ⟨w.heap.size + 2, 0, none⟩ (.slice none 0 0)).setCell ⟨w.heap.size + 2, 1, none⟩ (.slice none 0 0)).setCell ⟨w.heap.size + 2, 2, none⟩ (.slice none 0 0)).setCell ⟨w.heap.size + 2, 3, none⟩ (.int .i64 0)).setCell ⟨w.heap.size + 2, 4, none⟩ (.string ⟨#[]⟩)).setCell ⟨w.heap.size + 2, 5, none⟩ (.int .i64 0)) := ⟨_, rfl⟩
    rw [← hwf] at Yf kf ⊢
    simp only [List.set] at Yf
    clear hwf g0 q0 g1 q1 g2 q2 g3 q3 g4 q4 g5 q5
    have z0 := Yf.cell 0 rfl
    have z1 := Yf.cell 1 rfl
    have z2 := Yf.cell 2 rfl
    have z3 := Yf.cell 3 rfl
    have z4 := Yf.cell 4 rfl
    have z5 := Yf.cell 5 rfl
    refine bodyPost_ret (v := .tuple #[.agg #[.slice none 0 0, .slice none 0 0, .slice none 0 0, .int .i64 0, .string ⟨#[]⟩, .int .i64 0], .bool false]) (by simp [results, Tryz.results6, go_sem, z0, z1, z2, z3, z4, z5]) rfl ⟨[.slice none 0 0, .slice none 0 0, .slice none 0 0, .int .i64 0, .string ⟨#[]⟩, .int .i64 0], _, by rw [HE.out], by rw [HE.out]; exact noFill_rd wf, Fresh.nil _ _, K1.then_ kf (by simp)⟩
  rcases hr : inR kept sy lg.size
  · have he : st = (noFill, false) := by rw [HS.out]; unfold crashF; rw [if_neg (fun hc => by have h1 : inR kept sy lg.size = true := hc.2; rw [hr] at h1; cases h1)]
    have HE := Lib.hid he
    have HRng := Lib.hid hr
    clear he hr
    go_enter Tryz.func6, Tryz.ntmps6
    go_upto_region 2 with (first
      | (go_at_call 17; (with_reducible refine (HcR.out _ k0).mono ?_); rintro e w1 ⟨he, t1⟩; rw [← HVB.out] at he; subst he; have J1 := HB1.out.keep t1; have i4 := J1.cell 4 rfl; have i5 := J1.cell 5 rfl)
      | (go_at_call 18; (with_reducible refine (inRange_any kept sy lg.size _).mono ?_); rintro e w2 ⟨he, h1⟩; rw [HRng.out] at he; subst he; rw [h1]; clear h1)
      | fail "no arm")
    clear i4 i5 J1
    have YR := HB2.out.keep t1
    have K1 : Only [] w w1 := k0.trans t1
    have g0 := YR.cell 0 rfl
    have q0 := YR.frozen 0
    have g1 := YR.cell 1 rfl
    have q1 := YR.frozen 1
    have g2 := YR.cell 2 rfl
    have q2 := YR.frozen 2
    have g3 := YR.cell 3 rfl
    have q3 := YR.frozen 3
    have g4 := YR.cell 4 rfl
    have q4 := YR.frozen 4
    have g5 := YR.cell 5 rfl
    have q5 := YR.frozen 5
    have Yf := ((((((YR.set 0 (.slice none 0 0)).set 1 (.slice none 0 0)).set 2 (.slice none 0 0)).set 3 (.int .i64 0)).set 4 (.string ⟨#[]⟩)).set 5 (.int .i64 0))
    have kf : Only [w.heap.size + 2] w1 ((((((w1.setCell ⟨w.heap.size + 2, 0, none⟩ (.slice none 0 0)).setCell ⟨w.heap.size + 2, 1, none⟩ (.slice none 0 0)).setCell ⟨w.heap.size + 2, 2, none⟩ (.slice none 0 0)).setCell ⟨w.heap.size + 2, 3, none⟩ (.int .i64 0)).setCell ⟨w.heap.size + 2, 4, none⟩ (.string ⟨#[]⟩)).setCell ⟨w.heap.size + 2, 5, none⟩ (.int .i64 0)) := (((((((Only.refl _ _).setCell (by simp) _).setCell (by simp) _).setCell (by simp) _).setCell (by simp) _).setCell (by simp) _).setCell (by simp) _)
    go_wp2_with fail
    obtain ⟨wf, hwf⟩ : ∃ wf, wf = ((((((w1.setCell ⟨w.heap.size + 2, 0, none⟩ (.slice none 0 0)).setCell ⟨w.heap.size + 2, 1, none⟩ (.slice none 0 0)).setCell ⟨w.heap.size + 2, 2, none⟩ (.slice none 0 0)).setCell ⟨w.heap.size + 2, 3, none⟩ (.int .i64 0)).setCell ⟨w.heap.size + 2, 4, none⟩ (.string ⟨#[]⟩)).setCell ⟨w.heap.size + 2, 5, none⟩ (.int .i64 0)) := ⟨_, rfl⟩
    rw [← hwf] at Yf kf ⊢
    simp only [List.set] at Yf
    clear hwf g0 q0 g1 q1 g2 q2 g3 q3 g4 q4 g5 q5
    have z0 := Yf.cell 0 rfl
    have z1 := Yf.cell 1 rfl
    have z2 := Yf.cell 2 rfl
    have z3 := Yf.cell 3 rfl
    have z4 := Yf.cell 4 rfl
    have z5 := Yf.cell 5 rfl
    refine bodyPost_ret (v := .tuple #[.agg #[.slice none 0 0, .slice none 0 0, .slice none 0 0, .int .i64 0, .string ⟨#[]⟩, .int .i64 0], .bool false]) (by simp [results, Tryz.results6, go_sem, z0, z1, z2, z3, z4, z5]) rfl ⟨[.slice none 0 0, .slice none 0 0, .slice none 0 0, .int .i64 0, .string ⟨#[]⟩, .int .i64 0], _, by rw [HE.out], by rw [HE.out]; exact noFill_rd wf, Fresh.nil _ _, K1.then_ kf (by simp)⟩
  have HVT := Lib.hid (show validF x (⟨⟨tr, ps, ds⟩, nx, lg, sy⟩ : FillJob) = true from HVB.out.symm)
  obtain ⟨n, htb, hokn, hje⟩ := chF_valid HVT.out
  have htb' : (bTab x tr).isSome = true := htb
  have hsr : 0 ≤ sy ∧ sy ≤ lg.size := by
    obtain ⟨_, _, _, _, _, h5, h6⟩ := validF_at HVT.out
    exact ⟨h5, h6⟩
  have hkr := inR_iff.1 hr
  obtain ⟨kn, hkn⟩ : ∃ kn : Nat, kept = kn := ⟨kept.toNat, by omega⟩
  subst hkn
  have hkl : (kn : Int) ≤ (lg.size : Int) := hkr.2
  have hk0 : (0 : Int) ≤ (kn : Int) := by omega
  obtain ⟨JR, hJR⟩ : ∃ JR, JR = crashJ x (⟨⟨tr, ps, ds⟩, nx, lg, sy⟩ : FillJob) kn := ⟨_, rfl⟩
  have he : st = (JR, true) := by rw [HS.out]; unfold crashF; rw [if_pos ⟨HVT.out, hr⟩, ← hJR]
  have hJR2 : JR = { repF x (lg.extract 0 kn) 3001 (startF tr) with synced := ((repF x (lg.extract 0 kn) 3001 (startF tr)).log.size : Int) } := by rw [hJR]; unfold crashJ; simp only [Int.toNat_natCast]
  have HE := Lib.hid he
  have HJR := Lib.hid hJR2
  have HTb := Lib.hid htb'
  have HRng := Lib.hid hr
  clear he hJR hJR2 htb htb' hokn hje hr hkr hsr
  have hls : (lg.extract 0 kn).size ≤ maxLen := by rw [ByteArray.size_extract]; unfold maxLen; omega
  go_enter Tryz.func6, Tryz.ntmps6
  go_upto_region 3 with (first
    | (go_at_call 17; (with_reducible refine (HcR.out _ k0).mono ?_); rintro e w1 ⟨he, t1⟩; rw [← HVB.out] at he; subst he; have J1 := HB1.out.keep t1; have i4 := J1.cell 4 rfl; have i5 := J1.cell 5 rfl)
    | (go_at_call 18; (with_reducible refine (inRange_any (kn : Int) sy lg.size _).mono ?_); rintro e w2 ⟨he, h1⟩; rw [HRng.out] at he; subst he; rw [h1]; clear h1)
    | fail "no arm")
  clear i4 i5 J1
  have K1 : Only [] w w1 := k0.trans t1
  have hs1 : w.heap.size + 3 ≤ w1.heap.size := by have h1 := t1.size; simp at h1; omega
  have HY0 := Lib.hid (HB0.out.keep t1)
  have HY1 := Lib.hid (HB1.out.keep t1)
  have HYZ := Lib.hid (HB2.out.keep t1)
  have hok0 : okF x tr 0 := fun m hm => by omega
  have hst0 : startF tr = chF x tr 0 0 := rfl
  have hi0 : I64 0 := by unfold I64; omega
  go_region_held3 (fun w' => Only [w.heap.size + 2] w1 w' ∧ w'.cell? ⟨w.heap.size, 0, none⟩ = some (Value.int .i64 x.points) ∧ w'.cell? ⟨w.heap.size, 1, none⟩ = some (Value.string x.names) ∧ w'.cell? ⟨w.heap.size, 2, none⟩ = some (Value.slice A0 x.moves.length C0) ∧ w'.cell? ⟨w.heap.size + 1, 0, none⟩ = some (.slice A1 tr.length C1) ∧ w'.cell? ⟨w.heap.size + 1, 4, none⟩ = some (.string lg)) ((refine and_of ?_ (fun h__ => ⟨(Blk.only HY0.out h__ (by simp)).cell 0 rfl, (Blk.only HY0.out h__ (by simp)).cell 1 rfl, (Blk.only HY0.out h__ (by simp)).cell 2 rfl, (Blk.only HY1.out h__ (by simp)).cell 0 rfl, (Blk.only HY1.out h__ (by simp)).cell 4 rfl⟩); first | with_reducible exact (Only.refl _ _).drew | with_reducible exact Only.keepThen (And.left (by assumption)) (by assumption) | with_reducible exact Only.setCell (Only.setCell (Only.setCell (Only.setCell (Only.setCell (Only.setCell (And.left (by assumption)) (by intro _; simp) _) (by intro _; simp) _) (by intro _; simp) _) (by intro _; simp) _) (by intro _; simp) _) (by intro _; simp) _)) (first
      | (go_at_call 20; (with_reducible refine (start28_any (.slice A1 tr.length C1) tr _ _ (Rp.keep hk1 (Only.own1 K1 (And.left (by assumption)) (by omega))) htl).mono ?_); rintro e w3 ⟨cs3, f3, rfl, r3, F3, t3⟩; have k3 : Only [] w1 w3 := Only.trans (Only.refl [] w1).drew t3)
      | (go_at_call 19; (with_reducible refine (specReplay_any [.int .i64 x.points, .string x.names, .slice A0 x.moves.length C0] _ x _ tr (startF tr) 0 0 _ (lg.extract 0 kn) (w.heap.size + 3) _ (Rp.keep hh (Only.own1 K1 (And.left (by assumption)) (by omega))) r3 (F3.mono (by simp; omega)) (by have := k3.size; omega) hi0 hls HTb.out hok0 hst0).mono ?_); rintro e w4 ⟨cs4, f4, rfl, r4, F4, t4⟩; have KY : Only [] w1 w4 := k3.trans t4; rw [← HJR.out] at r4; have r40 := r4; obtain ⟨d0, rfl, a1, a2, a3, q3⟩ := r4; obtain ⟨x0, x1, x2, y0, y1, y2, rfl, hfe, m0, m1, m2⟩ := q3; obtain ⟨G0, H0, _, _, rfl, -⟩ := m0.open_; obtain ⟨G1, H1, _, _, rfl, -⟩ := m1.open_; obtain ⟨G2, H2, _, _, rfl, -⟩ := m2.open_; clear m0 m1 m2 hfe; have YZ4 := HYZ.out.keep KY; have g0 := YZ4.cell 0 rfl; have q0 := YZ4.frozen 0; have g1 := YZ4.cell 1 rfl; have q1 := YZ4.frozen 1; have g2 := YZ4.cell 2 rfl; have q2 := YZ4.frozen 2; have g3 := YZ4.cell 3 rfl; have q3 := YZ4.frozen 3; have g4 := YZ4.cell 4 rfl; have q4 := YZ4.frozen 4; have g5 := YZ4.cell 5 rfl; have q5 := YZ4.frozen 5)
      | fail "no arm")
  have K4 : Only [] w w4 := K1.trans KY
  have hfd : ∀ b ∈ f4, b ∉ [w.heap.size + 2] := fun b hb hm => by have := F4.ge b hb; simp at hm; (try simp at this); omega
  have Yf := ((((((YZ4.set 0 (.slice G0 JR.table.tracked.length H0)).set 1 (.slice G1 JR.table.patterns.length H1)).set 2 (.slice G2 JR.table.distances.length H2)).set 3 (.int .i64 JR.next)).set 4 (.string JR.log)).set 5 (.int .i64 JR.synced))
  have kf : Only [w.heap.size + 2] w4 ((((((w4.setCell ⟨w.heap.size + 2, 0, none⟩ (.slice G0 JR.table.tracked.length H0)).setCell ⟨w.heap.size + 2, 1, none⟩ (.slice G1 JR.table.patterns.length H1)).setCell ⟨w.heap.size + 2, 2, none⟩ (.slice G2 JR.table.distances.length H2)).setCell ⟨w.heap.size + 2, 3, none⟩ (.int .i64 JR.next)).setCell ⟨w.heap.size + 2, 4, none⟩ (.string JR.log)).setCell ⟨w.heap.size + 2, 5, none⟩ (.int .i64 JR.synced)) := (((((((Only.refl _ _).setCell (by simp) _).setCell (by simp) _).setCell (by simp) _).setCell (by simp) _).setCell (by simp) _).setCell (by simp) _)
  go_wp2_with fail
  obtain ⟨wf, hwf⟩ : ∃ wf, wf = ((((((w4.setCell ⟨w.heap.size + 2, 0, none⟩ (.slice G0 JR.table.tracked.length H0)).setCell ⟨w.heap.size + 2, 1, none⟩ (.slice G1 JR.table.patterns.length H1)).setCell ⟨w.heap.size + 2, 2, none⟩ (.slice G2 JR.table.distances.length H2)).setCell ⟨w.heap.size + 2, 3, none⟩ (.int .i64 JR.next)).setCell ⟨w.heap.size + 2, 4, none⟩ (.string JR.log)).setCell ⟨w.heap.size + 2, 5, none⟩ (.int .i64 JR.synced)) := ⟨_, rfl⟩
  rw [← hwf] at Yf kf ⊢
  simp only [List.set] at Yf
  clear hwf g0 q0 g1 q1 g2 q2 g3 q3 g4 q4 g5 q5
  have z0 := Yf.cell 0 rfl
  have z1 := Yf.cell 1 rfl
  have z2 := Yf.cell 2 rfl
  have z3 := Yf.cell 3 rfl
  have z4 := Yf.cell 4 rfl
  have z5 := Yf.cell 5 rfl
  refine bodyPost_ret (v := .tuple #[.agg #[.slice G0 JR.table.tracked.length H0, .slice G1 JR.table.patterns.length H1, .slice G2 JR.table.distances.length H2, .int .i64 JR.next, .string JR.log, .int .i64 JR.synced], .bool true]) (by simp [results, Tryz.results6, go_sem, z0, z1, z2, z3, z4, z5]) rfl ⟨[.slice G0 JR.table.tracked.length H0, .slice G1 JR.table.patterns.length H1, .slice G2 JR.table.distances.length H2, .int .i64 JR.next, .string JR.log, .int .i64 JR.synced], _, by rw [HE.out], by rw [HE.out]; exact Rp.only r40 kf hfd, (F4.mono (by first | omega | (simp; omega))).only kf hfd, K4.then_ kf (by simp)⟩
end Go.Proofs.YtkhdmiemfpelcaaGreat
