/- The program's RecoverFill. (Printed by mkfillimp11.py.) The program's IsValidFill and CrashFill. (Printed by mkfillimp12.py.) CrashFill as the law's walk wants it. -/
import Derived.Test.YtkhdmiemfpelcaaGreatRowCrashFillG16
import Derived.Test.YtkhdmiemfpelcaaGreatRowCrashFillG17
import Derived.Deep.RegionHeld3
namespace Go.Proofs.YtkhdmiemfpelcaaGreat
open Go.RowKit
set_option maxRecDepth 10000

theorem ba_split (lg : ByteArray) (a b : Nat) : lg.extract 0 (a + b) = lg.extract 0 a ++ lg.extract a (a + b) := by
  apply ByteArray.ext
  rw [ByteArray.data_append, ByteArray.data_extract, ByteArray.data_extract, ByteArray.data_extract, Array.extract_append_extract]
  congr 1 <;> omega
theorem ba_cancel {a b c : ByteArray} (h : a ++ b = a ++ c) : b = c := by
  have h1 := congrArg (fun z => z.data.toList) h
  simp only [ByteArray.data_append, Array.toList_append] at h1
  have h2 := List.append_cancel_left h1
  exact ByteArray.ext (Array.toList_inj.1 h2)
theorem ext_more {lg l r : ByteArray} (h : l = lg.extract 0 l.size) : l ++ r = lg.extract 0 (l ++ r).size ↔ r = lg.extract l.size (l.size + r.size) := by
  rw [ByteArray.size_append, ba_split, ← h]
  constructor
  · exact ba_cancel
  · intro h2; rw [← h2]
set_option maxHeartbeats 8000000 in
theorem recover_yes (cs : List Value) (x : Puzzle) (fp : List Nat) (c1 : Value) (tr : List Int) (g1 : List Nat) (lg : ByteArray) (w : World) (h : Rp.rep w cs x fp) (k1 : Rd w c1 tr g1) (htl : tr.length ≤ 2097152) (htb : (bTab x tr).isSome = true) (hls : lg.size ≤ 60000) :
    Calls Tryz.prog 25 #[.agg cs.toArray, c1, .string lg] w fun e w' => ∃ cs' fp', e = .returned (.tuple #[.agg (List.toArray cs'), .bool true]) ∧ Rp.rep w' cs' ({ repF x lg 3001 (startF tr) with synced := ((repF x lg 3001 (startF tr)).log.size : Int) } : FillJob) fp' ∧ Fresh w.heap.size w' fp' ∧ Only [] w w' := by
  have hh := h
  obtain ⟨v2, rfl, p0, p1, h2⟩ := h
  obtain ⟨A0, C0, _, _, rfl, -, -⟩ := h2.open_
  have hk1 := k1
  obtain ⟨A1, C1, _, _, rfl, -⟩ := k1.open_
  clear k1 p0 p1
  obtain ⟨JR, hJR⟩ : ∃ JR, JR = repF x lg 3001 (startF tr) := ⟨_, rfl⟩
  rw [← hJR]
  have HJR := Lib.hid hJR
  have HTb := Lib.hid htb
  clear hJR htb
  have k0 : Only [] w ((w.alloc (.cells #[.int .i64 x.points, .string x.names, .slice A0 x.moves.length C0] 37)).alloc (.cells #[.slice none 0 0, .slice none 0 0, .slice none 0 0, .int .i64 0, .string ⟨#[]⟩, .int .i64 0] 34)) := ((Only.refl _ _).alloc _).alloc _
  have B2 : Blk ((w.alloc (.cells #[.int .i64 x.points, .string x.names, .slice A0 x.moves.length C0] 37)).alloc (.cells #[.slice none 0 0, .slice none 0 0, .slice none 0 0, .int .i64 0, .string ⟨#[]⟩, .int .i64 0] 34)) (w.heap.size + 1) [.slice none 0 0, .slice none 0 0, .slice none 0 0, .int .i64 0, .string ⟨#[]⟩, .int .i64 0] := Blk.new_at (by simp)
  have HB2 := Lib.hid B2
  clear B2
  have HcS := Lib.hid (fun (V : World) (hV : Only [] w V) => start_any [.int .i64 x.points, .string x.names, .slice A0 x.moves.length C0] x _ (.slice A1 tr.length C1) tr _ V (Rp.keep hh hV) (Rp.keep hk1 hV) htl)
  have hl2 : ¬ ((60000 : Int) < (lg.size : Int)) := by omega
  go_enter Tryz.func25, Tryz.ntmps25
  go_wp2_with (first
    | (go_at_call 39; (with_reducible refine (HcS.out _ k0).mono ?_); rintro e w1 ⟨q, he, hq, t1⟩; rw [HTb.out] at he; subst he; obtain ⟨B, g, rfl, hB, hFil⟩ := hq HTb.out)
    | fail "no arm")
  have hB3 : w.heap.size + 2 ≤ B := by simpa using hB
  have K1 : Only [] w w1 := k0.trans t1
  have Y1 := HB2.out.keep t1
  have hFil0 : Fil x B g w1 (chF x tr 0 0) := hFil
  clear hB hq hFil
  go_loopw [] (fun wr => ∃ m : Nat, m ≤ 3000 ∧ okF x tr m ∧ Fil x B g wr (chF x tr 0 m) ∧ OnlyB B w1 wr ∧ Hid (JR = repF x lg (3001 - m) (chF x tr 0 m)) ∧ Hid ((chF x tr 0 m).log = lg.extract 0 (chF x tr 0 m).log.size) ∧ (chF x tr 0 m).log.size ≤ lg.size)
    (fun wr => 3001 - (intOf ((wr.cell? ⟨g, 3, none⟩).getD undef)).toNat)
  case atStart => exact ⟨0, by omega, fun m hm => by omega, hFil0, OnlyB.of (Only.refl [] _), Lib.hid (by rw [HJR.out]; rfl), Lib.hid (by show ByteArray.empty = lg.extract 0 0; apply ByteArray.ext; simp), by show ByteArray.empty.size ≤ lg.size; simp⟩
  case round =>
    obtain ⟨W2, hnew⟩ : ∃ W, W = wr := ⟨_, rfl⟩
    subst hnew
    obtain ⟨m, hm3, hokm, hF, hO, HRR, HPre, hple⟩ := hrel
    have hgo := chF_go (s := 0) HTb.out hokm
    have KO : Only [] w W2 := hO.old K1 (by omega)
    have YW := hO.blk Y1 (by omega)
    obtain ⟨JX, hJX⟩ : ∃ JX, JX = chF x tr 0 m := ⟨_, rfl⟩
    rw [← hJX] at hF hgo HRR HPre hple
    have HJX := Lib.hid hJX
    clear hJX
    obtain ⟨⟨tr', ps', ds'⟩, nx', lg', sy'⟩ := JX
    have hnn : nx' = (m : Int) := hgo.nx
    subst hnn
    have hF0 := hF
    obtain ⟨M, v1, vm, f1, fm, ex, u2, u3, fs, hL⟩ := hF
    have hL0 : FL B g M v1 vm (.int .i64 (m : Int)) (.string lg') (.int .i64 sy') tr' ((ltrs x.moves.length).map (mv x.moves)) f1 fm ex ps' ps' ds' W2 u2 u3 fs := hL
    clear hL
    have hle : ps'.length ≤ 3000 := hgo.le
    have hln : ds'.length = ps'.length := hgo.ln
    have hlg : lg'.size ≤ 2000000 := hgo.lg
    have hln' : m ≤ ps'.length := hgo.lt
    have hple' : lg'.size ≤ lg.size := hple
    have hpre : lg' = lg.extract 0 lg'.size := HPre.out
    have HG := Lib.hid hgo
    have Hln := Lib.hid hln
    have HPre' := Lib.hid hpre
    have hstop : ¬ onF x lg (⟨⟨tr', ps', ds'⟩, (m : Int), lg', sy'⟩ : FillJob) → ({ JR with synced := (JR.log.size : Int) } : FillJob) = ⟨⟨tr', ps', ds'⟩, (m : Int), lg', (lg'.size : Int)⟩ := fun hn => by
      have h1 : JR = (⟨⟨tr', ps', ds'⟩, (m : Int), lg', sy'⟩ : FillJob) := HRR.out.trans (repF_stop hn)
      rw [h1]
    have Hstop := Lib.hid hstop
    clear hgo hln hstop hpre HPre
    by_cases hd : m = ps'.length
    · have hres := Hstop.out (fun hn => by
        have h1 := stepF_done (x := x) (j := ⟨⟨tr', ps', ds'⟩, (m : Int), lg', sy'⟩) (by show (m : Int) = (ps'.length : Int); omega)
        have h2 := hn.1
        rw [h1] at h2; cases h2)
      have HRes := Lib.hid hres
      have Hd := Lib.hid (show decide (m = ps'.length) = true from decide_eq_true hd)
      clear hres hd
      go_upto_region 9 with (first
        | (go_at_call 40; (with_reducible refine (isDone_any _ (hL0.keep (by with_reducible repeat (first | exact Only.refl _ _ | assumption | refine Only.drewN ?_ _ | refine Only.drew ?_ | refine Only.alloc ?_ _ | refine Only.setCell ?_ (by intro hh; exfalso; simp at hh; try omega) _ | refine Only.trans ?_ (by assumption))))).mono ?_); rintro e w2 ⟨he, t2⟩; rw [Hd.out] at he; subst he)
        | fail "no arm")
      have k2 : Only [] W2 w2 := (by with_reducible repeat (first | exact Only.refl _ _ | assumption | refine Only.drewN ?_ _ | refine Only.drew ?_ | refine Only.alloc ?_ _ | refine Only.setCell ?_ (by intro hh; exfalso; simp at hh; try omega) _ | refine Only.trans ?_ (by assumption)))
      have Ke : Only [] w w2 := KO.trans k2
      have Ye := YW.keep k2
      have hLe := hL0.keep k2
      have z4 := hLe.blk.cell 4 rfl
      have z5 := hLe.blk.cell 5 rfl
      have p5 := hLe.blk.frozen 5
      have hL1 := hLe.store 5 (.int .i64 (lg'.size : Int)) rfl
      have hgB : B ≤ g := (hLe.fam.rng [g] (List.mem_of_getElem? (i := 0) rfl) g (by simp)).1
      have hs5 : Only [g] w2 (w2.setCell ⟨g, 5, none⟩ (.int .i64 (lg'.size : Int))) := (Only.refl _ _).setCell (by simp) _
      have YR0 := Ye.only hs5 (by simp; omega)
      have K30 : Only [] w (w2.setCell ⟨g, 5, none⟩ (.int .i64 (lg'.size : Int))) := Ke.then_ hs5 (fun b hb hl => by simp at hb; omega)
      have hFil3 : Fil x B g (w2.setCell ⟨g, 5, none⟩ (.int .i64 (lg'.size : Int))) (⟨⟨tr', ps', ds'⟩, (m : Int), lg', (lg'.size : Int)⟩ : FillJob) := ⟨_, _, _, _, _, _, _, _, _, hL1⟩
      go_upto_region 10 with fail
      obtain ⟨w9, hw9⟩ : ∃ w9, w9 = (w2.setCell ⟨g, 5, none⟩ (.int .i64 (lg'.size : Int))) := ⟨_, rfl⟩
      rw [← hw9] at YR0 K30 hFil3
      rw [← hw9]
      clear hw9 hLe hL1 hs5 z4 z5 p5 Ye
      have YR := YR0
      have K3 := K30
      have hsz3 := K3.size
      obtain ⟨M9, vm9, Q1, R1, Q2, R2, Q3, R3, fj, hbk, hrj, hfj⟩ := hFil3.jobrd (by unfold I64; show -9223372036854775808 ≤ (m : Int) ∧ (m : Int) ≤ 9223372036854775807; omega) (by show lg'.size ≤ maxLen; unfold maxLen; omega) (by unfold I64; show -9223372036854775808 ≤ (lg'.size : Int) ∧ (lg'.size : Int) ≤ 9223372036854775807; omega)
      simp only at hbk hrj
      have e0 := hbk.cell 0 rfl
      have e1 := hbk.cell 1 rfl
      have e2 := hbk.cell 2 rfl
      have e3 := hbk.cell 3 rfl
      have e4 := hbk.cell 4 rfl
      have e5 := hbk.cell 5 rfl
      have hfd : ∀ b ∈ fj, b ∉ [w.heap.size + 1] := fun b hb hm => by have := hfj.ge b hb; simp at hm; omega
      have g0 := YR.cell 0 rfl
      have q0 := YR.frozen 0
      have g1 := YR.cell 1 rfl
      have q1 := YR.frozen 1
      have g2 := YR.cell 2 rfl
      have q2 := YR.frozen 2
      have g3 := YR.cell 3 rfl
      have q3 := YR.frozen 3
      have g4 := YR.cell 4 rfl
      have q4 := YR.frozen 4
      have g5 := YR.cell 5 rfl
      have q5 := YR.frozen 5
      have Yf := ((((((YR.set 0 (.slice Q1 tr'.length R1)).set 1 (.slice Q2 ps'.length R2)).set 2 (.slice Q3 ds'.length R3)).set 3 (.int .i64 m)).set 4 (.string lg')).set 5 (.int .i64 (lg'.size : Int)))
      have kf : Only [w.heap.size + 1] w9 ((((((w9.setCell ⟨w.heap.size + 1, 0, none⟩ (.slice Q1 tr'.length R1)).setCell ⟨w.heap.size + 1, 1, none⟩ (.slice Q2 ps'.length R2)).setCell ⟨w.heap.size + 1, 2, none⟩ (.slice Q3 ds'.length R3)).setCell ⟨w.heap.size + 1, 3, none⟩ (.int .i64 m)).setCell ⟨w.heap.size + 1, 4, none⟩ (.string lg')).setCell ⟨w.heap.size + 1, 5, none⟩ (.int .i64 (lg'.size : Int))) := (((((((Only.refl _ _).setCell (by simp) _).setCell (by simp) _).setCell (by simp) _).setCell (by simp) _).setCell (by simp) _).setCell (by simp) _)
      go_wp2_with fail
      obtain ⟨wf, hwf⟩ : ∃ wf, wf = ((((((w9.setCell ⟨w.heap.size + 1, 0, none⟩ (.slice Q1 tr'.length R1)).setCell ⟨w.heap.size + 1, 1, none⟩ (.slice Q2 ps'.length R2)).setCell ⟨w.heap.size + 1, 2, none⟩ (.slice Q3 ds'.length R3)).setCell ⟨w.heap.size + 1, 3, none⟩ (.int .i64 m)).setCell ⟨w.heap.size + 1, 4, none⟩ (.string lg')).setCell ⟨w.heap.size + 1, 5, none⟩ (.int .i64 (lg'.size : Int))) := ⟨_, rfl⟩
      rw [← hwf] at Yf kf ⊢
      simp only [List.set] at Yf
      clear hwf g0 q0 g1 q1 g2 q2 g3 q3 g4 q4 g5 q5
      have z0 := Yf.cell 0 rfl
      have z1 := Yf.cell 1 rfl
      have z2 := Yf.cell 2 rfl
      have z3 := Yf.cell 3 rfl
      have z4 := Yf.cell 4 rfl
      have z5 := Yf.cell 5 rfl
      refine bodyPost_ret (v := .tuple #[.agg #[.slice Q1 tr'.length R1, .slice Q2 ps'.length R2, .slice Q3 ds'.length R3, .int .i64 m, .string lg', .int .i64 (lg'.size : Int)], .bool true]) (by simp [results, Tryz.results25, go_sem, z0, z1, z2, z3, z4, z5]) rfl ⟨[.slice Q1 tr'.length R1, .slice Q2 ps'.length R2, .slice Q3 ds'.length R3, .int .i64 m, .string lg', .int .i64 (lg'.size : Int)], _, rfl, by rw [HRes.out]; exact Rp.only hrj kf hfd, (hfj.mono (by omega)).only kf hfd, K3.then_ kf (by simp)⟩
    · have Hd := Lib.hid (show decide (m = ps'.length) = false from decide_eq_false hd)
      have hlt : m < ps'.length := by omega
      have hnx : ((⟨⟨tr', ps', ds'⟩, (m : Int), lg', sy'⟩ : FillJob)).next ≠ ((⟨⟨tr', ps', ds'⟩, (m : Int), lg', sy'⟩ : FillJob)).table.patterns.length := by show (m : Int) ≠ (ps'.length : Int); omega
      obtain ⟨a, ha⟩ : ∃ a, a = addL x ps' (ps'.getD m []) (ltrs x.moves.length) [] := ⟨_, rfl⟩
      have hex : expandF x ⟨⟨tr', ps', ds'⟩, (m : Int), lg', sy'⟩ = ⟨⟨tr', ps' ++ a, ds' ++ List.replicate a.length (ds'.getD m 0 + 1)⟩, (m : Int) + 1, lg' ++ recF (m : Int) a, sy'⟩ := by
        unfold expandF newF
        simp only [Int.toNat_natCast]
        rw [← ha]
      obtain ⟨rec, hrec⟩ : ∃ rec, rec = recF (m : Int) a := ⟨_, rfl⟩
      rw [← hrec] at hex
      have hpq : patB x.points tr'.length (ps'.getD m []) = true := by rw [getD_get hlt]; exact HG.out.ps _ (List.getElem_mem hlt)
      have hap : ∀ z ∈ a, patB x.points tr'.length z = true := fun z hz => by
        rw [ha] at hz
        exact addL_pat HG.out.vp hpq (ltrs x.moves.length) [] (fun y hy => hy) (by simp) z hz
      have htl2 : tr'.length ≤ 20 := by
        have h1 := (trackB_iff.1 HG.out.tr).2.len
        have h2 := (validPz_facts HG.out.vp).2.1
        simp only at h1
        omega
      have har : ∀ z ∈ a, z.length ≤ 20 := fun z hz => by have := (patB_iff.1 (hap z hz)).1; omega
      have hal : a.length ≤ 1000 := by
        have h1 := (addL_pre x ps' (ps'.getD m []) (ltrs x.moves.length) []).2
        have h2 := (validPz_facts HG.out.vp).2.2.1
        rw [ha]
        rw [ltrs_len] at h1
        simp only [List.length_nil] at h1
        omega
      have hrs : rec.size ≤ 100000 := by rw [hrec, recF_size]; have := flatten_len har; omega
      have hwa : IntKind.i64.wrap ((lg'.size : Int) + (rec.size : Int)) = (lg'.size : Int) + (rec.size : Int) := by rw [IntKind.wrap_i64]; omega
      have hws : IntKind.i64.wrap ((lg.size : Int) - (lg'.size : Int)) = (lg.size : Int) - (lg'.size : Int) := by rw [IntKind.wrap_i64]; omega
      have HA := Lib.hid ha
      have Hrec := Lib.hid hrec
      have Hex := Lib.hid hex
      have Har := Lib.hid har
      clear ha hrec hex hap har hd hpq
      have HcX := Lib.hid (fun (W : World) (hh : Only [] W2 W) => expansion_any x W (hL0.keep hh) HG.out.vp HG.out.tr hlt hle HG.out.ps)
      have y4 := hL0.blk.cell 4 rfl
      by_cases hshort : lg.size < lg'.size + rec.size
      · have hres := Hstop.out (fun hn => by
          by_cases hlong : 60000 < (expandF x (⟨⟨tr', ps', ds'⟩, (m : Int), lg', sy'⟩ : FillJob)).log.size
          · have h2 := hn.1
            rw [stepF_long hnx hlong] at h2; cases h2
          · have h2 := hn.2.1
            rw [stepF_go hnx hlong, Hex.out] at h2
            have h3 : (lg' ++ rec).size ≤ lg.size := h2
            rw [ByteArray.size_append] at h3; omega)
        have HRes := Lib.hid hres
        have hcm : (lg.size : Int) - (lg'.size : Int) < (rec.size : Int) := by omega
        clear hres hnx
        go_upto_region 9 with (first
          | (go_at_call 40; (with_reducible refine (isDone_any _ (hL0.keep (by with_reducible repeat (first | exact Only.refl _ _ | assumption | refine Only.drewN ?_ _ | refine Only.drew ?_ | refine Only.alloc ?_ _ | refine Only.setCell ?_ (by intro hh; exfalso; simp at hh; try omega) _ | refine Only.trans ?_ (by assumption))))).mono ?_); rintro e w2 ⟨he, t2⟩; rw [Hd.out] at he; subst he; have y41 := t2.cell (by simp) y4)
          | (go_at_call 41; (with_reducible refine (HcX.out _ (by with_reducible repeat (first | exact Only.refl _ _ | assumption | refine Only.drewN ?_ _ | refine Only.drew ?_ | refine Only.alloc ?_ _ | refine Only.setCell ?_ (by intro hh; exfalso; simp at hh; try omega) _ | refine Only.trans ?_ (by assumption)))).mono ?_); rintro e w3 ⟨v, fa, he, hA, hF2, t3⟩; rw [← HA.out, ← Hrec.out] at he; subst he; obtain ⟨Aa, Ca, rfl⟩ := hA.form; have y42 := t3.cell (by simp) y41)
          | fail "no arm")
        have k2 : Only [] W2 w3 := (by with_reducible repeat (first | exact Only.refl _ _ | assumption | refine Only.drewN ?_ _ | refine Only.drew ?_ | refine Only.alloc ?_ _ | refine Only.setCell ?_ (by intro hh; exfalso; simp at hh; try omega) _ | refine Only.trans ?_ (by assumption)))
        have Ke : Only [] w w3 := KO.trans k2
        have Ye := YW.keep k2
        have hLe := hL0.keep k2
        clear y4 y41 y42
        have z4 := hLe.blk.cell 4 rfl
        have z5 := hLe.blk.cell 5 rfl
        have p5 := hLe.blk.frozen 5
        have hL1 := hLe.store 5 (.int .i64 (lg'.size : Int)) rfl
        have hgB : B ≤ g := (hLe.fam.rng [g] (List.mem_of_getElem? (i := 0) rfl) g (by simp)).1
        have hs5 : Only [g] w3 (w3.setCell ⟨g, 5, none⟩ (.int .i64 (lg'.size : Int))) := (Only.refl _ _).setCell (by simp) _
        have YR0 := Ye.only hs5 (by simp; omega)
        have K30 : Only [] w (w3.setCell ⟨g, 5, none⟩ (.int .i64 (lg'.size : Int))) := Ke.then_ hs5 (fun b hb hl => by simp at hb; omega)
        have hFil3 : Fil x B g (w3.setCell ⟨g, 5, none⟩ (.int .i64 (lg'.size : Int))) (⟨⟨tr', ps', ds'⟩, (m : Int), lg', (lg'.size : Int)⟩ : FillJob) := ⟨_, _, _, _, _, _, _, _, _, hL1⟩
        go_upto_region 10 with fail
        obtain ⟨w9, hw9⟩ : ∃ w9, w9 = (w3.setCell ⟨g, 5, none⟩ (.int .i64 (lg'.size : Int))) := ⟨_, rfl⟩
        rw [← hw9] at YR0 K30 hFil3
        rw [← hw9]
        clear hw9 hLe hL1 hs5 z4 z5 p5 Ye
        have YR := YR0
        have K3 := K30
        have hsz3 := K3.size
        obtain ⟨M9, vm9, Q1, R1, Q2, R2, Q3, R3, fj, hbk, hrj, hfj⟩ := hFil3.jobrd (by unfold I64; show -9223372036854775808 ≤ (m : Int) ∧ (m : Int) ≤ 9223372036854775807; omega) (by show lg'.size ≤ maxLen; unfold maxLen; omega) (by unfold I64; show -9223372036854775808 ≤ (lg'.size : Int) ∧ (lg'.size : Int) ≤ 9223372036854775807; omega)
        simp only at hbk hrj
        have e0 := hbk.cell 0 rfl
        have e1 := hbk.cell 1 rfl
        have e2 := hbk.cell 2 rfl
        have e3 := hbk.cell 3 rfl
        have e4 := hbk.cell 4 rfl
        have e5 := hbk.cell 5 rfl
        have hfd : ∀ b ∈ fj, b ∉ [w.heap.size + 1] := fun b hb hm => by have := hfj.ge b hb; simp at hm; omega
        have g0 := YR.cell 0 rfl
        have q0 := YR.frozen 0
        have g1 := YR.cell 1 rfl
        have q1 := YR.frozen 1
        have g2 := YR.cell 2 rfl
        have q2 := YR.frozen 2
        have g3 := YR.cell 3 rfl
        have q3 := YR.frozen 3
        have g4 := YR.cell 4 rfl
        have q4 := YR.frozen 4
        have g5 := YR.cell 5 rfl
        have q5 := YR.frozen 5
        have Yf := ((((((YR.set 0 (.slice Q1 tr'.length R1)).set 1 (.slice Q2 ps'.length R2)).set 2 (.slice Q3 ds'.length R3)).set 3 (.int .i64 m)).set 4 (.string lg')).set 5 (.int .i64 (lg'.size : Int)))
        have kf : Only [w.heap.size + 1] w9 ((((((w9.setCell ⟨w.heap.size + 1, 0, none⟩ (.slice Q1 tr'.length R1)).setCell ⟨w.heap.size + 1, 1, none⟩ (.slice Q2 ps'.length R2)).setCell ⟨w.heap.size + 1, 2, none⟩ (.slice Q3 ds'.length R3)).setCell ⟨w.heap.size + 1, 3, none⟩ (.int .i64 m)).setCell ⟨w.heap.size + 1, 4, none⟩ (.string lg')).setCell ⟨w.heap.size + 1, 5, none⟩ (.int .i64 (lg'.size : Int))) := (((((((Only.refl _ _).setCell (by simp) _).setCell (by simp) _).setCell (by simp) _).setCell (by simp) _).setCell (by simp) _).setCell (by simp) _)
        go_wp2_with fail
        obtain ⟨wf, hwf⟩ : ∃ wf, wf = ((((((w9.setCell ⟨w.heap.size + 1, 0, none⟩ (.slice Q1 tr'.length R1)).setCell ⟨w.heap.size + 1, 1, none⟩ (.slice Q2 ps'.length R2)).setCell ⟨w.heap.size + 1, 2, none⟩ (.slice Q3 ds'.length R3)).setCell ⟨w.heap.size + 1, 3, none⟩ (.int .i64 m)).setCell ⟨w.heap.size + 1, 4, none⟩ (.string lg')).setCell ⟨w.heap.size + 1, 5, none⟩ (.int .i64 (lg'.size : Int))) := ⟨_, rfl⟩
        rw [← hwf] at Yf kf ⊢
        simp only [List.set] at Yf
        clear hwf g0 q0 g1 q1 g2 q2 g3 q3 g4 q4 g5 q5
        have z0 := Yf.cell 0 rfl
        have z1 := Yf.cell 1 rfl
        have z2 := Yf.cell 2 rfl
        have z3 := Yf.cell 3 rfl
        have z4 := Yf.cell 4 rfl
        have z5 := Yf.cell 5 rfl
        refine bodyPost_ret (v := .tuple #[.agg #[.slice Q1 tr'.length R1, .slice Q2 ps'.length R2, .slice Q3 ds'.length R3, .int .i64 m, .string lg', .int .i64 (lg'.size : Int)], .bool true]) (by simp [results, Tryz.results25, go_sem, z0, z1, z2, z3, z4, z5]) rfl ⟨[.slice Q1 tr'.length R1, .slice Q2 ps'.length R2, .slice Q3 ds'.length R3, .int .i64 m, .string lg', .int .i64 (lg'.size : Int)], _, rfl, by rw [HRes.out]; exact Rp.only hrj kf hfd, (hfj.mono (by omega)).only kf hfd, K3.then_ kf (by simp)⟩
      · have hcm : ¬ ((lg.size : Int) - (lg'.size : Int) < (rec.size : Int)) := by omega
        have hlong : ¬ 60000 < (expandF x (⟨⟨tr', ps', ds'⟩, (m : Int), lg', sy'⟩ : FillJob)).log.size := by
          rw [Hex.out]
          show ¬ 60000 < (lg' ++ rec).size
          rw [ByteArray.size_append]; omega
        have hstep := stepF_go hnx hlong
        have hmore := ext_more (r := rec) HPre'.out
        by_cases hsame : rec = lg.extract lg'.size (lg'.size + rec.size)
        · have hon : onF x lg (⟨⟨tr', ps', ds'⟩, (m : Int), lg', sy'⟩ : FillJob) := by
            refine ⟨by rw [hstep], ?_, ?_⟩
            · rw [hstep, Hex.out]
              show (lg' ++ rec).size ≤ lg.size
              rw [ByteArray.size_append]; omega
            · rw [hstep, Hex.out]
              exact hmore.2 hsame
          have hlt3 := onF_lt (s := 0) HTb.out hokm (by rw [← HJX.out]; exact hon)
          obtain ⟨hm1, hok1, hch⟩ := hlt3
          rw [← HJX.out, hstep, Hex.out] at hch
          have hrr : JR = repF x lg (3001 - (m + 1)) (chF x tr 0 (m + 1)) := by
            have h1 := HRR.out
            rw [show 3001 - m = (3001 - (m + 1)) + 1 by omega, repF_go hon, hstep, Hex.out] at h1
            rw [h1, ← hch]
          have hpre2 : (chF x tr 0 (m + 1)).log = lg.extract 0 (chF x tr 0 (m + 1)).log.size := by rw [← hch]; exact hmore.2 hsame
          have hple2 : (chF x tr 0 (m + 1)).log.size ≤ lg.size := by
            rw [← hch]
            show (lg' ++ rec).size ≤ lg.size
            rw [ByteArray.size_append]; omega
          have b2 := str_eq hsame.symm
          have b3 : (lg.extract lg'.size (lg'.size + rec.size)).toList = rec.toList := by rw [← hsame]
          have Hch := Lib.hid hch
          have HRR2 := Lib.hid hrr
          have HP2 := Lib.hid hpre2
          clear hch hrr hpre2 hstep hmore hsame hon hnx hlong
          go_upto_region 8 with (first
            | (go_at_call 40; (with_reducible refine (isDone_any _ (hL0.keep (by with_reducible repeat (first | exact Only.refl _ _ | assumption | refine Only.drewN ?_ _ | refine Only.drew ?_ | refine Only.alloc ?_ _ | refine Only.setCell ?_ (by intro hh; exfalso; simp at hh; try omega) _ | refine Only.trans ?_ (by assumption))))).mono ?_); rintro e w2 ⟨he, t2⟩; rw [Hd.out] at he; subst he; have k1 : Only [] W2 w2 := (by with_reducible repeat (first | exact Only.refl _ _ | assumption | refine Only.drewN ?_ _ | refine Only.drew ?_ | refine Only.alloc ?_ _ | refine Only.setCell ?_ (by intro hh; exfalso; simp at hh; try omega) _ | refine Only.trans ?_ (by assumption))); have y41 := t2.cell (by simp) y4)
            | (go_at_call 41; (with_reducible refine (HcX.out _ (by with_reducible repeat (first | exact Only.refl _ _ | assumption | refine Only.drewN ?_ _ | refine Only.drew ?_ | refine Only.alloc ?_ _ | refine Only.setCell ?_ (by intro hh; exfalso; simp at hh; try omega) _ | refine Only.trans ?_ (by assumption)))).mono ?_); rintro e w3 ⟨v, fa, he, hA, hF2, t3⟩; rw [← HA.out, ← Hrec.out] at he; rw [← HA.out] at hA; subst he; have k2 : Only [] W2 w3 := (by with_reducible repeat (first | exact Only.refl _ _ | assumption | refine Only.drewN ?_ _ | refine Only.drew ?_ | refine Only.alloc ?_ _ | refine Only.setCell ?_ (by intro hh; exfalso; simp at hh; try omega) _ | refine Only.trans ?_ (by assumption))); have hAo := hA.own; have hAf := hA.fl; obtain ⟨css, ho, hcl, hr⟩ := hAo; obtain ⟨Aa, Ca, rfl, -, hS⟩ := own_seq (xs := a) (fps := fa) ho (by decide) hcl hAf hr; have y42 := t3.cell (by simp) y41)
            | fail "no arm")
          have hsz := k1.size
          have hf9 : ∀ b ∈ (Value.slice Aa a.length Ca).ownBlock.toList ++ fa.flatten, W2.heap.size ≤ b ∧ b < w3.heap.size := fun b hb => by
            have h1 := (hA.fresh hF2).ge b hb
            have h2 := (hA.fresh hF2).lt b hb
            (try simp at h1)
            omega
          have L2 := hL0.hold k2 hf9
          have hFA : Fresh B w3 ((f1 ++ fs.flatten) ++ fa.flatten) := Fresh.append (hL0.fr.keep k2) (hF2.mono (show W2.heap.size ≤ _ by (try simp); omega)) hL0.sz (fun b hb => hL0.fr.lt b hb)
          have hnd : m < ds'.length := by have := Hln.out; omega
          have hd3 : ds'.length ≤ 3000 := by have := Hln.out; omega
          have hca := append_any (rec := rec) w3 L2 hnd hle hd3 HG.out.ds Aa Ca a _ fa hS (fun b hb => List.mem_append_right _ hb) hFA hal Har.out hlg hrs
          have Hca := Lib.hid hca
          have hge2 : ∀ b ∈ (flF g M u2 u3).flatten, B ≤ b := fun b hb => by
            obtain ⟨c, hc, hb⟩ := flF_mem hb
            exact (L2.fam.rng c hc b hb).1
          have y3 := hL0.blk.cell 3 rfl
          clear hca hA hF2 hS ho hcl hr hFA hf9 L2 y4 y41 y42
          go_wp2_with (first
            | (go_at_call 42; (with_reducible refine (Hca.out).mono ?_); rintro e w4 ⟨he, hFL, t4⟩; subst he; obtain ⟨u2', u3', hFL⟩ := hFL; have hc4 := hFL.blk.cell 3 rfl)
            | fail "no arm")
          have hF4 : Fil x B g w4 (chF x tr 0 (m + 1)) := by rw [← Hch.out]; exact ⟨_, _, _, _, _, _, _, _, _, hFL⟩
          have hO4 : OnlyB B w1 w4 := hO.trans ((OnlyB.of k2).trans ⟨_, hge2, t4⟩)
          go_roundw
          case rel => exact ⟨m + 1, by omega, hok1, hF4, hO4, HRR2, HP2, hple2⟩
          case measure => rw [hc4, y3]; simp [intOf]; omega
        · have hres := Hstop.out (fun hn => by
            have h2 := hn.2.2
            rw [hstep, Hex.out] at h2
            exact hsame (hmore.1 h2))
          have HRes := Lib.hid hres
          have hsame' : ¬ lg.extract lg'.size (lg'.size + rec.size) = rec := fun h => hsame h.symm
          have b2 := str_ne hsame'
          have b3 : ¬ (lg.extract lg'.size (lg'.size + rec.size)).toList = rec.toList := by simpa using b2
          clear hres hnx hstep hmore hsame hsame' hlong
          go_upto_region 9 with (first
            | (go_at_call 40; (with_reducible refine (isDone_any _ (hL0.keep (by with_reducible repeat (first | exact Only.refl _ _ | assumption | refine Only.drewN ?_ _ | refine Only.drew ?_ | refine Only.alloc ?_ _ | refine Only.setCell ?_ (by intro hh; exfalso; simp at hh; try omega) _ | refine Only.trans ?_ (by assumption))))).mono ?_); rintro e w2 ⟨he, t2⟩; rw [Hd.out] at he; subst he; have y41 := t2.cell (by simp) y4)
            | (go_at_call 41; (with_reducible refine (HcX.out _ (by with_reducible repeat (first | exact Only.refl _ _ | assumption | refine Only.drewN ?_ _ | refine Only.drew ?_ | refine Only.alloc ?_ _ | refine Only.setCell ?_ (by intro hh; exfalso; simp at hh; try omega) _ | refine Only.trans ?_ (by assumption)))).mono ?_); rintro e w3 ⟨v, fa, he, hA, hF2, t3⟩; rw [← HA.out, ← Hrec.out] at he; subst he; obtain ⟨Aa, Ca, rfl⟩ := hA.form; have y42 := t3.cell (by simp) y41)
            | fail "no arm")
          have k2 : Only [] W2 w3 := (by with_reducible repeat (first | exact Only.refl _ _ | assumption | refine Only.drewN ?_ _ | refine Only.drew ?_ | refine Only.alloc ?_ _ | refine Only.setCell ?_ (by intro hh; exfalso; simp at hh; try omega) _ | refine Only.trans ?_ (by assumption)))
          have Ke : Only [] w w3 := KO.trans k2
          have Ye := YW.keep k2
          have hLe := hL0.keep k2
          clear y4 y41 y42
          have z4 := hLe.blk.cell 4 rfl
          have z5 := hLe.blk.cell 5 rfl
          have p5 := hLe.blk.frozen 5
          have hL1 := hLe.store 5 (.int .i64 (lg'.size : Int)) rfl
          have hgB : B ≤ g := (hLe.fam.rng [g] (List.mem_of_getElem? (i := 0) rfl) g (by simp)).1
          have hs5 : Only [g] w3 (w3.setCell ⟨g, 5, none⟩ (.int .i64 (lg'.size : Int))) := (Only.refl _ _).setCell (by simp) _
          have YR0 := Ye.only hs5 (by simp; omega)
          have K30 : Only [] w (w3.setCell ⟨g, 5, none⟩ (.int .i64 (lg'.size : Int))) := Ke.then_ hs5 (fun b hb hl => by simp at hb; omega)
          have hFil3 : Fil x B g (w3.setCell ⟨g, 5, none⟩ (.int .i64 (lg'.size : Int))) (⟨⟨tr', ps', ds'⟩, (m : Int), lg', (lg'.size : Int)⟩ : FillJob) := ⟨_, _, _, _, _, _, _, _, _, hL1⟩
          go_upto_region 10 with fail
          obtain ⟨w9, hw9⟩ : ∃ w9, w9 = (w3.setCell ⟨g, 5, none⟩ (.int .i64 (lg'.size : Int))) := ⟨_, rfl⟩
          rw [← hw9] at YR0 K30 hFil3
          rw [← hw9]
          clear hw9 hLe hL1 hs5 z4 z5 p5 Ye
          have YR := YR0
          have K3 := K30
          have hsz3 := K3.size
          obtain ⟨M9, vm9, Q1, R1, Q2, R2, Q3, R3, fj, hbk, hrj, hfj⟩ := hFil3.jobrd (by unfold I64; show -9223372036854775808 ≤ (m : Int) ∧ (m : Int) ≤ 9223372036854775807; omega) (by show lg'.size ≤ maxLen; unfold maxLen; omega) (by unfold I64; show -9223372036854775808 ≤ (lg'.size : Int) ∧ (lg'.size : Int) ≤ 9223372036854775807; omega)
          simp only at hbk hrj
          have e0 := hbk.cell 0 rfl
          have e1 := hbk.cell 1 rfl
          have e2 := hbk.cell 2 rfl
          have e3 := hbk.cell 3 rfl
          have e4 := hbk.cell 4 rfl
          have e5 := hbk.cell 5 rfl
          have hfd : ∀ b ∈ fj, b ∉ [w.heap.size + 1] := fun b hb hm => by have := hfj.ge b hb; simp at hm; omega
          have g0 := YR.cell 0 rfl
          have q0 := YR.frozen 0
          have g1 := YR.cell 1 rfl
          have q1 := YR.frozen 1
          have g2 := YR.cell 2 rfl
          have q2 := YR.frozen 2
          have g3 := YR.cell 3 rfl
          have q3 := YR.frozen 3
          have g4 := YR.cell 4 rfl
          have q4 := YR.frozen 4
          have g5 := YR.cell 5 rfl
          have q5 := YR.frozen 5
          have Yf := ((((((YR.set 0 (.slice Q1 tr'.length R1)).set 1 (.slice Q2 ps'.length R2)).set 2 (.slice Q3 ds'.length R3)).set 3 (.int .i64 m)).set 4 (.string lg')).set 5 (.int .i64 (lg'.size : Int)))
          have kf : Only [w.heap.size + 1] w9 ((((((w9.setCell ⟨w.heap.size + 1, 0, none⟩ (.slice Q1 tr'.length R1)).setCell ⟨w.heap.size + 1, 1, none⟩ (.slice Q2 ps'.length R2)).setCell ⟨w.heap.size + 1, 2, none⟩ (.slice Q3 ds'.length R3)).setCell ⟨w.heap.size + 1, 3, none⟩ (.int .i64 m)).setCell ⟨w.heap.size + 1, 4, none⟩ (.string lg')).setCell ⟨w.heap.size + 1, 5, none⟩ (.int .i64 (lg'.size : Int))) := (((((((Only.refl _ _).setCell (by simp) _).setCell (by simp) _).setCell (by simp) _).setCell (by simp) _).setCell (by simp) _).setCell (by simp) _)
          go_wp2_with fail
          obtain ⟨wf, hwf⟩ : ∃ wf, wf = ((((((w9.setCell ⟨w.heap.size + 1, 0, none⟩ (.slice Q1 tr'.length R1)).setCell ⟨w.heap.size + 1, 1, none⟩ (.slice Q2 ps'.length R2)).setCell ⟨w.heap.size + 1, 2, none⟩ (.slice Q3 ds'.length R3)).setCell ⟨w.heap.size + 1, 3, none⟩ (.int .i64 m)).setCell ⟨w.heap.size + 1, 4, none⟩ (.string lg')).setCell ⟨w.heap.size + 1, 5, none⟩ (.int .i64 (lg'.size : Int))) := ⟨_, rfl⟩
          rw [← hwf] at Yf kf ⊢
          simp only [List.set] at Yf
          clear hwf g0 q0 g1 q1 g2 q2 g3 q3 g4 q4 g5 q5
          have z0 := Yf.cell 0 rfl
          have z1 := Yf.cell 1 rfl
          have z2 := Yf.cell 2 rfl
          have z3 := Yf.cell 3 rfl
          have z4 := Yf.cell 4 rfl
          have z5 := Yf.cell 5 rfl
          refine bodyPost_ret (v := .tuple #[.agg #[.slice Q1 tr'.length R1, .slice Q2 ps'.length R2, .slice Q3 ds'.length R3, .int .i64 m, .string lg', .int .i64 (lg'.size : Int)], .bool true]) (by simp [results, Tryz.results25, go_sem, z0, z1, z2, z3, z4, z5]) rfl ⟨[.slice Q1 tr'.length R1, .slice Q2 ps'.length R2, .slice Q3 ds'.length R3, .int .i64 m, .string lg', .int .i64 (lg'.size : Int)], _, rfl, by rw [HRes.out]; exact Rp.only hrj kf hfd, (hfj.mono (by omega)).only kf hfd, K3.then_ kf (by simp)⟩
end Go.Proofs.YtkhdmiemfpelcaaGreat

namespace Go.Proofs.YtkhdmiemfpelcaaGreat
open Go.RowKit
set_option maxRecDepth 10000

set_option maxHeartbeats 4000000 in
theorem implIsValidFill_raw (cs : List Value) (x : Puzzle) (fp : List Nat) (c1 c2 c3 : Value) (tr : List Int) (ps : List (List Int)) (ds : List Int) (nx : Int) (lg : ByteArray) (sy : Int) (g1 g2 g3 : List Nat) (w : World) (h : Rp.rep w cs x fp)
    (k1 : Rd w c1 tr g1) (k2 : Rd w c2 ps g2) (k3 : Rd w c3 ds g3) (hnx : I64 nx) (hsy : I64 sy) (hlm : lg.size ≤ maxLen) (htl : tr.length ≤ 2097152) :
    Calls Tryz.prog 23 #[.agg cs.toArray, .agg #[c1, c2, c3, .int .i64 nx, .string lg, .int .i64 sy]] w fun e w' => e = .returned (.bool (validF x (⟨⟨tr, ps, ds⟩, nx, lg, sy⟩ : FillJob))) ∧ Only [] w w' := by
  have hh := h
  obtain ⟨v2, rfl, p0, p1, h2⟩ := h
  obtain ⟨A0, C0, _, _, rfl, -, -⟩ := h2.open_
  have hk1 := k1; have hk2 := k2; have hk3 := k3
  obtain ⟨A1, C1, _, _, rfl, -⟩ := k1.open_
  obtain ⟨A2, C2, _, _, rfl, -⟩ := k2.open_
  obtain ⟨A3, C3, _, _, rfl, -⟩ := k3.open_
  have HcR := Lib.hid (fun (V : World) (hV : Only [] w V) => resume_any [.int .i64 x.points, .string x.names, .slice A0 x.moves.length C0] x _ (.slice A1 tr.length C1) (.slice A2 ps.length C2) (.slice A3 ds.length C3) tr ps ds nx lg sy _ _ _ V (Rp.keep hh hV) (Rp.keep hk1 hV) (Rp.keep hk2 hV) (Rp.keep hk3 hV) hnx hsy hlm htl)
  obtain ⟨vb, hvb⟩ : ∃ vb, vb = validF x (⟨⟨tr, ps, ds⟩, nx, lg, sy⟩ : FillJob) := ⟨_, rfl⟩
  rw [← hvb]
  have HVB := Lib.hid hvb
  clear hvb k1 k2 k3 p0 p1
  go_enter Tryz.func23, Tryz.ntmps23
  go_wp2_with (first
    | (go_at_call 38; (with_reducible refine (HcR.out _ (by with_reducible repeat (first | exact Only.refl _ _ | assumption | refine Only.drewN ?_ _ | refine Only.drew ?_ | refine Only.alloc ?_ _ | refine Only.setCell ?_ (by intro hh; exfalso; simp at hh; try omega) _ | refine Only.trans ?_ (by assumption)))).mono ?_); rintro e w1 ⟨q, he, -, t1⟩; rw [← HVB.out] at he; subst he)
    | fail "no arm")
  go_ret
  exact ⟨rfl, (by with_reducible repeat (first | exact Only.refl _ _ | assumption | refine Only.drewN ?_ _ | refine Only.drew ?_ | refine Only.alloc ?_ _ | refine Only.setCell ?_ (by intro hh; exfalso; simp at hh; try omega) _ | refine Only.trans ?_ (by assumption)))⟩
set_option maxHeartbeats 8000000 in
theorem implCrashFill_raw (cs : List Value) (x : Puzzle) (fp : List Nat) (c1 c2 c3 : Value) (tr : List Int) (ps : List (List Int)) (ds : List Int) (nx : Int) (lg : ByteArray) (sy : Int) (kept : Int) (g1 g2 g3 : List Nat) (w : World) (h : Rp.rep w cs x fp)
    (k1 : Rd w c1 tr g1) (k2 : Rd w c2 ps g2) (k3 : Rd w c3 ds g3) (hnx : I64 nx) (hsy : I64 sy) (hkp : I64 kept) (hlm : lg.size ≤ maxLen) (htl : tr.length ≤ 2097152) :
    Calls Tryz.prog 9 #[.agg cs.toArray, .agg #[c1, c2, c3, .int .i64 nx, .string lg, .int .i64 sy], .int .i64 kept] w fun e w' => ∃ cs' fp', e = .returned (.tuple #[.agg (List.toArray cs'), .bool (crashF x (⟨⟨tr, ps, ds⟩, nx, lg, sy⟩ : FillJob) kept).2]) ∧ Rp.rep w' cs' (crashF x (⟨⟨tr, ps, ds⟩, nx, lg, sy⟩ : FillJob) kept).1 fp' ∧ Fresh w.heap.size w' fp' ∧ Only [] w w' := by
  have hh := h
  obtain ⟨v2, rfl, p0, p1, h2⟩ := h
  obtain ⟨A0, C0, _, _, rfl, -, -⟩ := h2.open_
  have hk1 := k1; have hk2 := k2; have hk3 := k3
  obtain ⟨A1, C1, _, _, rfl, -⟩ := k1.open_
  obtain ⟨A2, C2, _, _, rfl, -⟩ := k2.open_
  obtain ⟨A3, C3, _, _, rfl, -⟩ := k3.open_
  obtain ⟨st, hst⟩ : ∃ st, st = crashF x (⟨⟨tr, ps, ds⟩, nx, lg, sy⟩ : FillJob) kept := ⟨_, rfl⟩
  rw [← hst]
  have HS := Lib.hid hst
  clear hst k1 k2 k3 p0 p1
  have hlm2 := hlm
  unfold maxLen at hlm2
  have k0 : Only [] w (((w.alloc (.cells #[.int .i64 x.points, .string x.names, .slice A0 x.moves.length C0] 37)).alloc (.cells #[.slice A1 tr.length C1, .slice A2 ps.length C2, .slice A3 ds.length C3, .int .i64 nx, .string lg, .int .i64 sy] 34)).alloc (.cells #[.slice none 0 0, .slice none 0 0, .slice none 0 0, .int .i64 0, .string ⟨#[]⟩, .int .i64 0] 34)) := (((Only.refl _ _).alloc _).alloc _).alloc _
  have B2 : Blk (((w.alloc (.cells #[.int .i64 x.points, .string x.names, .slice A0 x.moves.length C0] 37)).alloc (.cells #[.slice A1 tr.length C1, .slice A2 ps.length C2, .slice A3 ds.length C3, .int .i64 nx, .string lg, .int .i64 sy] 34)).alloc (.cells #[.slice none 0 0, .slice none 0 0, .slice none 0 0, .int .i64 0, .string ⟨#[]⟩, .int .i64 0] 34)) (w.heap.size + 2) [.slice none 0 0, .slice none 0 0, .slice none 0 0, .int .i64 0, .string ⟨#[]⟩, .int .i64 0] := Blk.new_at (by simp)
  have B1 : Blk (((w.alloc (.cells #[.int .i64 x.points, .string x.names, .slice A0 x.moves.length C0] 37)).alloc (.cells #[.slice A1 tr.length C1, .slice A2 ps.length C2, .slice A3 ds.length C3, .int .i64 nx, .string lg, .int .i64 sy] 34)).alloc (.cells #[.slice none 0 0, .slice none 0 0, .slice none 0 0, .int .i64 0, .string ⟨#[]⟩, .int .i64 0] 34)) (w.heap.size + 1) [.slice A1 tr.length C1, .slice A2 ps.length C2, .slice A3 ds.length C3, .int .i64 nx, .string lg, .int .i64 sy] := Blk.keep (Blk.new_at (by simp)) ((Only.refl _ _).alloc _)
  have B0 : Blk (((w.alloc (.cells #[.int .i64 x.points, .string x.names, .slice A0 x.moves.length C0] 37)).alloc (.cells #[.slice A1 tr.length C1, .slice A2 ps.length C2, .slice A3 ds.length C3, .int .i64 nx, .string lg, .int .i64 sy] 34)).alloc (.cells #[.slice none 0 0, .slice none 0 0, .slice none 0 0, .int .i64 0, .string ⟨#[]⟩, .int .i64 0] 34)) w.heap.size [.int .i64 x.points, .string x.names, .slice A0 x.moves.length C0] := Blk.keep (Blk.keep (Blk.new_at rfl) ((Only.refl _ _).alloc _)) ((Only.refl _ _).alloc _)
  have HB2 := Lib.hid B2
  have HB1 := Lib.hid B1
  have HB0 := Lib.hid B0
  clear B2 B1 B0
  have HcR := Lib.hid (fun (V : World) (hV : Only [] w V) => implIsValidFill_raw [.int .i64 x.points, .string x.names, .slice A0 x.moves.length C0] x _ (.slice A1 tr.length C1) (.slice A2 ps.length C2) (.slice A3 ds.length C3) tr ps ds nx lg sy _ _ _ V (Rp.keep hh hV) (Rp.keep hk1 hV) (Rp.keep hk2 hV) (Rp.keep hk3 hV) hnx hsy hlm htl)
  obtain ⟨vb, hvb⟩ : ∃ vb, vb = validF x (⟨⟨tr, ps, ds⟩, nx, lg, sy⟩ : FillJob) := ⟨_, rfl⟩
  have HVB := Lib.hid hvb
  clear hvb
  cases vb
  · have he : st = (noFill, false) := by rw [HS.out]; unfold crashF; rw [← HVB.out]; simp
    have HE := Lib.hid he
    clear he
    go_enter Tryz.func9, Tryz.ntmps9
    go_upto_region 2 with (first
      | (go_at_call 23; (with_reducible refine (HcR.out _ k0).mono ?_); rintro e w1 ⟨he, t1⟩; rw [← HVB.out] at he; subst he)
      | fail "no arm")
    have YR := HB2.out.keep t1
    have K1 : Only [] w w1 := k0.trans t1
    have g0 := YR.cell 0 rfl
    have q0 := YR.frozen 0
    have g1 := YR.cell 1 rfl
    have q1 := YR.frozen 1
    have g2 := YR.cell 2 rfl
    have q2 := YR.frozen 2
    have g3 := YR.cell 3 rfl
    have q3 := YR.frozen 3
    have g4 := YR.cell 4 rfl
    have q4 := YR.frozen 4
    have g5 := YR.cell 5 rfl
    have q5 := YR.frozen 5
    have Yf := ((((((YR.set 0 (.slice none 0 0)).set 1 (.slice none 0 0)).set 2 (.slice none 0 0)).set 3 (.int .i64 0)).set 4 (.string ⟨#[]⟩)).set 5 (.int .i64 0))
    have kf : Only [w.heap.size + 2] w1 ((((((w1.setCell ⟨w.heap.size + 2, 0, none⟩ (.slice none 0 0)).setCell ⟨w.heap.size + 2, 1, none⟩ (.slice none 0 0)).setCell ⟨w.heap.size + 2, 2, none⟩ (.slice none 0 0)).setCell ⟨w.heap.size + 2, 3, none⟩ (.int .i64 0)).setCell ⟨w.heap.size + 2, 4, none⟩ (.string ⟨#[]⟩)).setCell ⟨w.heap.size + 2, 5, none⟩ (.int .i64 0)) := (((((((Only.refl _ _).setCell (by simp) _).setCell (by simp) _).setCell (by simp) _).setCell (by simp) _).setCell (by simp) _).setCell (by simp) _)
    go_wp2_with fail
    obtain ⟨wf, hwf⟩ : ∃ wf, wf = ((((((w1.setCell ⟨w.heap.size + 2, 0, none⟩ (.slice none 0 0)).setCell ⟨w.heap.size + 2, 1, none⟩ (.slice none 0 0)).setCell ⟨w.heap.size + 2, 2, none⟩ (.slice none 0 0)).setCell ⟨w.heap.size + 2, 3, none⟩ (.int .i64 0)).setCell ⟨w.heap.size + 2, 4, none⟩ (.string ⟨#[]⟩)).setCell ⟨w.heap.size + 2, 5, none⟩ (.int .i64 0)) := ⟨_, rfl⟩
    rw [← hwf] at Yf kf ⊢
    simp only [List.set] at Yf
    clear hwf g0 q0 g1 q1 g2 q2 g3 q3 g4 q4 g5 q5
    have z0 := Yf.cell 0 rfl
    have z1 := Yf.cell 1 rfl
    have z2 := Yf.cell 2 rfl
    have z3 := Yf.cell 3 rfl
    have z4 := Yf.cell 4 rfl
    have z5 := Yf.cell 5 rfl
    refine bodyPost_ret (v := .tuple #[.agg #[.slice none 0 0, .slice none 0 0, .slice none 0 0, .int .i64 0, .string ⟨#[]⟩, .int .i64 0], .bool false]) (by simp [results, Tryz.results9, go_sem, z0, z1, z2, z3, z4, z5]) rfl ⟨[.slice none 0 0, .slice none 0 0, .slice none 0 0, .int .i64 0, .string ⟨#[]⟩, .int .i64 0], _, by rw [HE.out], by rw [HE.out]; exact noFill_rd wf, Fresh.nil _ _, K1.then_ kf (by simp)⟩
  rcases hr : inR kept sy lg.size
  · have he : st = (noFill, false) := by rw [HS.out]; unfold crashF; rw [if_neg (fun hc => by have h1 : inR kept sy lg.size = true := hc.2; rw [hr] at h1; cases h1)]
    have HE := Lib.hid he
    have HRng := Lib.hid hr
    clear he hr
    go_enter Tryz.func9, Tryz.ntmps9
    go_upto_region 2 with (first
      | (go_at_call 23; (with_reducible refine (HcR.out _ k0).mono ?_); rintro e w1 ⟨he, t1⟩; rw [← HVB.out] at he; subst he; have J1 := HB1.out.keep t1; have i4 := J1.cell 4 rfl; have i5 := J1.cell 5 rfl)
      | (go_at_call 24; (with_reducible refine (within_any kept sy lg.size _).mono ?_); rintro e w2 ⟨he, h1⟩; rw [HRng.out] at he; subst he; rw [h1]; clear h1)
      | fail "no arm")
    clear i4 i5 J1
    have YR := HB2.out.keep t1
    have K1 : Only [] w w1 := k0.trans t1
    have g0 := YR.cell 0 rfl
    have q0 := YR.frozen 0
    have g1 := YR.cell 1 rfl
    have q1 := YR.frozen 1
    have g2 := YR.cell 2 rfl
    have q2 := YR.frozen 2
    have g3 := YR.cell 3 rfl
    have q3 := YR.frozen 3
    have g4 := YR.cell 4 rfl
    have q4 := YR.frozen 4
    have g5 := YR.cell 5 rfl
    have q5 := YR.frozen 5
    have Yf := ((((((YR.set 0 (.slice none 0 0)).set 1 (.slice none 0 0)).set 2 (.slice none 0 0)).set 3 (.int .i64 0)).set 4 (.string ⟨#[]⟩)).set 5 (.int .i64 0))
    have kf : Only [w.heap.size + 2] w1 ((((((w1.setCell ⟨w.heap.size + 2, 0, none⟩ (.slice none 0 0)).setCell ⟨w.heap.size + 2, 1, none⟩ (.slice none 0 0)).setCell ⟨w.heap.size + 2, 2, none⟩ (.slice none 0 0)).setCell ⟨w.heap.size + 2, 3, none⟩ (.int .i64 0)).setCell ⟨w.heap.size + 2, 4, none⟩ (.string ⟨#[]⟩)).setCell ⟨w.heap.size + 2, 5, none⟩ (.int .i64 0)) := (((((((Only.refl _ _).setCell (by simp) _).setCell (by simp) _).setCell (by simp) _).setCell (by simp) _).setCell (by simp) _).setCell (by simp) _)
    go_wp2_with fail
    obtain ⟨wf, hwf⟩ : ∃ wf, wf = ((((((w1.setCell ⟨w.heap.size + 2, 0, none⟩ (.slice none 0 0)).setCell ⟨w.heap.size + 2, 1, none⟩ (.slice none 0 0)).setCell ⟨w.heap.size + 2, 2, none⟩ (.slice none 0 0)).setCell ⟨w.heap.size + 2, 3, none⟩ (.int .i64 0)).setCell ⟨w.heap.size + 2, 4, none⟩ (.string ⟨#[]⟩)).setCell ⟨w.heap.size + 2, 5, none⟩ (.int .i64 0)) := ⟨_, rfl⟩
    rw [← hwf] at Yf kf ⊢
    simp only [List.set] at Yf
    clear hwf g0 q0 g1 q1 g2 q2 g3 q3 g4 q4 g5 q5
    have z0 := Yf.cell 0 rfl
    have z1 := Yf.cell 1 rfl
    have z2 := Yf.cell 2 rfl
    have z3 := Yf.cell 3 rfl
    have z4 := Yf.cell 4 rfl
    have z5 := Yf.cell 5 rfl
    refine bodyPost_ret (v := .tuple #[.agg #[.slice none 0 0, .slice none 0 0, .slice none 0 0, .int .i64 0, .string ⟨#[]⟩, .int .i64 0], .bool false]) (by simp [results, Tryz.results9, go_sem, z0, z1, z2, z3, z4, z5]) rfl ⟨[.slice none 0 0, .slice none 0 0, .slice none 0 0, .int .i64 0, .string ⟨#[]⟩, .int .i64 0], _, by rw [HE.out], by rw [HE.out]; exact noFill_rd wf, Fresh.nil _ _, K1.then_ kf (by simp)⟩
  have HVT := Lib.hid (show validF x (⟨⟨tr, ps, ds⟩, nx, lg, sy⟩ : FillJob) = true from HVB.out.symm)
  obtain ⟨n, htb, hokn, hje⟩ := chF_valid HVT.out
  have htb' : (bTab x tr).isSome = true := htb
  have hsr : 0 ≤ sy ∧ sy ≤ lg.size := by
    obtain ⟨_, _, _, _, _, h5, h6⟩ := validF_at HVT.out
    exact ⟨h5, h6⟩
  have hkr := inR_iff.1 hr
  obtain ⟨kn, hkn⟩ : ∃ kn : Nat, kept = kn := ⟨kept.toNat, by omega⟩
  subst hkn
  have hkl : (kn : Int) ≤ (lg.size : Int) := hkr.2
  have hk0 : (0 : Int) ≤ (kn : Int) := by omega
  obtain ⟨JR, hJR⟩ : ∃ JR, JR = crashJ x (⟨⟨tr, ps, ds⟩, nx, lg, sy⟩ : FillJob) kn := ⟨_, rfl⟩
  have he : st = (JR, true) := by rw [HS.out]; unfold crashF; rw [if_pos ⟨HVT.out, hr⟩, ← hJR]
  have hJR2 : JR = { repF x (lg.extract 0 kn) 3001 (startF tr) with synced := ((repF x (lg.extract 0 kn) 3001 (startF tr)).log.size : Int) } := by rw [hJR]; unfold crashJ; simp only [Int.toNat_natCast]
  have HE := Lib.hid he
  have HJR := Lib.hid hJR2
  have HTb := Lib.hid htb'
  have HRng := Lib.hid hr
  clear he hJR hJR2 htb htb' hokn hje hr hkr hsr
  have hls : (lg.extract 0 kn).size ≤ maxLen := by rw [ByteArray.size_extract]; unfold maxLen; omega
  go_enter Tryz.func9, Tryz.ntmps9
  go_upto_region 3 with (first
    | (go_at_call 23; (with_reducible refine (HcR.out _ k0).mono ?_); rintro e w1 ⟨he, t1⟩; rw [← HVB.out] at he; subst he; have J1 := HB1.out.keep t1; have i4 := J1.cell 4 rfl; have i5 := J1.cell 5 rfl)
    | (go_at_call 24; (with_reducible refine (within_any (kn : Int) sy lg.size _).mono ?_); rintro e w2 ⟨he, h1⟩; rw [HRng.out] at he; subst he; rw [h1]; clear h1)
    | fail "no arm")
  clear i4 i5 J1
  have K1 : Only [] w w1 := k0.trans t1
  have hs1 : w.heap.size + 3 ≤ w1.heap.size := by have h1 := t1.size; simp at h1; omega
  have HY0 := Lib.hid (HB0.out.keep t1)
  have HY1 := Lib.hid (HB1.out.keep t1)
  have HYZ := Lib.hid (HB2.out.keep t1)
  have hok0 : okF x tr 0 := fun m hm => by omega
  have hst0 : startF tr = chF x tr 0 0 := rfl
  have hls2 : (lg.extract 0 kn).size ≤ 60000 := by
    obtain ⟨_, _, _, _, h4, _, _⟩ := validF_at HVT.out
    have h5 : lg.size ≤ 60000 := h4
    rw [ByteArray.size_extract]; omega
  have hi0 : I64 0 := by unfold I64; omega
  go_region_held3 (fun w' => Only [w.heap.size + 2] w1 w' ∧ w'.cell? ⟨w.heap.size, 0, none⟩ = some (Value.int .i64 x.points) ∧ w'.cell? ⟨w.heap.size, 1, none⟩ = some (Value.string x.names) ∧ w'.cell? ⟨w.heap.size, 2, none⟩ = some (Value.slice A0 x.moves.length C0) ∧ w'.cell? ⟨w.heap.size + 1, 0, none⟩ = some (.slice A1 tr.length C1) ∧ w'.cell? ⟨w.heap.size + 1, 4, none⟩ = some (.string lg)) ((refine and_of ?_ (fun h__ => ⟨(Blk.only HY0.out h__ (by simp)).cell 0 rfl, (Blk.only HY0.out h__ (by simp)).cell 1 rfl, (Blk.only HY0.out h__ (by simp)).cell 2 rfl, (Blk.only HY1.out h__ (by simp)).cell 0 rfl, (Blk.only HY1.out h__ (by simp)).cell 4 rfl⟩); first | with_reducible exact (Only.refl _ _).drew | with_reducible exact Only.keepThen (And.left (by assumption)) (by assumption) | with_reducible exact Only.setCell (Only.setCell (Only.setCell (Only.setCell (Only.setCell (Only.setCell (And.left (by assumption)) (by intro _; simp) _) (by intro _; simp) _) (by intro _; simp) _) (by intro _; simp) _) (by intro _; simp) _) (by intro _; simp) _)) (first
      | (go_at_call 25; (with_reducible refine (recover_yes [.int .i64 x.points, .string x.names, .slice A0 x.moves.length C0] x _ (.slice A1 tr.length C1) tr _ (lg.extract 0 kn) _ (Rp.keep hh (Only.own1 K1 (And.left (by assumption)) (by omega))) (Rp.keep hk1 (Only.own1 K1 (And.left (by assumption)) (by omega))) htl HTb.out hls2).mono ?_); rintro e w4 ⟨cs4, f4, rfl, r4, F4, t4⟩; have KY : Only [] w1 w4 := Only.trans (Only.refl [] w1).drew t4; rw [← HJR.out] at r4; have r40 := r4; obtain ⟨d0, rfl, a1, a2, a3, q3⟩ := r4; obtain ⟨x0, x1, x2, y0, y1, y2, rfl, hfe, m0, m1, m2⟩ := q3; obtain ⟨G0, H0, _, _, rfl, -⟩ := m0.open_; obtain ⟨G1, H1, _, _, rfl, -⟩ := m1.open_; obtain ⟨G2, H2, _, _, rfl, -⟩ := m2.open_; clear m0 m1 m2 hfe; have YZ4 := HYZ.out.keep KY; have g0 := YZ4.cell 0 rfl; have q0 := YZ4.frozen 0; have g1 := YZ4.cell 1 rfl; have q1 := YZ4.frozen 1; have g2 := YZ4.cell 2 rfl; have q2 := YZ4.frozen 2; have g3 := YZ4.cell 3 rfl; have q3 := YZ4.frozen 3; have g4 := YZ4.cell 4 rfl; have q4 := YZ4.frozen 4; have g5 := YZ4.cell 5 rfl; have q5 := YZ4.frozen 5)
      | fail "no arm")
  have K4 : Only [] w w4 := K1.trans KY
  have hfd : ∀ b ∈ f4, b ∉ [w.heap.size + 2] := fun b hb hm => by have := F4.ge b hb; simp at hm; (try simp at this); omega
  have Yf := ((((((YZ4.set 0 (.slice G0 JR.table.tracked.length H0)).set 1 (.slice G1 JR.table.patterns.length H1)).set 2 (.slice G2 JR.table.distances.length H2)).set 3 (.int .i64 JR.next)).set 4 (.string JR.log)).set 5 (.int .i64 JR.synced))
  have kf : Only [w.heap.size + 2] w4 ((((((w4.setCell ⟨w.heap.size + 2, 0, none⟩ (.slice G0 JR.table.tracked.length H0)).setCell ⟨w.heap.size + 2, 1, none⟩ (.slice G1 JR.table.patterns.length H1)).setCell ⟨w.heap.size + 2, 2, none⟩ (.slice G2 JR.table.distances.length H2)).setCell ⟨w.heap.size + 2, 3, none⟩ (.int .i64 JR.next)).setCell ⟨w.heap.size + 2, 4, none⟩ (.string JR.log)).setCell ⟨w.heap.size + 2, 5, none⟩ (.int .i64 JR.synced)) := (((((((Only.refl _ _).setCell (by simp) _).setCell (by simp) _).setCell (by simp) _).setCell (by simp) _).setCell (by simp) _).setCell (by simp) _)
  go_wp2_with fail
  obtain ⟨wf, hwf⟩ : ∃ wf, wf = ((((((w4.setCell ⟨w.heap.size + 2, 0, none⟩ (.slice G0 JR.table.tracked.length H0)).setCell ⟨w.heap.size + 2, 1, none⟩ (.slice G1 JR.table.patterns.length H1)).setCell ⟨w.heap.size + 2, 2, none⟩ (.slice G2 JR.table.distances.length H2)).setCell ⟨w.heap.size + 2, 3, none⟩ (.int .i64 JR.next)).setCell ⟨w.heap.size + 2, 4, none⟩ (.string JR.log)).setCell ⟨w.heap.size + 2, 5, none⟩ (.int .i64 JR.synced)) := ⟨_, rfl⟩
  rw [← hwf] at Yf kf ⊢
  simp only [List.set] at Yf
  clear hwf g0 q0 g1 q1 g2 q2 g3 q3 g4 q4 g5 q5
  have z0 := Yf.cell 0 rfl
  have z1 := Yf.cell 1 rfl
  have z2 := Yf.cell 2 rfl
  have z3 := Yf.cell 3 rfl
  have z4 := Yf.cell 4 rfl
  have z5 := Yf.cell 5 rfl
  refine bodyPost_ret (v := .tuple #[.agg #[.slice G0 JR.table.tracked.length H0, .slice G1 JR.table.patterns.length H1, .slice G2 JR.table.distances.length H2, .int .i64 JR.next, .string JR.log, .int .i64 JR.synced], .bool true]) (by simp [results, Tryz.results9, go_sem, z0, z1, z2, z3, z4, z5]) rfl ⟨[.slice G0 JR.table.tracked.length H0, .slice G1 JR.table.patterns.length H1, .slice G2 JR.table.distances.length H2, .int .i64 JR.next, .string JR.log, .int .i64 JR.synced], _, by rw [HE.out], by rw [HE.out]; exact Rp.only r40 kf hfd, (F4.mono (by first | omega | (simp; omega))).only kf hfd, K4.then_ kf (by simp)⟩
end Go.Proofs.YtkhdmiemfpelcaaGreat

namespace Go.Proofs.YtkhdmiemfpelcaaGreat
open Go.RowKit
set_option maxRecDepth 10000

theorem repF_ch {x : Puzzle} {tr : List Int} {s : Int} {lg : ByteArray} (h1 : (bTab x tr).isSome = true) : ∀ (k n : Nat), okF x tr n → ∃ m, okF x tr m ∧ repF x lg k (chF x tr s n) = chF x tr s m
  | 0, n, h => ⟨n, h, rfl⟩
  | k + 1, n, h => by
    by_cases ho : onF x lg (chF x tr s n)
    · obtain ⟨h2, h3⟩ := chF_step (s := s) h1 h ho.1
      rw [repF_go ho, h3]
      exact repF_ch h1 k (n + 1) h2
    · rw [repF_stop ho]; exact ⟨n, h, rfl⟩
theorem crashF_cnt (x : Puzzle) (j : FillJob) (k : Int) : Mk.cnt (crashF x j k).1 ≤ 100000 := by
  unfold crashF
  by_cases h : validF x j = true ∧ inR k j.synced j.log.size = true
  · rw [if_pos h]
    obtain ⟨n, h1, -, -⟩ := chF_valid h.1
    obtain ⟨m, h4, h5⟩ := repF_ch (s := 0) (lg := j.log.extract 0 k.toNat) h1 3001 0 (fun m hm => by omega)
    have h6 : repF x (j.log.extract 0 k.toNat) 3001 (startF j.table.tracked) = chF x j.table.tracked 0 m := h5
    show Mk.cnt (crashJ x j k) ≤ 100000
    unfold crashJ
    rw [h6]
    exact (chF_go (s := ((chF x j.table.tracked 0 m).log.size : Int)) h1 h4).cnt
  · rw [if_neg h]; simp [noFill_cnt]
theorem specCrashFill_any (cs dd : List Value) (x : Puzzle) (j : FillJob) (ks : Int) (fp fj : List Nat) (w : World) (h : Rp.rep w cs x fp) (h2 : Rp.rep w dd j fj) (hk : I64 ks) (hsm : j.table.tracked.length ≤ 2097152) :
    Calls Tryz.prog 6 #[.agg cs.toArray, .agg dd.toArray, .int .i64 ks] w fun e w' => ∃ cs' fp', e = .returned (.tuple #[.agg (List.toArray cs'), .bool (crashF x j ks).2]) ∧ Rp.rep w' cs' (crashF x j ks).1 fp' ∧ Fresh w.heap.size w' fp' ∧ Only [] w w' := by
  obtain ⟨⟨tr, ps, ds⟩, nx, lg, sy⟩ := j
  obtain ⟨c0, rfl, i1, i2, i3, h0⟩ := h2
  obtain ⟨u1, u2, u3, f1, f2, f3, rfl, -, k1, k2, k3⟩ := h0
  exact specCrashFill_raw cs x fp u1 u2 u3 tr ps ds nx lg sy ks f1 f2 f3 w h k1 k2 k3 i1 i3 hk i2 hsm
theorem implCrashFill_any (cs dd : List Value) (x : Puzzle) (j : FillJob) (ks : Int) (fp fj : List Nat) (w : World) (h : Rp.rep w cs x fp) (h2 : Rp.rep w dd j fj) (hk : I64 ks) (hsm : j.table.tracked.length ≤ 2097152) :
    Calls Tryz.prog 9 #[.agg cs.toArray, .agg dd.toArray, .int .i64 ks] w fun e w' => ∃ cs' fp', e = .returned (.tuple #[.agg (List.toArray cs'), .bool (crashF x j ks).2]) ∧ Rp.rep w' cs' (crashF x j ks).1 fp' ∧ Fresh w.heap.size w' fp' ∧ Only [] w w' := by
  obtain ⟨⟨tr, ps, ds⟩, nx, lg, sy⟩ := j
  obtain ⟨c0, rfl, i1, i2, i3, h0⟩ := h2
  obtain ⟨u1, u2, u3, f1, f2, f3, rfl, -, k1, k2, k3⟩ := h0
  exact implCrashFill_raw cs x fp u1 u2 u3 tr ps ds nx lg sy ks f1 f2 f3 w h k1 k2 k3 i1 i3 hk i2 hsm
end Go.Proofs.YtkhdmiemfpelcaaGreat
