/- The program's filler at its beginning. Fill jobs in plain words: the chain of jobs, some steps one after the other. The program's filler: start. The program's filler: resume. The program's filler: resume. (Printed by mkresume.py.) The program's StepFill and SyncFill. (Printed by mkfillimp9.py.) -/
import Derived.Test.YtkhdmiemfpelcaaGreatRowCrashFillG15
import Derived.Test.YtkhdmiemfpelcaaGreatRowCrashFillG12
import Derived.Test.YtkhdmiemfpelcaaGreatRowCrashFillG14
import Derived.Test.YtkhdmiemfpelcaaGreatRowCrashFillG5
import Derived.Deep.RegionHeld3
namespace Go.Proofs.YtkhdmiemfpelcaaGreat
open Go.RowKit
set_option maxRecDepth 10000

set_option maxHeartbeats 4000000 in
theorem newFiller_any (cs : List Value) (x : Puzzle) (fp : List Nat) (v : Value) (tr : List Int) (ft : List Nat) (w : World) (h : Rp.rep w cs x fp) (hv : Rd w v tr ft) (hx : validPz x = true) (htr : trackB x.points tr = true) :
    Calls Tryz.prog 59 #[.agg cs.toArray, v] w fun e w' => ∃ g, e = .returned (.pointer (some ⟨g, 0, none⟩)) ∧ Fil x w.heap.size g w' (startF tr) ∧ Only [] w w' := by
  have hh := h
  obtain ⟨v2, rfl, p0, p1, h2⟩ := h
  obtain ⟨A2, C2, _, _, rfl, -, -⟩ := h2.open_
  obtain ⟨av, cv, rfl, Iv⟩ := hv.ints
  obtain ⟨g1, g2, g3, g4⟩ := validPz_facts hx
  have htl : tr.length ≤ 20 := by have := (trackB_iff.1 htr).2.len; omega
  have htl2 : tr.length ≤ 1000 := by omega
  clear p0 p1
  obtain ⟨ls, hls⟩ : ∃ ls, ls = ltrs x.moves.length := ⟨_, rfl⟩
  have hll : ls.length ≤ 1000 := by rw [hls, ltrs_len]; omega
  have Hls := Lib.hid hls
  have hml : x.moves.length ≤ 1000 := by omega
  have hmv : ∀ g ∈ x.moves, PM.IsP g ∧ g.length ≤ 1000 := fun g hg => by have := g4 g hg; have := (permB_iff.1 this.2); exact ⟨this.2, by omega⟩
  have Hmv := Lib.hid hmv
  clear hls hmv
  obtain ⟨iL, hiL, hL0, hL1, hL2⟩ := info_parts Tryz.info22
  have k0 : Only [] w (w.alloc (.cells #[.int .i64 x.points, .string x.names, .slice A2 x.moves.length C2] 37)) := (Only.refl _ _).alloc _
  have X0 : Blk (w.alloc (.cells #[.int .i64 x.points, .string x.names, .slice A2 x.moves.length C2] 37)) w.heap.size [.int .i64 x.points, .string x.names, .slice A2 x.moves.length C2] := Blk.new w _ _
  have hM := MpB.made (w.alloc (.cells #[.int .i64 x.points, .string x.names, .slice A2 x.moves.length C2] 37)) (M := w.heap.size + 1) (by simp)
  have kM : Only [] w ((w.alloc (.cells #[.int .i64 x.points, .string x.names, .slice A2 x.moves.length C2] 37)).alloc (.map #[] 0)) := k0.alloc _
  have X1 := X0.keep ((Only.refl [] _).alloc (.map #[] 0))
  have hkl : (kB tr).size ≤ maxLen := by rw [kB_size]; unfold maxLen; omega
  have hmm := @run_makeMap Tryz.prog
  go_enter Tryz.func59, Tryz.ntmps59
  go_upto_region 2 with (first
    | (go_at_call 62; (with_reducible refine (stateKey_rd _ tr _ _ (Rp.keep hv (by with_reducible repeat (first | exact Only.refl _ _ | assumption | refine Only.drewN ?_ _ | refine Only.drew ?_ | refine Only.alloc ?_ _ | refine Only.setCell ?_ (by intro hh; exfalso; simp at hh; try omega) _ | refine Only.trans ?_ (by assumption)))) htl2).mono ?_); rintro e w2 ⟨rfl, t2⟩; obtain ⟨w3, hrun3, hM3, hO3⟩ := (hM.keep t2).run_put hkl true (by unfold maxLen; omega))
    | fail "no arm")
  have t2s := t2.size
  simp at t2s
  have t3s := hO3.size
  have X3 := (X1.keep t2).only hO3 (by simp)
  have K3 : Only [] w w3 := (kM.trans t2).then_ hO3 (by intro b hb hl; simp at hb; omega)
  have hM3' : MpB w3 (w.heap.size + 1) [tr].length (metB [tr]) := hM3.congr fun s => by rw [show (if s = kB tr then true else false) = (if s = kB tr then true else metB [] s) from rfl, metB_snoc, List.nil_append]
  clear hM hM3 hO3 hrun3 X0 X1 hmm t2
  have kg : Only [] w3 (w3.alloc (.cells #[.slice none 0 0, .slice none 0 0, .slice none 0 0, .int .i64 0, .string ⟨#[]⟩, .int .i64 0, .slice none 0 0, .map (some (w.heap.size + 1))] 71)) := (Only.refl _ _).alloc _
  have G0 : Blk (w3.alloc (.cells #[.slice none 0 0, .slice none 0 0, .slice none 0 0, .int .i64 0, .string ⟨#[]⟩, .int .i64 0, .slice none 0 0, .map (some (w.heap.size + 1))] 71)) w3.heap.size [.slice none 0 0, .slice none 0 0, .slice none 0 0, .int .i64 0, .string ⟨#[]⟩, .int .i64 0, .slice none 0 0, .map (some (w.heap.size + 1))] := Blk.new w3 _ _
  go_wp2_with fail
  with_reducible refine (Clone_rd _ tr _ _ (Rp.keep hv (K3.trans kg)) (by omega)).mono ?_
  rintro e w4 ⟨u4, f4, rfl, r4, F4, t4⟩
  obtain ⟨a4, c4, rfl, I4⟩ := r4.ints
  go_wp2_with fail
  with_reducible refine (Clone_rd _ tr _ _ (Rp.keep hv ((K3.trans kg).trans t4)) (by omega)).mono ?_
  rintro e w5 ⟨u5, f5, rfl, r5, F5, t5⟩
  obtain ⟨a5, c5, rfl, I5⟩ := r5.ints
  have kl1 : Only [] w5 (w5.alloc (.cells #[.slice a5 tr.length c5] 25)) := (Only.refl _ _).alloc _
  have kl2 : Only [] (w5.alloc (.cells #[.slice a5 tr.length c5] 25)) ((w5.alloc (.cells #[.slice a5 tr.length c5] 25)).alloc (.cells #[.int .i64 0] 2)) := (Only.refl _ _).alloc _
  have kl := kl1.trans kl2
  have hg4 : w3.heap.size < w4.heap.size := by have := t4.size; simp at this; omega
  have hg5 := t5.size
  have h34 : ∀ b ∈ f4, w3.heap.size + 1 ≤ b ∧ b < w4.heap.size := fun b hb => ⟨by have := F4.ge b hb; simpa using this, F4.lt b hb⟩
  have h45 : ∀ b ∈ f5, w4.heap.size ≤ b ∧ b < w5.heap.size := fun b hb => ⟨F5.ge b hb, F5.lt b hb⟩
  have hA6 : Acc w.heap.size 25 ((w5.alloc (.cells #[.slice a5 tr.length c5] 25)).alloc (.cells #[.int .i64 0] 2)) (.slice (some ⟨w5.heap.size, 0, none⟩) 1 1) [tr] [f5] := (Acc.one w.heap.size 25 (cs := [.slice a5 tr.length c5]) I5.rd rfl (by have := K3.size; omega)).keep kl2
  have hD6 : AccI w.heap.size 2 ((w5.alloc (.cells #[.slice a5 tr.length c5] 25)).alloc (.cells #[.int .i64 0] 2)) (.slice (some ⟨w5.heap.size + 1, 0, none⟩) 1 1) [0] := AccI.one (by unfold I64; omega) (w5.alloc (.cells #[.slice a5 tr.length c5] 25)) w.heap.size 2 (g := w5.heap.size + 1) (by simp) (by have := K3.size; omega)
  have hM6 : MpB ((w5.alloc (.cells #[.slice a5 tr.length c5] 25)).alloc (.cells #[.int .i64 0] 2)) (w.heap.size + 1) [tr].length (metB [tr]) := ((((hM3'.keep kg).keep t4).keep t5).keep kl)
  have r46 : Rd ((w5.alloc (.cells #[.slice a5 tr.length c5] 25)).alloc (.cells #[.int .i64 0] 2)) (.slice a4 tr.length c4) tr f4 := Rp.keep (Rp.keep I4.rd t5) kl
  have F46 := (F4.keep t5).keep kl
  have F56 := F5.keep kl
  have G6 := ((G0.keep t4).keep t5).keep kl
  have X6 := (((X3.keep kg).keep t4).keep t5).keep kl
  have K6 : Only [] w ((w5.alloc (.cells #[.slice a5 tr.length c5] 25)).alloc (.cells #[.int .i64 0] 2)) := (((K3.trans kg).trans t4).trans t5).trans kl
  clear kl kl1 kl2 G0 X3 hM3' t4 t5 I4 I5 F4 F5
  have e0 := G6.cell 0 rfl
  have e1 := G6.cell 1 rfl
  have e2 := G6.cell 2 rfl
  have q0 := G6.frozen 0
  have q1 := G6.frozen 1
  have q2 := G6.frozen 2
  have G7 := ((G6.set 0 (.slice a4 tr.length c4)).set 1 (.slice (some ⟨w5.heap.size, 0, none⟩) 1 1)).set 2 (.slice (some ⟨w5.heap.size + 1, 0, none⟩) 1 1)
  simp only [List.set] at G7
  have ks : Only [w3.heap.size] ((w5.alloc (.cells #[.slice a5 tr.length c5] 25)).alloc (.cells #[.int .i64 0] 2)) (((((w5.alloc (.cells #[.slice a5 tr.length c5] 25)).alloc (.cells #[.int .i64 0] 2)).setCell ⟨w3.heap.size, 0, none⟩ (.slice a4 tr.length c4)).setCell ⟨w3.heap.size, 1, none⟩ (.slice (some ⟨w5.heap.size, 0, none⟩) 1 1)).setCell ⟨w3.heap.size, 2, none⟩ (.slice (some ⟨w5.heap.size + 1, 0, none⟩) 1 1)) := (((Only.refl _ _).setCell (by simp) _).setCell (by simp) _).setCell (by simp) _
  have hgw : w.heap.size + 2 ≤ w3.heap.size := by omega
  have X7 := X6.only ks (by simp; omega)
  have x72 := X7.cell 2 rfl
  go_upto_region 3 with fail
  obtain ⟨W7, hW7⟩ : ∃ W7, W7 = (((((w5.alloc (.cells #[.slice a5 tr.length c5] 25)).alloc (.cells #[.int .i64 0] 2)).setCell ⟨w3.heap.size, 0, none⟩ (.slice a4 tr.length c4)).setCell ⟨w3.heap.size, 1, none⟩ (.slice (some ⟨w5.heap.size, 0, none⟩) 1 1)).setCell ⟨w3.heap.size, 2, none⟩ (.slice (some ⟨w5.heap.size + 1, 0, none⟩) 1 1)) := ⟨_, rfl⟩
  have hs7 : W7.heap.size = w5.heap.size + 2 := by rw [hW7]; simp
  have hng : ∀ b : Nat, b ≠ w3.heap.size → b ∉ [w3.heap.size] := fun b hb hm => hb (by simpa using hm)
  have hA7 := hA6.only ks (fun b hb => hng b (by have := h45 b (by simpa using hb); omega)) (fun q hq => hng q (by simp [Value.ownBlock] at hq; omega))
  have hD7 := hD6.only ks (fun q hq => hng q (by simp [Value.ownBlock] at hq; omega))
  have hM7 := hM6.only ks (hng _ (by omega))
  have r47 := Rp.only r46 ks (fun b hb => hng b (by have := h34 b hb; omega))
  have F47 := F46.only ks (fun b hb => hng b (by have := h34 b hb; omega))
  have F57 := F56.only ks (fun b hb => hng b (by have := h45 b hb; omega))
  have K7 : Only [] w (((((w5.alloc (.cells #[.slice a5 tr.length c5] 25)).alloc (.cells #[.int .i64 0] 2)).setCell ⟨w3.heap.size, 0, none⟩ (.slice a4 tr.length c4)).setCell ⟨w3.heap.size, 1, none⟩ (.slice (some ⟨w5.heap.size, 0, none⟩) 1 1)).setCell ⟨w3.heap.size, 2, none⟩ (.slice (some ⟨w5.heap.size + 1, 0, none⟩) 1 1)) := K6.then_ ks (fun b hb hl => by simp at hb; omega)
  rw [← hW7] at hA7 hD7 hM7 r47 F47 F57 G7 X7 x72 K7
  rw [← hW7]
  clear hW7 ks G6 X6 K6 hA6 hD6 hM6 r46 F46 F56 e0 e1 e2 q0 q1 q2
  go_wp2_with (first
    | (go_at_call 79; (with_reducible refine (letters_any x.moves.length _ hml).mono ?_); rintro e w8 ⟨u8, f8, rfl, r8, F8, t8⟩; rw [← Hls.out] at r8; obtain ⟨a8, c8, rfl, I8⟩ := r8.ints)
    | fail "no arm")
  have K8 : Only [] w w8 := K7.trans t8
  have G8 := G7.keep t8
  have X8 := X7.keep t8
  have hs8 := t8.size
  have hA8 := hA7.keep t8
  have hD8 := hD7.keep t8
  have hM8 := hM7.keep t8
  have r48 := Rp.keep r47 t8
  have F48 := F47.keep t8
  have F58 := F57.keep t8
  clear x72 hA7 hD7 hM7 r47 F47 F57 G7 X7 r8
  go_loopw [30] (fun i wr => ∃ (j : Nat) (vm : Value) (gs : List (List Nat)), j ≤ ls.length ∧ i = .int .i64 j ∧ Blk wr w3.heap.size [.slice a4 tr.length c4, .slice (some ⟨w5.heap.size, 0, none⟩) 1 1, .slice (some ⟨w5.heap.size + 1, 0, none⟩) 1 1, .int .i64 0, .string ⟨#[]⟩, .int .i64 0, vm, .map (some (w.heap.size + 1))] ∧ Acc w8.heap.size 25 wr vm ((ls.take j).map (mv x.moves)) gs ∧ (∀ b ∈ gs.flatten, b < w.heap.size ∨ w8.heap.size ≤ b) ∧ Only [w3.heap.size] w8 wr)
    (fun i _ => ls.length - (intOf i).toNat)
  case atStart => exact ⟨0, .slice none 0 0, [], Nat.zero_le _, rfl, G8, Acc.nil _ _ _, by simp, Only.refl _ _⟩
  case round =>
    obtain ⟨W2, hnew⟩ : ∃ W, W = wr := ⟨_, rfl⟩
    subst hnew
    obtain ⟨j, vm, gs, hj, rfl, hG, hA, hgs, hK⟩ := hrel
    obtain ⟨Pm, Qm, rfl⟩ := hA.form
    have hKW : Only [] w W2 := K8.then_ hK (fun b hb hl => by simp at hb; omega)
    have hsW := hK.size
    by_cases hlt : j < ls.length
    · obtain ⟨b8, o8, rfl, hf8, hc8⟩ := I8.at_ j hlt
      have hb8 : b8 ∉ [w3.heap.size] := by
        have h1 := F8.ge b8 (by rw [hf8]; simp)
        simp; omega
      have hc := hK.cell (p := ⟨b8, o8 + j, none⟩) hb8 hc8
      have hX := X8.only hK (by simp; omega)
      have x2 := hX.cell 2 rfl
      have y6 := hG.cell 6 rfl
      have hla : ls[j] ∈ ltrs x.moves.length := by rw [← Hls.out]; exact List.getElem_mem hlt
      have Hla := Lib.hid hla
      have hr2 := Rp.keep h2 hKW
      have hsn : (ls.take (j + 1)).map (mv x.moves) = (ls.take j).map (mv x.moves) ++ [mv x.moves ls[j]] := by rw [take_succ_get ls j hlt, List.map_append]; rfl
      have Hsn := Lib.hid hsn
      have hml2 : ((ls.take j).map (mv x.moves)).length + 1 ≤ 1073741824 := by simp; omega
      obtain ⟨ml, hmle⟩ : ∃ ml, ml = (ls.take j).map (mv x.moves) := ⟨_, rfl⟩
      rw [← hmle] at hA hG y6 hml2
      have Hmle := Lib.hid hmle
      have hjl : (j : Int) < (ls.length : Int) := by omega
      have hj0 : (0 : Int) ≤ (j : Int) := by omega
      have hHA := Lib.hid hA
      have hHG := Lib.hid hG
      clear hla hsn hmle hG hA
      go_upto_region 6 with fail
      go_region_law (first
        | (go_simp; go_at_call 80; (with_reducible refine (letterOf_rd (.slice A2 x.moves.length C2) x.moves ls[j] _ _ (Rp.keep hr2 (by with_reducible repeat (first | exact Only.refl _ _ | assumption | refine Only.drewN ?_ _ | refine Only.drew ?_ | refine Only.alloc ?_ _ | refine Only.setCell ?_ (by intro hh; exfalso; simp at hh; try omega) _ | refine Only.trans ?_ (by assumption)))) Hmv.out Hla.out hml).mono ?_); rintro e w10 ⟨u10, f10, rfl, r10, F10, t10⟩; obtain ⟨a10, c10, rfl, I10⟩ := r10.ints; clear I10; have k10 : Only [] W2 w10 := Only.trans (by with_reducible repeat (first | exact Only.refl _ _ | refine Only.drew ?_)) t10; have kl : Only [] w10 (w10.alloc (.cells #[.slice a10 (mv x.moves ls[j]).length c10] 25)) := (Only.refl _ _).alloc _; have y610 := k10.cell (by simp) y6; have y611 := kl.cell (by simp) y610; have A10 := hHA.out.keep k10; have G11 := (hHG.out.keep k10).keep kl; have r11 := Rp.keep r10 kl; have hB10 : w8.heap.size ≤ w10.heap.size := Nat.le_trans hsW k10.size; have hap10 : ∀ b ∈ f10, (Value.slice Pm ml.length Qm).ownBlock ≠ some b := (fun b hb he => by have h1 := hHA.out.ownlt b he; have h8 : b < w.heap.size ∨ W2.heap.size ≤ b := (F10 b hb).imp (fun hm => Rp.lt h2 b hm) (fun hm => (by (try simp at hm); omega)); omega))
        | (refine step_push2w rfl _ _ 22 rfl w8.heap.size 25 iL _ 24 Tryz.underlying22 hiL hL0 hL1 hL2 rfl (by decide) (by decide) w10 (.slice Pm ml.length Qm) ml gs rfl A10 kl hB10 w10.heap.size 1 [.slice a10 (mv x.moves ls[j]).length c10] (mv x.moves ls[j]) f10 rfl (lit_src w10 [.slice a10 (mv x.moves ls[j]).length c10] _ rfl) (by intro u hu; simp at hu; subst hu; rfl) r11 hap10 hml2 ?_; intro v12 w12 hA12 hO12 hN12; obtain ⟨a12, n12, c12, rfl⟩ : ∃ a n c, v12 = Value.slice a n c := (let ⟨a, c, hh⟩ := hA12.form; ⟨a, _, c, hh⟩); have B12 := G11.only hO12 (fun hm => by have := hHA.out.ownlt _ (by simpa using hm); omega); have y12 := B12.cell 6 rfl; have p12 := B12.frozen 6)
        | fail "no arm")
      all_goals go_wp2_with fail
      all_goals have hse : Only [w3.heap.size] w12 (w12.setCell ⟨w3.heap.size, 6, none⟩ (.slice a12 n12 c12)) := (Only.refl _ _).setCell (by simp) _
      all_goals have hBe := B12.set 6 (.slice a12 n12 c12)
      all_goals simp only [List.set] at hBe
      all_goals have hfl : ∀ b ∈ (gs ++ [f10]).flatten, b < w.heap.size ∨ w8.heap.size ≤ b := (fun b hb => (by rw [List.flatten_append] at hb; rcases List.mem_append.1 hb with hb | hb; exact hgs b hb; exact (F10 b (by simpa using hb)).imp (fun hm => Rp.lt h2 b hm) (fun hm => (by (try simp at hm); omega))))
      all_goals have hAe := hA12.only hse (fun b hb hm => (by have := hfl b hb; simp at hm; omega)) (fun q hq hm => (by have := (hA12.ownlt q hq).1; simp at hm; omega))
      all_goals rw [Hmle.out, ← Hsn.out] at hAe
      all_goals have hKe := ((hK.trans (k10.weaken _)).keepThen kl)
      all_goals have hKf := (hKe.then_ hO12 (fun b hb hl => (by exfalso; have := hHA.out.ownlt b (by simpa using hb); omega))).trans hse
      all_goals exact ⟨⟨j + 1, _, gs ++ [f10], by omega, by go_num, hBe, hAe, hfl, hKf⟩, by simp [intOf]; omega⟩
    · obtain rfl : j = ls.length := by omega
      obtain ⟨vm, hvm⟩ : ∃ vm, vm = Value.slice Pm (List.map (mv x.moves) (List.take ls.length ls)).length Qm := ⟨_, rfl⟩
      rw [← hvm] at hA hG
      rw [List.take_length] at hA
      clear hvm
      have hfm : ∀ b ∈ vm.ownBlock.toList ++ gs.flatten, b < W2.heap.size ∧ (b < w.heap.size ∨ w8.heap.size ≤ b) := fun b hb => by
        rcases List.mem_append.1 hb with hb | hb
        · have := hA.ownlt b (by simpa using hb); omega
        · exact ⟨hA.lt b hb, hgs b hb⟩
      have hng2 : ∀ b : Nat, b ≠ w3.heap.size → b ∉ [w3.heap.size] := fun b hb hm => hb (by simpa using hm)
      have hA9 := hA8.only hK (fun b hb => hng2 b (by have := h45 b (by simpa using hb); omega)) (fun q hq => hng2 q (by simp [Value.ownBlock] at hq; omega))
      have hD9 := hD8.only hK (fun q hq => hng2 q (by simp [Value.ownBlock] at hq; omega))
      have hM9 := hM8.only hK (hng2 _ (by omega))
      have r49 := Rp.only r48 hK (fun b hb => hng2 b (by have := h34 b hb; omega))
      have F49 := F48.only hK (fun b hb => hng2 b (by have := h34 b hb; omega))
      have F59 := F58.only hK (fun b hb => hng2 b (by have := h45 b hb; omega))
      have hwW := hKW.size
      have hFil : Fil x w.heap.size w3.heap.size W2 (startF tr) := by
        refine ⟨w.heap.size + 1, _, vm, f4, vm.ownBlock.toList ++ gs.flatten, f4 ++ (vm.ownBlock.toList ++ gs.flatten), _, _, [f5], ⟨hG, hA9, hD9, hM9, r49, ?_, ⟨?_, ?_⟩, ?_, fun b hb => List.mem_append_left _ hb, fun b hb => List.mem_append_right _ hb, ?_, hwW⟩⟩
        · rw [← Hls.out]; exact hA.rd (by decide)
        · show ([[w3.heap.size], [w.heap.size + 1], [w5.heap.size], [w5.heap.size + 1]] : List (List Nat)).flatten.Nodup
          simp
          omega
        · intro c hc b hb
          have hc' : c = [w3.heap.size] ∨ c = [w.heap.size + 1] ∨ c = [w5.heap.size] ∨ c = [w5.heap.size + 1] := by simpa [flF, Value.ownBlock] using hc
          rcases hc' with rfl | rfl | rfl | rfl <;> simp at hb <;> omega
        · intro b hb
          have key : b < W2.heap.size ∧ b ≠ w3.heap.size ∧ b ≠ w.heap.size + 1 ∧ b ≠ w5.heap.size ∧ b ≠ w5.heap.size + 1 := by
            rcases List.mem_append.1 hb with hb | hb
            · have := h45 b (by simpa using hb); omega
            · rcases List.mem_append.1 hb with hb | hb
              · have := h34 b hb; omega
              · have := hfm b hb; omega
          refine ⟨key.1, fun c hc hm => ?_⟩
          have hc' : c = [w3.heap.size] ∨ c = [w.heap.size + 1] ∨ c = [w5.heap.size] ∨ c = [w5.heap.size + 1] := by simpa [flF, Value.ownBlock] using hc
          rcases hc' with rfl | rfl | rfl | rfl <;> simp at hm <;> omega
        · have e : [f5].flatten = f5 := by simp
          rw [e]
          exact Fresh.append (F49.mono (by (try simp); omega)) F59 (by omega) (fun b hb => by have := h34 b hb; omega)
      have HFil := Lib.hid hFil
      clear hFil hG hA hA9 hD9 hM9 r49 F49 F59
      go_wp2_with fail
      go_ret
      exact ⟨_, rfl, HFil.out, hKW⟩
end Go.Proofs.YtkhdmiemfpelcaaGreat

namespace Go.Proofs.YtkhdmiemfpelcaaGreat
open Go.RowKit
set_option maxRecDepth 10000

/-- the job after n expansions, with s bytes synced -/
def chF (x : Puzzle) (tr : List Int) (s : Int) (n : Nat) : FillJob := { atF x tr n with synced := s }
theorem chF_next (x : Puzzle) (tr : List Int) (s : Int) (n : Nat) : expandF x (chF x tr s n) = chF x tr s (n + 1) := rfl
theorem chF_go {x : Puzzle} {tr : List Int} {s : Int} {n : Nat} (h1 : (bTab x tr).isSome = true) (h2 : okF x tr n) : GoF x (chF x tr s n) n := by
  obtain ⟨hg, hn, -⟩ := atF_good h1 n h2
  obtain ⟨t, ht⟩ := Option.isSome_iff_exists.1 h1
  have hf := bTab_facts ht
  refine ⟨hf.1, ?_, hg.nx, ?_, hg.ln, hg.le, ?_, ?_, ?_⟩
  · show trackB x.points (atF x tr n).table.tracked = true
    rw [hg.tk]; exact hf.2.1
  · show n ≤ (atF x tr n).table.patterns.length
    rcases Nat.eq_zero_or_pos n with h0 | h0
    · omega
    · obtain ⟨m, rfl⟩ : ∃ m, n = m + 1 := ⟨n - 1, by omega⟩
      have h5 := h2 m (by omega)
      have h6 := atF_len_le x tr m
      omega
  · show ∀ q ∈ (atF x tr n).table.patterns, patB x.points (atF x tr n).table.tracked.length q = true
    rw [hg.tk]; exact hg.ps
  · intro d hd; have := hg.ds d hd; omega
  · show (atF x tr n).log.size ≤ 2000000
    have := hg.lg; omega
theorem chF_valid {x : Puzzle} {j : FillJob} (h : validF x j = true) : ∃ n : Nat, (bTab x j.table.tracked).isSome = true ∧ okF x j.table.tracked n ∧ j = chF x j.table.tracked j.synced n := by
  obtain ⟨n, h1, h2, h3, -⟩ := validF_at h
  exact ⟨n, h1, h2, h3⟩
/-- a step goes on along the chain -/
theorem chF_step {x : Puzzle} {tr : List Int} {s : Int} {n : Nat} (h1 : (bTab x tr).isSome = true) (h2 : okF x tr n) (h3 : (stepF x (chF x tr s n)).2 = true) : okF x tr (n + 1) ∧ (stepF x (chF x tr s n)).1 = chF x tr s (n + 1) := by
  have hg := chF_go (s := s) h1 h2
  have hd : (chF x tr s n).next ≠ (chF x tr s n).table.patterns.length := by
    intro hd; rw [stepF_done hd] at h3; cases h3
  have hl : ¬ 60000 < (expandF x (chF x tr s n)).log.size := by
    intro hl; rw [stepF_long hd hl] at h3; cases h3
  refine ⟨fun m hm => ?_, by rw [stepF_go hd hl]; exact chF_next x tr s n⟩
  rcases Nat.lt_or_ge m n with h | h
  · exact h2 m h
  · have e : m = n := by omega
    subst e
    have h4 := hg.lt
    have h5 := hg.nx
    have h6 : m ≠ (atF x tr m).table.patterns.length := fun he => hd (by rw [h5]; exact congrArg Nat.cast he)
    have h7 : m ≤ (atF x tr m).table.patterns.length := h4
    omega
end Go.Proofs.YtkhdmiemfpelcaaGreat

namespace Go.Proofs.YtkhdmiemfpelcaaGreat
open Go.RowKit
set_option maxRecDepth 10000

set_option maxHeartbeats 2000000 in
theorem start_any (cs : List Value) (x : Puzzle) (fp : List Nat) (v : Value) (tr : List Int) (ft : List Nat) (w : World) (h : Rp.rep w cs x fp) (hv : Rd w v tr ft) (htl : tr.length ≤ 2097152) :
    Calls Tryz.prog 39 #[.agg cs.toArray, v] w fun e w' => ∃ q, e = .returned (.tuple #[.pointer q, .bool (bTab x tr).isSome]) ∧ ((bTab x tr).isSome = true → ∃ B g, q = some ⟨g, 0, none⟩ ∧ w.heap.size ≤ B ∧ Fil x B g w' (startF tr)) ∧ Only [] w w' := by
  have hh := h
  obtain ⟨v2, rfl, p0, p1, h2⟩ := h
  obtain ⟨A2, C2, _, _, rfl, -, -⟩ := h2.open_
  obtain ⟨av, cv, rfl, Iv⟩ := hv.ints
  clear p0 p1 Iv
  have X0 : Blk (w.alloc (.cells #[.int .i64 x.points, .string x.names, .slice A2 x.moves.length C2] 37)) w.heap.size [.int .i64 x.points, .string x.names, .slice A2 x.moves.length C2] := Blk.new w _ _
  obtain ⟨ok, hok⟩ : ∃ ok, ok = (bTab x tr).isSome := ⟨_, rfl⟩
  rw [← hok]
  cases ok
  · have Hok := Lib.hid hok
    clear hok
    go_enter Tryz.func39, Tryz.ntmps39
    go_wp2_with (first
      | (go_at_call 58; (with_reducible refine (implBuildTable_any [.int .i64 x.points, .string x.names, .slice A2 x.moves.length C2] x _ _ tr _ _ (Rp.keep hh (by with_reducible repeat (first | exact Only.refl _ _ | assumption | refine Only.drewN ?_ _ | refine Only.drew ?_ | refine Only.alloc ?_ _ | refine Only.setCell ?_ (by intro hh; exfalso; simp at hh; try omega) _ | refine Only.trans ?_ (by assumption)))) (Rp.keep hv (by with_reducible repeat (first | exact Only.refl _ _ | assumption | refine Only.drewN ?_ _ | refine Only.drew ?_ | refine Only.alloc ?_ _ | refine Only.setCell ?_ (by intro hh; exfalso; simp at hh; try omega) _ | refine Only.trans ?_ (by assumption)))) htl).mono ?_); rintro e w1 ⟨cs1, f1, he, r1, F1, t1⟩; rw [← Hok.out] at he; obtain ⟨T, hT⟩ : ∃ T, T = (bTab x tr).getD noTab := ⟨_, rfl⟩; rw [← hT] at r1; clear hT; obtain ⟨u1, u2, u3, e1, e2, e3, rfl, -, s1, s2, s3⟩ := r1; obtain ⟨B1, D1, _, _, rfl, -⟩ := s1.open_; obtain ⟨B2, D2, _, _, rfl, -⟩ := s2.open_; obtain ⟨B3, D3, _, _, rfl, -⟩ := s3.open_; subst he)
      | fail "no arm")
    refine bodyPost_ret (v := .tuple #[.pointer none, .bool false]) (by simp [results, Tryz.results39, go_sem]) rfl ⟨none, rfl, by simp, (by with_reducible repeat (first | exact Only.refl _ _ | assumption | refine Only.drewN ?_ _ | refine Only.drew ?_ | refine Only.alloc ?_ _ | refine Only.setCell ?_ (by intro hh; exfalso; simp at hh; try omega) _ | refine Only.trans ?_ (by assumption)))⟩
  · obtain ⟨t, ht⟩ := Option.isSome_iff_exists.1 hok.symm
    have hf := bTab_facts ht
    have Hok := Lib.hid hok
    have Hv := Lib.hid hf.1
    have Htr := Lib.hid hf.2.1
    clear hok ht hf
    go_enter Tryz.func39, Tryz.ntmps39
    go_wp2_with (first
      | (go_at_call 58; (with_reducible refine (implBuildTable_any [.int .i64 x.points, .string x.names, .slice A2 x.moves.length C2] x _ _ tr _ _ (Rp.keep hh (by with_reducible repeat (first | exact Only.refl _ _ | assumption | refine Only.drewN ?_ _ | refine Only.drew ?_ | refine Only.alloc ?_ _ | refine Only.setCell ?_ (by intro hh; exfalso; simp at hh; try omega) _ | refine Only.trans ?_ (by assumption)))) (Rp.keep hv (by with_reducible repeat (first | exact Only.refl _ _ | assumption | refine Only.drewN ?_ _ | refine Only.drew ?_ | refine Only.alloc ?_ _ | refine Only.setCell ?_ (by intro hh; exfalso; simp at hh; try omega) _ | refine Only.trans ?_ (by assumption)))) htl).mono ?_); rintro e w1 ⟨cs1, f1, he, r1, F1, t1⟩; rw [← Hok.out] at he; obtain ⟨T, hT⟩ : ∃ T, T = (bTab x tr).getD noTab := ⟨_, rfl⟩; rw [← hT] at r1; clear hT; obtain ⟨u1, u2, u3, e1, e2, e3, rfl, -, s1, s2, s3⟩ := r1; obtain ⟨B1, D1, _, _, rfl, -⟩ := s1.open_; obtain ⟨B2, D2, _, _, rfl, -⟩ := s2.open_; obtain ⟨B3, D3, _, _, rfl, -⟩ := s3.open_; subst he; have X1 := (X0.keep t1).keep ((Only.refl [] w1).alloc (.cells #[.slice B1 T.tracked.length D1, .slice B2 T.patterns.length D2, .slice B3 T.distances.length D3] 32)); have x0 := X1.cell 0 rfl; have x1 := X1.cell 1 rfl; have x2 := X1.cell 2 rfl)
      | (go_at_call 59; (with_reducible refine (newFiller_any [.int .i64 x.points, .string x.names, .slice A2 x.moves.length C2] x _ _ tr _ _ (Rp.keep hh (by with_reducible repeat (first | exact Only.refl _ _ | assumption | refine Only.drewN ?_ _ | refine Only.drew ?_ | refine Only.alloc ?_ _ | refine Only.setCell ?_ (by intro hh; exfalso; simp at hh; try omega) _ | refine Only.trans ?_ (by assumption)))) (Rp.keep hv (by with_reducible repeat (first | exact Only.refl _ _ | assumption | refine Only.drewN ?_ _ | refine Only.drew ?_ | refine Only.alloc ?_ _ | refine Only.setCell ?_ (by intro hh; exfalso; simp at hh; try omega) _ | refine Only.trans ?_ (by assumption)))) Hv.out Htr.out).mono ?_); rintro e w2 ⟨g, rfl, hFil, t2⟩)
      | fail "no arm")
    have t1s := t1.size
    simp at t1s
    refine bodyPost_ret (v := .tuple #[.pointer (some ⟨g, 0, none⟩), .bool true]) (by simp [results, Tryz.results39, go_sem]) rfl ⟨_, rfl, fun _ => ⟨_, g, rfl, by simp; omega, hFil⟩, (by with_reducible repeat (first | exact Only.refl _ _ | assumption | refine Only.drewN ?_ _ | refine Only.drew ?_ | refine Only.alloc ?_ _ | refine Only.setCell ?_ (by intro hh; exfalso; simp at hh; try omega) _ | refine Only.trans ?_ (by assumption)))⟩
end Go.Proofs.YtkhdmiemfpelcaaGreat

namespace Go.Proofs.YtkhdmiemfpelcaaGreat
open Go.RowKit
set_option maxRecDepth 10000

theorem atF_log_le (x : Puzzle) (tr : List Int) {n m : Nat} (h : n ≤ m) : (atF x tr n).log.size ≤ (atF x tr m).log.size := by
  rcases Nat.lt_or_ge n m with h1 | h1
  · exact Nat.le_of_lt (atF_log_mono x tr h1)
  · have : n = m := by omega
    rw [this]; exact Nat.le_refl _
theorem valF_next {x : Puzzle} {j : FillJob} {n : Nat} (h : valF x j n) : j.next = n := by
  obtain ⟨hb, -, -, hk, he⟩ := h
  rw [← he.1]; exact ((atF_good hb n hk).1).nx
theorem validF_next {x : Puzzle} {j : FillJob} (h : validF x j = true) : 0 ≤ j.next ∧ j.next ≤ 3000 := by
  rw [validF_iff] at h
  obtain ⟨n, hv⟩ := h
  have h1 := valF_next hv
  have h2 := (atF_good hv.1 n hv.2.2.2.1).2.1
  omega
/-- the replay is at its end -/
theorem validF_end {x : Puzzle} {j : FillJob} {m : Nat} (hb : (bTab x j.table.tracked).isSome = true) (hl : j.log.size ≤ 60000) (hs : 0 ≤ j.synced ∧ j.synced ≤ j.log.size) (hok : okF x j.table.tracked m) (hm : j.next = m) :
    validF x j = (decide ((atF x j.table.tracked m).log = j.log) && eqV (atF x j.table.tracked m).table j.table) := by
  rw [Bool.eq_iff_iff, validF_iff, Bool.and_eq_true, decide_eq_true_iff]
  constructor
  · rintro ⟨n, hv⟩
    have h1 := valF_next hv
    have e : n = m := by omega
    subst e
    exact ⟨hv.2.2.2.2.2.1, by unfold eqV; simpa using hv.2.2.2.2.2.2⟩
  · rintro ⟨h1, h2⟩
    unfold eqV at h2
    refine ⟨m, hb, hl, hs, hok, ?_, h1, by simpa using h2⟩
    rw [hm]; exact ((atF_good hb m hok).1).nx
theorem chF_log (x : Puzzle) (tr : List Int) (s : Int) (n : Nat) : (chF x tr s n).log = (atF x tr n).log := rfl
theorem chF_tab (x : Puzzle) (tr : List Int) (s : Int) (n : Nat) : (chF x tr s n).table = (atF x tr n).table := rfl
/-- the replay cannot go on -/
theorem validF_stuck {x : Puzzle} {j : FillJob} {m : Nat} {s : Int} (hok : okF x j.table.tracked m) (hm : (m : Int) < j.next) (hst : (stepF x (chF x j.table.tracked s m)).2 = false) : validF x j = false := by
  rw [← Bool.not_eq_true, validF_iff]
  rintro ⟨n, hv⟩
  have h1 := valF_next hv
  obtain ⟨hb, hl, -, hk, he⟩ := hv
  have hmn : m < n := by omega
  have hlt := hk m hmn
  have hd : (chF x j.table.tracked s m).next ≠ (chF x j.table.tracked s m).table.patterns.length := by
    have hnx : (chF x j.table.tracked s m).next = m := ((atF_good hb m hok).1).nx
    rw [hnx, chF_tab]
    omega
  have hlong : 60000 < (expandF x (chF x j.table.tracked s m)).log.size := by
    apply Classical.byContradiction
    intro hc
    rw [stepF_go hd hc] at hst
    cases hst
  have h5 : (expandF x (chF x j.table.tracked s m)).log.size = (atF x j.table.tracked (m + 1)).log.size := by rw [chF_next, chF_log]
  have h6 := atF_log_le x j.table.tracked (show m + 1 ≤ n by omega)
  rw [he.2.1] at h6
  omega
end Go.Proofs.YtkhdmiemfpelcaaGreat

namespace Go.Proofs.YtkhdmiemfpelcaaGreat
open Go.RowKit
set_option maxRecDepth 10000

set_option maxHeartbeats 8000000 in
theorem resume_any (cs : List Value) (x : Puzzle) (fp : List Nat) (c1 c2 c3 : Value) (tr : List Int) (ps : List (List Int)) (ds : List Int) (nx : Int) (lg : ByteArray) (sy : Int) (g1 g2 g3 : List Nat) (w : World) (h : Rp.rep w cs x fp)
    (k1 : Rd w c1 tr g1) (k2 : Rd w c2 ps g2) (k3 : Rd w c3 ds g3) (hnx : I64 nx) (hsy : I64 sy) (hlm : lg.size ≤ maxLen) (htl : tr.length ≤ 2097152) :
    Calls Tryz.prog 38 #[.agg cs.toArray, .agg #[c1, c2, c3, .int .i64 nx, .string lg, .int .i64 sy]] w fun e w' => ∃ q, e = .returned (.tuple #[.pointer q, .bool (validF x (⟨⟨tr, ps, ds⟩, nx, lg, sy⟩ : FillJob))]) ∧ (validF x (⟨⟨tr, ps, ds⟩, nx, lg, sy⟩ : FillJob) = true → ∃ B g, q = some ⟨g, 0, none⟩ ∧ w.heap.size ≤ B ∧ Fil x B g w' (⟨⟨tr, ps, ds⟩, nx, lg, sy⟩ : FillJob)) ∧ Only [] w w' := by
  have hh := h
  obtain ⟨v2, rfl, p0, p1, h2⟩ := h
  obtain ⟨A0, C0, _, _, rfl, -, -⟩ := h2.open_
  have hk1 := k1; have hk2 := k2; have hk3 := k3
  obtain ⟨A1, C1, _, _, rfl, -⟩ := k1.open_
  obtain ⟨A2, C2, _, _, rfl, -⟩ := k2.open_
  obtain ⟨A3, C3, _, _, rfl, -⟩ := k3.open_
  have hT : Rp.rep w [.slice A1 tr.length C1, .slice A2 ps.length C2, .slice A3 ds.length C3] (⟨tr, ps, ds⟩ : Table) (g1 ++ (g2 ++ g3)) := ⟨_, _, _, _, _, _, rfl, rfl, hk1, hk2, hk3⟩
  obtain ⟨vb, hvb⟩ : ∃ vb, vb = validF x (⟨⟨tr, ps, ds⟩, nx, lg, sy⟩ : FillJob) := ⟨_, rfl⟩
  rw [← hvb]
  have HVB := Lib.hid hvb
  clear hvb p0 p1 k1 k2 k3
  have hlm2 := hlm
  unfold maxLen at hlm2
  have k0 : Only [] w ((w.alloc (.cells #[.int .i64 x.points, .string x.names, .slice A0 x.moves.length C0] 37)).alloc (.cells #[.slice A1 tr.length C1, .slice A2 ps.length C2, .slice A3 ds.length C3, .int .i64 nx, .string lg, .int .i64 sy] 34)) := ((Only.refl _ _).alloc _).alloc _
  have B0 : Blk ((w.alloc (.cells #[.int .i64 x.points, .string x.names, .slice A0 x.moves.length C0] 37)).alloc (.cells #[.slice A1 tr.length C1, .slice A2 ps.length C2, .slice A3 ds.length C3, .int .i64 nx, .string lg, .int .i64 sy] 34)) w.heap.size [.int .i64 x.points, .string x.names, .slice A0 x.moves.length C0] := Blk.keep (Blk.new_at rfl) ((Only.refl _ _).alloc _)
  have B1 : Blk ((w.alloc (.cells #[.int .i64 x.points, .string x.names, .slice A0 x.moves.length C0] 37)).alloc (.cells #[.slice A1 tr.length C1, .slice A2 ps.length C2, .slice A3 ds.length C3, .int .i64 nx, .string lg, .int .i64 sy] 34)) (w.heap.size + 1) [.slice A1 tr.length C1, .slice A2 ps.length C2, .slice A3 ds.length C3, .int .i64 nx, .string lg, .int .i64 sy] := Blk.new_at (by simp)
  have HB0 := Lib.hid B0
  have HB1 := Lib.hid B1
  clear B0 B1
  have hno : ∀ w' : World, Only [] w w' → vb = false → ∃ q, Ending.returned (.tuple #[.pointer none, .bool false]) = .returned (.tuple #[.pointer q, .bool vb]) ∧ (vb = true → ∃ B g, q = some ⟨g, 0, none⟩ ∧ w.heap.size ≤ B ∧ Fil x B g w' (⟨⟨tr, ps, ds⟩, nx, lg, sy⟩ : FillJob)) ∧ Only [] w w' := fun w' hK hv => by
    subst hv
    exact ⟨none, rfl, by simp, hK⟩
  have Hno := Lib.hid hno
  clear hno
  by_cases hl : 60000 < lg.size
  · have hv : vb = false := by rw [HVB.out]; exact validF_no (fun hc => by have h1 : lg.size ≤ 60000 := hc.2.1; omega)
    have hl2 : (60000 : Int) < (lg.size : Int) := by omega
    have HV := Lib.hid hv
    clear hv hl
    go_enter Tryz.func38, Tryz.ntmps38
    go_wp2_with fail
    exact bodyPost_ret (v := .tuple #[.pointer none, .bool false]) (by simp [results, Tryz.results38, go_sem]) rfl (Hno.out _ (by with_reducible repeat (first | exact Only.refl _ _ | assumption | refine Only.drewN ?_ _ | refine Only.drew ?_ | refine Only.alloc ?_ _ | refine Only.setCell ?_ (by intro hh; exfalso; simp at hh; try omega) _ | refine Only.trans ?_ (by assumption))) HV.out)
  have hl2 : ¬ ((60000 : Int) < (lg.size : Int)) := by omega
  rcases hr1 : inR nx 0 3000
  · have hv : vb = false := by
      rw [HVB.out, ← Bool.not_eq_true]
      intro hc
      have h1 := validF_next hc
      rw [inR_iff.2 h1] at hr1
      cases hr1
    have HV := Lib.hid hv
    have HR := Lib.hid hr1
    clear hv hr1
    go_enter Tryz.func38, Tryz.ntmps38
    go_wp2_with (first
      | (go_at_call 24; (with_reducible refine (within_any nx 0 3000 _).mono ?_); rintro e w1 ⟨he, h1⟩; subst h1; rw [HR.out] at he; subst he)
      | fail "no arm")
    exact bodyPost_ret (v := .tuple #[.pointer none, .bool false]) (by simp [results, Tryz.results38, go_sem]) rfl (Hno.out _ (by with_reducible repeat (first | exact Only.refl _ _ | assumption | refine Only.drewN ?_ _ | refine Only.drew ?_ | refine Only.alloc ?_ _ | refine Only.setCell ?_ (by intro hh; exfalso; simp at hh; try omega) _ | refine Only.trans ?_ (by assumption))) HV.out)
  rcases hr2 : inR sy 0 lg.size
  · have hv : vb = false := by
      rw [HVB.out]
      refine validF_no fun hc => ?_
      have h1 : 0 ≤ sy ∧ sy ≤ lg.size := hc.2.2
      rw [inR_iff.2 h1] at hr2
      cases hr2
    have HV := Lib.hid hv
    have HR := Lib.hid hr1
    have HR2 := Lib.hid hr2
    clear hv hr1 hr2
    go_enter Tryz.func38, Tryz.ntmps38
    go_wp2_with (first
      | (go_at_call 24; (with_reducible refine (within_any nx 0 3000 _).mono ?_); rintro e w1 ⟨he, h1⟩; subst h1; rw [HR.out] at he; subst he)
      | (go_at_call 24; (with_reducible refine (within_any sy 0 lg.size _).mono ?_); rintro e w1 ⟨he, h1⟩; subst h1; rw [HR2.out] at he; subst he)
      | fail "no arm")
    exact bodyPost_ret (v := .tuple #[.pointer none, .bool false]) (by simp [results, Tryz.results38, go_sem]) rfl (Hno.out _ (by with_reducible repeat (first | exact Only.refl _ _ | assumption | refine Only.drewN ?_ _ | refine Only.drew ?_ | refine Only.alloc ?_ _ | refine Only.setCell ?_ (by intro hh; exfalso; simp at hh; try omega) _ | refine Only.trans ?_ (by assumption))) HV.out)
  have hnr := inR_iff.1 hr1
  have hsr := inR_iff.1 hr2
  have HR := Lib.hid hr1
  have HR2 := Lib.hid hr2
  clear hr1 hr2
  obtain ⟨ok, hok⟩ : ∃ ok, ok = (bTab x tr).isSome := ⟨_, rfl⟩
  have HcS := Lib.hid (fun (V : World) (hV : Only [] w V) => start_any [.int .i64 x.points, .string x.names, .slice A0 x.moves.length C0] x _ (.slice A1 tr.length C1) tr _ V (Rp.keep hh hV) (Rp.keep hk1 hV) htl)
  cases ok
  · have hv : vb = false := by rw [HVB.out]; exact validF_no (fun hc => by have h1 : (bTab x tr).isSome = true := hc.1; rw [← hok] at h1; cases h1)
    have HV := Lib.hid hv
    have Hok := Lib.hid hok
    clear hv hok
    go_enter Tryz.func38, Tryz.ntmps38
    go_wp2_with (first
      | (go_at_call 24; (with_reducible refine (within_any nx 0 3000 _).mono ?_); rintro e w1 ⟨he, h1⟩; subst h1; rw [HR.out] at he; subst he)
      | (go_at_call 24; (with_reducible refine (within_any sy 0 lg.size _).mono ?_); rintro e w1 ⟨he, h1⟩; subst h1; rw [HR2.out] at he; subst he)
      | (go_at_call 39; (with_reducible refine (HcS.out _ (by with_reducible repeat (first | exact Only.refl _ _ | assumption | refine Only.drewN ?_ _ | refine Only.drew ?_ | refine Only.alloc ?_ _ | refine Only.setCell ?_ (by intro hh; exfalso; simp at hh; try omega) _ | refine Only.trans ?_ (by assumption)))).mono ?_); rintro e w2 ⟨q, he, hq, t2⟩; rw [← Hok.out] at he; subst he)
      | fail "no arm")
    exact bodyPost_ret (v := .tuple #[.pointer none, .bool false]) (by simp [results, Tryz.results38, go_sem]) rfl (Hno.out _ (by with_reducible repeat (first | exact Only.refl _ _ | assumption | refine Only.drewN ?_ _ | refine Only.drew ?_ | refine Only.alloc ?_ _ | refine Only.setCell ?_ (by intro hh; exfalso; simp at hh; try omega) _ | refine Only.trans ?_ (by assumption))) HV.out)
  have Hok := Lib.hid hok
  clear hok
  go_enter Tryz.func38, Tryz.ntmps38
  go_wp2_with (first
    | (go_at_call 24; (with_reducible refine (within_any nx 0 3000 _).mono ?_); rintro e w1 ⟨he, h1⟩; subst h1; rw [HR.out] at he; subst he)
    | (go_at_call 24; (with_reducible refine (within_any sy 0 lg.size _).mono ?_); rintro e w1 ⟨he, h1⟩; subst h1; rw [HR2.out] at he; subst he)
    | (go_at_call 39; (with_reducible refine (HcS.out _ (by with_reducible repeat (first | exact Only.refl _ _ | assumption | refine Only.drewN ?_ _ | refine Only.drew ?_ | refine Only.alloc ?_ _ | refine Only.setCell ?_ (by intro hh; exfalso; simp at hh; try omega) _ | refine Only.trans ?_ (by assumption)))).mono ?_); rintro e w2 ⟨q, he, hq, t2⟩; rw [← Hok.out] at he; subst he; obtain ⟨B, g, rfl, hB, hFil⟩ := hq Hok.out.symm)
    | fail "no arm")
  have K2 : Only [] w w2 := (by with_reducible repeat (first | exact Only.refl _ _ | assumption | refine Only.drewN ?_ _ | refine Only.drew ?_ | refine Only.alloc ?_ _ | refine Only.setCell ?_ (by intro hh; exfalso; simp at hh; try omega) _ | refine Only.trans ?_ (by assumption)))
  have J2 := HB1.out.keep t2
  have P2_ := HB0.out.keep t2
  have hBs : w.heap.size + 2 ≤ B := by simpa using hB
  clear hB
  go_loopw [] (fun wr => ∃ m : Nat, okF x tr m ∧ (m : Int) ≤ nx ∧ Fil x B g wr (chF x tr 0 m) ∧ Blk wr (w.heap.size + 1) [.slice A1 tr.length C1, .slice A2 ps.length C2, .slice A3 ds.length C3, .int .i64 nx, .string lg, .int .i64 sy] ∧ OnlyB B w2 wr)
    (fun wr => nx.toNat - (intOf ((wr.cell? ⟨g, 3, none⟩).getD undef)).toNat)
  case atStart => exact ⟨0, fun m hm => absurd hm (Nat.not_lt_zero _), hnr.1, hFil, J2, OnlyB.of (Only.refl [] _)⟩
  case round =>
    obtain ⟨W2, hnew⟩ : ∃ W, W = wr := ⟨_, rfl⟩
    subst hnew
    obtain ⟨m, hokm, hmn, hF, hJ, hO⟩ := hrel
    have hgo := chF_go (s := 0) Hok.out.symm hokm
    obtain ⟨JJ, hJJ⟩ : ∃ JJ, JJ = chF x tr 0 m := ⟨_, rfl⟩
    rw [← hJJ] at hF hgo
    have HJJ := Lib.hid hJJ
    clear hJJ
    obtain ⟨⟨tr', ps', ds'⟩, nx', lg', sy'⟩ := JJ
    have hnn : nx' = (m : Int) := hgo.nx
    subst hnn
    have HGo := Lib.hid hgo
    have Hokm := Lib.hid hokm
    have HF := Lib.hid hF
    clear hgo hokm
    obtain ⟨M, v1, vm, f1, fm, ex, u2, u3, fs, hL⟩ := hF
    have hL0 : FL B g M v1 vm (.int .i64 (m : Int)) (.string lg') (.int .i64 sy') tr' ((ltrs x.moves.length).map (mv x.moves)) f1 fm ex ps' ps' ds' W2 u2 u3 fs := hL
    clear hL
    have y3 := hL0.blk.cell 3 rfl
    have j3 := hJ.cell 3 rfl
    have KO : Only [] w W2 := hO.old K2 (by omega)
    by_cases hd : (m : Int) < nx
    · have HcT := Lib.hid (fun (V : World) (hV : Only [] W2 V) => step_any x tr' ps' ds' m lg' sy' V (HF.out.keep hV) HGo.out)
      rcases hst : (stepF x ⟨⟨tr', ps', ds'⟩, (m : Int), lg', sy'⟩).2
      · have hv : vb = false := by rw [HVB.out]; exact validF_stuck (j := (⟨⟨tr, ps, ds⟩, nx, lg, sy⟩ : FillJob)) (m := m) (s := 0) Hokm.out hd (by show (stepF x (chF x tr 0 m)).2 = false; rw [← HJJ.out]; exact hst)
        have HV := Lib.hid hv
        have HST := Lib.hid hst
        clear hv hst
        go_wp2_with fail
        go_quiet (fail)
        go_wp2_with (first
          | (go_at_call 56; (with_reducible refine (HcT.out _ (by with_reducible repeat (first | exact Only.refl _ _ | assumption | refine Only.drewN ?_ _ | refine Only.drew ?_ | refine Only.alloc ?_ _ | refine Only.setCell ?_ (by intro hh; exfalso; simp at hh; try omega) _ | refine Only.trans ?_ (by assumption)))).mono ?_); rintro e w4 ⟨he, hF4, t4⟩; rw [HST.out] at he; subst he)
          | fail "no arm")
        exact bodyPost_ret (v := .tuple #[.pointer none, .bool false]) (by simp [results, Tryz.results38, go_sem]) rfl (Hno.out _ (t4.old (KO.trans ((Only.refl [] _).drewN _)) (by omega)) HV.out)
      · have hstep := chF_step (s := 0) Hok.out.symm Hokm.out (by rw [← HJJ.out]; exact hst)
        have hokm1 := hstep.1
        have hj1 : (stepF x ⟨⟨tr', ps', ds'⟩, (m : Int), lg', sy'⟩).1 = chF x tr 0 (m + 1) := by rw [← hstep.2, ← HJJ.out]
        have HJ1 := Lib.hid hj1
        have HST := Lib.hid hst
        clear hstep hj1 hst
        go_wp2_with fail
        go_quiet (fail)
        go_wp2_with (first
          | (go_at_call 56; (with_reducible refine (HcT.out _ (by with_reducible repeat (first | exact Only.refl _ _ | assumption | refine Only.drewN ?_ _ | refine Only.drew ?_ | refine Only.alloc ?_ _ | refine Only.setCell ?_ (by intro hh; exfalso; simp at hh; try omega) _ | refine Only.trans ?_ (by assumption)))).mono ?_); rintro e w4 ⟨he, hF4, t4⟩; rw [HST.out] at he; rw [HJ1.out] at hF4; subst he)
          | fail "no arm")
        have hJ4 := t4.blk (hJ.keep ((Only.refl [] _).drewN _)) (by omega)
        have hO4 : OnlyB B w2 w4 := (hO.then_ ((Only.refl [] _).drewN _)).trans t4
        have hn4 : (chF x tr 0 (m + 1)).next = ((m + 1 : Nat) : Int) := (chF_go (s := 0) Hok.out.symm hokm1).nx
        have hc4 : w4.cell? ⟨g, 3, none⟩ = some (.int .i64 ((m + 1 : Nat) : Int)) := by
          obtain ⟨M', a1, am, b1, bm, ex', b2, b3, fs', hL4⟩ := hF4
          rw [← hn4]
          exact hL4.blk.cell 3 rfl
        go_roundw
        case rel => exact ⟨m + 1, hokm1, by omega, hF4, hJ4, hO4⟩
        case measure => rw [hc4, y3]; simp [intOf]; omega
    · have hme : nx = (m : Int) := by omega
      have hmid := HGo.out
      have hE1 : (atF x tr m).log = lg' := by have := congrArg FillJob.log HJJ.out; exact this.symm
      have hE2 : (atF x tr m).table = ⟨tr', ps', ds'⟩ := by have := congrArg FillJob.table HJJ.out; exact this.symm
      obtain ⟨tb, htb⟩ : ∃ tb, tb = eqV (⟨tr', ps', ds'⟩ : Table) ⟨tr, ps, ds⟩ := ⟨_, rfl⟩
      have hvE : vb = (decide (lg' = lg) && tb) := by
        have h1 := validF_end (x := x) (j := (⟨⟨tr, ps, ds⟩, nx, lg, sy⟩ : FillJob)) (m := m) Hok.out.symm (by show lg.size ≤ 60000; omega) hsr Hokm.out hme
        rw [HVB.out, htb]
        rw [show (atF x (⟨⟨tr, ps, ds⟩, nx, lg, sy⟩ : FillJob).table.tracked m).log = lg' from hE1, show (atF x (⟨⟨tr, ps, ds⟩, nx, lg, sy⟩ : FillJob).table.tracked m).table = ⟨tr', ps', ds'⟩ from hE2] at h1
        exact h1
      have HVE := Lib.hid hvE
      have HTB := Lib.hid htb
      have Hme := Lib.hid hme
      clear hvE htb hme hE1 hE2 hmid
      have htk := hL0.tk
      obtain ⟨Q1, R1, _, _, rfl, -⟩ := htk.open_
      obtain ⟨Q2, R2, rfl⟩ := hL0.pt.form
      obtain ⟨Q3, R3, rfl⟩ := hL0.dt.form
      clear htk
      go_wp2_with fail
      go_quiet (fail)
      have hL3 := hL0.keep ((Only.refl [] W2).drewN nq)
      have hJ3 := hJ.keep ((Only.refl [] W2).drewN nq)
      have z5 := hL3.blk.cell 5 rfl
      have p5 := hL3.blk.frozen 5
      have j5 := hJ3.cell 5 rfl
      have hL4 := hL3.store 5 (.int .i64 sy) rfl
      have hs5 : Only [g] (W2.drewN nq) ((W2.drewN nq).setCell ⟨g, 5, none⟩ (.int .i64 sy)) := (Only.refl _ _).setCell (by simp) _
      have hgB : B ≤ g := (hL0.fam.rng [g] (List.mem_of_getElem? (i := 0) rfl) g (by simp)).1
      have hJ4 := hJ3.only hs5 (by simp; omega)
      have hO4 : OnlyB B w2 ((W2.drewN nq).setCell ⟨g, 5, none⟩ (.int .i64 sy)) := (hO.then_ ((Only.refl [] _).drewN nq)).trans ⟨[g], fun b hb => by simp at hb; omega, hs5⟩
      go_upto_region 10 with fail
      obtain ⟨W4, hW4⟩ : ∃ W4, W4 = (W2.drewN nq).setCell ⟨g, 5, none⟩ (.int .i64 sy) := ⟨_, rfl⟩
      rw [← hW4] at hL4 hJ4 hO4
      rw [← hW4]
      clear hW4 hL3 hJ3 hs5 z5 p5 j5
      have z0 := hL4.blk.cell 0 rfl
      have z1 := hL4.blk.cell 1 rfl
      have z2 := hL4.blk.cell 2 rfl
      have z4 := hL4.blk.cell 4 rfl
      have i0 := hJ4.cell 0 rfl
      have i1 := hJ4.cell 1 rfl
      have i2 := hJ4.cell 2 rfl
      have i4 := hJ4.cell 4 rfl
      have KO4 : Only [] w W4 := hO4.old K2 (by omega)
      have HcE := Lib.hid (fun (V : World) (hV : Only [] W4 V) => implSameTable_any [.slice Q1 tr'.length R1, .slice Q2 ps'.length R2, .slice Q3 ds'.length R3] [.slice A1 tr.length C1, .slice A2 ps.length C2, .slice A3 ds.length C3] (⟨tr', ps', ds'⟩ : Table) ⟨tr, ps, ds⟩ _ _ V (Rp.keep hL4.job.rd hV) (Rp.keep hT (KO4.trans hV)))
      have HL4 := Lib.hid hL4
      have hend : ∀ w' : World, Only [] W4 w' → ∃ q, Ending.returned (.tuple #[.pointer (some ⟨g, 0, none⟩), .bool vb]) = .returned (.tuple #[.pointer q, .bool vb]) ∧ (vb = true → ∃ B g, q = some ⟨g, 0, none⟩ ∧ w.heap.size ≤ B ∧ Fil x B g w' (⟨⟨tr, ps, ds⟩, nx, lg, sy⟩ : FillJob)) ∧ Only [] w w' := fun w' hK => by
        refine ⟨_, rfl, fun hv => ⟨B, g, rfl, by omega, ?_⟩, KO4.trans hK⟩
        have h1 := HVE.out
        rw [hv] at h1
        have h2 := (Bool.and_eq_true _ _).mp h1.symm
        have h3 : lg' = lg := of_decide_eq_true h2.1
        have h4 : (⟨tr', ps', ds'⟩ : Table) = ⟨tr, ps, ds⟩ := eqV_iff.1 (by rw [← HTB.out]; exact h2.2)
        injection h4 with e1 e2 e3
        have h5 := Hme.out
        have h6 := HL4.out.keep hK
        rw [h5, ← h3, ← e1, ← e2, ← e3]
        exact ⟨_, _, _, _, _, _, _, _, _, h6⟩
      have Hend := Lib.hid hend
      clear hend hL4 hJ4 hO4 hL0 hJ hO
      by_cases hlg : lg' = lg
      · have b2 := str_eq hlg
        have b3 : lg'.toList = lg.toList := by rw [hlg]
        have hvt : vb = tb := by rw [HVE.out, decide_eq_true hlg]; rfl
        have HVT := Lib.hid hvt
        clear hlg hvt
        refine wp_region_held_drew (S := fun w' => Only [] W4 w' ∧ w'.cell? ⟨g, 0, none⟩ = some (.slice Q1 tr'.length R1) ∧ w'.cell? ⟨g, 1, none⟩ = some (.slice Q2 ps'.length R2) ∧ w'.cell? ⟨g, 2, none⟩ = some (.slice Q3 ds'.length R3) ∧ w'.cell? ⟨g, 4, none⟩ = some (Value.string lg') ∧ w'.cell? ⟨w.heap.size + 1, 0, none⟩ = some (.slice A1 tr.length C1) ∧ w'.cell? ⟨w.heap.size + 1, 1, none⟩ = some (.slice A2 ps.length C2) ∧ w'.cell? ⟨w.heap.size + 1, 2, none⟩ = some (.slice A3 ds.length C3) ∧ w'.cell? ⟨w.heap.size + 1, 4, none⟩ = some (Value.string lg)) (by kernel_rfl) (and_of (Only.refl [] W4).drew (fun h__ => ⟨h__.cell (by simp) z0, h__.cell (by simp) z1, h__.cell (by simp) z2, h__.cell (by simp) z4, h__.cell (by simp) i0, h__.cell (by simp) i1, h__.cell (by simp) i2, h__.cell (by simp) i4⟩)) (fun hHeld => ?_)
        (refine wpAnyH_take (i := 0) (v := ?v1) rfl (by kernel_rfl) (by kernel_rfl) (by kernel_rfl) (fun _ _ _ h => h) (Or.inl ⟨by rfl, ?hy1⟩) (by assumption) ?rest1); (case hy1 => (intro w__ hSw; (try dsimp only at hSw); go_simp; try with_reducible rfl)); (try simp only [Act.put, List.getElem_toArray, List.getElem_cons_zero, List.getElem_cons_succ, List.setIfInBounds_toArray, List.set_cons_zero, List.set_cons_succ])
        (refine wpAnyH_take (i := 1) (v := ?v2) rfl (by kernel_rfl) (by kernel_rfl) (by kernel_rfl) (fun _ _ _ h => h) (Or.inl ⟨by rfl, ?hy2⟩) (by assumption) ?rest2); (case hy2 => (intro w__ hSw; (try dsimp only at hSw); go_simp; try with_reducible rfl)); (try simp only [Act.put, List.getElem_toArray, List.getElem_cons_zero, List.getElem_cons_succ, List.setIfInBounds_toArray, List.set_cons_zero, List.set_cons_succ])
        (refine wpAnyH_take (i := 2) (v := ?v3) rfl (by kernel_rfl) (by kernel_rfl) (by kernel_rfl) (fun _ _ _ h => h) (Or.inl ⟨by rfl, ?hy3⟩) (by assumption) ?rest3); (case hy3 => (intro w__ hSw; (try dsimp only at hSw); go_simp; try with_reducible rfl)); (try simp only [Act.put, List.getElem_toArray, List.getElem_cons_zero, List.getElem_cons_succ, List.setIfInBounds_toArray, List.set_cons_zero, List.set_cons_succ])
        (refine wpAnyH_take (i := 3) (v := ?v4) rfl (by kernel_rfl) (by kernel_rfl) (by kernel_rfl) (fun _ _ _ h => h) (Or.inl ⟨by rfl, ?hy4⟩) (by assumption) ?rest4); (case hy4 => (intro w__ hSw; (try dsimp only at hSw); go_simp; try with_reducible rfl)); (try simp only [Act.put, List.getElem_toArray, List.getElem_cons_zero, List.getElem_cons_succ, List.setIfInBounds_toArray, List.set_cons_zero, List.set_cons_succ])
        (refine wpAnyH_take (i := 4) (v := ?v5) rfl (by kernel_rfl) (by kernel_rfl) (by kernel_rfl) (fun _ _ _ h => h) (Or.inl ⟨by rfl, ?hy5⟩) (by assumption) ?rest5); (case hy5 => (intro w__ hSw; (try dsimp only at hSw); go_simp; try with_reducible rfl)); (try simp only [Act.put, List.getElem_toArray, List.getElem_cons_zero, List.getElem_cons_succ, List.setIfInBounds_toArray, List.set_cons_zero, List.set_cons_succ])
        (refine wpAnyH_take (i := 5) (v := ?v6) rfl (by kernel_rfl) (by kernel_rfl) (by kernel_rfl) (fun _ _ _ h => h) (Or.inl ⟨by rfl, ?hy6⟩) (by assumption) ?rest6); (case hy6 => (intro w__ hSw; (try dsimp only at hSw); go_simp; try with_reducible rfl)); (try simp only [Act.put, List.getElem_toArray, List.getElem_cons_zero, List.getElem_cons_succ, List.setIfInBounds_toArray, List.set_cons_zero, List.set_cons_succ])
        (refine wpAnyH_take (i := 6) (v := ?v7) rfl (by kernel_rfl) (by kernel_rfl) (by kernel_rfl) (fun _ _ _ h => h) (Or.inl ⟨by rfl, ?hy7⟩) (by assumption) ?rest7); (case hy7 => (intro w__ hSw; (try dsimp only at hSw); go_simp; try with_reducible rfl)); (try simp only [Act.put, List.getElem_toArray, List.getElem_cons_zero, List.getElem_cons_succ, List.setIfInBounds_toArray, List.set_cons_zero, List.set_cons_succ])
        (refine wpAnyH_take (i := 7) (v := ?v8) rfl (by kernel_rfl) (by kernel_rfl) (by kernel_rfl) (fun _ _ _ h => h) (Or.inl ⟨by rfl, ?hy8⟩) (by assumption) ?rest8); (case hy8 => (intro w__ hSw; (try dsimp only at hSw); go_simp; try with_reducible rfl)); (try simp only [Act.put, List.getElem_toArray, List.getElem_cons_zero, List.getElem_cons_succ, List.setIfInBounds_toArray, List.set_cons_zero, List.set_cons_succ])
        (refine wpAnyH_take (i := 8) (v := ?v9) rfl (by kernel_rfl) (by kernel_rfl) (by kernel_rfl) (fun _ _ _ h => h) (Or.inl ⟨by rfl, ?hy9⟩) (by assumption) ?rest9); (case hy9 => (intro w__ hSw; (try dsimp only at hSw); go_simp; try with_reducible rfl)); (try simp only [Act.put, List.getElem_toArray, List.getElem_cons_zero, List.getElem_cons_succ, List.setIfInBounds_toArray, List.set_cons_zero, List.set_cons_succ])
        (refine wpAnyH_take (i := 9) (v := ?v10) rfl (by kernel_rfl) (by kernel_rfl) (by kernel_rfl) (fun _ _ _ h => h) (Or.inl ⟨by rfl, ?hy10⟩) (by assumption) ?rest10); (case hy10 => (intro w__ hSw; (try dsimp only at hSw); go_simp; try with_reducible rfl)); (try simp only [Act.put, List.getElem_toArray, List.getElem_cons_zero, List.getElem_cons_succ, List.setIfInBounds_toArray, List.set_cons_zero, List.set_cons_succ])
        (refine wpAnyH_take (i := 10) (v := ?v11) rfl (by kernel_rfl) (by kernel_rfl) (by kernel_rfl) (fun _ _ _ h => h) (Or.inl ⟨by rfl, ?hy11⟩) (by assumption) ?rest11); (case hy11 => (intro w__ hSw; (try dsimp only at hSw); go_simp; try with_reducible rfl)); (try simp only [Act.put, List.getElem_toArray, List.getElem_cons_zero, List.getElem_cons_succ, List.setIfInBounds_toArray, List.set_cons_zero, List.set_cons_succ])
        (refine wpAnyH_take (i := 11) (v := ?v12) rfl (by kernel_rfl) (by kernel_rfl) (by kernel_rfl) (fun _ _ _ h => h) (Or.inl ⟨by rfl, ?hy12⟩) (by assumption) ?rest12); (case hy12 => (intro w__ hSw; (try dsimp only at hSw); go_simp; try with_reducible rfl)); (try simp only [Act.put, List.getElem_toArray, List.getElem_cons_zero, List.getElem_cons_succ, List.setIfInBounds_toArray, List.set_cons_zero, List.set_cons_succ])
        (refine wpAnyH_take (i := 12) (v := ?v13) rfl (by kernel_rfl) (by kernel_rfl) (by kernel_rfl) (fun _ _ _ h => h) (Or.inl ⟨by rfl, ?hy13⟩) (by assumption) ?rest13); (case hy13 => (intro w__ hSw; (try dsimp only at hSw); go_simp; try with_reducible rfl)); (try simp only [Act.put, List.getElem_toArray, List.getElem_cons_zero, List.getElem_cons_succ, List.setIfInBounds_toArray, List.set_cons_zero, List.set_cons_succ])
        (refine wpAnyH_take (i := 13) (v := ?v14) rfl (by kernel_rfl) (by kernel_rfl) (by kernel_rfl) (fun _ _ _ h => h) (Or.inl ⟨by rfl, ?hy14⟩) (by assumption) ?rest14); (case hy14 => (intro w__ hSw; (try dsimp only at hSw); go_simp; try with_reducible rfl)); (try simp only [Act.put, List.getElem_toArray, List.getElem_cons_zero, List.getElem_cons_succ, List.setIfInBounds_toArray, List.set_cons_zero, List.set_cons_succ])
        (refine wpAnyH_take (i := 14) (v := ?v15) rfl (by kernel_rfl) (by kernel_rfl) (by kernel_rfl) (fun _ _ _ h => h) (Or.inl ⟨by rfl, ?hy15⟩) (by assumption) ?rest15); (case hy15 => (intro w__ hSw; (try dsimp only at hSw); go_simp; try with_reducible rfl)); (try simp only [Act.put, List.getElem_toArray, List.getElem_cons_zero, List.getElem_cons_succ, List.setIfInBounds_toArray, List.set_cons_zero, List.set_cons_succ])
        (refine wpAnyH_take (i := 15) (v := ?v16) rfl (by kernel_rfl) (by kernel_rfl) (by kernel_rfl) (fun _ _ _ h => h) (Or.inl ⟨by rfl, ?hy16⟩) (by assumption) ?rest16); (case hy16 => (intro w__ hSw; (try dsimp only at hSw); go_simp; try with_reducible rfl)); (try simp only [Act.put, List.getElem_toArray, List.getElem_cons_zero, List.getElem_cons_succ, List.setIfInBounds_toArray, List.set_cons_zero, List.set_cons_succ])
        (refine wpAnyH_take (i := 16) (v := ?v17) rfl (by kernel_rfl) (by kernel_rfl) (by kernel_rfl) (fun _ _ _ h => h) (Or.inl ⟨by rfl, ?hy17⟩) (by assumption) ?rest17); (case hy17 => (intro w__ hSw; (try dsimp only at hSw); go_simp; try with_reducible rfl)); (try simp only [Act.put, List.getElem_toArray, List.getElem_cons_zero, List.getElem_cons_succ, List.setIfInBounds_toArray, List.set_cons_zero, List.set_cons_succ])
        refine wpAnyH_ready (rs := [17]) (by kernel_rfl) (by simp) ?_
        refine AllReadyH.cons rfl (fun K hK => ?_) AllReadyH.nil
        go_simp
        (go_at_call 57; (with_reducible refine (HcE.out _ (by with_reducible repeat (first | assumption | exact .refl _ _ | refine .drew ?_ | refine .alloc ?_ _ | refine .trans ?_ (by assumption)))).mono ?_); rintro e w5 ⟨he, t5⟩; rw [← HTB.out] at he; subst he)
        go_wp2_with fail
        refine hK.out _ _ ?hSE (fun hHeld => ?restE)
        case hSE => ((refine and_of ?_ (fun h__ => ⟨h__.cell (by simp) z0, h__.cell (by simp) z1, h__.cell (by simp) z2, h__.cell (by simp) z4, h__.cell (by simp) i0, h__.cell (by simp) i1, h__.cell (by simp) i2, h__.cell (by simp) i4⟩)); first | exact Only.trans (And.left (by assumption)) (by assumption) | exact And.left (by assumption) | assumption)
        clear hK K
        (try simp only [Act.put, List.getElem_toArray, List.getElem_cons_zero, List.getElem_cons_succ, List.setIfInBounds_toArray, List.set_cons_zero, List.set_cons_succ])
        (refine wpAnyH_take (i := 18) (v := ?v18) rfl (by kernel_rfl) (by kernel_rfl) (by kernel_rfl) (fun _ _ _ h => h) (Or.inl ⟨by rfl, ?hy18⟩) (by assumption) ?rest18); (case hy18 => (intro w__ hSw; (try dsimp only at hSw); go_simp; try with_reducible rfl)); (try simp only [Act.put, List.getElem_toArray, List.getElem_cons_zero, List.getElem_cons_succ, List.setIfInBounds_toArray, List.set_cons_zero, List.set_cons_succ])
        (refine wpAnyH_take (i := 19) (v := ?v19) rfl (by kernel_rfl) (by kernel_rfl) (by kernel_rfl) (fun _ _ _ h => h) (Or.inl ⟨by rfl, ?hy19⟩) (by assumption) ?rest19); (case hy19 => (intro w__ hSw; (try dsimp only at hSw); go_simp; try with_reducible rfl)); (try simp only [Act.put, List.getElem_toArray, List.getElem_cons_zero, List.getElem_cons_succ, List.setIfInBounds_toArray, List.set_cons_zero, List.set_cons_succ])
        (refine wpAnyH_take (i := 20) (v := ?v20) rfl (by kernel_rfl) (by kernel_rfl) (by kernel_rfl) (fun _ _ _ h => h) (Or.inl ⟨by rfl, ?hy20⟩) (by assumption) ?rest20); (case hy20 => (intro w__ hSw; (try dsimp only at hSw); go_simp; try with_reducible rfl)); (try simp only [Act.put, List.getElem_toArray, List.getElem_cons_zero, List.getElem_cons_succ, List.setIfInBounds_toArray, List.set_cons_zero, List.set_cons_succ])
        refine wpAnyH_done (by kernel_rfl) ?_ _
        have KL : Only [] W4 w5 := (by with_reducible repeat (first | assumption | exact .refl _ _ | refine .drew ?_ | refine .alloc ?_ _ | refine .trans ?_ (by assumption)))
        go_wp2_with fail
        refine bodyPost_ret (v := .tuple #[.pointer (some ⟨g, 0, none⟩), .bool tb]) (by simp [results, Tryz.results38, go_sem]) rfl ?_
        rw [← HVT.out]
        exact Hend.out _ KL
      · have b2 := str_ne hlg
        have b3 : ¬ lg'.toList = lg.toList := by simpa using b2
        have hvt : vb = false := by rw [HVE.out, decide_eq_false hlg]; rfl
        have HVT := Lib.hid hvt
        clear hlg hvt
        refine wp_region_held_drew (S := fun w' => Only [] W4 w' ∧ w'.cell? ⟨g, 0, none⟩ = some (.slice Q1 tr'.length R1) ∧ w'.cell? ⟨g, 1, none⟩ = some (.slice Q2 ps'.length R2) ∧ w'.cell? ⟨g, 2, none⟩ = some (.slice Q3 ds'.length R3) ∧ w'.cell? ⟨g, 4, none⟩ = some (Value.string lg') ∧ w'.cell? ⟨w.heap.size + 1, 0, none⟩ = some (.slice A1 tr.length C1) ∧ w'.cell? ⟨w.heap.size + 1, 1, none⟩ = some (.slice A2 ps.length C2) ∧ w'.cell? ⟨w.heap.size + 1, 2, none⟩ = some (.slice A3 ds.length C3) ∧ w'.cell? ⟨w.heap.size + 1, 4, none⟩ = some (Value.string lg)) (by kernel_rfl) (and_of (Only.refl [] W4).drew (fun h__ => ⟨h__.cell (by simp) z0, h__.cell (by simp) z1, h__.cell (by simp) z2, h__.cell (by simp) z4, h__.cell (by simp) i0, h__.cell (by simp) i1, h__.cell (by simp) i2, h__.cell (by simp) i4⟩)) (fun hHeld => ?_)
        (refine wpAnyH_take (i := 0) (v := ?v21) rfl (by kernel_rfl) (by kernel_rfl) (by kernel_rfl) (fun _ _ _ h => h) (Or.inl ⟨by rfl, ?hy21⟩) (by assumption) ?rest21); (case hy21 => (intro w__ hSw; (try dsimp only at hSw); go_simp; try with_reducible rfl)); (try simp only [Act.put, List.getElem_toArray, List.getElem_cons_zero, List.getElem_cons_succ, List.setIfInBounds_toArray, List.set_cons_zero, List.set_cons_succ])
        (refine wpAnyH_take (i := 1) (v := ?v22) rfl (by kernel_rfl) (by kernel_rfl) (by kernel_rfl) (fun _ _ _ h => h) (Or.inl ⟨by rfl, ?hy22⟩) (by assumption) ?rest22); (case hy22 => (intro w__ hSw; (try dsimp only at hSw); go_simp; try with_reducible rfl)); (try simp only [Act.put, List.getElem_toArray, List.getElem_cons_zero, List.getElem_cons_succ, List.setIfInBounds_toArray, List.set_cons_zero, List.set_cons_succ])
        (refine wpAnyH_take (i := 2) (v := ?v23) rfl (by kernel_rfl) (by kernel_rfl) (by kernel_rfl) (fun _ _ _ h => h) (Or.inl ⟨by rfl, ?hy23⟩) (by assumption) ?rest23); (case hy23 => (intro w__ hSw; (try dsimp only at hSw); go_simp; try with_reducible rfl)); (try simp only [Act.put, List.getElem_toArray, List.getElem_cons_zero, List.getElem_cons_succ, List.setIfInBounds_toArray, List.set_cons_zero, List.set_cons_succ])
        (refine wpAnyH_take (i := 3) (v := ?v24) rfl (by kernel_rfl) (by kernel_rfl) (by kernel_rfl) (fun _ _ _ h => h) (Or.inl ⟨by rfl, ?hy24⟩) (by assumption) ?rest24); (case hy24 => (intro w__ hSw; (try dsimp only at hSw); go_simp; try with_reducible rfl)); (try simp only [Act.put, List.getElem_toArray, List.getElem_cons_zero, List.getElem_cons_succ, List.setIfInBounds_toArray, List.set_cons_zero, List.set_cons_succ])
        (refine wpAnyH_take (i := 4) (v := ?v25) rfl (by kernel_rfl) (by kernel_rfl) (by kernel_rfl) (fun _ _ _ h => h) (Or.inl ⟨by rfl, ?hy25⟩) (by assumption) ?rest25); (case hy25 => (intro w__ hSw; (try dsimp only at hSw); go_simp; try with_reducible rfl)); (try simp only [Act.put, List.getElem_toArray, List.getElem_cons_zero, List.getElem_cons_succ, List.setIfInBounds_toArray, List.set_cons_zero, List.set_cons_succ])
        (refine wpAnyH_take (i := 5) (v := ?v26) rfl (by kernel_rfl) (by kernel_rfl) (by kernel_rfl) (fun _ _ _ h => h) (Or.inl ⟨by rfl, ?hy26⟩) (by assumption) ?rest26); (case hy26 => (intro w__ hSw; (try dsimp only at hSw); go_simp; try with_reducible rfl)); (try simp only [Act.put, List.getElem_toArray, List.getElem_cons_zero, List.getElem_cons_succ, List.setIfInBounds_toArray, List.set_cons_zero, List.set_cons_succ])
        (refine wpAnyH_take (i := 6) (v := ?v27) rfl (by kernel_rfl) (by kernel_rfl) (by kernel_rfl) (fun _ _ _ h => h) (Or.inl ⟨by rfl, ?hy27⟩) (by assumption) ?rest27); (case hy27 => (intro w__ hSw; (try dsimp only at hSw); go_simp; try with_reducible rfl)); (try simp only [Act.put, List.getElem_toArray, List.getElem_cons_zero, List.getElem_cons_succ, List.setIfInBounds_toArray, List.set_cons_zero, List.set_cons_succ])
        (refine wpAnyH_take (i := 7) (v := ?v28) rfl (by kernel_rfl) (by kernel_rfl) (by kernel_rfl) (fun _ _ _ h => h) (Or.inl ⟨by rfl, ?hy28⟩) (by assumption) ?rest28); (case hy28 => (intro w__ hSw; (try dsimp only at hSw); go_simp; try with_reducible rfl)); (try simp only [Act.put, List.getElem_toArray, List.getElem_cons_zero, List.getElem_cons_succ, List.setIfInBounds_toArray, List.set_cons_zero, List.set_cons_succ])
        (refine wpAnyH_take (i := 8) (v := ?v29) rfl (by kernel_rfl) (by kernel_rfl) (by kernel_rfl) (fun _ _ _ h => h) (Or.inl ⟨by rfl, ?hy29⟩) (by assumption) ?rest29); (case hy29 => (intro w__ hSw; (try dsimp only at hSw); go_simp; try with_reducible rfl)); (try simp only [Act.put, List.getElem_toArray, List.getElem_cons_zero, List.getElem_cons_succ, List.setIfInBounds_toArray, List.set_cons_zero, List.set_cons_succ])
        (refine wpAnyH_take (i := 9) (v := ?v30) rfl (by kernel_rfl) (by kernel_rfl) (by kernel_rfl) (fun _ _ _ h => h) (Or.inl ⟨by rfl, ?hy30⟩) (by assumption) ?rest30); (case hy30 => (intro w__ hSw; (try dsimp only at hSw); go_simp; try with_reducible rfl)); (try simp only [Act.put, List.getElem_toArray, List.getElem_cons_zero, List.getElem_cons_succ, List.setIfInBounds_toArray, List.set_cons_zero, List.set_cons_succ])
        (refine wpAnyH_take (i := 10) (v := undef) rfl (by kernel_rfl) (by kernel_rfl) (by kernel_rfl) (fun _ _ _ h => h) (Or.inr ⟨by rfl, rfl⟩) (by assumption) ?_); (try simp only [Act.put, List.getElem_toArray, List.getElem_cons_zero, List.getElem_cons_succ, List.setIfInBounds_toArray, List.set_cons_zero, List.set_cons_succ])
        (refine wpAnyH_take (i := 11) (v := undef) rfl (by kernel_rfl) (by kernel_rfl) (by kernel_rfl) (fun _ _ _ h => h) (Or.inr ⟨by rfl, rfl⟩) (by assumption) ?_); (try simp only [Act.put, List.getElem_toArray, List.getElem_cons_zero, List.getElem_cons_succ, List.setIfInBounds_toArray, List.set_cons_zero, List.set_cons_succ])
        (refine wpAnyH_take (i := 12) (v := undef) rfl (by kernel_rfl) (by kernel_rfl) (by kernel_rfl) (fun _ _ _ h => h) (Or.inr ⟨by rfl, rfl⟩) (by assumption) ?_); (try simp only [Act.put, List.getElem_toArray, List.getElem_cons_zero, List.getElem_cons_succ, List.setIfInBounds_toArray, List.set_cons_zero, List.set_cons_succ])
        (refine wpAnyH_take (i := 13) (v := undef) rfl (by kernel_rfl) (by kernel_rfl) (by kernel_rfl) (fun _ _ _ h => h) (Or.inr ⟨by rfl, rfl⟩) (by assumption) ?_); (try simp only [Act.put, List.getElem_toArray, List.getElem_cons_zero, List.getElem_cons_succ, List.setIfInBounds_toArray, List.set_cons_zero, List.set_cons_succ])
        (refine wpAnyH_take (i := 14) (v := undef) rfl (by kernel_rfl) (by kernel_rfl) (by kernel_rfl) (fun _ _ _ h => h) (Or.inr ⟨by rfl, rfl⟩) (by assumption) ?_); (try simp only [Act.put, List.getElem_toArray, List.getElem_cons_zero, List.getElem_cons_succ, List.setIfInBounds_toArray, List.set_cons_zero, List.set_cons_succ])
        (refine wpAnyH_take (i := 15) (v := undef) rfl (by kernel_rfl) (by kernel_rfl) (by kernel_rfl) (fun _ _ _ h => h) (Or.inr ⟨by rfl, rfl⟩) (by assumption) ?_); (try simp only [Act.put, List.getElem_toArray, List.getElem_cons_zero, List.getElem_cons_succ, List.setIfInBounds_toArray, List.set_cons_zero, List.set_cons_succ])
        (refine wpAnyH_take (i := 16) (v := undef) rfl (by kernel_rfl) (by kernel_rfl) (by kernel_rfl) (fun _ _ _ h => h) (Or.inr ⟨by rfl, rfl⟩) (by assumption) ?_); (try simp only [Act.put, List.getElem_toArray, List.getElem_cons_zero, List.getElem_cons_succ, List.setIfInBounds_toArray, List.set_cons_zero, List.set_cons_succ])
        (refine wpAnyH_take (i := 17) (v := undef) rfl (by kernel_rfl) (by kernel_rfl) (by kernel_rfl) (fun _ _ _ h => h) (Or.inr ⟨by rfl, rfl⟩) (by assumption) ?_); (try simp only [Act.put, List.getElem_toArray, List.getElem_cons_zero, List.getElem_cons_succ, List.setIfInBounds_toArray, List.set_cons_zero, List.set_cons_succ])
        (refine wpAnyH_take (i := 18) (v := ?v39) rfl (by kernel_rfl) (by kernel_rfl) (by kernel_rfl) (fun _ _ _ h => h) (Or.inl ⟨by rfl, ?hy39⟩) (by assumption) ?rest39); (case hy39 => (intro w__ hSw; (try dsimp only at hSw); go_simp; try with_reducible rfl)); (try simp only [Act.put, List.getElem_toArray, List.getElem_cons_zero, List.getElem_cons_succ, List.setIfInBounds_toArray, List.set_cons_zero, List.set_cons_succ])
        (refine wpAnyH_take (i := 19) (v := ?v40) rfl (by kernel_rfl) (by kernel_rfl) (by kernel_rfl) (fun _ _ _ h => h) (Or.inl ⟨by rfl, ?hy40⟩) (by assumption) ?rest40); (case hy40 => (intro w__ hSw; (try dsimp only at hSw); go_simp; try with_reducible rfl)); (try simp only [Act.put, List.getElem_toArray, List.getElem_cons_zero, List.getElem_cons_succ, List.setIfInBounds_toArray, List.set_cons_zero, List.set_cons_succ])
        (refine wpAnyH_take (i := 20) (v := ?v41) rfl (by kernel_rfl) (by kernel_rfl) (by kernel_rfl) (fun _ _ _ h => h) (Or.inl ⟨by rfl, ?hy41⟩) (by assumption) ?rest41); (case hy41 => (intro w__ hSw; (try dsimp only at hSw); go_simp; try with_reducible rfl)); (try simp only [Act.put, List.getElem_toArray, List.getElem_cons_zero, List.getElem_cons_succ, List.setIfInBounds_toArray, List.set_cons_zero, List.set_cons_succ])
        refine wpAnyH_done (by kernel_rfl) ?_ _
        go_wp2_with fail
        refine bodyPost_ret (v := .tuple #[.pointer (some ⟨g, 0, none⟩), .bool false]) (by simp [results, Tryz.results38, go_sem]) rfl ?_
        rw [← HVT.out]
        exact Hend.out _ (Only.refl _ _).drew
end Go.Proofs.YtkhdmiemfpelcaaGreat

namespace Go.Proofs.YtkhdmiemfpelcaaGreat
open Go.RowKit
set_option maxRecDepth 10000
theorem Fil.jobrd {x : Puzzle} {B g : Nat} {w : World} {j : FillJob} (h : Fil x B g w j) (hn : I64 j.next) (hl : j.log.size ≤ maxLen) (hs : I64 j.synced) :
    ∃ M vm Q1 R1 Q2 R2 Q3 R3 fj, Blk w g [.slice Q1 j.table.tracked.length R1, .slice Q2 j.table.patterns.length R2, .slice Q3 j.table.distances.length R3, .int .i64 j.next, .string j.log, .int .i64 j.synced, vm, .map (some M)] ∧
      Rp.rep w [.slice Q1 j.table.tracked.length R1, .slice Q2 j.table.patterns.length R2, .slice Q3 j.table.distances.length R3, .int .i64 j.next, .string j.log, .int .i64 j.synced] j fj ∧ Fresh B w fj := by
  obtain ⟨M, v1, vm, f1, fm, ex, u2, u3, fs, hL⟩ := h
  have hj := hL.job
  have htk := hL.tk
  obtain ⟨Q1, R1, _, _, rfl, -⟩ := htk.open_
  obtain ⟨Q2, R2, rfl⟩ := hL.pt.form
  obtain ⟨Q3, R3, rfl⟩ := hL.dt.form
  exact ⟨M, vm, Q1, R1, Q2, R2, Q3, R3, _, hL.blk, ⟨_, rfl, hn, hl, hs, hj.rd⟩, hj.fr⟩


end Go.Proofs.YtkhdmiemfpelcaaGreat
