/- The program's search of patterns (law 16). The reference's BuildTables (law 16). The program's ReachablePatterns, BuildTable, BuildTables (law 16). Valid tables, sets of tables: the reference's and the program's functions (laws 40, 42, 43, 52). (Printed by mkvtab.py.) The reference's LowerBound (laws 40, 42, 43, 52). The first pattern with a key, in plain words. The reference's depth-first search with a limit (law 52). Fill jobs, the reference: a copy of a job whose slices are the call's own. (Printed by mkfillspec3.py.) Maps from strings to int64 that a call makes. (Printed by mkmapi.py out of XMap.) -/
import Derived.Test.YtkhdmiemfpelcaaGreatRowCrashFillG10
import Derived.Deep.RegionHeld3
import Derived.Test.YtkhdmiemfpelcaaGreatRowCrashFillG11
import Derived.Test.YtkhdmiemfpelcaaGreatRowCrashFillG2
import Derived.Deep.DeepCutAuto
import Derived.Test.YtkhdmiemfpelcaaGreatRowCrashFillG5
import Derived.Test.YtkhdmiemfpelcaaGreatRowCrashFillG4
import Derived.Test.YtkhdmiemfpelcaaGreatRowCrashFillG6
import Derived.Test.YtkhdmiemfpelcaaGreatRowCrashFillG9
import Derived.Test.YtkhdmiemfpelcaaGreatRowCrashFillG8
import Derived.Deep.RegionLaw
namespace Go.Proofs.YtkhdmiemfpelcaaGreat
open Go.RowKit
set_option maxRecDepth 10000

set_option maxHeartbeats 8000000 in
theorem patterns_any (cs : List Value) (x : Puzzle) (fp : List Nat) (v : Value) (tr : List Int) (ft : List Nat) (w : World) (h : Rp.rep w cs x fp) (hv : Rd w v tr ft) (hx : validPz x = true) (hp : patB x.points tr.length tr = true) (htl : tr.length ≤ 1000) :
    Calls Tryz.prog 93 #[.agg cs.toArray, v] w fun e w' => ∃ u1 u2 f1 f2, e = .returned (.tuple #[u1, u2, .bool (bFrom x 3001 0 ([tr], [0])).isSome]) ∧
      Rd w' u1 ((bFrom x 3001 0 ([tr], [0])).getD ([], [])).1 f1 ∧ Rd w' u2 ((bFrom x 3001 0 ([tr], [0])).getD ([], [])).2 f2 ∧ Fresh w.heap.size w' (f1 ++ f2) ∧ Only [] w w' := by
  have h0 := h
  obtain ⟨v2, rfl, p0, p1, h2⟩ := h
  obtain ⟨A2, C2, _, _, rfl, -, -⟩ := h2.open_
  obtain ⟨a, cap, rfl, Iv⟩ := hv.ints
  obtain ⟨g1, g2, g3, g4⟩ := validPz_facts hx
  clear Iv p0 p1
  have Hp := Lib.hid hp
  have Hx := Lib.hid hx
  clear hp hx
  have X0 : Blk (w.alloc (.cells #[.int .i64 x.points, .string x.names, .slice A2 x.moves.length C2] 37)) w.heap.size [.int .i64 x.points, .string x.names, .slice A2 x.moves.length C2] := Blk.new w _ _
  obtain ⟨R, hR⟩ : ∃ R, R = bFrom x 3001 0 ([tr], [0]) := ⟨_, rfl⟩
  rw [← hR]
  have HR := Lib.hid hR
  clear hR
  have hmm := @run_makeMap Tryz.prog
  go_enter Tryz.func93, Tryz.ntmps93
  have hkl : (kB tr).size ≤ maxLen := by rw [kB_size]; unfold maxLen; omega
  go_upto_region 3 with (first
    | (go_at_call 78; (with_reducible refine (Clone_rd _ tr _ _ (Rp.keep hv (by with_reducible repeat (first | exact Only.refl _ _ | assumption | refine Only.drewN ?_ _ | refine Only.drew ?_ | refine Only.alloc ?_ _ | refine Only.setCell ?_ (by intro hh; exfalso; simp at hh; try omega) _ | refine Only.trans ?_ (by assumption)))) (by omega)).mono ?_); rintro e w1 ⟨u1, f1, rfl, r1, F1, t1⟩; obtain ⟨a1, c1, rfl, I1⟩ := r1.ints; clear I1; have hz1 := t1.size; simp at hz1; have hM := MpB.made ((w1.alloc (.cells #[.slice a1 tr.length c1] 25)).alloc (.cells #[.int .i64 0] 2)) (M := w1.heap.size + 1 + 1) (by simp))
    | (go_at_call 62; (with_reducible refine (stateKey_rd _ tr _ _ (Rp.keep hv (by with_reducible repeat (first | exact Only.refl _ _ | assumption | refine Only.drewN ?_ _ | refine Only.drew ?_ | refine Only.alloc ?_ _ | refine Only.setCell ?_ (by intro hh; exfalso; simp at hh; try omega) _ | refine Only.trans ?_ (by assumption)))) htl).mono ?_); rintro e w2 ⟨rfl, t2⟩; obtain ⟨w3, hrun3, hM3, hO3⟩ := (hM.keep t2).run_put hkl true (by unfold maxLen; omega))
    | fail "no arm")
  have X3 : Blk w3 w.heap.size [.int .i64 x.points, .string x.names, .slice A2 x.moves.length C2] := (((((X0.keep t1).keep ((Only.refl [] _).alloc _)).keep ((Only.refl [] _).alloc _)).keep ((Only.refl [] _).alloc _)).keep t2).only hO3 (by simp; omega)
  have K2 : Only [] w w2 := (by with_reducible repeat (first | exact Only.refl _ _ | assumption | refine Only.drewN ?_ _ | refine Only.drew ?_ | refine Only.alloc ?_ _ | refine Only.setCell ?_ (by intro hh; exfalso; simp at hh; try omega) _ | refine Only.trans ?_ (by assumption)))
  have K3 : Only [] w w3 := K2.then_ hO3 (by intro b hb hl; simp at hb; omega)
  have hz2 := t2.size
  simp at hz2
  have hz3 := hO3.size
  have hf1 : ∀ g ∈ f1, w.heap.size < g ∧ g < w1.heap.size := fun g hg => ⟨by have := F1.ge g hg; simp at this; omega, F1.lt g hg⟩
  have kk : Only [] (w1.alloc (.cells #[.slice a1 tr.length c1] 25)) w2 := ((((Only.refl [] _).alloc _).alloc _)).trans t2
  have kk2 : Only [] ((w1.alloc (.cells #[.slice a1 tr.length c1] 25)).alloc (.cells #[.int .i64 0] 2)) w2 := ((Only.refl [] _).alloc _).trans t2
  have P0 : ∀ W : World, W = w3 → PBf x tr.length w w3.heap.size w3 (w1.heap.size + 1 + 1) [tr] [0] W (.slice (some ⟨w1.heap.size, 0, none⟩) 1 1) (.slice (some ⟨w1.heap.size + 1, 0, none⟩) 1 1) [f1] [[]] := by
    rintro W rfl
    have hA1 := ((Acc.one w.heap.size 25 (cs := [.slice a1 tr.length c1]) r1 rfl (by omega)).keep kk)
    have hA2 := ((Acc.one (α := Int) (w := w1.alloc (.cells #[.slice a1 tr.length c1] 25)) w.heap.size 2 (cs := [.int .i64 0]) (x := (0 : Int)) (fp := []) (int_rd _ (by unfold I64; omega)) (g := w1.heap.size + 1) (by simp) (by omega)).keep kk2)
    have hFr : Fresh w.heap.size w2 [f1].flatten := by
      have := (F1.mono (B' := w.heap.size) (by simp)).keep (((Only.refl [] w1).alloc (.cells #[.slice a1 tr.length c1] 25)).trans kk)
      simpa using this
    refine ⟨hA1.only hO3 (fun b hb hm => ?_) (fun g hg hm => ?_), hA2.only hO3 (fun b hb hm => by simp at hb) (fun g hg hm => ?_), hFr.only hO3 (fun b hb hm => ?_), ?_, rfl, by simp, by simpa using Hp.out, by simp, ?_, ⟨by simp [Value.ownBlock]; omega, ?_⟩, ?_, fun _ _ => rfl, K3, Nat.le_refl _, by omega, Nat.le_refl _⟩
    · have := hf1 b (by simpa using hb); simp at hm; omega
    · simp [Value.ownBlock] at hg; simp at hm; omega
    · simp [Value.ownBlock] at hg; simp at hm; omega
    · have := hf1 b (by simpa using hb); simp at hm; omega
    · exact hM3.congr fun s => by rw [show (if s = kB tr then true else false) = (if s = kB tr then true else metB [] s) from rfl, metB_snoc, List.nil_append]
    · intro g hg
      simp only [Value.ownBlock, Option.some.injEq] at hg
      subst hg
      refine ⟨by simp [Value.ownBlock], fun hm => ?_, by omega⟩
      have := hf1 _ (by simpa using hm); omega
    · intro hm
      have := hf1 _ (by simpa using hm); omega
    · rintro g (rfl | hg | hg)
      · omega
      · simp [Value.ownBlock] at hg; omega
      · simp [Value.ownBlock] at hg; omega
  obtain ⟨b1, hb1⟩ : ∃ b1, b1 = w1.heap.size := ⟨_, rfl⟩
  rw [← hb1] at P0 hM3 ⊢
  clear kk kk2 hz2 hz1 hf1 r1 F1 t1 t2 hM hO3 hM3 X0 hb1 K2 hrun3
  have hll : (ltrs x.moves.length).length ≤ 1000 := by rw [ltrs_len]; omega
  have hmv : ∀ g ∈ x.moves, PM.IsP g ∧ g.length ≤ 1000 := fun g hg => by have := g4 g hg; have := (permB_iff.1 this.2); exact ⟨this.2, by omega⟩
  have x0 := X3.cell 2 rfl
  go_upto_region 5 with (first
    | (go_at_call 79; (with_reducible refine (letters_any x.moves.length _ (by omega)).mono ?_); rintro e w4 ⟨u4, f4, rfl, r4, F4, t4⟩; obtain ⟨a4, c4, rfl, I4⟩ := r4.ints)
    | fail "no arm")
  have K4 : Only [] w w4 := K3.trans t4
  have X4 := X3.keep t4
  obtain ⟨ls, hls⟩ : ∃ ls, ls = ltrs x.moves.length := ⟨_, rfl⟩
  rw [← hls] at r4 I4 hll
  rw [← hls]
  have Hls := Lib.hid hls
  have hml : x.moves.length ≤ 1000 := by omega
  obtain ⟨iL, hiL, hL0, hL1, hL2⟩ := info_parts Tryz.info22
  obtain ⟨iD, hiD, hD0, hD1, hD2⟩ := info_parts Tryz.info2
  clear hls x0
  go_loopw [10, 31] (fun o i wr => ∃ (j : Nat) (fs : List (List Nat)), j ≤ ls.length ∧ i = .int .i64 j ∧ Acc w4.heap.size 25 wr o ((ls.take j).map (mv x.moves)) fs ∧ (∀ b ∈ fs.flatten, b < w.heap.size ∨ w4.heap.size ≤ b) ∧ Only [] w4 wr)
    (fun _ i _ => ls.length - (intOf i).toNat)
  case atStart => exact ⟨0, [], Nat.zero_le _, rfl, Acc.nil _ _ _, by simp, Only.refl _ _⟩
  case round =>
    obtain ⟨W2, hnew⟩ : ∃ W, W = wr := ⟨_, rfl⟩
    subst hnew
    obtain ⟨j, fs, hj, rfl, hA, hF, hK⟩ := hrel
    by_cases hlt : j < ls.length
    · obtain ⟨b, off, rfl, -, hc0⟩ := I4.at_ j hlt
      have hc := hK.cell (by simp) hc0
      have hlj : ls[j] ∈ ltrs x.moves.length := by rw [← Hls.out]; exact List.getElem_mem hlt
      have Hlj := Lib.hid hlj
      have x0 := (X4.keep hK).cell 2 rfl
      have hh2 := Rp.keep h2 (K4.trans hK)
      have hsn : (ls.take (j + 1)).map (mv x.moves) = (ls.take j).map (mv x.moves) ++ [mv x.moves ls[j]] := by rw [take_succ_get ls j hlt, List.map_append]; rfl
      have Hsn := Lib.hid hsn
      have hzK := hK.size
      have hzw := K4.size
      clear hlj hsn hc0
      have hal : ((ls.take j).map (mv x.moves)).length + 1 ≤ 1073741824 := by simp; omega
      go_wp2_with (first
        | (go_at_call 80; (with_reducible refine (letterOf_rd (.slice A2 x.moves.length C2) x.moves ls[j] _ _ (Rp.keep hh2 (by with_reducible repeat (first | exact Only.refl _ _ | assumption | refine Only.drewN ?_ _ | refine Only.drew ?_ | refine Only.alloc ?_ _ | refine Only.setCell ?_ (by intro hh; exfalso; simp at hh; try omega) _ | refine Only.trans ?_ (by assumption)))) hmv Hlj.out hml).mono ?_); rintro e w5 ⟨u5, f5, rfl, r5, F5, t5⟩; obtain ⟨a5, c5, rfl, I5⟩ := r5.ints; clear I5; have hB5 : w4.heap.size ≤ W2.heap.size := hzK; have hf5 : ∀ b ∈ f5, b < w.heap.size ∨ W2.heap.size ≤ b := (fun b hb => (F5 b hb).imp (fun hm => Rp.lt h2 b hm) id); have hr5 := Rp.keep r5 ((Only.refl [] w5).alloc (.cells #[.slice a5 (mv x.moves ls[j]).length c5] 25)); have hapb : ∀ b ∈ f5, u10.ownBlock ≠ some b := (fun b hb he => by have := hA.ownlt b he; rcases hf5 b hb with h9 | h9 <;> omega))
        | (at_builtin; refine wpList_push2w rfl _ _ 22 rfl w4.heap.size 25 iL _ 24 Tryz.underlying22 hiL hL0 hL1 hL2 rfl (by decide) (by decide) W2 _ ((ls.take j).map (mv x.moves)) fs rfl hA (t5.alloc _) hB5 w5.heap.size 1 [.slice a5 (mv x.moves ls[j]).length c5] (mv x.moves ls[j]) f5 rfl (lit_src w5 [.slice a5 (mv x.moves ls[j]).length c5] _ rfl) (by intro u hu; simp at hu; subst hu; rfl) hr5 hapb hal ?_; intro v9 w9 hA9 hO9 hP9 hQ9 hN9)
        | fail "no arm")
      go_roundw
      case rel => exact ⟨j + 1, _, by omega, by go_num, by rw [Hsn.out]; exact hA9, fun b hb => by
        rw [List.flatten_append] at hb
        rcases List.mem_append.1 hb with hb | hb
        · exact hF b hb
        · exact (hf5 b (by simpa using hb)).imp id (fun h9 => by omega), hP9 w4 ((hK.trans t5).alloc _) (Nat.le_refl _)⟩
      case measure => simp [intOf]; omega
    · obtain rfl : j = ls.length := by omega
      rw [List.take_length] at hA
      obtain ⟨mvs, hmvs⟩ : ∃ mvs, mvs = ls.map (mv x.moves) := ⟨_, rfl⟩
      rw [← hmvs] at hA
      have Hmvs := Lib.hid hmvs
      have hml2 : mvs.length = ls.length := by rw [hmvs, List.length_map]
      have hm1 : mvs.length ≤ 1000 := by omega
      have Hml2 := Lib.hid hml2
      have hMr := hA.rd (by decide)
      have hMf : ∀ g ∈ u10.ownBlock.toList ++ fs.flatten, g < w.heap.size ∨ (w3.heap.size ≤ g ∧ g < W2.heap.size) := fun g hg => by
        have hz5 := t4.size
        rcases List.mem_append.1 hg with hg | hg
        · have := hA.ownlt g (by simpa using hg); omega
        · have h8 := hA.lt g hg
          rcases hF g hg with h9 | h9
          · exact .inl h9
          · omega
      have P5 := (P0 w3 rfl).start (t4.trans hK)
      obtain ⟨a10, c10, rfl⟩ := hA.form
      obtain ⟨fm, hfm⟩ : ∃ fm, fm = (Value.slice a10 mvs.length c10).ownBlock.toList ++ fs.flatten := ⟨_, rfl⟩
      rw [← hfm] at hMr hMf
      have K5 := K4.trans hK
      clear hfm hA hF hK P0 hmvs hml2 hj hlt
      obtain ⟨W, hW⟩ : ∃ W, W = W2 := ⟨_, rfl⟩
      rw [← hW] at hMr hMf P5 K5 ⊢
      clear hW
      go_upto_region 10 with fail
      go_loopw [7, 8, 13] (fun o7 o8 i wr => ∃ (k : Nat) (L : List (List Int)) (D : List Int) (fs fd : List (List Nat)), i = .int .i64 k ∧ k ≤ L.length ∧ PBf x tr.length w w3.heap.size W (b1 + 1 + 1) L D wr o7 o8 fs fd ∧ R = bFrom x (3001 - k) k (L, D))
        (fun _ _ i _ => 3001 - (intOf i).toNat)
      case atStart => exact ⟨0, [tr], [0], _, _, rfl, by simp, P5, HR.out⟩
      case round =>
        obtain ⟨W3, hnew⟩ : ∃ W, W = wr := ⟨_, rfl⟩
        subst hnew
        obtain ⟨k, L, D, fs, fd, rfl, hk, hF, hRk⟩ := hrel
        have HRk := Lib.hid hRk
        have hL3 := hF.ll
        clear hRk
        obtain ⟨a7, c7, rfl⟩ := hF.acc.form
        by_cases hlt : k < L.length
        · have hst := HRk.out.trans (bFrom_step hlt hL3)
          rw [← Hls.out] at hst
          have Hst := Lib.hid hst
          clear hst
          obtain ⟨q, hq⟩ : ∃ q, q = L.getD k [] := ⟨_, rfl⟩
          obtain ⟨d1, hd1⟩ : ∃ d, d = D.getD k 0 + 1 := ⟨_, rfl⟩
          rw [← hq, ← hd1] at Hst
          have Hq := Lib.hid hq.symm
          have Hd := Lib.hid hd1.symm
          clear hq hd1
          go_wp2
          go_loopw [7, 8, 51] (fun o7 o8 i wr => ∃ (i' : Nat) (L : List (List Int)) (D : List Int) (fs fd : List (List Nat)), i = .int .i64 i' ∧ i' ≤ mvs.length ∧ PBf x tr.length w w3.heap.size W (b1 + 1 + 1) L D wr o7 o8 fs fd ∧ k < L.length ∧ L.getD k [] = q ∧ D.getD k 0 + 1 = d1 ∧ R = (bLets x q d1 (ls.drop i') (L, D)).bind (bFrom x (3001 - (k + 1)) (k + 1)))
            (fun _ _ i _ => mvs.length - (intOf i).toNat)
          case atStart => exact ⟨0, L, D, fs, fd, rfl, Nat.zero_le _, hF, hlt, Hq.out, Hd.out, by rw [List.drop_zero]; exact Hst.out⟩
          case round =>
            clear hL3 hF HRk Hst Hq Hd hlt hk
            obtain ⟨W4, hnew⟩ : ∃ W, W = wr := ⟨_, rfl⟩
            subst hnew
            obtain ⟨i, L, D, fs, fd, rfl, hi, hF, hlt, hq, hd, hRi⟩ := hrel
            have Hq := Lib.hid hq
            have Hd := Lib.hid hd
            have HRi := Lib.hid hRi
            have hL3 := hF.ll
            have HDl := Lib.hid hF.dl
            clear hq hd hRi
            have hMo : Rd W4 (.slice a10 mvs.length c10) mvs fm := hF.old hMr hMf
            obtain ⟨a7', c7', rfl⟩ := hF.acc.form
            obtain ⟨a8, c8, rfl⟩ := hF.dep.form
            by_cases hil : i < mvs.length
            · have hq1 := hMo.open_
              obtain ⟨aq, cq, obq, fpq, hv1, -, hS1⟩ := hq1
              injection hv1 with e1 _ e2
              subst e1
              subst e2
              obtain ⟨bm, om, um, rfl, -, hcm, hum⟩ := hS1.atRow i hil
              have hq2 := (hF.acc.rd (by decide)).open_
              obtain ⟨aq, cq, obq, fpq, hv1, -, hS2⟩ := hq2
              injection hv1 with e1 _ e2
              subst e1
              subst e2
              obtain ⟨bl, ol, ul, rfl, -, hcl, hul⟩ := hS2.atRow k hlt
              have hil2 : i < ls.length := by have := Hml2.out; omega
              have hmi : mvs[i] = mv x.moves ls[i] := by simp [Hmvs.out]
              have hqk : L[k] = q := by have := Hq.out; rw [List.getD_eq_getElem?_getD, List.getElem?_eq_getElem hlt] at this; exact this
              have hla : ls[i] ∈ ltrs x.moves.length := by rw [← Hls.out]; exact List.getElem_mem hil2
              have hpat := hF.pat L[k] (List.getElem_mem hlt)
              rw [hqk] at hul hpat
              rw [hmi] at hum
              have hql : q.length ≤ 1000 := by rw [(patB_iff.1 hpat).1]; exact htl
              have hmp := mv_pn (validPz_pn Hx.out) hla
              have hrq : ∀ z ∈ q, 0 ≤ z ∧ z < (mv x.moves ls[i]).length := fun z hz => by have := (patB_iff.1 hpat).2.1 z hz; rw [hmp.1]; omega
              have hps : patB x.points tr.length (nxt x q ls[i]) = true := nxt_pat Hx.out hpat hla
              obtain ⟨s, hs⟩ : ∃ s, s = nxt x q ls[i] := ⟨_, rfl⟩
              rw [← hs] at hps
              have hsl : s.length ≤ 1000 := by rw [(patB_iff.1 hps).1]; exact htl
              have hkz : (kB s).size ≤ maxLen := by rw [kB_size]; unfold maxLen; omega
              have hmet : metB L (kB s) = decide (s ∈ L) := metB_mem (by omega) hF.pat hps
              have hdr : ls.drop i = ls[i] :: ls.drop (i + 1) := List.drop_eq_getElem_cons hil2
              have Hdr := Lib.hid hdr
              have Hs := Lib.hid hs
              have Hps := Lib.hid hps
              have Hrq := Lib.hid hrq
              have hcs : PM.comp q (mv x.moves ls[i]) = s := by rw [hs]; rfl
              have Hcs := Lib.hid hcs
              clear hs hps hdr hrq hcs hmi hqk hla hpat hmp
              by_cases hmem : s ∈ L
              · have hmt : metB L (kB s) = true := by rw [hmet]; simp [hmem]
                have Hmet := Lib.hid hmt
                have Hmem := Lib.hid hmem
                clear hmt hmet hmem
                go_wp2_with (first
                  | (go_at_call 61; (with_reducible refine (picked_rd um ul (mv x.moves ls[i]) q _ _ _ (Rp.keep hum (by with_reducible repeat (first | exact Only.refl _ _ | assumption | refine Only.drewN ?_ _ | refine Only.drew ?_ | refine Only.alloc ?_ _ | refine Only.setCell ?_ (by intro hh; exfalso; simp at hh; try omega) _ | refine Only.trans ?_ (by assumption)))) (Rp.keep hul (by with_reducible repeat (first | exact Only.refl _ _ | assumption | refine Only.drewN ?_ _ | refine Only.drew ?_ | refine Only.alloc ?_ _ | refine Only.setCell ?_ (by intro hh; exfalso; simp at hh; try omega) _ | refine Only.trans ?_ (by assumption)))) Hrq.out hql).mono ?_); rintro e w5 ⟨u5, f5, rfl, r5, F5, t5⟩; rw [Hcs.out] at r5)
                  | (go_at_call 62; (with_reducible refine (stateKey_rd u5 s _ _ (Rp.keep r5 (by with_reducible repeat (first | exact Only.refl _ _ | assumption | refine Only.drewN ?_ _ | refine Only.drew ?_ | refine Only.alloc ?_ _ | refine Only.setCell ?_ (by intro hh; exfalso; simp at hh; try omega) _ | refine Only.trans ?_ (by assumption)))) hsl).mono ?_); rintro e w6 ⟨rfl, t6⟩; have k6 : Only [] W4 w6 := t5.trans t6; have hrun6 := (hF.mp.keep k6).run_at hkz; rw [Hmet.out] at hrun6)
                  | fail "no arm")
                go_roundw
                case rel => exact ⟨i + 1, L, D, fs, fd, by go_num, by omega, hF.only k6, hlt, Hq.out, Hd.out, by rw [HRi.out, Hdr.out, bLets_old (by rw [← Hs.out]; exact Hmem.out)]⟩
                case measure => simp [intOf]; omega
              · have hmt : metB L (kB s) = false := by rw [hmet]; simp [hmem]
                have Hmet := Lib.hid hmt
                have Hmem := Lib.hid hmem
                clear hmt hmet hmem
                by_cases hfull : L.length = 3000
                · have Hfull := Lib.hid hfull
                  have hfb : ((L.length : Int) == 3000) = true := by simp [hfull]
                  have hno : R = none := by rw [HRi.out, Hdr.out, bLets_full (by rw [← Hs.out]; exact Hmem.out) hfull]; rfl
                  have Hno := Lib.hid hno
                  clear hfull hno
                  go_wp2_with (first
                    | (go_at_call 61; (with_reducible refine (picked_rd um ul (mv x.moves ls[i]) q _ _ _ (Rp.keep hum (by with_reducible repeat (first | exact Only.refl _ _ | assumption | refine Only.drewN ?_ _ | refine Only.drew ?_ | refine Only.alloc ?_ _ | refine Only.setCell ?_ (by intro hh; exfalso; simp at hh; try omega) _ | refine Only.trans ?_ (by assumption)))) (Rp.keep hul (by with_reducible repeat (first | exact Only.refl _ _ | assumption | refine Only.drewN ?_ _ | refine Only.drew ?_ | refine Only.alloc ?_ _ | refine Only.setCell ?_ (by intro hh; exfalso; simp at hh; try omega) _ | refine Only.trans ?_ (by assumption)))) Hrq.out hql).mono ?_); rintro e w5 ⟨u5, f5, rfl, r5, F5, t5⟩; rw [Hcs.out] at r5)
                    | (go_at_call 62; (with_reducible refine (stateKey_rd u5 s _ _ (Rp.keep r5 (by with_reducible repeat (first | exact Only.refl _ _ | assumption | refine Only.drewN ?_ _ | refine Only.drew ?_ | refine Only.alloc ?_ _ | refine Only.setCell ?_ (by intro hh; exfalso; simp at hh; try omega) _ | refine Only.trans ?_ (by assumption)))) hsl).mono ?_); rintro e w6 ⟨rfl, t6⟩; have k6 : Only [] W4 w6 := t5.trans t6; have hrun6 := (hF.mp.keep k6).run_at hkz; rw [Hmet.out] at hrun6)
                    | fail "no arm")
                  refine bodyPost_ret (v := .tuple #[.slice none 0 0, .slice none 0 0, .bool false]) (by simp [results, Tryz.results93, go_sem]) rfl ⟨.slice none 0 0, .slice none 0 0, [], [], by rw [Hno.out]; rfl, by rw [Hno.out]; exact nil_rd _, by rw [Hno.out]; exact nil_rd _, Fresh.nil _ _, hF.on.trans k6⟩
                · have hfb : ((L.length : Int) == 3000) = false := by simp; omega
                  have hL4 : L.length < 3000 := by omega
                  clear hfull
                  have hkD : k < D.length := by have := HDl.out; omega
                  have hq3 := (hF.dep.rd (by decide)).ints
                  obtain ⟨aq, cq, hv1, hI8⟩ := hq3
                  injection hv1 with e1 _ e2
                  subst e1
                  subst e2
                  obtain ⟨b8, o8, rfl, -, hcd⟩ := hI8.at_ k hkD
                  obtain ⟨dk, hdk0⟩ : ∃ dk, dk = D[k]'hkD := ⟨_, rfl⟩
                  have hdk := hF.rng (D[k]'hkD) (List.getElem_mem _)
                  rw [← hdk0] at hcd hdk
                  have hdd : dk + 1 = d1 := by
                    have := Hd.out
                    rw [List.getD_eq_getElem?_getD, List.getElem?_eq_getElem hkD] at this
                    rw [hdk0]; exact this
                  have Hdd := Lib.hid hdd
                  have hdk1 : 0 ≤ dk := hdk.1
                  have hdk2 : dk ≤ 3000 := by have := hdk.2; have := HDl.out; omega
                  have hdk3 := hdk.2
                  have Hdk3 := Lib.hid hdk3
                  have hw1 : IntKind.i64.wrap (dk + 1) = dk + 1 := by rw [IntKind.wrap_i64]; omega
                  have ha2 := hF.a2 b8 rfl
                  have hb8M : b8 ∉ [b1 + 1 + 1] := by simpa using ha2.2.2
                  have hb8l : b8 ∉ (Value.slice (some ⟨bl, ol, none⟩) L.length c7').ownBlock.toList := by have := ha2.1; simpa using this
                  have hM7 : b1 + 1 + 1 ∉ (Value.slice (some ⟨bl, ol, none⟩) L.length c7').ownBlock.toList := by have := hF.a1.1; simpa using this
                  clear hdk hdk0 hdd hdk3
                  have hll1 : L.length + 1 ≤ 1073741824 := by omega
                  have hld1 : D.length + 1 ≤ 1073741824 := by have := HDl.out; omega
                  have hBW : w.heap.size ≤ W4.heap.size := hF.on.size
                  have hMl := hF.mp.lt
                  have hI1 : I64 (dk + 1) := by unfold I64; omega
                  have HI1 := Lib.hid hI1
                  clear hI1
                  go_wp2_with (first
                    | (go_at_call 61; (with_reducible refine (picked_rd um ul (mv x.moves ls[i]) q _ _ _ (Rp.keep hum (by with_reducible repeat (first | exact Only.refl _ _ | assumption | refine Only.drewN ?_ _ | refine Only.drew ?_ | refine Only.alloc ?_ _ | refine Only.setCell ?_ (by intro hh; exfalso; simp at hh; try omega) _ | refine Only.trans ?_ (by assumption)))) (Rp.keep hul (by with_reducible repeat (first | exact Only.refl _ _ | assumption | refine Only.drewN ?_ _ | refine Only.drew ?_ | refine Only.alloc ?_ _ | refine Only.setCell ?_ (by intro hh; exfalso; simp at hh; try omega) _ | refine Only.trans ?_ (by assumption)))) Hrq.out hql).mono ?_); rintro e w5 ⟨u5, f5, rfl, r5, F5, t5⟩; rw [Hcs.out] at r5; obtain ⟨a5, c5, rfl, I5⟩ := r5.ints; clear I5)
                    | (go_at_call 62; (with_reducible refine (stateKey_rd (.slice a5 s.length c5) s _ _ (Rp.keep r5 (by with_reducible repeat (first | exact Only.refl _ _ | assumption | refine Only.drewN ?_ _ | refine Only.drew ?_ | refine Only.alloc ?_ _ | refine Only.setCell ?_ (by intro hh; exfalso; simp at hh; try omega) _ | refine Only.trans ?_ (by assumption)))) hsl).mono ?_); rintro e w6 ⟨rfl, t6⟩; have k6 : Only [] W4 w6 := t5.trans t6; have hrun6 := (hF.mp.keep k6).run_at hkz; rw [Hmet.out] at hrun6; obtain ⟨w7, hrun7, hM7, hO7⟩ := (hF.mp.keep k6).run_put hkz true (by unfold maxLen; omega); have hcd7 := hO7.cell hb8M (k6.cell (by simp) hcd); have acc7 := (hF.acc.keep k6).only hO7 (fun b hb hm => hF.a1.2 (by simp at hm; rwa [← hm])) (fun g hg hm => hF.a1.1 (by simp at hm; rw [← hm]; exact hg)); have dep7 := (hF.dep.keep k6).only hO7 (fun b hb hm => by rw [hF.fd0] at hb; cases hb) (fun g hg hm => (hF.a2 g hg).2.2 (by simpa using hm)); have hf5M : ∀ b ∈ f5, b ∉ [b1 + 1 + 1] := (fun b hb hm => by have := F5.ge b hb; simp at hm; omega); have r7 := Rp.only (Rp.keep r5 t6) hO7 hf5M; have hs7 := hO7.size; have hs6 := k6.size; have r8 := Rp.keep r7 ((Only.refl [] w7).alloc (.cells #[.slice a5 s.length c5] 25)); have hap8 : ∀ b ∈ f5, (Value.slice (some ⟨bl, ol, none⟩) L.length c7').ownBlock ≠ some b := (fun b hb he => by have := F5.ge b hb; have := (hF.acc.ownlt b he).2; omega); have hB7 : w.heap.size ≤ w7.heap.size := (by omega))
                    | (at_builtin; refine wpList_push2w rfl _ _ 22 rfl w.heap.size 25 iL _ 24 Tryz.underlying22 hiL hL0 hL1 hL2 rfl (by decide) (by decide) w7 (.slice (some ⟨bl, ol, none⟩) L.length c7') L fs rfl acc7 ((Only.refl [] w7).alloc _) hB7 w7.heap.size 1 [.slice a5 s.length c5] s f5 rfl (lit_src w7 [.slice a5 s.length c5] _ rfl) (by intro u hu; simp at hu; subst hu; rfl) r8 hap8 hll1 ?_; intro v9 w9 hA9 hO9 hP9 hQ9 hN9; have hcd9 := hO9.cell hb8l (((Only.refl [] w7).alloc _).cell (by simp) hcd7); have dep9 := (dep7.keep ((Only.refl [] w7).alloc _)).only hO9 (fun b hb hm => by rw [hF.fd0] at hb; cases hb) (fun g hg hm => (hF.a2 g hg).1 (by simpa using hm)); have hs9 := hO9.size; have hB9 : w.heap.size ≤ w9.heap.size := (by simp at hs9; omega))
                    | (at_builtin; refine wpList_push2w rfl _ _ 25 rfl w.heap.size 2 iD _ 8 Tryz.underlying25 hiD hD0 hD1 hD2 rfl (by decide) (by decide) w9 (.slice (some ⟨b8, o8, none⟩) D.length c8) D fd rfl dep9 ((Only.refl [] w9).alloc _) hB9 w9.heap.size 1 [.int .i64 (dk + 1)] (dk + 1) [] rfl (lit_src w9 [.int .i64 (dk + 1)] _ rfl) (by intro u hu; simp at hu; subst hu; rfl) (int_rd _ HI1.out) (by simp) hld1 ?_; intro v10 w10 hA10 hO10 hP10 hQ10 hN10)
                    | fail "no arm")
                  have hFF : Fresh w.heap.size w9 (fs ++ [f5]).flatten := by
                    have g1 := (Fresh.append (hF.fr.keep t5) F5 hBW (fun b hb => hF.fr.lt b hb)).keep t6
                    have g2 := g1.only hO7 (fun b hb hm => by
                      rcases List.mem_append.1 hb with hb | hb
                      · exact hF.a1.2 (by simp at hm; rwa [← hm])
                      · exact hf5M b hb hm)
                    have g3 := (g2.keep ((Only.refl [] w7).alloc (.cells #[.slice a5 s.length c5] 25))).only hO9 (fun b hb hm => by
                      rcases List.mem_append.1 hb with hb | hb
                      · exact hF.acc.apart b (by simpa using hm) hb
                      · exact hap8 b hb (by simpa using hm))
                    simpa using g3
                  have hStep := PBf.step (d := d1) hF hL4 Hps.out (by have := Hdd.out; have := Hdk3.out; omega) (hM7.congr fun z => metB_snoc L s z) ((Only.weaken k6 _).trans hO7) ((Only.refl [] w7).alloc _) hA9 hO9 hN9 hFF (fun hm => hf5M _ hm (by simp)) (fun g hg => .inl (F5.ge g hg)) ((Only.refl [] w9).alloc _) (by rw [← Hdd.out]; exact hA10) hO10 hN10
                  go_roundw
                  case rel => exact ⟨i + 1, L ++ [s], D ++ [d1], _, _, by go_num, by omega, hStep, by simp; omega, by rw [getD_snoc hlt]; exact Hq.out, by rw [getD_snoc hkD]; exact Hd.out, by rw [HRi.out, Hdr.out, bLets_new (by rw [← Hs.out]; exact Hmem.out) (by omega), ← Hs.out]⟩
                  case measure => simp [intOf]; omega
            · obtain rfl : i = mvs.length := by omega
              have hend : R = bFrom x (3001 - (k + 1)) (k + 1) (L, D) := by rw [HRi.out, Hml2.out, List.drop_length]; rfl
              have Hend := Lib.hid hend
              clear hend
              go_wp2
              exact ⟨⟨k + 1, L, D, fs, fd, by go_num, by omega, hF, Hend.out⟩, by simp [intOf]; omega⟩
        · obtain rfl : k = L.length := by omega
          have hend : R = some (L, D) := by rw [HRk.out, bFrom_end hlt hL3]
          have Hend := Lib.hid hend
          clear hend
          obtain ⟨o1, o2, o3⟩ := hF.out
          go_wp2
          refine bodyPost_ret (v := .tuple #[.slice a7 L.length c7, u8, .bool true]) (by simp [results, Tryz.results93, go_sem]) rfl ⟨_, _, _, _, by rw [Hend.out]; rfl, by rw [Hend.out]; exact o1, by rw [Hend.out]; exact o2, o3, hF.on⟩
end Go.Proofs.YtkhdmiemfpelcaaGreat

namespace Go.Proofs.YtkhdmiemfpelcaaGreat
open Go.RowKit
set_option maxRecDepth 10000
/-- a table and the word whether there is one, behind the call of BuildTable: the variable's block g -/
def BT1 (W wx : World) (s8 s9 : Value) (t : Option Table) : Prop :=
  ∃ g A1 A2 A3 C1 C2 C3 f, s8 = .pointer (some ⟨g, 0, none⟩) ∧ s9 = .bool t.isSome ∧ Blk wx g [.slice A1 (t.getD noTab).tracked.length C1, .slice A2 (t.getD noTab).patterns.length C2, .slice A3 (t.getD noTab).distances.length C3] ∧
    Rp.rep wx [.slice A1 (t.getD noTab).tracked.length C1, .slice A2 (t.getD noTab).patterns.length C2, .slice A3 (t.getD noTab).distances.length C3] (t.getD noTab) f ∧ Fresh W.heap.size wx f ∧ Only [] W wx
theorem BT1.of {W w5 : World} {t : Option Table} {g : Nat} {A1 A2 A3 : Option Addr} {n1 n2 n3 C1 C2 C3 : Nat} {f : List Nat} {cs : List Value} (hz : Blk w5 g cs) (hcs : cs.length = 3) (hK : Only [] W w5) (e1 : n1 = (t.getD noTab).tracked.length) (e2 : n2 = (t.getD noTab).patterns.length) (e3 : n3 = (t.getD noTab).distances.length)
    (hr : Rp.rep w5 [.slice A1 n1 C1, .slice A2 n2 C2, .slice A3 n3 C3] (t.getD noTab) f) (hF : Fresh W.heap.size w5 f) (hg : g ∉ f) (hW : W.heap.size ≤ g) :
    BT1 W (((w5.setCell ⟨g, 0, none⟩ (.slice A1 n1 C1)).setCell ⟨g, 1, none⟩ (.slice A2 n2 C2)).setCell ⟨g, 2, none⟩ (.slice A3 n3 C3)) (.pointer (some ⟨g, 0, none⟩)) (.bool t.isSome) t := by
  subst e1; subst e2; subst e3
  have ho : Only [g] w5 (((w5.setCell ⟨g, 0, none⟩ (.slice A1 (t.getD noTab).tracked.length C1)).setCell ⟨g, 1, none⟩ (.slice A2 (t.getD noTab).patterns.length C2)).setCell ⟨g, 2, none⟩ (.slice A3 (t.getD noTab).distances.length C3)) := (((Only.refl _ _).setCell (by simp) _).setCell (by simp) _).setCell (by simp) _
  have hb := ((hz.set 0 (.slice A1 (t.getD noTab).tracked.length C1)).set 1 (.slice A2 (t.getD noTab).patterns.length C2)).set 2 (.slice A3 (t.getD noTab).distances.length C3)
  have hnf : ∀ b ∈ f, b ∉ [g] := fun b hm1 hm => by simp at hm; subst hm; exact hg hm1
  refine ⟨g, A1, A2, A3, C1, C2, C3, f, rfl, rfl, ?_, Rp.only hr ho hnf, hF.only ho hnf, hK.then_ ho (by intro b hm hl; simp at hm; omega)⟩
  obtain ⟨u0, u1, u2, rfl⟩ : ∃ u0 u1 u2, cs = [u0, u1, u2] := by
    match cs, hcs with
    | [u0, u1, u2], _ => exact ⟨u0, u1, u2, rfl⟩
  simpa only [List.set] using hb
theorem BT1.of2 {W w5 : World} {t : Option Table} {g : Nat} {A1 A2 A3 : Option Addr} {n1 n2 n3 C1 C2 C3 : Nat} {f : List Nat} {e : TypeId} (hK : Only [] W w5) (e1 : n1 = (t.getD noTab).tracked.length) (e2 : n2 = (t.getD noTab).patterns.length) (e3 : n3 = (t.getD noTab).distances.length)
    (hr : Rp.rep w5 [.slice A1 n1 C1, .slice A2 n2 C2, .slice A3 n3 C3] (t.getD noTab) f) (hF : Fresh W.heap.size w5 f) (hg : g = w5.heap.size) :
    BT1 W (w5.alloc (.cells #[.slice A1 n1 C1, .slice A2 n2 C2, .slice A3 n3 C3] e)) (.pointer (some ⟨g, 0, none⟩)) (.bool t.isSome) t := by
  subst e1; subst e2; subst e3; subst hg
  have ho : Only [] w5 (w5.alloc (.cells #[.slice A1 (t.getD noTab).tracked.length C1, .slice A2 (t.getD noTab).patterns.length C2, .slice A3 (t.getD noTab).distances.length C3] e)) := (Only.refl _ _).alloc _
  exact ⟨_, A1, A2, A3, C1, C2, C3, f, rfl, rfl, Blk.new w5 [.slice A1 (t.getD noTab).tracked.length C1, .slice A2 (t.getD noTab).patterns.length C2, .slice A3 (t.getD noTab).distances.length C3] e, Rp.keep hr ho, hF.keep ho, hK.trans ho⟩
end Go.Proofs.YtkhdmiemfpelcaaGreat

namespace Go.Proofs.YtkhdmiemfpelcaaGreat
open Go.RowKit
set_option maxRecDepth 10000

set_option maxHeartbeats 1000000 in
theorem implIsTrackedSet_any (cs : List Value) (x : Puzzle) (fp : List Nat) (v : Value) (l : List Int) (f2 : List Nat) (w : World) (h : Rp.rep w cs x fp) (h2 : Rd w v l f2) :
    Calls Tryz.prog 92 #[.agg cs.toArray, v] w fun e w' => e = .returned (.bool (validPz x && trackB x.points l)) ∧ Only [] w w' := by
  have h0 := h
  obtain ⟨v2, rfl, p0, p1, hm⟩ := h
  rcases hq : validPz x
  · go_enter Tryz.func92, Tryz.ntmps92
    go_wp2_with ((go_at_call 101; (with_reducible refine (implIsValidPuzzle_any [.int .i64 x.points, .string x.names, v2] x _ _ (Rp.keep h0 (by with_reducible repeat (first | exact Only.refl _ _ | assumption | refine Only.drewN ?_ _ | refine Only.drew ?_ | refine Only.alloc ?_ _ | refine Only.setCell ?_ (by intro hh; exfalso; simp at hh; try omega) _ | refine Only.trans ?_ (by assumption))))).mono ?_); rintro e w1 ⟨he, t1⟩; rw [hq] at he; subst he))
    go_ret
    exact ⟨rfl, (by with_reducible repeat (first | exact Only.refl _ _ | assumption | refine Only.drewN ?_ _ | refine Only.drew ?_ | refine Only.alloc ?_ _ | refine Only.setCell ?_ (by intro hh; exfalso; simp at hh; try omega) _ | refine Only.trans ?_ (by assumption)))⟩
  obtain ⟨g1, g2, g3, g4⟩ := validPz_facts hq
  have hB := Blk.new_at (w := w) (cs := [.int .i64 x.points, .string x.names, v2]) (t := 37) rfl
  go_enter Tryz.func92, Tryz.ntmps92
  go_wp2_with (first | (go_at_call 101; (with_reducible refine (implIsValidPuzzle_any [.int .i64 x.points, .string x.names, v2] x _ _ (Rp.keep h0 (by with_reducible repeat (first | exact Only.refl _ _ | assumption | refine Only.drewN ?_ _ | refine Only.drew ?_ | refine Only.alloc ?_ _ | refine Only.setCell ?_ (by intro hh; exfalso; simp at hh; try omega) _ | refine Only.trans ?_ (by assumption))))).mono ?_); rintro e w1 ⟨he, t1⟩; rw [hq] at he; subst he; have y0 := (hB.keep t1).cell 0 rfl) | (go_at_call 102; (with_reducible refine (isTracked_rd x.points v l _ _ (Rp.keep h2 (by with_reducible repeat (first | exact Only.refl _ _ | assumption | refine Only.drewN ?_ _ | refine Only.drew ?_ | refine Only.alloc ?_ _ | refine Only.setCell ?_ (by intro hh; exfalso; simp at hh; try omega) _ | refine Only.trans ?_ (by assumption)))) (by omega) (by omega)).mono ?_); rintro e w2 ⟨rfl, m2, rfl⟩))
  go_ret
  exact ⟨rfl, (by with_reducible repeat (first | exact Only.refl _ _ | assumption | refine Only.drewN ?_ _ | refine Only.drew ?_ | refine Only.alloc ?_ _ | refine Only.setCell ?_ (by intro hh; exfalso; simp at hh; try omega) _ | refine Only.trans ?_ (by assumption)))⟩
set_option maxHeartbeats 2000000 in
theorem reachPatterns_any (cs : List Value) (x : Puzzle) (fp : List Nat) (v : Value) (tr : List Int) (ft : List Nat) (w : World) (h : Rp.rep w cs x fp) (hv : Rd w v tr ft) :
    Calls Tryz.prog 77 #[.agg cs.toArray, v] w fun e w' => ∃ u1 u2 f1 f2, e = .returned (.tuple #[u1, u2, .bool (bfs16 x tr).isSome]) ∧
      Rd w' u1 ((bfs16 x tr).getD ([], [])).1 f1 ∧ Rd w' u2 ((bfs16 x tr).getD ([], [])).2 f2 ∧ Fresh w.heap.size w' (f1 ++ f2) ∧ Only [] w w' := by
  have h0 := h
  obtain ⟨v2, rfl, p0, p1, hm⟩ := h
  have X0 := Blk.new w [.int .i64 x.points, .string x.names, v2] 37
  simp only [List.toArray] at X0
  rcases hq : validPz x && trackB x.points tr
  · have Hn := Lib.hid (bfs16_no hq)
    have Hq := Lib.hid hq
    clear hq
    go_enter Tryz.func77, Tryz.ntmps77
    go_wp2_with (first
      | (go_at_call 92; (with_reducible refine (implIsTrackedSet_any [.int .i64 x.points, .string x.names, v2] x _ _ tr _ _ (Rp.keep h0 (by with_reducible repeat (first | exact Only.refl _ _ | assumption | refine Only.drewN ?_ _ | refine Only.drew ?_ | refine Only.alloc ?_ _ | refine Only.setCell ?_ (by intro hh; exfalso; simp at hh; try omega) _ | refine Only.trans ?_ (by assumption)))) (Rp.keep hv (by with_reducible repeat (first | exact Only.refl _ _ | assumption | refine Only.drewN ?_ _ | refine Only.drew ?_ | refine Only.alloc ?_ _ | refine Only.setCell ?_ (by intro hh; exfalso; simp at hh; try omega) _ | refine Only.trans ?_ (by assumption))))).mono ?_); rintro e w1 ⟨he, t1⟩; rw [Hq.out] at he; subst he)
      | fail "no arm")
    refine bodyPost_ret (v := .tuple #[.slice none 0 0, .slice none 0 0, .bool false]) (by simp [results, Tryz.results77, go_sem]) rfl ⟨.slice none 0 0, .slice none 0 0, [], [], by rw [Hn.out]; rfl, by rw [Hn.out]; exact nil_rd _, by rw [Hn.out]; exact nil_rd _, Fresh.nil _ _, (by with_reducible repeat (first | exact Only.refl _ _ | assumption | refine Only.drewN ?_ _ | refine Only.drew ?_ | refine Only.alloc ?_ _ | refine Only.setCell ?_ (by intro hh; exfalso; simp at hh; try omega) _ | refine Only.trans ?_ (by assumption)))⟩
  · have Hn := Lib.hid (bfs16_yes hq)
    obtain ⟨q1, q2⟩ := (Bool.and_eq_true _ _).mp hq
    have Hq := Lib.hid hq
    have Hv := Lib.hid q1
    have Hp := Lib.hid (trackB_pat q2)
    have htl : tr.length ≤ 1000 := by
      have h3 := (trackB_iff.1 q2).2.len
      have := (validPz_facts q1).2.1
      omega
    clear hq q1 q2
    go_enter Tryz.func77, Tryz.ntmps77
    go_wp2_with (first
      | (go_at_call 92; (with_reducible refine (implIsTrackedSet_any [.int .i64 x.points, .string x.names, v2] x _ _ tr _ _ (Rp.keep h0 (by with_reducible repeat (first | exact Only.refl _ _ | assumption | refine Only.drewN ?_ _ | refine Only.drew ?_ | refine Only.alloc ?_ _ | refine Only.setCell ?_ (by intro hh; exfalso; simp at hh; try omega) _ | refine Only.trans ?_ (by assumption)))) (Rp.keep hv (by with_reducible repeat (first | exact Only.refl _ _ | assumption | refine Only.drewN ?_ _ | refine Only.drew ?_ | refine Only.alloc ?_ _ | refine Only.setCell ?_ (by intro hh; exfalso; simp at hh; try omega) _ | refine Only.trans ?_ (by assumption))))).mono ?_); rintro e w1 ⟨he, t1⟩; rw [Hq.out] at he; subst he; have X1 := X0.keep t1; have g0 := X1.cell 0 rfl; have g1 := X1.cell 1 rfl; have g2 := X1.cell 2 rfl)
      | (go_at_call 93; (with_reducible refine (patterns_any [.int .i64 x.points, .string x.names, v2] x _ _ tr _ _ (Rp.keep h0 (by with_reducible repeat (first | exact Only.refl _ _ | assumption | refine Only.drewN ?_ _ | refine Only.drew ?_ | refine Only.alloc ?_ _ | refine Only.setCell ?_ (by intro hh; exfalso; simp at hh; try omega) _ | refine Only.trans ?_ (by assumption)))) (Rp.keep hv (by with_reducible repeat (first | exact Only.refl _ _ | assumption | refine Only.drewN ?_ _ | refine Only.drew ?_ | refine Only.alloc ?_ _ | refine Only.setCell ?_ (by intro hh; exfalso; simp at hh; try omega) _ | refine Only.trans ?_ (by assumption)))) Hv.out Hp.out htl).mono ?_); rintro e w2 ⟨u1, u2, f1, f2, rfl, r1, r2, F2, t2⟩)
      | fail "no arm")
    have K2 : Only [] w w2 := (by with_reducible repeat (first | exact Only.refl _ _ | assumption | refine Only.drewN ?_ _ | refine Only.drew ?_ | refine Only.alloc ?_ _ | refine Only.setCell ?_ (by intro hh; exfalso; simp at hh; try omega) _ | refine Only.trans ?_ (by assumption)))
    have hsz := t1.size
    simp at hsz
    refine bodyPost_ret (v := .tuple #[u1, u2, .bool (bFrom x 3001 0 ([tr], [0])).isSome]) (by simp [results, Tryz.results77, go_sem]) rfl ⟨u1, u2, f1, f2, by rw [Hn.out], by rw [Hn.out]; exact r1, by rw [Hn.out]; exact r2, F2.mono (by omega), K2⟩
set_option maxHeartbeats 4000000 in
theorem implBuildTable_any (cs : List Value) (x : Puzzle) (fp : List Nat) (v : Value) (tr : List Int) (ft : List Nat) (w : World) (h : Rp.rep w cs x fp) (hv : Rd w v tr ft) (htl : tr.length ≤ 2097152) :
    Calls Tryz.prog 58 #[.agg cs.toArray, v] w fun e w' => ∃ cs' fp', e = .returned (.tuple #[.agg (List.toArray cs'), .bool (bTab x tr).isSome]) ∧ Rp.rep w' cs' ((bTab x tr).getD noTab) fp' ∧ Fresh w.heap.size w' fp' ∧ Only [] w w' := by
  have h0 := h
  obtain ⟨v2, rfl, p0, p1, h2⟩ := h
  obtain ⟨A2, C2, _, _, rfl, -, -⟩ := h2.open_
  obtain ⟨a, cap, rfl, Iv⟩ := hv.ints
  clear Iv h2 p0 p1
  have X0 : Blk ((w.alloc (.cells #[.int .i64 x.points, .string x.names, .slice A2 x.moves.length C2] 37)).alloc (.cells #[.slice none 0 0, .slice none 0 0, .slice none 0 0] 32)) w.heap.size [.int .i64 x.points, .string x.names, .slice A2 x.moves.length C2] := (Blk.new w [.int .i64 x.points, .string x.names, .slice A2 x.moves.length C2] 37).keep ((Only.refl _ _).alloc _)
  have Y0 : Blk ((w.alloc (.cells #[.int .i64 x.points, .string x.names, .slice A2 x.moves.length C2] 37)).alloc (.cells #[.slice none 0 0, .slice none 0 0, .slice none 0 0] 32)) (w.heap.size + 1) [.slice none 0 0, .slice none 0 0, .slice none 0 0] := Blk.new_at (by simp)
  have x0 := X0.cell 0 rfl
  have x1 := X0.cell 1 rfl
  have x2 := X0.cell 2 rfl
  rcases hq : bfs16 x tr with _ | s
  · have Hq := Lib.hid hq
    have hb : bTab x tr = none := by unfold bTab; rw [hq]; rfl
    have Hb := Lib.hid hb
    clear hq hb
    go_enter Tryz.func58, Tryz.ntmps58
    go_wp2_with (first
      | (go_at_call 77; (with_reducible refine (reachPatterns_any [.int .i64 x.points, .string x.names, .slice A2 x.moves.length C2] x _ _ tr _ _ (Rp.keep h0 (by with_reducible repeat (first | exact Only.refl _ _ | assumption | refine Only.drewN ?_ _ | refine Only.drew ?_ | refine Only.alloc ?_ _ | refine Only.setCell ?_ (by intro hh; exfalso; simp at hh; try omega) _ | refine Only.trans ?_ (by assumption)))) (Rp.keep hv (by with_reducible repeat (first | exact Only.refl _ _ | assumption | refine Only.drewN ?_ _ | refine Only.drew ?_ | refine Only.alloc ?_ _ | refine Only.setCell ?_ (by intro hh; exfalso; simp at hh; try omega) _ | refine Only.trans ?_ (by assumption))))).mono ?_); rintro e w2 ⟨u1, u2, f1, f2, he, r1, r2, F2, t2⟩; rw [Hq.out] at he; subst he; have Y1 := Y0.keep t2; have g0 := Y1.cell 0 rfl; have g1 := Y1.cell 1 rfl; have g2 := Y1.cell 2 rfl; have p0 := Y1.frozen 0; have p1 := Y1.frozen 1; have p2 := Y1.frozen 2)
      | fail "no arm")
    have K2 : Only [] w w2 := (by with_reducible repeat (first | exact Only.refl _ _ | assumption | refine Only.drewN ?_ _ | refine Only.drew ?_ | refine Only.alloc ?_ _ | refine Only.setCell ?_ (by intro hh; exfalso; simp at hh; try omega) _ | refine Only.trans ?_ (by assumption)))
    have Yf := ((Y1.set 0 (.slice none 0 0)).set 1 (.slice none 0 0)).set 2 (.slice none 0 0)
    have kf := K2.then_ ((((Only.refl [w.heap.size + 1] w2).setCell (p := ⟨w.heap.size + 1, 0, none⟩) (by simp) (.slice none 0 0)).setCell (p := ⟨w.heap.size + 1, 1, none⟩) (by simp) (.slice none 0 0)).setCell (p := ⟨w.heap.size + 1, 2, none⟩) (by simp) (.slice none 0 0)) (by simp)
    obtain ⟨wf, hwf⟩ : ∃ wf, wf = (((w2.setCell ⟨w.heap.size + 1, 0, none⟩ (.slice none 0 0)).setCell ⟨w.heap.size + 1, 1, none⟩ (.slice none 0 0)).setCell ⟨w.heap.size + 1, 2, none⟩ (.slice none 0 0)) := ⟨_, rfl⟩
    rw [← hwf] at Yf kf ⊢
    simp only [List.set] at Yf
    clear hwf g0 g1 g2 p0 p1 p2
    have r0 := Yf.cell 0 rfl
    have r1 := Yf.cell 1 rfl
    have r2 := Yf.cell 2 rfl
    refine bodyPost_ret (v := .tuple #[.agg #[.slice none 0 0, .slice none 0 0, .slice none 0 0], .bool false]) (by simp [results, Tryz.results58, go_sem, r0, r1, r2]) rfl ⟨[.slice none 0 0, .slice none 0 0, .slice none 0 0], [], by rw [Hb.out]; rfl, ?_, Fresh.nil _ _, kf⟩
    rw [Hb.out]
    exact ⟨_, _, _, [], [], [], rfl, rfl, nil_rd _, nil_rd _, nil_rd _⟩
  · have Hq := Lib.hid hq
    have hb : bTab x tr = some ⟨tr, s.1, s.2⟩ := by unfold bTab; rw [hq]; rfl
    have Hb := Lib.hid hb
    clear hq hb
    go_enter Tryz.func58, Tryz.ntmps58
    go_wp2_with (first
      | (go_at_call 77; (with_reducible refine (reachPatterns_any [.int .i64 x.points, .string x.names, .slice A2 x.moves.length C2] x _ _ tr _ _ (Rp.keep h0 (by with_reducible repeat (first | exact Only.refl _ _ | assumption | refine Only.drewN ?_ _ | refine Only.drew ?_ | refine Only.alloc ?_ _ | refine Only.setCell ?_ (by intro hh; exfalso; simp at hh; try omega) _ | refine Only.trans ?_ (by assumption)))) (Rp.keep hv (by with_reducible repeat (first | exact Only.refl _ _ | assumption | refine Only.drewN ?_ _ | refine Only.drew ?_ | refine Only.alloc ?_ _ | refine Only.setCell ?_ (by intro hh; exfalso; simp at hh; try omega) _ | refine Only.trans ?_ (by assumption))))).mono ?_); rintro e w2 ⟨u1, u2, f1, f2, he, r1, r2, F2, t2⟩; rw [Hq.out] at he r1 r2; subst he; simp only [Option.getD] at r1 r2; obtain ⟨a1, c1, ob, fps, rfl, e1, S1⟩ := r1.open_; obtain ⟨a2, c2, rfl, I2⟩ := r2.ints; have Y1 := Y0.keep t2)
      | (go_at_call 78; (with_reducible refine (Clone_rd _ tr _ _ (Rp.keep hv (by with_reducible repeat (first | exact Only.refl _ _ | assumption | refine Only.drewN ?_ _ | refine Only.drew ?_ | refine Only.alloc ?_ _ | refine Only.setCell ?_ (by intro hh; exfalso; simp at hh; try omega) _ | refine Only.trans ?_ (by assumption)))) (by omega)).mono ?_); rintro e w3 ⟨u3, f3, rfl, r3, F3, t3⟩; obtain ⟨a3, c3, rfl, I3⟩ := r3.ints; have Y2 := Y1.keep t3; have g0 := Y2.cell 0 rfl; have g1 := Y2.cell 1 rfl; have g2 := Y2.cell 2 rfl; have p0 := Y2.frozen 0; have p1 := Y2.frozen 1; have p2 := Y2.frozen 2)
      | fail "no arm")
    have K2 : Only [] w w2 := (by with_reducible repeat (first | exact Only.refl _ _ | assumption | refine Only.drewN ?_ _ | refine Only.drew ?_ | refine Only.alloc ?_ _ | refine Only.setCell ?_ (by intro hh; exfalso; simp at hh; try omega) _ | refine Only.trans ?_ (by assumption)))
    have K3 := K2.trans t3
    have hsz := t2.size
    simp at hsz
    have F := (F2.keep t3).append F3 t2.size (fun g hg => F2.lt g hg)
    have hFg : ∀ g ∈ (f1 ++ f2) ++ f3, g ∉ [w.heap.size + 1] := fun g hg hm => by have := F.ge g hg; simp at this hm; omega
    have Yf := ((Y2.set 0 (.slice a3 tr.length c3)).set 1 (.slice a1 s.1.length c1)).set 2 (.slice a2 s.2.length c2)
    have kf : Only [w.heap.size + 1] w3 (((w3.setCell ⟨w.heap.size + 1, 0, none⟩ (.slice a3 tr.length c3)).setCell ⟨w.heap.size + 1, 1, none⟩ (.slice a1 s.1.length c1)).setCell ⟨w.heap.size + 1, 2, none⟩ (.slice a2 s.2.length c2)) := (((Only.refl _ _).setCell (by simp) _).setCell (by simp) _).setCell (by simp) _
    obtain ⟨wf, hwf⟩ : ∃ wf, wf = (((w3.setCell ⟨w.heap.size + 1, 0, none⟩ (.slice a3 tr.length c3)).setCell ⟨w.heap.size + 1, 1, none⟩ (.slice a1 s.1.length c1)).setCell ⟨w.heap.size + 1, 2, none⟩ (.slice a2 s.2.length c2)) := ⟨_, rfl⟩
    rw [← hwf] at Yf kf ⊢
    simp only [List.set] at Yf
    clear hwf g0 g1 g2 p0 p1 p2
    have z0 := Yf.cell 0 rfl
    have z1 := Yf.cell 1 rfl
    have z2 := Yf.cell 2 rfl
    have hP : ((f1 ++ f2) ++ f3).Perm (f3 ++ (f1 ++ f2)) := List.perm_append_comm
    have hFf := ((F.mono (B' := w.heap.size) (by simp; omega)).only kf hFg)
    refine bodyPost_ret (v := .tuple #[.agg #[.slice a3 tr.length c3, .slice a1 s.1.length c1, .slice a2 s.2.length c2], .bool true]) (by simp [results, Tryz.results58, go_sem, z0, z1, z2]) rfl ⟨[.slice a3 tr.length c3, .slice a1 s.1.length c1, .slice a2 s.2.length c2], f3 ++ (f1 ++ f2), by rw [Hb.out]; rfl, ?_, ⟨hP.nodup hFf.nd, fun b hb => hFf.ge b (hP.mem_iff.2 hb), hFf.own.sub fun b hb => hP.mem_iff.2 hb⟩, K3.then_ kf (by simp)⟩
    rw [Hb.out]
    exact ⟨_, _, _, f3, f1, f2, rfl, rfl, Rp.only r3 kf (fun g hg => hFg g (by simp [hg])), Rp.only (Rp.keep r1 t3) kf (fun g hg => hFg g (by simp [hg])), Rp.only (Rp.keep r2 t3) kf (fun g hg => hFg g (by simp [hg]))⟩

end Go.Proofs.YtkhdmiemfpelcaaGreat

namespace Go.Proofs.YtkhdmiemfpelcaaGreat
open Go.RowKit
set_option maxRecDepth 10000








end Go.Proofs.YtkhdmiemfpelcaaGreat

namespace Go.Proofs.YtkhdmiemfpelcaaGreat
open Go.RowKit
set_option maxRecDepth 10000
end Go.Proofs.YtkhdmiemfpelcaaGreat

namespace Go.Proofs.YtkhdmiemfpelcaaGreat
open Go.RowKit
set_option maxRecDepth 10000

/-- where the first pattern with this key lies -/
def firstG (l : List (List Int)) (s : ByteArray) : Option Int := (l.findIdx? fun p => kB p = s).map fun i : Nat => (i : Int)
end Go.Proofs.YtkhdmiemfpelcaaGreat

namespace Go.Proofs.YtkhdmiemfpelcaaGreat
open Go.RowKit
set_option maxRecDepth 10000
theorem flat_one {α β : Type} (f : α → β) : ∀ (l : List α), (l.map fun x => [f x]).flatten = l.map f
  | [] => rfl
  | a :: l => by rw [List.map_cons, List.flatten_cons, flat_one f l]; rfl
theorem own_acc {w : World} {B : Nat} {e : TypeId} {v : Value} {l : List Int} (h : w.ownsRow B e 1 v l.length (l.map (Value.int .i64))) (hl : ∀ x ∈ l, I64 x) : Acc B e w v l (List.replicate l.length []) := by
  refine ⟨⟨l.map fun x => [Value.int .i64 x], by rw [flat_one]; exact h, by simp, fun k h1 h2 h3 => ?_⟩, by simp, fun g _ => by rw [flatten_nil]; simp⟩
  simp only [List.getElem_map, List.getElem_replicate]
  exact ⟨rfl, hl _ (List.getElem_mem h2), rfl⟩
set_option maxHeartbeats 400000 in
theorem copyInts_acc (v : Value) (l : List Int) (fp : List Nat) (w : World) (h : Rd w v l fp) (hl : l.length ≤ 1073741824) :
    Calls Tryz.prog 36 #[v] w fun e w' => ∃ v fs, e = .returned v ∧ Acc w.heap.size 2 w' v l fs ∧ fs.flatten = [] ∧ Only [] w w' := by
  obtain ⟨a, cap, rfl, hI⟩ := h.ints
  obtain ⟨i0, hi, hz0, hz1, hz2⟩ := info_parts Tryz.info2
  obtain ⟨q1, q2⟩ := ints_src (hI.keep ((Only.refl _ w).alloc (.cells #[] 2)))
  go_enter Tryz.func36, Tryz.ntmps36
  go_wp2_with (at_builtin; refine wpList_app _ rfl _ _ 25 rfl w.heap.size 2 i0 _ 1 8 Tryz.underlying25 hi hz0 hz1 hz2 rfl (by omega) (.slice (some ⟨w.heap.size, 0, none⟩) 0 0) 0 [] rfl (World.ownsRow_made w #[] 0 (Nat.le_refl _) (by unfold maxLen; omega) rfl) a l.length cap (l.map (Value.int .i64)) rfl (by simp) q1 q2 (ints_one l) (by unfold maxLen; omega) (by omega) (by simp) ?_; intro v1 w1 hO hg hb)
  rw [Nat.zero_add, List.nil_append] at hO
  have hK : Only [] w w1 := ((Only.refl _ _).alloc _).grown hg (by simp [Value.ownBlock])
  have hA : Acc w.heap.size 2 w1 v1 l (List.replicate l.length []) := own_acc hO hI.wf
  have HA := Lib.hid hA
  clear hO hg hb q1 q2 hA
  go_wp2
  go_ret
  exact ⟨_, _, rfl, HA.out, flatten_nil _, hK⟩

end Go.Proofs.YtkhdmiemfpelcaaGreat

namespace Go.Proofs.YtkhdmiemfpelcaaGreat
open Go.RowKit
set_option maxRecDepth 10000

theorem copyLists_accR (v : Value) (l : List (List Int)) (fp : List Nat) (w : World) (h : Rd w v l fp) (hl : l.length ≤ 2097152) (hl2 : ∀ x ∈ l, x.length ≤ 2097152) :
    Calls Tryz.prog 67 #[v] w fun e w' => ∃ v fs, e = .returned v ∧ Acc w.heap.size 25 w' v l fs ∧ Fresh w.heap.size w' fs.flatten ∧ Only [] w w' := by
  obtain ⟨a, cap, ob, fps, rfl, -, hs⟩ := h.open_
  exact copyLists_acc a cap l ob fps w hs hl hl2
theorem copyInts_accI (v : Value) (l : List Int) (fp : List Nat) (w : World) (h : Rd w v l fp) (hl : l.length ≤ 1073741824) :
    Calls Tryz.prog 36 #[v] w fun e w' => ∃ v, e = .returned v ∧ AccI w.heap.size 2 w' v l ∧ Only [] w w' := by
  refine (copyInts_acc v l fp w h hl).mono ?_
  rintro e w' ⟨v, fs, he, hA, -, hO⟩
  exact ⟨v, he, ⟨fs, hA⟩, hO⟩
theorem Acc.lower {α : Type} [Rp α] {B B' : Nat} {e : TypeId} {w : World} {v : Value} {l : List α} {fs : List (List Nat)} (h : Acc B e w v l fs) (hB : B' ≤ B) : Acc B' e w v l fs := by
  obtain ⟨⟨css, ho, hcl, hr⟩, hf, ha⟩ := h
  refine ⟨⟨css, ⟨ho.1, ?_⟩, hcl, hr⟩, hf, ha⟩
  rcases ho.2 with h1 | ⟨g, cap, cur, h1, h2, h3⟩
  · exact .inl h1
  · exact .inr ⟨g, cap, cur, h1, Nat.le_trans hB h2, h3⟩
theorem AccI.lower {B B' : Nat} {e : TypeId} {w : World} {v : Value} {l : List Int} (h : AccI B e w v l) (hB : B' ≤ B) : AccI B' e w v l := by
  obtain ⟨fs, h⟩ := h
  exact ⟨fs, h.lower hB⟩
/-- a table whose patterns and distances can be appended to -/
structure TA (B : Nat) (w : World) (v1 v2 v3 : Value) (t : Table) (f1 : List Nat) (fs : List (List Nat)) : Prop where
  tk : Rd w v1 t.tracked f1
  pt : Acc B 25 w v2 t.patterns fs
  dt : AccI B 2 w v3 t.distances
  fr : Fresh B w (f1 ++ ((v2.ownBlock.toList ++ fs.flatten) ++ v3.ownBlock.toList))
theorem TA.only {B : Nat} {w w' : World} {v1 v2 v3 : Value} {t : Table} {f1 fp : List Nat} {fs : List (List Nat)} (h : TA B w v1 v2 v3 t f1 fs) (ho : Only fp w w') (hd : ∀ b ∈ f1 ++ ((v2.ownBlock.toList ++ fs.flatten) ++ v3.ownBlock.toList), b ∉ fp) : TA B w' v1 v2 v3 t f1 fs :=
  ⟨Rp.only h.tk ho fun b hb => hd b (List.mem_append_left _ hb),
   h.pt.only ho (fun b hb => hd b (List.mem_append_right _ (List.mem_append_left _ (List.mem_append_right _ hb)))) (fun g hg => hd g (List.mem_append_right _ (List.mem_append_left _ (List.mem_append_left _ (by simp [hg]))))),
   h.dt.only ho (fun g hg => hd g (List.mem_append_right _ (List.mem_append_right _ (by simp [hg])))),
   h.fr.only ho hd⟩
theorem TA.keep {B : Nat} {w w' : World} {v1 v2 v3 : Value} {t : Table} {f1 : List Nat} {fs : List (List Nat)} (h : TA B w v1 v2 v3 t f1 fs) (ho : Only [] w w') : TA B w' v1 v2 v3 t f1 fs := h.only ho (by simp)
theorem TA.lower {B B' : Nat} {w : World} {v1 v2 v3 : Value} {t : Table} {f1 : List Nat} {fs : List (List Nat)} (h : TA B w v1 v2 v3 t f1 fs) (hB : B' ≤ B) : TA B' w v1 v2 v3 t f1 fs := ⟨h.tk, h.pt.lower hB, h.dt.lower hB, h.fr.mono hB⟩
theorem TA.rd {B : Nat} {w : World} {v1 v2 v3 : Value} {t : Table} {f1 : List Nat} {fs : List (List Nat)} (h : TA B w v1 v2 v3 t f1 fs) : Rp.rep w [v1, v2, v3] t (f1 ++ ((v2.ownBlock.toList ++ fs.flatten) ++ v3.ownBlock.toList)) :=
  ⟨_, _, _, _, _, _, rfl, rfl, h.tk, h.pt.rd (by decide), h.dt.rd⟩

set_option maxHeartbeats 2000000 in
theorem copyTableA_any (cs : List Value) (t : Table) (fp : List Nat) (w : World) (h : Rp.rep w cs t fp) (hm : midT t) :
    Calls Tryz.prog 68 #[.agg cs.toArray] w fun e w' => ∃ v1 v2 v3 f1 fs, e = .returned (.agg #[v1, v2, v3]) ∧ TA w.heap.size w' v1 v2 v3 t f1 fs ∧ Only [] w w' := by
  obtain ⟨v1, v2, v3, g1, g2, g3, rfl, -, h1, h2, h3⟩ := h
  obtain ⟨m1, m2, m3, m4⟩ := hm
  obtain ⟨A1, C1, _, _, rfl, -⟩ := h1.open_
  obtain ⟨A2, C2, _, _, rfl, -⟩ := h2.open_
  obtain ⟨A3, C3, _, _, rfl, -⟩ := h3.open_
  have hW0 : Only [] w ((w.alloc (.cells #[.slice A1 t.tracked.length C1, .slice A2 t.patterns.length C2, .slice A3 t.distances.length C3] 32)).alloc (.cells #[.slice none 0 0, .slice none 0 0, .slice none 0 0] 32)) := ((Only.refl _ _).alloc _).alloc _
  have hB : Blk ((w.alloc (.cells #[.slice A1 t.tracked.length C1, .slice A2 t.patterns.length C2, .slice A3 t.distances.length C3] 32)).alloc (.cells #[.slice none 0 0, .slice none 0 0, .slice none 0 0] 32)) w.heap.size [.slice A1 t.tracked.length C1, .slice A2 t.patterns.length C2, .slice A3 t.distances.length C3] := Blk.keep (Blk.new_at rfl) ((Only.refl _ _).alloc _)
  have HB := Lib.hid hB; clear hB
  have X1 : Blk ((w.alloc (.cells #[.slice A1 t.tracked.length C1, .slice A2 t.patterns.length C2, .slice A3 t.distances.length C3] 32)).alloc (.cells #[.slice none 0 0, .slice none 0 0, .slice none 0 0] 32)) (w.heap.size + 1) [.slice none 0 0, .slice none 0 0, .slice none 0 0] := Blk.new_at (by simp)
  have HX := Lib.hid X1; clear X1
  go_enter Tryz.func68, Tryz.ntmps68
  go_wp2
  go_region_held3 (fun w' => Only [w.heap.size + 1] ((w.alloc (.cells #[.slice A1 t.tracked.length C1, .slice A2 t.patterns.length C2, .slice A3 t.distances.length C3] 32)).alloc (.cells #[.slice none 0 0, .slice none 0 0, .slice none 0 0] 32)) w' ∧ w'.cell? ⟨w.heap.size, 0, none⟩ = some (.slice A1 t.tracked.length C1) ∧ w'.cell? ⟨w.heap.size, 1, none⟩ = some (.slice A2 t.patterns.length C2) ∧ w'.cell? ⟨w.heap.size, 2, none⟩ = some (.slice A3 t.distances.length C3)) ((refine and_of ?_ (fun h__ => ⟨(Blk.only HB.out h__ (by simp)).cell 0 rfl, (Blk.only HB.out h__ (by simp)).cell 1 rfl, (Blk.only HB.out h__ (by simp)).cell 2 rfl⟩); first | with_reducible exact (Only.refl _ _).drew | with_reducible exact Only.keepThen (And.left (by assumption)) (by assumption) | with_reducible exact Only.setCell (Only.setCell (Only.setCell (And.left (by assumption)) (by intro _; simp) _) (by intro _; simp) _) (by intro _; simp) _)) (first
    | (go_at_call 36; (with_reducible refine (copyInts_rd _ t.tracked _ _ (Rp.keep h1 (Only.own1 hW0 (And.left (by assumption)) (Nat.le_succ _))) (by omega)).mono ?_); rintro e w1 ⟨u1, f1, rfl, r1, F1, t1⟩; have Y1 := HX.out.keep (((Only.refl [] _).drew).trans t1); obtain ⟨D1, E1, _, _, rfl, -⟩ := r1.open_)
    | (go_at_call 67; (with_reducible refine (copyLists_accR _ t.patterns _ _ (Rp.keep h2 (Only.own1 hW0 (And.left (by assumption)) (Nat.le_succ _))) m2 m3).mono ?_); rintro e w2 ⟨u2, fs, rfl, a2, F2, t2⟩; have Y2 := Y1.keep t2; obtain ⟨D2, E2, rfl⟩ := a2.form)
    | (go_at_call 36; (with_reducible refine (copyInts_accI _ t.distances _ _ (Rp.keep h3 (Only.own1 hW0 (And.left (by assumption)) (Nat.le_succ _))) (by omega)).mono ?_); rintro e w3 ⟨u3, rfl, a3, t3⟩; have Y3 := Y2.keep t3; obtain ⟨D3, E3, rfl⟩ := a3.form; have g0 := Y3.cell 0 rfl; have q0 := Y3.frozen 0; have g1 := Y3.cell 1 rfl; have q1 := Y3.frozen 1; have g2 := Y3.cell 2 rfl; have q2 := Y3.frozen 2)
    | fail "no arm")
  have hz1 := t1.size
  simp at hz1
  have hz2 := t2.size
  have hz3 := t3.size
  have G1 : ∀ b' ∈ f1, w.heap.size + 2 ≤ b' ∧ b' < w1.heap.size := fun b' hb => ⟨by have := F1.ge b' hb; simp at this; omega, F1.lt b' hb⟩
  have T3 : Only [] w w3 := hW0.trans (((((Only.refl _ _).drew.trans t1).trans t2)).trans t3)
  have FP := a2.fresh F2
  have FD := a3.fresh
  have F23 := (FP.keep t3).append FD hz2 (fun b hb => FP.lt b hb)
  have F := (F1.keep (t2.trans t3)).append F23 t1.size (fun b hb => F1.lt b hb)
  have hd : ∀ b ∈ f1 ++ (((Value.slice D2 t.patterns.length E2).ownBlock.toList ++ fs.flatten) ++ (Value.slice D3 t.distances.length E3).ownBlock.toList), b ∉ [w.heap.size + 1] := fun b hb hm => by have := F.ge b hb; simp at this hm; omega
  have HT := Lib.hid (TA.mk (B := w.heap.size) (Rp.keep r1 (t2.trans t3)) (Acc.lower (a2.keep t3) (by omega)) (AccI.lower a3 (by omega)) (F.mono (by simp; omega)))
  have Yf := (((Y3.set 0 (.slice D1 t.tracked.length E1)).set 1 (.slice D2 t.patterns.length E2)).set 2 (.slice D3 t.distances.length E3))
  have kf : Only [w.heap.size + 1] w3 (((w3.setCell ⟨w.heap.size + 1, 0, none⟩ (.slice D1 t.tracked.length E1)).setCell ⟨w.heap.size + 1, 1, none⟩ (.slice D2 t.patterns.length E2)).setCell ⟨w.heap.size + 1, 2, none⟩ (.slice D3 t.distances.length E3)) := ((((Only.refl _ _).setCell (by simp) _).setCell (by simp) _).setCell (by simp) _)
  go_wp2_with fail
  obtain ⟨wf, hwf⟩ : ∃ wf, wf = (((w3.setCell ⟨w.heap.size + 1, 0, none⟩ (.slice D1 t.tracked.length E1)).setCell ⟨w.heap.size + 1, 1, none⟩ (.slice D2 t.patterns.length E2)).setCell ⟨w.heap.size + 1, 2, none⟩ (.slice D3 t.distances.length E3)) := ⟨_, rfl⟩
  rw [← hwf] at Yf kf ⊢
  simp only [List.set] at Yf
  clear hwf g0 q0 g1 q1 g2 q2
  have z0 := Yf.cell 0 rfl
  have z1 := Yf.cell 1 rfl
  have z2 := Yf.cell 2 rfl
  refine bodyPost_ret (v := .agg #[.slice D1 t.tracked.length E1, .slice D2 t.patterns.length E2, .slice D3 t.distances.length E3]) (by simp [results, Tryz.results68, go_sem, z0, z1, z2]) rfl ⟨_, _, _, f1, fs, rfl, HT.out.only kf hd, T3.then_ kf (by simp)⟩

set_option maxHeartbeats 2000000 in
theorem copyFillA_any (cs : List Value) (j : FillJob) (fp : List Nat) (w : World) (h : Rp.rep w cs j fp) (hm : midT j.table) :
    Calls Tryz.prog 48 #[.agg cs.toArray] w fun e w' => ∃ v1 v2 v3 f1 fs, e = .returned (.agg #[v1, v2, v3, .int .i64 j.next, .string j.log, .int .i64 j.synced]) ∧ TA w.heap.size w' v1 v2 v3 j.table f1 fs ∧ Only [] w w' := by
  obtain ⟨c0, rfl, p1, p2, p3, h0⟩ := h
  have q := h0
  obtain ⟨v1, v2, v3, g1, g2, g3, rfl, -, h1, h2, h3⟩ := q
  obtain ⟨A1, C1, _, _, rfl, -⟩ := h1.open_
  obtain ⟨A2, C2, _, _, rfl, -⟩ := h2.open_
  obtain ⟨A3, C3, _, _, rfl, -⟩ := h3.open_
  have hW0 : Only [] w ((w.alloc (.cells #[.slice A1 j.table.tracked.length C1, .slice A2 j.table.patterns.length C2, .slice A3 j.table.distances.length C3, .int .i64 j.next, .string j.log, .int .i64 j.synced] 34)).alloc (.cells #[.slice none 0 0, .slice none 0 0, .slice none 0 0, .int .i64 0, .string ⟨#[]⟩, .int .i64 0] 34)) := ((Only.refl _ _).alloc _).alloc _
  have hB : Blk ((w.alloc (.cells #[.slice A1 j.table.tracked.length C1, .slice A2 j.table.patterns.length C2, .slice A3 j.table.distances.length C3, .int .i64 j.next, .string j.log, .int .i64 j.synced] 34)).alloc (.cells #[.slice none 0 0, .slice none 0 0, .slice none 0 0, .int .i64 0, .string ⟨#[]⟩, .int .i64 0] 34)) w.heap.size [.slice A1 j.table.tracked.length C1, .slice A2 j.table.patterns.length C2, .slice A3 j.table.distances.length C3, .int .i64 j.next, .string j.log, .int .i64 j.synced] := Blk.keep (Blk.new_at rfl) ((Only.refl _ _).alloc _)
  have HB := Lib.hid hB; clear hB
  have X1 : Blk ((w.alloc (.cells #[.slice A1 j.table.tracked.length C1, .slice A2 j.table.patterns.length C2, .slice A3 j.table.distances.length C3, .int .i64 j.next, .string j.log, .int .i64 j.synced] 34)).alloc (.cells #[.slice none 0 0, .slice none 0 0, .slice none 0 0, .int .i64 0, .string ⟨#[]⟩, .int .i64 0] 34)) (w.heap.size + 1) [.slice none 0 0, .slice none 0 0, .slice none 0 0, .int .i64 0, .string ⟨#[]⟩, .int .i64 0] := Blk.new_at (by simp)
  have HX := Lib.hid X1; clear X1
  go_enter Tryz.func48, Tryz.ntmps48
  go_wp2
  go_region_held3 (fun w' => Only [w.heap.size + 1] ((w.alloc (.cells #[.slice A1 j.table.tracked.length C1, .slice A2 j.table.patterns.length C2, .slice A3 j.table.distances.length C3, .int .i64 j.next, .string j.log, .int .i64 j.synced] 34)).alloc (.cells #[.slice none 0 0, .slice none 0 0, .slice none 0 0, .int .i64 0, .string ⟨#[]⟩, .int .i64 0] 34)) w' ∧ w'.cell? ⟨w.heap.size, 0, none⟩ = some (Value.slice A1 j.table.tracked.length C1) ∧ w'.cell? ⟨w.heap.size, 1, none⟩ = some (Value.slice A2 j.table.patterns.length C2) ∧ w'.cell? ⟨w.heap.size, 2, none⟩ = some (Value.slice A3 j.table.distances.length C3) ∧ w'.cell? ⟨w.heap.size, 3, none⟩ = some (Value.int .i64 j.next) ∧ w'.cell? ⟨w.heap.size, 4, none⟩ = some (Value.string j.log) ∧ w'.cell? ⟨w.heap.size, 5, none⟩ = some (Value.int .i64 j.synced)) ((refine and_of ?_ (fun h__ => ⟨(Blk.only HB.out h__ (by simp)).cell 0 rfl, (Blk.only HB.out h__ (by simp)).cell 1 rfl, (Blk.only HB.out h__ (by simp)).cell 2 rfl, (Blk.only HB.out h__ (by simp)).cell 3 rfl, (Blk.only HB.out h__ (by simp)).cell 4 rfl, (Blk.only HB.out h__ (by simp)).cell 5 rfl⟩); first | with_reducible exact (Only.refl _ _).drew | with_reducible exact Only.keepThen (And.left (by assumption)) (by assumption) | with_reducible exact Only.setCell (Only.setCell (Only.setCell (Only.setCell (Only.setCell (Only.setCell (And.left (by assumption)) (by intro _; simp) _) (by intro _; simp) _) (by intro _; simp) _) (by intro _; simp) _) (by intro _; simp) _) (by intro _; simp) _)) (first
    | (go_at_call 68; (with_reducible refine (copyTableA_any [.slice A1 j.table.tracked.length C1, .slice A2 j.table.patterns.length C2, .slice A3 j.table.distances.length C3] j.table _ _ (Rp.keep h0 (Only.own1 hW0 (And.left (by assumption)) (Nat.le_succ _))) hm).mono ?_); rintro e w1 ⟨u1, u2, u3, f1, fs, rfl, a1, t1⟩; obtain ⟨D1, E1, _, _, rfl, -⟩ := a1.tk.open_; obtain ⟨D2, E2, rfl⟩ := a1.pt.form; obtain ⟨D3, E3, rfl⟩ := a1.dt.form; have Y1 := HX.out.keep (((Only.refl [] _).drew).trans t1); have g0 := Y1.cell 0 rfl; have q0 := Y1.frozen 0; have g1 := Y1.cell 1 rfl; have q1 := Y1.frozen 1; have g2 := Y1.cell 2 rfl; have q2 := Y1.frozen 2; have g3 := Y1.cell 3 rfl; have q3 := Y1.frozen 3; have g4 := Y1.cell 4 rfl; have q4 := Y1.frozen 4; have g5 := Y1.cell 5 rfl; have q5 := Y1.frozen 5)
    | fail "no arm")
  have K1 : Only [] w w1 := hW0.trans (((Only.refl _ _).drew).trans t1)
  have hd : ∀ b ∈ f1 ++ (((Value.slice D2 j.table.patterns.length E2).ownBlock.toList ++ fs.flatten) ++ (Value.slice D3 j.table.distances.length E3).ownBlock.toList), b ∉ [w.heap.size + 1] := fun b hb hm => by have := a1.fr.ge b hb; simp at this hm; omega
  have Yf := ((((((Y1.set 0 (.slice D1 j.table.tracked.length E1)).set 1 (.slice D2 j.table.patterns.length E2)).set 2 (.slice D3 j.table.distances.length E3)).set 3 (.int .i64 j.next)).set 4 (.string j.log)).set 5 (.int .i64 j.synced))
  have kf : Only [w.heap.size + 1] w1 ((((((w1.setCell ⟨w.heap.size + 1, 0, none⟩ (.slice D1 j.table.tracked.length E1)).setCell ⟨w.heap.size + 1, 1, none⟩ (.slice D2 j.table.patterns.length E2)).setCell ⟨w.heap.size + 1, 2, none⟩ (.slice D3 j.table.distances.length E3)).setCell ⟨w.heap.size + 1, 3, none⟩ (.int .i64 j.next)).setCell ⟨w.heap.size + 1, 4, none⟩ (.string j.log)).setCell ⟨w.heap.size + 1, 5, none⟩ (.int .i64 j.synced)) := (((((((Only.refl _ _).setCell (by simp) _).setCell (by simp) _).setCell (by simp) _).setCell (by simp) _).setCell (by simp) _).setCell (by simp) _)
  have HT := Lib.hid (TA.lower (B' := w.heap.size) a1 (by simp; omega)); clear a1
  go_wp2_with fail
  obtain ⟨wf, hwf⟩ : ∃ wf, wf = ((((((w1.setCell ⟨w.heap.size + 1, 0, none⟩ (.slice D1 j.table.tracked.length E1)).setCell ⟨w.heap.size + 1, 1, none⟩ (.slice D2 j.table.patterns.length E2)).setCell ⟨w.heap.size + 1, 2, none⟩ (.slice D3 j.table.distances.length E3)).setCell ⟨w.heap.size + 1, 3, none⟩ (.int .i64 j.next)).setCell ⟨w.heap.size + 1, 4, none⟩ (.string j.log)).setCell ⟨w.heap.size + 1, 5, none⟩ (.int .i64 j.synced)) := ⟨_, rfl⟩
  rw [← hwf] at Yf kf ⊢
  simp only [List.set] at Yf
  clear hwf g0 q0 g1 q1 g2 q2 g3 q3 g4 q4 g5 q5
  have z0 := Yf.cell 0 rfl
  have z1 := Yf.cell 1 rfl
  have z2 := Yf.cell 2 rfl
  have z3 := Yf.cell 3 rfl
  have z4 := Yf.cell 4 rfl
  have z5 := Yf.cell 5 rfl
  refine bodyPost_ret (v := .agg #[.slice D1 j.table.tracked.length E1, .slice D2 j.table.patterns.length E2, .slice D3 j.table.distances.length E3, .int .i64 j.next, .string j.log, .int .i64 j.synced]) (by simp [results, Tryz.results48, go_sem, z0, z1, z2, z3, z4, z5]) rfl ⟨_, _, _, f1, fs, rfl, HT.out.only kf hd, K1.then_ kf (by simp)⟩

end Go.Proofs.YtkhdmiemfpelcaaGreat

namespace Go.Proofs.YtkhdmiemfpelcaaGreat
open Go.RowKit
set_option maxRecDepth 10000
open Go.Maps (Keyed)
/-- block M is a map of at most k entries; g: what lies at a key -/
def Mq (w : World) (M k : Nat) (g : ByteArray → Option Int) : Prop :=
  ∃ D : DataW Unit, w.ownsMap Tryz.prog 9 (plainElem Tryz.prog 2) M k D ∧ ∀ s : ByteArray, s.size ≤ maxLen →
    Go.Maps.has D (.string s.data.toList) = (g s).isSome ∧ ∀ n, g s = some n → D.atKey (.string s.data.toList) (.lit (.int .i64 0)) = .lit (.int .i64 n)
theorem Mq.lt {w : World} {M k : Nat} {g : ByteArray → Option Int} (h : Mq w M k g) : M < w.heap.size := by
  obtain ⟨D, h1, -⟩ := h; exact h1.lt
theorem Mq.frame {w w' : World} {M k : Nat} {g : ByteArray → Option Int} (h : Mq w M k g) (hf : w'.heap[M]? = w.heap[M]?) : Mq w' M k g := by
  obtain ⟨D, ⟨es, c, h1, h2⟩, h3⟩ := h
  exact ⟨D, ⟨es, c, by rw [hf]; exact h1, h2⟩, h3⟩
theorem Mq.only {w w' : World} {fp : List Nat} {M k : Nat} {g : ByteArray → Option Int} (h : Mq w M k g) (ho : Only fp w w') (hn : M ∉ fp) : Mq w' M k g := h.frame (ho.block M h.lt hn)
theorem Mq.keep {w w' : World} {M k : Nat} {g : ByteArray → Option Int} (h : Mq w M k g) (ho : Only [] w w') : Mq w' M k g := h.only ho (by simp)
theorem Mq.made (w : World) {M : Nat} (hM : M = w.heap.size) : Mq (w.alloc (.map #[] 0)) M 0 (fun _ => none) := by
  subst hM
  exact ⟨.map [], World.ownsMap_made _ _ _ _, fun s _ => ⟨rfl, by simp⟩⟩
theorem Mq.congr {w : World} {M k : Nat} {g g' : ByteArray → Option Int} (h : Mq w M k g) (hg : ∀ s, g s = g' s) : Mq w M k g' := by
  have : g = g' := funext hg
  rw [← this]; exact h
section
variable {w : World} {M k : Nat} {g : ByteArray → Option Int}
end
theorem Mq.mono {w : World} {M k k' : Nat} {g : ByteArray → Option Int} (h : Mq w M k g) (hk : k ≤ k') : Mq w M k' g := by
  obtain ⟨D, h1, h2⟩ := h
  exact ⟨D, h1.mono hk, h2⟩
/-- a map as a value in memory: its entries -/
structure KM where
  g : ByteArray → Option Int
instance : Rp KM where
  size := 1
  rep w cs x fp := ∃ M k, cs = [.map (some M)] ∧ fp = [M] ∧ Mq w M k x.g
  len h := by obtain ⟨_, _, rfl, _⟩ := h; rfl
  frame h hf := by
    obtain ⟨M, k, h1, h2, h3⟩ := h
    subst h2
    exact ⟨M, k, h1, rfl, h3.frame (hf M (by simp))⟩
  lt h := by
    obtain ⟨M, k, h1, h2, h3⟩ := h
    subst h2
    intro b hb
    simp at hb; subst hb; exact h3.lt

end Go.Proofs.YtkhdmiemfpelcaaGreat
