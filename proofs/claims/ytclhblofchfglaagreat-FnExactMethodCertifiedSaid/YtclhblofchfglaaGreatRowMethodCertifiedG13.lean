/- The word of a stage, by the reference (laws 41, 51, 57, 58). A method's goals grow: told by their places (laws 41, 51, 57, 58). Whether a word solves a state: the reference's and the program's functions (laws 42, 43). Maps from strings to int64 that a call makes. (Printed by mkmapi.py out of XMap.) The first pattern with a key, in plain words. The program's LowerBound (laws 40, 42, 43, 52). Claim: plain data, how it lies in memory, the law's own comparison. Certificate: plain data, how it lies in memory, the laws' own helpers on it. (Printed by gen_struct.py.) CheckCertificate, IsAcceptedCertificate: the reference's and the program's (laws 42, 43). (Printed by mkchk.py.) -/
import Derived.Test.YtclhblofchfglaaGreatRowMethodCertifiedG11
import Derived.Test.YtclhblofchfglaaGreatRowMethodCertifiedG12
import Derived.Deep.RegionHeld3
import Derived.Test.YtclhblofchfglaaGreatRowMethodCertifiedG8
import Derived.Test.YtclhblofchfglaaGreatRowMethodCertifiedG5
import Derived.Deep.RegionLaw
import Derived.Test.YtclhblofchfglaaGreatRowMethodCertifiedG4
import Derived.Deep.RegionWith
import Derived.Deep.AppendLies
namespace Go.Proofs.YtclhblofchfglaaGreat
open Go.RowKit
set_option maxRecDepth 10000

set_option maxHeartbeats 8000000 in
theorem stageWord_any (cs : List Value) (x : Puzzle) (fp : List Nat) (t : Table) (vg : Value) (goal : List Int) (fg : List Nat) (u : Value) (fu : List Nat) (v0 : Nat) (w : World) (h : Rp.rep w cs x fp)
    (he : expl x = some t) (ht : trackB x.points goal = true) (hg : Rd w vg goal fg) (hv0 : v0 < t.patterns.length) (hu : Rd w u (t.patterns.getD v0 []) fu) :
    Calls Tryz.prog 110 #[.agg cs.toArray, vg, u] w fun e w' => ∃ v fp', e = .returned v ∧ Rd w' v (mW1 x t goal (t.patterns.getD v0 [])) fp' ∧ Fresh w.heap.size w' fp' ∧ Only [] w w' := by
  have h0 := h
  obtain ⟨v2, rfl, p0, p1, h2⟩ := h
  clear p0 p1 h2
  obtain ⟨hb0, -⟩ := expl_built he
  obtain ⟨tg, htg⟩ := goal_tab he ht
  obtain ⟨hb, htr⟩ := bTab_built htg
  obtain ⟨e0, he0, he1, he2⟩ := goal_at he htg hv0
  obtain ⟨sf1, -, -⟩ := stage_facts he ht hv0
  have hE := goal_E he ht htg hv0
  rw [he1, atD_nat] at hE
  obtain ⟨N, hNN⟩ : ∃ N, N = mN x t goal (t.patterns.getD v0 []) := ⟨_, rfl⟩
  have hN : tg.distances.getD e0 0 = (N : Int) := by rw [← hE, sf1, hNN]
  have hoW : oW x tg N (tg.patterns.getD e0 []) = mW1 x t goal (t.patterns.getD v0 []) := by
    rw [he2, goal_oW he ht htg N v0 hv0 (by rw [sf1, hNN]), hNN]; rfl
  rw [← hoW]
  obtain ⟨q1, q20, q8, -⟩ := validPz_facts hb.v
  have hdep := (hb.dep e0 he0).2.1
  have hll := hb.ll
  have hN3 : N ≤ 3000 := by omega
  have hgl : goal.length ≤ 1000 := by have := (trackB_iff.1 ht).2.len; omega
  have hgr : ∀ y ∈ goal, 0 ≤ y ∧ y < (t.patterns.getD v0 []).length := fun y hy => by
    have a := (trackB_iff.1 ht).2.1 y hy
    rw [expl_len1 he hv0]; omega
  have Hgr := Lib.hid hgr
  have Ht := Lib.hid ht
  have Htg := Lib.hid htg
  have htr' : tg.tracked.length = goal.length := by rw [htr]
  have hlen0 : ∀ i : Nat, i < tg.patterns.length → (tg.patterns.getD i []).length = goal.length := fun i hi => by
    have := (patB_iff.1 (hb.bi.pat _ (hb.mem_of hi))).1
    omega
  have Hlen0 := Lib.hid hlen0
  have Hl0 := Lib.hid (show (PM.comp goal (t.patterns.getD v0 [])).length = goal.length by rw [← he2]; exact hlen0 e0 he0)
  have Hb := Lib.hid hb
  have Hd0 := Lib.hid (show depT tg (PM.comp goal (t.patterns.getD v0 [])) = (N : Int) by rw [← he2, depT_yes hb he0, hN])
  have HN := Lib.hid hN
  have He2 := Lib.hid he2
  obtain ⟨st, hst⟩ : ∃ st, st = t.patterns.getD v0 [] := ⟨_, rfl⟩
  rw [← hst] at hu Hgr Hl0 Hd0 He2
  obtain ⟨iI, hi, hz0, hz1, hz2⟩ := info_parts Tryz.info2
  obtain ⟨s0, hs0⟩ : ∃ s0, s0 = tg.patterns.getD e0 [] := ⟨_, rfl⟩
  have Hs0 := Lib.hid hs0
  rw [← hs0]
  have X0 : Blk (w.alloc (.cells #[.int .i64 x.points, .string x.names, v2] 33)) w.heap.size [.int .i64 x.points, .string x.names, v2] := Blk.new w [.int .i64 x.points, .string x.names, v2] 33
  have hxv := hb.v
  have Hxv := Lib.hid hxv
  clear hs0 hst hN hoW hE sf1 he1 he2 hb0 hb htr htg ht hgr he hNN hdep hxv htr' hlen0
  go_enter Tryz.func110, Tryz.ntmps110
  go_upto_region 6 with (first
    | (go_at_call 155; (with_reducible refine (searchGoal_any [.int .i64 x.points, .string x.names, v2] x _ vg goal _ tg _ (Rp.keep h0 (by with_reducible repeat (first | exact Only.refl _ _ | assumption | refine Only.drewN ?_ _ | refine Only.drew ?_ | refine Only.alloc ?_ _ | refine Only.setCell ?_ (by intro hh; exfalso; simp at hh; try omega) _ | refine Only.trans ?_ (by assumption)))) (Rp.keep hg (by with_reducible repeat (first | exact Only.refl _ _ | assumption | refine Only.drewN ?_ _ | refine Only.drew ?_ | refine Only.alloc ?_ _ | refine Only.setCell ?_ (by intro hh; exfalso; simp at hh; try omega) _ | refine Only.trans ?_ (by assumption)))) Hxv.out Ht.out Htg.out).mono ?_); rintro e w1 ⟨A1, A2, A3, C1, C2, C3, n3, rfl, hS, t1⟩; have X1 := (X0.keep t1).keep ((Only.refl [] w1).alloc (.cells #[.slice A1 tg.patterns.length C1, .slice A2 tg.distances.length C2, .slice A3 n3 C3, .bool true] 85)); have Y1 : Blk (w1.alloc (.cells #[.slice A1 tg.patterns.length C1, .slice A2 tg.distances.length C2, .slice A3 n3 C3, .bool true] 85)) w1.heap.size [.slice A1 tg.patterns.length C1, .slice A2 tg.distances.length C2, .slice A3 n3 C3, .bool true] := Blk.new w1 _ _; have kE : Only [] (w1.alloc (.cells #[.slice A1 tg.patterns.length C1, .slice A2 tg.distances.length C2, .slice A3 n3 C3, .bool true] 85)) ((w1.alloc (.cells #[.slice A1 tg.patterns.length C1, .slice A2 tg.distances.length C2, .slice A3 n3 C3, .bool true] 85)).alloc (.cells #[] 2)) := (Only.refl _ _).alloc _; have x0 := (X1.keep kE).cell 0 rfl; have x1 := (X1.keep kE).cell 1 rfl; have x2 := (X1.keep kE).cell 2 rfl)
    | (go_at_call 127; (with_reducible refine (lettersOf_any [.int .i64 x.points, .string x.names, v2] x _ _ (Rp.keep h0 (by with_reducible repeat (first | exact Only.refl _ _ | assumption | refine Only.drewN ?_ _ | refine Only.drew ?_ | refine Only.alloc ?_ _ | refine Only.setCell ?_ (by intro hh; exfalso; simp at hh; try omega) _ | refine Only.trans ?_ (by assumption)))) (by omega)).mono ?_); rintro e w2 ⟨u1, f1, rfl, r1, F1, t2⟩; obtain ⟨a1, c1, rfl, I1⟩ := r1.ints)
    | (go_at_call 157; (with_reducible refine (projectState_any vg u goal st _ _ _ (Rp.keep hg (by with_reducible repeat (first | exact Only.refl _ _ | assumption | refine Only.drewN ?_ _ | refine Only.drew ?_ | refine Only.alloc ?_ _ | refine Only.setCell ?_ (by intro hh; exfalso; simp at hh; try omega) _ | refine Only.trans ?_ (by assumption)))) (Rp.keep hu (by with_reducible repeat (first | exact Only.refl _ _ | assumption | refine Only.drewN ?_ _ | refine Only.drew ?_ | refine Only.alloc ?_ _ | refine Only.setCell ?_ (by intro hh; exfalso; simp at hh; try omega) _ | refine Only.trans ?_ (by assumption)))) Hgr.out hgl).mono ?_); rintro e w3 ⟨u3, f3, rfl, r3, F3, t3⟩; have Y3 := ((Y1.keep kE).keep t2).keep t3; have y0 := Y3.cell 0 rfl; have y1 := Y3.cell 1 rfl; have y2 := Y3.cell 2 rfl; have y3 := Y3.cell 3 rfl)
    | (go_at_call 134; (with_reducible refine (depthOf_gen x tg goal.length _ _ _ _ _ (((hS.keep ((Only.refl [] w1).alloc _)).keep kE).keep (t2.trans t3)) Hb.out r3 Hl0.out).mono ?_); rintro e w4 ⟨he, t4⟩; rw [Hd0.out] at he; subst he)
    | fail "no arm")
  obtain ⟨WA, hWA⟩ : ∃ WA, WA = w1.alloc (.cells #[.slice A1 tg.patterns.length C1, .slice A2 tg.distances.length C2, .slice A3 n3 C3, .bool true] 85) := ⟨_, rfl⟩
  have hzA : WA.heap.size = w1.heap.size + 1 := by rw [hWA]; simp
  have KWA : Only [] w WA := by rw [hWA]; exact (by with_reducible repeat (first | exact Only.refl _ _ | assumption | refine Only.drewN ?_ _ | refine Only.drew ?_ | refine Only.alloc ?_ _ | refine Only.setCell ?_ (by intro hh; exfalso; simp at hh; try omega) _ | refine Only.trans ?_ (by assumption)))
  have hSA : SrG goal.length (w.heap.size + 1) WA tg (.agg #[.slice A1 tg.patterns.length C1, .slice A2 tg.distances.length C2, .slice A3 n3 C3, .bool true]) := by rw [hWA]; exact (hS.mono (by simp)).keep ((Only.refl [] w1).alloc _)
  have A0' : AccI WA.heap.size 2 (WA.alloc (.cells #[] 2)) (.slice (some ⟨w1.heap.size + 1, 0, none⟩) 0 0) [] := AccI.made WA WA.heap.size 2 hzA.symm (by omega)
  rw [← hWA] at X1 Y1 kE t2
  have k24 := (t2.trans t3).trans t4
  have KA4 : Only [] WA w4 := kE.trans k24
  have A0 := A0'.keep k24
  have I2 := (I1.keep t3).keep t4
  have r34 := Rp.keep r3 t4
  have hF1 := F1.ge
  have hF3 := F3.ge
  have hsz2 := t2.size
  simp at hsz2
  clear hWA x0 x1 x2 y0 y1 y2 y3 Y3 hS A0' F1 F3 r1 I1 r3 X0
  obtain ⟨ls, hls⟩ : ∃ ls, ls = ltrs x.moves.length := ⟨_, rfl⟩
  rw [← hls] at I2 ⊢
  have Hls := Lib.hid hls
  have D0 : DWn x tg WA w4 2 f1 w4 (.slice (some ⟨w1.heap.size + 1, 0, none⟩) 0 0) u3 [] e0 f3 := by
    refine ⟨A0, by rw [He2.out]; exact r34, fun b hb he => ?_, KA4, fun _ _ => rfl, fun b hb he => ?_, fun b hb => I2.lt b hb⟩
    · have := hF3 b hb; simp [Value.ownBlock] at he; omega
    · have := hF1 b hb; simp [Value.ownBlock] at he; simp at this; omega
  clear A0 r34 hls k24 t2 t3 t4 hF1 hF3 kE
  go_loopw [8, 10, 11] (fun o s2 d wr => ∃ (n i : Nat) (f2 : List Nat) (dn : List Int), d = .int .i64 n ∧ n ≤ 3000 ∧ dn.length + n = N ∧ i < tg.patterns.length ∧ tg.distances.getD i 0 = n ∧ dn ++ oW x tg n (tg.patterns.getD i []) = oW x tg N s0 ∧ DWn x tg WA w4 2 f1 wr o s2 dn i f2)
    (fun _ _ d _ => (intOf d).toNat)
  case atStart => exact ⟨N, e0, f3, [], rfl, hN3, by simp, he0, HN.out, by rw [Hs0.out]; rfl, D0⟩
  case round =>
    obtain ⟨W3, hnew⟩ : ∃ W, W = wr := ⟨_, rfl⟩
    subst hnew
    obtain ⟨n, i, f2, dn, rfl, hn3, hlen, hil, hdi, hcat, hD⟩ := hrel
    have Hcat := Lib.hid hcat
    have Hdi := Lib.hid hdi
    have Hlen := Lib.hid hlen
    clear hcat hdi hlen
    by_cases hn : 0 < n
    · obtain ⟨m, hm⟩ : ∃ m, n = m + 1 := ⟨n - 1, by omega⟩
      have hm1 : m + 1 ≤ n := by omega
      have hm2 : n ≤ m + 1 := by omega
      have Hm := Lib.hid hm
      obtain ⟨k, j, hDn⟩ := Hb.out.down hil (n := m) (by rw [Hdi.out, hm]; push_cast; rfl)
      clear hm
      have hkl : k < ls.length := by rw [Hls.out]; exact hDn.hk
      have HDn := Lib.hid hDn
      clear hDn
      go_wp2
      go_loopw [8, 10, 12] (fun o s2 c wr => ∃ j' : Nat, j' ≤ k ∧ c = .int .i64 j' ∧ s2 = u10 ∧ o = u8 ∧ Only [] W3 wr)
        (fun _ _ c _ => ls.length - (intOf c).toNat)
      case atStart => exact ⟨0, Nat.zero_le _, rfl, rfl, rfl, Only.refl _ _⟩
      case round =>
        obtain ⟨j', hj', rfl, rfl, rfl, hK⟩ := hrel
        obtain ⟨W4, hnew⟩ : ∃ W, W = wr := ⟨_, rfl⟩
        subst hnew
        have hD4 := hD.keep hK
        have hjl : j' < ls.length := by omega
        have I4 := hD4.ints I2 (by intro b hb; exact hb)
        have hlb := I4.bound
        obtain ⟨b3, off3, rfl, -, hc3⟩ := I4.at_ j' hjl
        have X4 := X1.keep hD4.on
        have Y4 := Y1.keep hD4.on
        have x0 := X4.cell 0 rfl
        have x1 := X4.cell 1 rfl
        have x2 := X4.cell 2 rfl
        have hrd := hD4.rd
        have K4 : Only [] w W4 := KWA.trans hD4.on
        have KA4 := hD4.on
        have hla : ls[j'] ∈ ltrs x.moves.length := by rw [← Hls.out]; exact List.getElem_mem hjl
        obtain ⟨i', hi', hnx, -, -⟩ := Hb.out.step hil hla
        have hpat := Hb.out.bi.pat _ (Hb.out.mem_of hil)
        have Hrng := Lib.hid (patB_iff.1 hpat).2.1
        have hql : (tg.patterns.getD i []).length ≤ 1000 := by rw [Hlen0.out i hil]; exact hgl
        have hI : I64 ls[j'] := by have := mem_ltrs.1 hla; unfold I64; omega
        have HI := Lib.hid hI
        have Hla := Lib.hid hla
        obtain ⟨cur, hcur⟩ : ∃ cur, cur = tg.patterns.getD i [] := ⟨_, rfl⟩
        have Hcur := Lib.hid hcur
        rw [← hcur] at hrd hql hnx
        rw [← hcur] at Hrng
        clear hpat hla hI hcur
        have Hc := Lib.hid (fun (W : World) (hh : Only [] W4 W) => applyLetter_any [.int .i64 x.points, .string x.names, v2] x _ u10 cur _ ls[j'] W (Rp.keep h0 (K4.trans hh)) (Rp.keep hrd hh) Hb.out.v Hla.out Hrng.out hql)
        go_wp2
        go_region_held3 (fun w' => Only [] W4 w' ∧ w'.cell? ⟨w.heap.size, 0, none⟩ = some (.int .i64 x.points) ∧ w'.cell? ⟨w.heap.size, 1, none⟩ = some (.string x.names) ∧ w'.cell? ⟨w.heap.size, 2, none⟩ = some (v2) ∧ w'.cell? ⟨b3, off3 + j', none⟩ = some (.int .i64 ls[j'])) (((refine and_of ?_ (fun h__ => ⟨h__.cell (by simp) x0, h__.cell (by simp) x1, h__.cell (by simp) x2, h__.cell (by simp) hc3⟩)); first | exact (Only.refl _ _).drew | exact ((Only.refl _ _).drewN _).drew | exact Only.trans (And.left (by assumption)) (by assumption) | exact Only.alloc (And.left (by assumption)) _ | assumption)) (first | (go_at_call 128; (with_reducible refine (Hc.out _ (And.left (by assumption))).mono ?_); rintro e w5 ⟨u5, f5, rfl, r5, F5, t5⟩; have F5' := F5.mono (((Only.refl [] W4).trans (And.left (by assumption))).size)) | fail "no arm")
        have k5 : Only [] W4 w5 := (Only.refl [] W4).trans (And.left (by assumption))
        obtain ⟨s', hs'⟩ : ∃ s', s' = nxt x cur ls[j'] := ⟨_, rfl⟩
        rw [← hs'] at r5 hnx
        have Hl' := Lib.hid (show s'.length = goal.length by rw [← hnx]; exact Hlen0.out i' hi')
        have hd' : depT tg s' = tg.distances.getD i' 0 := depT_at Hb.out hi' hnx
        have hS5 := hSA.keep (KA4.trans k5)
        have Y5 := Y4.keep k5
        have y0 := Y5.cell 0 rfl
        have y1 := Y5.cell 1 rfl
        have y2 := Y5.cell 2 rfl
        have y3 := Y5.cell 3 rfl
        have I5 := I4.keep k5
        obtain ⟨b3', off3', e3, -, hc5⟩ := I5.at_ j' hjl
        injection e3 with e3; injection e3 with e3 e4; subst e3; subst e4
        have hD5 := hD4.keep k5
        have Hs' := Lib.hid hs'
        have Hnx := Lib.hid hnx
        have Hd' := Lib.hid hd'
        clear x0 x1 x2 hc3 X4 Y4 I4 Hc hrd hs' hnx hd'
        by_cases hjk : j' = k
        · subst hjk
          have hjj : tg.patterns.getD j [] = s' := by rw [HDn.out.nx, Hs'.out, Hcur.out]; simp [Hls.out]
          have Hjj := Lib.hid hjj
          have Hdm := Lib.hid ((depT_at Hb.out HDn.out.hj hjj).trans HDn.out.ds : depT tg s' = m)
          clear hjj
          have hdl : dn.length + 1 ≤ 1073741824 := by have := Hlen.out; omega
          have hcmp : ((m : Int) == (n : Int) - 1) = true := by simp; omega
          go_wp2_with (first
            | (go_at_call 134; (with_reducible refine (depthOf_gen x tg goal.length _ u5 s' f5 _ hS5 Hb.out (Rp.keep r5 (by with_reducible repeat (first | exact Only.refl _ _ | assumption | refine Only.drewN ?_ _ | refine Only.drew ?_ | refine Only.alloc ?_ _ | refine Only.setCell ?_ (by intro hh; exfalso; simp at hh; try omega) _ | refine Only.trans ?_ (by assumption)))) Hl'.out).mono ?_); rintro e w6 ⟨he, t6⟩; rw [Hdm.out] at he; subst he; have hc6 := t6.cell (by simp) hc5; have hD6 := hD5.keep t6; have hB6 := hD6.on.size)
            | (at_builtin; refine wpList_pushI rfl _ _ 25 rfl WA.heap.size 2 iI _ Tryz.underlying25 hi hz0 hz1 hz2 rfl w6 _ dn rfl hD6.acc ((Only.refl _ _).alloc _) hB6 w6.heap.size 1 ls[j'] rfl (lit1 w6 _ _ rfl) HI.out hdl ?_; intro v9 w9 hA9 hO9 hP9 hN9)
            | fail "no arm")
          have hf5 : ∀ b ∈ f5, u8.ownBlock ≠ some b := fun b hb he => by
            obtain ⟨fs7, hA7⟩ := hD4.acc
            have := (hA7.ownlt b he).2
            have := F5'.ge b hb
            omega
          have hD9 := DWn.step hD6 ((Only.refl _ _).alloc _) hA9 hO9 hN9 hP9 (j := j) (Rp.keep (Rp.keep (show Rd w5 u5 (tg.patterns.getD j []) f5 by rw [Hjj.out]; exact r5) t6) ((Only.refl _ _).alloc _)) hf5
          exact ⟨⟨m, j, f5, dn ++ [ls[j']], by congr 1; omega, by omega, by have := Hlen.out; simp; omega, HDn.out.hj, HDn.out.ds, by rw [← Hcat.out, Hm.out, HDn.out.oW_]; simp [Hls.out], hD9⟩, by simp [intOf]; omega⟩
        · have hne := (HDn.out.no j' (by omega) i' hi' (by rw [Hnx.out, Hs'.out, Hcur.out]; simp [Hls.out])).1
          have hdr := Hb.out.dep i' hi'
          obtain ⟨d', hd9⟩ : ∃ d', d' = tg.distances.getD i' 0 := ⟨_, rfl⟩
          rw [← hd9] at hne hdr
          have Hdd := Lib.hid (Hd'.out.trans hd9.symm)
          have hcmp : (d' == (n : Int) - 1) = false := by simp; omega
          clear hd9 hne hdr
          go_wp2_with (first
            | (go_at_call 134; (with_reducible refine (depthOf_gen x tg goal.length _ u5 s' f5 _ hS5 Hb.out (Rp.keep r5 (by with_reducible repeat (first | exact Only.refl _ _ | assumption | refine Only.drewN ?_ _ | refine Only.drew ?_ | refine Only.alloc ?_ _ | refine Only.setCell ?_ (by intro hh; exfalso; simp at hh; try omega) _ | refine Only.trans ?_ (by assumption)))) Hl'.out).mono ?_); rintro e w6 ⟨he, t6⟩; rw [Hdd.out] at he; subst he)
            | fail "no arm")
          go_roundw
          case rel => exact ⟨j' + 1, by omega, by go_num, rfl, rfl, hK.trans (k5.trans t6)⟩
          case measure => simp [intOf]; omega
    · obtain rfl : n = 0 := by omega
      have hfin : dn = oW x tg N s0 := by have := Hcat.out; rwa [show oW x tg 0 (tg.patterns.getD i []) = [] from rfl, List.append_nil] at this
      have Hfin := Lib.hid hfin
      clear hfin
      go_wp2
      go_ret
      exact ⟨_, _, rfl, by rw [← Hfin.out]; exact hD.acc.rd, hD.acc.fresh.mono KWA.size, KWA.trans hD.on⟩
end Go.Proofs.YtclhblofchfglaaGreat

namespace Go.Proofs.YtclhblofchfglaaGreat
open Go.RowKit
set_option maxRecDepth 10000

/-- a goal and the next -/
def pairB (a b : List Int) : Bool := decide (a.length < b.length) && a.all (fun z => decide (z ∈ b))
theorem growB_iff : ∀ {l : List (List Int)}, growB l = true ↔ ∀ i : Nat, i + 1 < l.length → pairB (l.getD i []) (l.getD (i + 1) []) = true
  | [] => by simp [growB]
  | [a] => by simp [growB]
  | a :: b :: l => by
    have e : growB (a :: b :: l) = (pairB a b && growB (b :: l)) := rfl
    rw [e, Bool.and_eq_true, growB_iff]
    constructor
    · rintro ⟨h1, h2⟩ i hi
      cases i with
      | zero => exact h1
      | succ i => exact h2 i (by simpa using hi)
    · intro h
      exact ⟨h 0 (by simp), fun i hi => h (i + 1) (by simpa using hi)⟩
/-- the first j goals are right -/
def okTo (x : Puzzle) (goals : List (List Int)) (j : Nat) : Prop := ∀ i : Nat, i < j → trackB x.points (goals.getD i []) = true ∧ (0 < i → pairB (goals.getD (i - 1) []) (goals.getD i []) = true)
theorem okTo.next {x : Puzzle} {goals : List (List Int)} {j : Nat} (h : okTo x goals j) (h1 : trackB x.points (goals.getD j []) = true) (h2 : 0 < j → pairB (goals.getD (j - 1) []) (goals.getD j []) = true) : okTo x goals (j + 1) := fun i hi => by
  rcases Nat.lt_or_ge i j with h3 | h3
  · exact h i h3
  · obtain rfl : i = j := by omega
    exact ⟨h1, h2⟩
theorem okTo_iff {x : Puzzle} {goals : List (List Int)} : okTo x goals goals.length ↔ goals.all (trackB x.points) = true ∧ growB goals = true := by
  rw [List.all_eq_true, growB_iff]
  constructor
  · intro h
    refine ⟨fun g hg => ?_, fun i hi => ?_⟩
    · obtain ⟨i, hi, rfl⟩ := List.getElem_of_mem hg
      have := (h i hi).1
      rwa [getD_get hi] at this
    · exact (h (i + 1) hi).2 (by omega)
  · rintro ⟨h1, h2⟩ i hi
    refine ⟨h1 _ (by rw [getD_get hi]; exact List.getElem_mem hi), fun h0 => ?_⟩
    have := h2 (i - 1) (by omega)
    rwa [show i - 1 + 1 = i by omega] at this
theorem methB_no1 {x : Puzzle} {goals : List (List Int)} (h : validPz x = false) : methB x goals = false := by unfold methB; rw [h]; rfl
theorem methB_no2 {x : Puzzle} {goals : List (List Int)} (h : inR (goals.length : Int) 1 5 = false) : methB x goals = false := by
  unfold methB
  rw [decide_eq_false (p := 1 ≤ goals.length ∧ goals.length ≤ 5) (fun hc => ?_)]
  · simp
  · have : inR (goals.length : Int) 1 5 = true := inR_iff.2 (by omega)
    rw [h] at this; cases this
theorem methB_no3 {x : Puzzle} {goals : List (List Int)} {j : Nat} (hj : j < goals.length) (h : ¬ (trackB x.points (goals.getD j []) = true ∧ (0 < j → pairB (goals.getD (j - 1) []) (goals.getD j []) = true))) : methB x goals = false := by
  rw [Bool.eq_false_iff]
  intro hm
  obtain ⟨-, -, m3, m4, -⟩ := methB_parts hm
  exact h (okTo_iff.2 ⟨List.all_eq_true.2 m3, m4⟩ j hj)
theorem methB_end {x : Puzzle} {goals : List (List Int)} (h1 : validPz x = true) (h2 : inR (goals.length : Int) 1 5 = true) (h3 : okTo x goals goals.length) : methB x goals = (((goals.getD (goals.length - 1) []).length : Int) == x.points) := by
  obtain ⟨h4, h5⟩ := okTo_iff.1 h3
  have := inR_iff.1 h2
  unfold methB
  rw [h1, h4, h5, decide_eq_true (show 1 ≤ goals.length ∧ goals.length ≤ 5 by omega)]
  simp only [Bool.true_and, Bool.and_true]
  rw [Bool.eq_iff_iff, decide_eq_true_iff, beq_iff_eq]
end Go.Proofs.YtclhblofchfglaaGreat

namespace Go.Proofs.YtclhblofchfglaaGreat
open Go.RowKit
set_option maxRecDepth 10000
end Go.Proofs.YtclhblofchfglaaGreat

namespace Go.Proofs.YtclhblofchfglaaGreat
open Go.RowKit
set_option maxRecDepth 10000
open Go.Maps (Keyed)

theorem Tryz.zeroInt64 (w : World) : (zeroValue 2).run Tryz.prog w = .ok (.int .i64 0) w := by kernel_rfl
/-- block M is a map of at most k entries; g: what lies at a key -/
def Mq (w : World) (M k : Nat) (g : ByteArray → Option Int) : Prop :=
  ∃ D : DataW Unit, w.ownsMap Tryz.prog 9 (plainElem Tryz.prog 2) M k D ∧ ∀ s : ByteArray, s.size ≤ maxLen →
    Go.Maps.has D (.string s.data.toList) = (g s).isSome ∧ ∀ n, g s = some n → D.atKey (.string s.data.toList) (.lit (.int .i64 0)) = .lit (.int .i64 n)
theorem Mq.lt {w : World} {M k : Nat} {g : ByteArray → Option Int} (h : Mq w M k g) : M < w.heap.size := by
  obtain ⟨D, h1, -⟩ := h; exact h1.lt
theorem Mq.frame {w w' : World} {M k : Nat} {g : ByteArray → Option Int} (h : Mq w M k g) (hf : w'.heap[M]? = w.heap[M]?) : Mq w' M k g := by
  obtain ⟨D, ⟨es, c, h1, h2⟩, h3⟩ := h
  exact ⟨D, ⟨es, c, by rw [hf]; exact h1, h2⟩, h3⟩
theorem Mq.only {w w' : World} {fp : List Nat} {M k : Nat} {g : ByteArray → Option Int} (h : Mq w M k g) (ho : Only fp w w') (hn : M ∉ fp) : Mq w' M k g := h.frame (ho.block M h.lt hn)
theorem Mq.keep {w w' : World} {M k : Nat} {g : ByteArray → Option Int} (h : Mq w M k g) (ho : Only [] w w') : Mq w' M k g := h.only ho (by simp)
theorem Mq.made (w : World) {M : Nat} (hM : M = w.heap.size) : Mq (w.alloc (.map #[] 0)) M 0 (fun _ => none) := by
  subst hM
  exact ⟨.map [], World.ownsMap_made _ _ _ _, fun s _ => ⟨rfl, by simp⟩⟩
theorem Mq.congr {w : World} {M k : Nat} {g g' : ByteArray → Option Int} (h : Mq w M k g) (hg : ∀ s, g s = g' s) : Mq w M k g' := by
  have : g = g' := funext hg
  rw [← this]; exact h
section
variable {w : World} {M k : Nat} {g : ByteArray → Option Int}
/-- v, ok := m[k], as an equation -/
theorem Mq.run_ok (h : Mq w M k g) {s : ByteArray} (hs : s.size ≤ maxLen) : (Instr.lookup 138 (.map (some M)) (.string s) true).run Tryz.prog w = .ok (.tuple #[.int .i64 ((g s).getD 0), .bool (g s).isSome]) w := by
  obtain ⟨D, hown, hg⟩ := h
  obtain ⟨h1, h2⟩ := hg s hs
  obtain ⟨v, ps, hrun, hv⟩ := hown.look_ok Tryz.lawStr Tryz.underlying138 (Tryz.zeroInt64 w) (plainElem_int Tryz.underlying2 (by decide)) (Go.WideMaps.keyOf_string_mk Tryz.underlying9 hs)
  obtain ⟨c, rfl, hc, -⟩ := plainElem_int_inv Tryz.underlying2 hv
  have hc1 : D.atKey (.string s.data.toList) (.lit (.int .i64 0)) = .lit (.int .i64 c) := congrArg Prod.fst hc
  have hcv : c = (g s).getD 0 := by
    cases hgs : g s with
    | none =>
      rw [hgs] at h1
      rw [Go.Maps.atKey_of_not_has h1] at hc1
      injection hc1 with hc1; injection hc1 with _ hc1; simp [hc1]
    | some n =>
      rw [h2 n hgs] at hc1
      injection hc1 with hc1; injection hc1 with _ hc1; simp [hc1]
  rw [hrun, hcv, h1]
theorem Mq.run_no (h : Mq w M k g) {s : ByteArray} (hs : s.size ≤ maxLen) (hg : g s = none) : (Instr.lookup 138 (.map (some M)) (.string s) true).run Tryz.prog w = .ok (.tuple #[.int .i64 0, .bool false]) w := by
  rw [h.run_ok hs, hg]; rfl
theorem Mq.run_yes (h : Mq w M k g) {s : ByteArray} (hs : s.size ≤ maxLen) {n : Int} (hg : g s = some n) : (Instr.lookup 138 (.map (some M)) (.string s) true).run Tryz.prog w = .ok (.tuple #[.int .i64 n, .bool true]) w := by
  rw [h.run_ok hs, hg]; rfl
/-- m[k] = v -/
theorem Mq.run_put (h : Mq w M k g) {s : ByteArray} (hs : s.size ≤ maxLen) {n : Int} (hn : I64 n) (hk : k < maxLen) :
    ∃ w', (Instr.mapUpdate 138 (.map (some M)) (.string s) (.int .i64 n)).run Tryz.prog w = .ok () w' ∧ Mq w' M (k + 1) (fun s' => if s' = s then some n else g s') ∧ Only [M] w w' := by
  obtain ⟨D, hown, hg⟩ := h
  have hwf : (Lit.int .i64 n).wf = true := WalkArith.wf_i64 hn
  obtain ⟨w', hrun, r1, r2⟩ := hown.store Tryz.lawStr Tryz.underlying138 hk (Go.WideMaps.keyOf_string_mk Tryz.underlying9 hs) (plainElem_int Tryz.underlying2 hwf)
  have hmap := hown.isMap
  refine ⟨w', hrun, ⟨_, r1, fun s' hs' => ?_⟩, ?_⟩
  · by_cases he : s' = s
    · subst he
      have hkl : WideAt.IsKeyLit (Lit.string s'.data.toList) := trivial
      exact ⟨by rw [Go.Maps.has_put_same hmap hkl]; simp, fun m' hm' => by
        rw [Go.Maps.atKey_put_same hmap hkl]; simp at hm'; rw [hm']⟩
    · have hne : (Lit.string s'.data.toList) ≠ .string s.data.toList := by
        intro e; injection e with e
        apply he
        have : s'.data = s.data := Array.toList_inj.1 e
        cases s'; cases s; simp at this; rw [this]
      obtain ⟨h1, h2⟩ := hg s' hs'
      exact ⟨by rw [Go.Maps.has_put_other hne, h1]; simp [he], fun m' hm' => by
        rw [Go.Maps.atKey_put_other hne]; simp [he] at hm'; exact h2 m' hm'⟩
  · exact (Only.refl _ _).grown r2.grown (by intro j hj _; injection hj with hj; subst hj; simp)
end
theorem Mq.mono {w : World} {M k k' : Nat} {g : ByteArray → Option Int} (h : Mq w M k g) (hk : k ≤ k') : Mq w M k' g := by
  obtain ⟨D, h1, h2⟩ := h
  exact ⟨D, h1.mono hk, h2⟩
/-- a map as a value in memory: its entries -/
structure KM where
  g : ByteArray → Option Int
instance : Rp KM where
  size := 1
  rep w cs x fp := ∃ M k, cs = [.map (some M)] ∧ fp = [M] ∧ Mq w M k x.g
  len h := by obtain ⟨_, _, rfl, _⟩ := h; rfl
  frame h hf := by
    obtain ⟨M, k, h1, h2, h3⟩ := h
    subst h2
    exact ⟨M, k, h1, rfl, h3.frame (hf M (by simp))⟩
  lt h := by
    obtain ⟨M, k, h1, h2, h3⟩ := h
    subst h2
    intro b hb
    simp at hb; subst hb; exact h3.lt
end Go.Proofs.YtclhblofchfglaaGreat

namespace Go.Proofs.YtclhblofchfglaaGreat
open Go.RowKit
set_option maxRecDepth 10000

/-- where the first pattern with this key lies -/
def firstG (l : List (List Int)) (s : ByteArray) : Option Int := (l.findIdx? fun p => kB p = s).map fun i : Nat => (i : Int)
theorem firstG_nil (s : ByteArray) : firstG [] s = none := rfl
theorem firstG_snoc (l : List (List Int)) (p : List Int) (s : ByteArray) : firstG (l ++ [p]) s = match firstG l s with | some i => some i | none => if s = kB p then some (l.length : Int) else none := by
  unfold firstG
  rw [List.findIdx?_append]
  cases h : l.findIdx? (fun p => decide (kB p = s)) with
  | some i => simp
  | none =>
    by_cases hp : kB p = s
    · simp [hp]
    · have : ¬ s = kB p := fun e => hp e.symm
      simp [hp, this]
def Byt (l : List Int) : Prop := ∀ x ∈ l, 0 ≤ x ∧ x < 256
theorem firstG_idx {l : List (List Int)} (h : ∀ p ∈ l, Byt p) {q : List Int} (hq : Byt q) : firstG l (kB q) = if 0 ≤ idxL l q then some (idxL l q) else none := by
  have hfun : l.findIdx? (fun p => decide (kB p = kB q)) = l.findIdx? (fun p => decide (p = q)) := by
    induction l with
    | nil => rfl
    | cons p l ih =>
      rw [List.findIdx?_cons, List.findIdx?_cons, ih (fun r hr => h r (by simp [hr]))]
      have : decide (kB p = kB q) = decide (p = q) := by
        rw [decide_eq_decide]; exact kB_eq (h p (by simp)) hq
      rw [this]
  unfold firstG idxL idxF
  rw [hfun]
  cases l.findIdx? (fun p => decide (p = q)) with
  | some i => simp
  | none => simp
theorem patB_byt {n : Int} {k : Nat} {l : List Int} (h : patB n k l = true) (hn : n ≤ 256) : Byt l := fun x hx => by
  have := (patB_iff.1 h).2.1 x hx; omega
end Go.Proofs.YtclhblofchfglaaGreat

namespace Go.Proofs.YtclhblofchfglaaGreat
open Go.RowKit
set_option maxRecDepth 10000

/-- the entries of a table's map, of the first j patterns -/
def tabG (t : Table) (j : Nat) (s : ByteArray) : Option Int := (firstG (t.patterns.take j) s).map fun i => t.distances.getD i.toNat 0
def kmOf (t : Table) : KM := ⟨tabG t t.patterns.length⟩
/-- the bounds of tables in memory: the box at g -/
def BD (w : World) (g : Nat) (ts : List Table) (ft : List Nat) : Prop :=
  ∃ vt vm fm, Blk w g [vt, vm] ∧ Rd w vt ts ft ∧ Rd w vm (ts.map kmOf) fm
theorem BD.keep {w w' : World} {g : Nat} {ts : List Table} {ft : List Nat} (h : BD w g ts ft) (ho : Only [] w w') : BD w' g ts ft := by
  obtain ⟨vt, vm, fm, a, b, c⟩ := h
  exact ⟨vt, vm, fm, a.keep ho, Rp.keep b ho, Rp.keep c ho⟩
end Go.Proofs.YtclhblofchfglaaGreat

namespace Go.Proofs.YtclhblofchfglaaGreat
open Go.RowKit
set_option maxRecDepth 10000

structure Claim where
  kind : Int
  value : Int
instance : Rp Claim where
  size := 2
  rep _ cs x fp := cs = [Value.int .i64 x.kind, Value.int .i64 x.value] ∧ I64 x.kind ∧ I64 x.value ∧ fp = []
  len h := by rw [h.1]; rfl
  frame h _ := h
  lt h := by rw [h.2.2.2]; simp
theorem Claim.eq_iff {x y : Claim} : x = y ↔ x.kind = y.kind ∧ x.value = y.value := by
  cases x; cases y; simp
end Go.Proofs.YtclhblofchfglaaGreat

namespace Go.Proofs.YtclhblofchfglaaGreat
open Go.RowKit
set_option maxRecDepth 10000

structure Certificate where
  kind : Int
  numbers : List Int
  words : List (List Int)
  tables : List Table

instance : Rp Certificate where
  size := 4
  rep w cs x fp := ∃ v1 v2 v3 f1 f2 f3, cs = [Value.int .i64 x.kind] ++ [v1] ++ [v2] ++ [v3] ∧ fp = f1 ++ (f2 ++ f3) ∧ I64 x.kind ∧ Rd w v1 x.numbers f1 ∧ Rd w v2 x.words f2 ∧ Rd w v3 x.tables f3
  len h := by
    obtain ⟨v1, v2, v3, f1, f2, f3, rfl, -, p0, h1, h2, h3⟩ := h
    rfl
  frame h hf := by
    obtain ⟨v1, v2, v3, f1, f2, f3, hcs, rfl, p0, h1, h2, h3⟩ := h
    exact ⟨v1, v2, v3, f1, f2, f3, hcs, rfl, p0, Rp.frame h1 fun b hb => hf b (by simp [hb]), Rp.frame h2 fun b hb => hf b (by simp [hb]), Rp.frame h3 fun b hb => hf b (by simp [hb])⟩
  lt h := by
    obtain ⟨v1, v2, v3, f1, f2, f3, hcs, rfl, p0, h1, h2, h3⟩ := h
    intro b hb
    simp only [List.mem_append] at hb
    rcases hb with hb | hb | hb
    · exact Rp.lt h1 b hb
    · exact Rp.lt h2 b hb
    · exact Rp.lt h3 b hb

instance : Mk Certificate where
  mark k x := ⟨x.kind, Mk.mark (k) x.numbers, Mk.mark (k + (Mk.cnt x.numbers : Nat)) x.words, Mk.mark (k + (Mk.cnt x.numbers : Nat) + (Mk.cnt x.words : Nat)) x.tables⟩
  cnt x := Mk.cnt x.numbers + Mk.cnt x.words + Mk.cnt x.tables
instance : Sz Certificate where
  sz x := Sz.sz x.numbers + Sz.sz x.words + Sz.sz x.tables
instance : Sm Certificate where
  sm x := Sm.sm x.numbers ∧ Sm.sm x.words ∧ Sm.sm x.tables
instance : SzSm Certificate := ⟨fun x h => by
  have h' : Sz.sz x.numbers + Sz.sz x.words + Sz.sz x.tables ≤ 2097152 := h
  exact ⟨SzSm.of_ _ (by omega), SzSm.of_ _ (by omega), SzSm.of_ _ (by omega)⟩⟩
instance : CntSz Certificate := ⟨fun x => by
  have h' : Mk.cnt x.numbers + Mk.cnt x.words + Mk.cnt x.tables ≤ Sz.sz x.numbers + Sz.sz x.words + Sz.sz x.tables := by have := CntSz.le x.numbers; have := CntSz.le x.words; have := CntSz.le x.tables; omega
  exact h'⟩
instance : MkL Certificate := ⟨fun k x => by simp [Mk.mark, Mk.cnt, markL_idem, markL_cnt], fun k x => by simp [Mk.mark, Mk.cnt, markL_cnt]⟩
theorem Certificate.eq_iff {x y : Certificate} : x = y ↔ x.kind = y.kind ∧ x.numbers = y.numbers ∧ x.words = y.words ∧ x.tables = y.tables := by
  cases x; cases y; simp

set_option maxHeartbeats 1000000 in
theorem eqCertificate_any (cs cs' : List Value) (x y : Certificate) (fp fp' : List Nat) (w : World) (h : Rp.rep w cs x fp) (h' : Rp.rep w cs' y fp') :
    Calls Tryz.prog 14 #[.agg cs.toArray, .agg cs'.toArray] w fun e w' => e = .returned (.bool (eqV x y)) ∧ Only [] w w' := by
  obtain ⟨v1, v2, v3, f1, f2, f3, rfl, rfl, p0, h1, h2, h3⟩ := h
  obtain ⟨v1', v2', v3', f1', f2', f3', rfl, rfl, p0', h1', h2', h3'⟩ := h'
  by_cases q0 : x.kind ≠ y.kind
  · have b0 : (x.kind != y.kind) = true := by simpa using q0
    go_enter Tryz.func14, Tryz.ntmps14
    go_wp2_with (first | (go_at_call 17; (with_reducible refine (eqInt64S_rd v1 v1' x.numbers y.numbers _ _ _ (Rp.keep h1 (by with_reducible repeat (first | exact Only.refl _ _ | assumption | refine Only.drewN ?_ _ | refine Only.drew ?_ | refine Only.alloc ?_ _ | refine Only.setCell ?_ (by intro hh; exfalso; simp at hh; try omega) _ | refine Only.trans ?_ (by assumption)))) (Rp.keep h1' (by with_reducible repeat (first | exact Only.refl _ _ | assumption | refine Only.drewN ?_ _ | refine Only.drew ?_ | refine Only.alloc ?_ _ | refine Only.setCell ?_ (by intro hh; exfalso; simp at hh; try omega) _ | refine Only.trans ?_ (by assumption))))).mono ?_); rintro e w1 ⟨rfl, n1, rfl⟩) | (go_at_call 16; (with_reducible refine (eqInt64SS_rd v2 v2' x.words y.words _ _ _ (Rp.keep h2 (by with_reducible repeat (first | exact Only.refl _ _ | assumption | refine Only.drewN ?_ _ | refine Only.drew ?_ | refine Only.alloc ?_ _ | refine Only.setCell ?_ (by intro hh; exfalso; simp at hh; try omega) _ | refine Only.trans ?_ (by assumption)))) (Rp.keep h2' (by with_reducible repeat (first | exact Only.refl _ _ | assumption | refine Only.drewN ?_ _ | refine Only.drew ?_ | refine Only.alloc ?_ _ | refine Only.setCell ?_ (by intro hh; exfalso; simp at hh; try omega) _ | refine Only.trans ?_ (by assumption))))).mono ?_); rintro e w2 ⟨rfl, n2, rfl⟩) | (go_at_call 36; (with_reducible refine (eqTableS_rd v3 v3' x.tables y.tables _ _ _ (Rp.keep h3 (by with_reducible repeat (first | exact Only.refl _ _ | assumption | refine Only.drewN ?_ _ | refine Only.drew ?_ | refine Only.alloc ?_ _ | refine Only.setCell ?_ (by intro hh; exfalso; simp at hh; try omega) _ | refine Only.trans ?_ (by assumption)))) (Rp.keep h3' (by with_reducible repeat (first | exact Only.refl _ _ | assumption | refine Only.drewN ?_ _ | refine Only.drew ?_ | refine Only.alloc ?_ _ | refine Only.setCell ?_ (by intro hh; exfalso; simp at hh; try omega) _ | refine Only.trans ?_ (by assumption))))).mono ?_); rintro e w3 ⟨rfl, hk3⟩))
    go_ret
    exact ⟨ret_bool (eqV_no (fun he => q0 (Certificate.eq_iff.1 he).1)).symm, (by with_reducible repeat (first | exact Only.refl _ _ | assumption | refine Only.drewN ?_ _ | refine Only.drew ?_ | refine Only.alloc ?_ _ | refine Only.setCell ?_ (by intro hh; exfalso; simp at hh; try omega) _ | refine Only.trans ?_ (by assumption)))⟩
  have q0 : x.kind = y.kind := Classical.not_not.1 q0
  have b0 : (x.kind != y.kind) = false := by simpa using q0
  have Q0 := Lib.hid q0
  clear q0
  rcases q1 : eqV x.numbers y.numbers
  · go_enter Tryz.func14, Tryz.ntmps14
    go_wp2_with (first | (go_at_call 17; (with_reducible refine (eqInt64S_rd v1 v1' x.numbers y.numbers _ _ _ (Rp.keep h1 (by with_reducible repeat (first | exact Only.refl _ _ | assumption | refine Only.drewN ?_ _ | refine Only.drew ?_ | refine Only.alloc ?_ _ | refine Only.setCell ?_ (by intro hh; exfalso; simp at hh; try omega) _ | refine Only.trans ?_ (by assumption)))) (Rp.keep h1' (by with_reducible repeat (first | exact Only.refl _ _ | assumption | refine Only.drewN ?_ _ | refine Only.drew ?_ | refine Only.alloc ?_ _ | refine Only.setCell ?_ (by intro hh; exfalso; simp at hh; try omega) _ | refine Only.trans ?_ (by assumption))))).mono ?_); rintro e w1 ⟨rfl, n1, rfl⟩) | (go_at_call 16; (with_reducible refine (eqInt64SS_rd v2 v2' x.words y.words _ _ _ (Rp.keep h2 (by with_reducible repeat (first | exact Only.refl _ _ | assumption | refine Only.drewN ?_ _ | refine Only.drew ?_ | refine Only.alloc ?_ _ | refine Only.setCell ?_ (by intro hh; exfalso; simp at hh; try omega) _ | refine Only.trans ?_ (by assumption)))) (Rp.keep h2' (by with_reducible repeat (first | exact Only.refl _ _ | assumption | refine Only.drewN ?_ _ | refine Only.drew ?_ | refine Only.alloc ?_ _ | refine Only.setCell ?_ (by intro hh; exfalso; simp at hh; try omega) _ | refine Only.trans ?_ (by assumption))))).mono ?_); rintro e w2 ⟨rfl, n2, rfl⟩) | (go_at_call 36; (with_reducible refine (eqTableS_rd v3 v3' x.tables y.tables _ _ _ (Rp.keep h3 (by with_reducible repeat (first | exact Only.refl _ _ | assumption | refine Only.drewN ?_ _ | refine Only.drew ?_ | refine Only.alloc ?_ _ | refine Only.setCell ?_ (by intro hh; exfalso; simp at hh; try omega) _ | refine Only.trans ?_ (by assumption)))) (Rp.keep h3' (by with_reducible repeat (first | exact Only.refl _ _ | assumption | refine Only.drewN ?_ _ | refine Only.drew ?_ | refine Only.alloc ?_ _ | refine Only.setCell ?_ (by intro hh; exfalso; simp at hh; try omega) _ | refine Only.trans ?_ (by assumption))))).mono ?_); rintro e w3 ⟨rfl, hk3⟩))
    go_ret
    exact ⟨ret_bool (eqV_no (fun he => (eqV_iff'.1 q1) (Certificate.eq_iff.1 he).2.1)).symm, (by with_reducible repeat (first | exact Only.refl _ _ | assumption | refine Only.drewN ?_ _ | refine Only.drew ?_ | refine Only.alloc ?_ _ | refine Only.setCell ?_ (by intro hh; exfalso; simp at hh; try omega) _ | refine Only.trans ?_ (by assumption)))⟩
  rcases q2 : eqV x.words y.words
  · go_enter Tryz.func14, Tryz.ntmps14
    go_wp2_with (first | (go_at_call 17; (with_reducible refine (eqInt64S_rd v1 v1' x.numbers y.numbers _ _ _ (Rp.keep h1 (by with_reducible repeat (first | exact Only.refl _ _ | assumption | refine Only.drewN ?_ _ | refine Only.drew ?_ | refine Only.alloc ?_ _ | refine Only.setCell ?_ (by intro hh; exfalso; simp at hh; try omega) _ | refine Only.trans ?_ (by assumption)))) (Rp.keep h1' (by with_reducible repeat (first | exact Only.refl _ _ | assumption | refine Only.drewN ?_ _ | refine Only.drew ?_ | refine Only.alloc ?_ _ | refine Only.setCell ?_ (by intro hh; exfalso; simp at hh; try omega) _ | refine Only.trans ?_ (by assumption))))).mono ?_); rintro e w1 ⟨rfl, n1, rfl⟩) | (go_at_call 16; (with_reducible refine (eqInt64SS_rd v2 v2' x.words y.words _ _ _ (Rp.keep h2 (by with_reducible repeat (first | exact Only.refl _ _ | assumption | refine Only.drewN ?_ _ | refine Only.drew ?_ | refine Only.alloc ?_ _ | refine Only.setCell ?_ (by intro hh; exfalso; simp at hh; try omega) _ | refine Only.trans ?_ (by assumption)))) (Rp.keep h2' (by with_reducible repeat (first | exact Only.refl _ _ | assumption | refine Only.drewN ?_ _ | refine Only.drew ?_ | refine Only.alloc ?_ _ | refine Only.setCell ?_ (by intro hh; exfalso; simp at hh; try omega) _ | refine Only.trans ?_ (by assumption))))).mono ?_); rintro e w2 ⟨rfl, n2, rfl⟩) | (go_at_call 36; (with_reducible refine (eqTableS_rd v3 v3' x.tables y.tables _ _ _ (Rp.keep h3 (by with_reducible repeat (first | exact Only.refl _ _ | assumption | refine Only.drewN ?_ _ | refine Only.drew ?_ | refine Only.alloc ?_ _ | refine Only.setCell ?_ (by intro hh; exfalso; simp at hh; try omega) _ | refine Only.trans ?_ (by assumption)))) (Rp.keep h3' (by with_reducible repeat (first | exact Only.refl _ _ | assumption | refine Only.drewN ?_ _ | refine Only.drew ?_ | refine Only.alloc ?_ _ | refine Only.setCell ?_ (by intro hh; exfalso; simp at hh; try omega) _ | refine Only.trans ?_ (by assumption))))).mono ?_); rintro e w3 ⟨rfl, hk3⟩))
    go_ret
    exact ⟨ret_bool (eqV_no (fun he => (eqV_iff'.1 q2) (Certificate.eq_iff.1 he).2.2.1)).symm, (by with_reducible repeat (first | exact Only.refl _ _ | assumption | refine Only.drewN ?_ _ | refine Only.drew ?_ | refine Only.alloc ?_ _ | refine Only.setCell ?_ (by intro hh; exfalso; simp at hh; try omega) _ | refine Only.trans ?_ (by assumption)))⟩
  rcases q3 : eqV x.tables y.tables
  · go_enter Tryz.func14, Tryz.ntmps14
    go_wp2_with (first | (go_at_call 17; (with_reducible refine (eqInt64S_rd v1 v1' x.numbers y.numbers _ _ _ (Rp.keep h1 (by with_reducible repeat (first | exact Only.refl _ _ | assumption | refine Only.drewN ?_ _ | refine Only.drew ?_ | refine Only.alloc ?_ _ | refine Only.setCell ?_ (by intro hh; exfalso; simp at hh; try omega) _ | refine Only.trans ?_ (by assumption)))) (Rp.keep h1' (by with_reducible repeat (first | exact Only.refl _ _ | assumption | refine Only.drewN ?_ _ | refine Only.drew ?_ | refine Only.alloc ?_ _ | refine Only.setCell ?_ (by intro hh; exfalso; simp at hh; try omega) _ | refine Only.trans ?_ (by assumption))))).mono ?_); rintro e w1 ⟨rfl, n1, rfl⟩) | (go_at_call 16; (with_reducible refine (eqInt64SS_rd v2 v2' x.words y.words _ _ _ (Rp.keep h2 (by with_reducible repeat (first | exact Only.refl _ _ | assumption | refine Only.drewN ?_ _ | refine Only.drew ?_ | refine Only.alloc ?_ _ | refine Only.setCell ?_ (by intro hh; exfalso; simp at hh; try omega) _ | refine Only.trans ?_ (by assumption)))) (Rp.keep h2' (by with_reducible repeat (first | exact Only.refl _ _ | assumption | refine Only.drewN ?_ _ | refine Only.drew ?_ | refine Only.alloc ?_ _ | refine Only.setCell ?_ (by intro hh; exfalso; simp at hh; try omega) _ | refine Only.trans ?_ (by assumption))))).mono ?_); rintro e w2 ⟨rfl, n2, rfl⟩) | (go_at_call 36; (with_reducible refine (eqTableS_rd v3 v3' x.tables y.tables _ _ _ (Rp.keep h3 (by with_reducible repeat (first | exact Only.refl _ _ | assumption | refine Only.drewN ?_ _ | refine Only.drew ?_ | refine Only.alloc ?_ _ | refine Only.setCell ?_ (by intro hh; exfalso; simp at hh; try omega) _ | refine Only.trans ?_ (by assumption)))) (Rp.keep h3' (by with_reducible repeat (first | exact Only.refl _ _ | assumption | refine Only.drewN ?_ _ | refine Only.drew ?_ | refine Only.alloc ?_ _ | refine Only.setCell ?_ (by intro hh; exfalso; simp at hh; try omega) _ | refine Only.trans ?_ (by assumption))))).mono ?_); rintro e w3 ⟨rfl, hk3⟩))
    go_ret
    exact ⟨ret_bool (eqV_no (fun he => (eqV_iff'.1 q3) (Certificate.eq_iff.1 he).2.2.2)).symm, (by with_reducible repeat (first | exact Only.refl _ _ | assumption | refine Only.drewN ?_ _ | refine Only.drew ?_ | refine Only.alloc ?_ _ | refine Only.setCell ?_ (by intro hh; exfalso; simp at hh; try omega) _ | refine Only.trans ?_ (by assumption)))⟩
  go_enter Tryz.func14, Tryz.ntmps14
  go_wp2_with (first | (go_at_call 17; (with_reducible refine (eqInt64S_rd v1 v1' x.numbers y.numbers _ _ _ (Rp.keep h1 (by with_reducible repeat (first | exact Only.refl _ _ | assumption | refine Only.drewN ?_ _ | refine Only.drew ?_ | refine Only.alloc ?_ _ | refine Only.setCell ?_ (by intro hh; exfalso; simp at hh; try omega) _ | refine Only.trans ?_ (by assumption)))) (Rp.keep h1' (by with_reducible repeat (first | exact Only.refl _ _ | assumption | refine Only.drewN ?_ _ | refine Only.drew ?_ | refine Only.alloc ?_ _ | refine Only.setCell ?_ (by intro hh; exfalso; simp at hh; try omega) _ | refine Only.trans ?_ (by assumption))))).mono ?_); rintro e w1 ⟨rfl, n1, rfl⟩) | (go_at_call 16; (with_reducible refine (eqInt64SS_rd v2 v2' x.words y.words _ _ _ (Rp.keep h2 (by with_reducible repeat (first | exact Only.refl _ _ | assumption | refine Only.drewN ?_ _ | refine Only.drew ?_ | refine Only.alloc ?_ _ | refine Only.setCell ?_ (by intro hh; exfalso; simp at hh; try omega) _ | refine Only.trans ?_ (by assumption)))) (Rp.keep h2' (by with_reducible repeat (first | exact Only.refl _ _ | assumption | refine Only.drewN ?_ _ | refine Only.drew ?_ | refine Only.alloc ?_ _ | refine Only.setCell ?_ (by intro hh; exfalso; simp at hh; try omega) _ | refine Only.trans ?_ (by assumption))))).mono ?_); rintro e w2 ⟨rfl, n2, rfl⟩) | (go_at_call 36; (with_reducible refine (eqTableS_rd v3 v3' x.tables y.tables _ _ _ (Rp.keep h3 (by with_reducible repeat (first | exact Only.refl _ _ | assumption | refine Only.drewN ?_ _ | refine Only.drew ?_ | refine Only.alloc ?_ _ | refine Only.setCell ?_ (by intro hh; exfalso; simp at hh; try omega) _ | refine Only.trans ?_ (by assumption)))) (Rp.keep h3' (by with_reducible repeat (first | exact Only.refl _ _ | assumption | refine Only.drewN ?_ _ | refine Only.drew ?_ | refine Only.alloc ?_ _ | refine Only.setCell ?_ (by intro hh; exfalso; simp at hh; try omega) _ | refine Only.trans ?_ (by assumption))))).mono ?_); rintro e w3 ⟨rfl, hk3⟩))
  go_ret
  exact ⟨ret_bool (eqV_yes (Certificate.eq_iff.2 ⟨Q0.out, eqV_iff.1 q1, eqV_iff.1 q2, eqV_iff.1 q3⟩)).symm, (by with_reducible repeat (first | exact Only.refl _ _ | assumption | refine Only.drewN ?_ _ | refine Only.drew ?_ | refine Only.alloc ?_ _ | refine Only.setCell ?_ (by intro hh; exfalso; simp at hh; try omega) _ | refine Only.trans ?_ (by assumption)))⟩

set_option maxHeartbeats 1000000 in
theorem heldCertificate_any (cs : List Value) (x : Certificate) (fp : List Nat) (k : Int) (w : World) (h : Rp.rep w cs x fp) (h0 : 0 ≤ k) (hc : k + (Mk.cnt x : Nat) ≤ 4611686018427387904) :
    Calls Tryz.prog 22 #[.agg cs.toArray, .int .i64 k] w fun e w' => e = .returned (.int .i64 (heldV k x)) ∧ Only [] w w' := by
  obtain ⟨v1, v2, v3, f1, f2, f3, rfl, rfl, p0, h1, h2, h3⟩ := h
  have hcc : Mk.cnt x = Mk.cnt x.numbers + Mk.cnt x.words + Mk.cnt x.tables := rfl
  have Hcc := Lib.hid hcc; clear hcc
  have hb1 : k + (Mk.cnt x.numbers : Nat) ≤ 4611686018427387904 := by have := Hcc.out; omega
  have hb2 : k + (Mk.cnt x.numbers : Nat) + (Mk.cnt x.words : Nat) ≤ 4611686018427387904 := by have := Hcc.out; omega
  have hb3 : k + (Mk.cnt x.numbers : Nat) + (Mk.cnt x.words : Nat) + (Mk.cnt x.tables : Nat) ≤ 4611686018427387904 := by have := Hcc.out; omega
  have hiff : x = Mk.mark k x ↔ x.numbers = Mk.mark (k) x.numbers ∧ x.words = Mk.mark (k + (Mk.cnt x.numbers : Nat)) x.words ∧ x.tables = Mk.mark (k + (Mk.cnt x.numbers : Nat) + (Mk.cnt x.words : Nat)) x.tables := by
    rw [Certificate.eq_iff]; simp [Mk.mark]
  have Hiff := Lib.hid hiff; clear hiff
  rcases heldV_pos (k) x.numbers with ⟨e1, m1⟩ | ⟨e1, m1⟩
  · have M1 := Lib.hid m1; clear m1
    go_enter Tryz.func22, Tryz.ntmps22
    go_wp2_with (first | (go_at_call 27; (with_reducible refine (heldInt64S_rd v1 x.numbers _ (k) _ (Rp.keep h1 (by with_reducible repeat (first | exact Only.refl _ _ | assumption | refine Only.drewN ?_ _ | refine Only.drew ?_ | refine Only.alloc ?_ _ | refine Only.setCell ?_ (by intro hh; exfalso; simp at hh; try omega) _ | refine Only.trans ?_ (by assumption)))) (by omega) hb1).mono ?_); rintro e w1 ⟨rfl, n1, rfl⟩) | (go_at_call 38; (with_reducible refine (heldInt64SS_rd v2 x.words _ (k + (Mk.cnt x.numbers : Nat)) _ (Rp.keep h2 (by with_reducible repeat (first | exact Only.refl _ _ | assumption | refine Only.drewN ?_ _ | refine Only.drew ?_ | refine Only.alloc ?_ _ | refine Only.setCell ?_ (by intro hh; exfalso; simp at hh; try omega) _ | refine Only.trans ?_ (by assumption)))) (by omega) hb2).mono ?_); rintro e w2 ⟨rfl, n2, rfl⟩) | (go_at_call 39; (with_reducible refine (heldTableS_rd v3 x.tables _ (k + (Mk.cnt x.numbers : Nat) + (Mk.cnt x.words : Nat)) _ (Rp.keep h3 (by with_reducible repeat (first | exact Only.refl _ _ | assumption | refine Only.drewN ?_ _ | refine Only.drew ?_ | refine Only.alloc ?_ _ | refine Only.setCell ?_ (by intro hh; exfalso; simp at hh; try omega) _ | refine Only.trans ?_ (by assumption)))) (by omega) hb3).mono ?_); rintro e w3 ⟨rfl, hk3⟩))
    go_ret
    exact ⟨ret_int (heldV_no (fun he => M1.out (Hiff.out.1 he).1)).symm, (by with_reducible repeat (first | exact Only.refl _ _ | assumption | refine Only.drewN ?_ _ | refine Only.drew ?_ | refine Only.alloc ?_ _ | refine Only.setCell ?_ (by intro hh; exfalso; simp at hh; try omega) _ | refine Only.trans ?_ (by assumption)))⟩
  have M1 := Lib.hid m1; clear m1
  rcases heldV_pos (k + (Mk.cnt x.numbers : Nat)) x.words with ⟨e2, m2⟩ | ⟨e2, m2⟩
  · have M2 := Lib.hid m2; clear m2
    go_enter Tryz.func22, Tryz.ntmps22
    go_wp2_with (first | (go_at_call 27; (with_reducible refine (heldInt64S_rd v1 x.numbers _ (k) _ (Rp.keep h1 (by with_reducible repeat (first | exact Only.refl _ _ | assumption | refine Only.drewN ?_ _ | refine Only.drew ?_ | refine Only.alloc ?_ _ | refine Only.setCell ?_ (by intro hh; exfalso; simp at hh; try omega) _ | refine Only.trans ?_ (by assumption)))) (by omega) hb1).mono ?_); rintro e w1 ⟨rfl, n1, rfl⟩) | (go_at_call 38; (with_reducible refine (heldInt64SS_rd v2 x.words _ (k + (Mk.cnt x.numbers : Nat)) _ (Rp.keep h2 (by with_reducible repeat (first | exact Only.refl _ _ | assumption | refine Only.drewN ?_ _ | refine Only.drew ?_ | refine Only.alloc ?_ _ | refine Only.setCell ?_ (by intro hh; exfalso; simp at hh; try omega) _ | refine Only.trans ?_ (by assumption)))) (by omega) hb2).mono ?_); rintro e w2 ⟨rfl, n2, rfl⟩) | (go_at_call 39; (with_reducible refine (heldTableS_rd v3 x.tables _ (k + (Mk.cnt x.numbers : Nat) + (Mk.cnt x.words : Nat)) _ (Rp.keep h3 (by with_reducible repeat (first | exact Only.refl _ _ | assumption | refine Only.drewN ?_ _ | refine Only.drew ?_ | refine Only.alloc ?_ _ | refine Only.setCell ?_ (by intro hh; exfalso; simp at hh; try omega) _ | refine Only.trans ?_ (by assumption)))) (by omega) hb3).mono ?_); rintro e w3 ⟨rfl, hk3⟩))
    go_ret
    exact ⟨ret_int (heldV_no (fun he => M2.out (Hiff.out.1 he).2.1)).symm, (by with_reducible repeat (first | exact Only.refl _ _ | assumption | refine Only.drewN ?_ _ | refine Only.drew ?_ | refine Only.alloc ?_ _ | refine Only.setCell ?_ (by intro hh; exfalso; simp at hh; try omega) _ | refine Only.trans ?_ (by assumption)))⟩
  have M2 := Lib.hid m2; clear m2
  rcases heldV_pos (k + (Mk.cnt x.numbers : Nat) + (Mk.cnt x.words : Nat)) x.tables with ⟨e3, m3⟩ | ⟨e3, m3⟩
  · have M3 := Lib.hid m3; clear m3
    go_enter Tryz.func22, Tryz.ntmps22
    go_wp2_with (first | (go_at_call 27; (with_reducible refine (heldInt64S_rd v1 x.numbers _ (k) _ (Rp.keep h1 (by with_reducible repeat (first | exact Only.refl _ _ | assumption | refine Only.drewN ?_ _ | refine Only.drew ?_ | refine Only.alloc ?_ _ | refine Only.setCell ?_ (by intro hh; exfalso; simp at hh; try omega) _ | refine Only.trans ?_ (by assumption)))) (by omega) hb1).mono ?_); rintro e w1 ⟨rfl, n1, rfl⟩) | (go_at_call 38; (with_reducible refine (heldInt64SS_rd v2 x.words _ (k + (Mk.cnt x.numbers : Nat)) _ (Rp.keep h2 (by with_reducible repeat (first | exact Only.refl _ _ | assumption | refine Only.drewN ?_ _ | refine Only.drew ?_ | refine Only.alloc ?_ _ | refine Only.setCell ?_ (by intro hh; exfalso; simp at hh; try omega) _ | refine Only.trans ?_ (by assumption)))) (by omega) hb2).mono ?_); rintro e w2 ⟨rfl, n2, rfl⟩) | (go_at_call 39; (with_reducible refine (heldTableS_rd v3 x.tables _ (k + (Mk.cnt x.numbers : Nat) + (Mk.cnt x.words : Nat)) _ (Rp.keep h3 (by with_reducible repeat (first | exact Only.refl _ _ | assumption | refine Only.drewN ?_ _ | refine Only.drew ?_ | refine Only.alloc ?_ _ | refine Only.setCell ?_ (by intro hh; exfalso; simp at hh; try omega) _ | refine Only.trans ?_ (by assumption)))) (by omega) hb3).mono ?_); rintro e w3 ⟨rfl, hk3⟩))
    go_ret
    exact ⟨ret_int (heldV_no (fun he => M3.out (Hiff.out.1 he).2.2)).symm, (by with_reducible repeat (first | exact Only.refl _ _ | assumption | refine Only.drewN ?_ _ | refine Only.drew ?_ | refine Only.alloc ?_ _ | refine Only.setCell ?_ (by intro hh; exfalso; simp at hh; try omega) _ | refine Only.trans ?_ (by assumption)))⟩
  have M3 := Lib.hid m3; clear m3
  go_enter Tryz.func22, Tryz.ntmps22
  go_wp2_with (first | (go_at_call 27; (with_reducible refine (heldInt64S_rd v1 x.numbers _ (k) _ (Rp.keep h1 (by with_reducible repeat (first | exact Only.refl _ _ | assumption | refine Only.drewN ?_ _ | refine Only.drew ?_ | refine Only.alloc ?_ _ | refine Only.setCell ?_ (by intro hh; exfalso; simp at hh; try omega) _ | refine Only.trans ?_ (by assumption)))) (by omega) hb1).mono ?_); rintro e w1 ⟨rfl, n1, rfl⟩) | (go_at_call 38; (with_reducible refine (heldInt64SS_rd v2 x.words _ (k + (Mk.cnt x.numbers : Nat)) _ (Rp.keep h2 (by with_reducible repeat (first | exact Only.refl _ _ | assumption | refine Only.drewN ?_ _ | refine Only.drew ?_ | refine Only.alloc ?_ _ | refine Only.setCell ?_ (by intro hh; exfalso; simp at hh; try omega) _ | refine Only.trans ?_ (by assumption)))) (by omega) hb2).mono ?_); rintro e w2 ⟨rfl, n2, rfl⟩) | (go_at_call 39; (with_reducible refine (heldTableS_rd v3 x.tables _ (k + (Mk.cnt x.numbers : Nat) + (Mk.cnt x.words : Nat)) _ (Rp.keep h3 (by with_reducible repeat (first | exact Only.refl _ _ | assumption | refine Only.drewN ?_ _ | refine Only.drew ?_ | refine Only.alloc ?_ _ | refine Only.setCell ?_ (by intro hh; exfalso; simp at hh; try omega) _ | refine Only.trans ?_ (by assumption)))) (by omega) hb3).mono ?_); rintro e w3 ⟨rfl, hk3⟩))
  go_ret
  exact ⟨ret_int (by rw [heldV_yes (Hiff.out.2 ⟨M1.out, M2.out, M3.out⟩)]; have := Hcc.out; omega), (by with_reducible repeat (first | exact Only.refl _ _ | assumption | refine Only.drewN ?_ _ | refine Only.drew ?_ | refine Only.alloc ?_ _ | refine Only.setCell ?_ (by intro hh; exfalso; simp at hh; try omega) _ | refine Only.trans ?_ (by assumption)))⟩


set_option maxHeartbeats 1000000 in
theorem markCertificate_any (cs : List Value) (x : Certificate) (fp : List Nat) (k : Int) (w : World) (h : Rp.rep w cs x fp) (hnd : fp.Nodup) (ho : Own w fp) (h0 : 0 ≤ k) (hc : k + (Mk.cnt x : Nat) ≤ 4611686018427387904) :
    Calls Tryz.prog 21 #[.agg cs.toArray, .int .i64 k] w fun e w' => e = .returned (.int .i64 (k + (Mk.cnt x : Nat))) ∧ Rp.rep w' cs (Mk.mark k x) fp ∧ Own w' fp ∧ Only fp w w' := by
  obtain ⟨v1, v2, v3, f1, f2, f3, rfl, rfl, p0, h1, h2, h3⟩ := h
  have hcc : Mk.cnt x = Mk.cnt x.numbers + Mk.cnt x.words + Mk.cnt x.tables := rfl
  have Hcc := Lib.hid hcc; clear hcc
  have hb1 : k + (Mk.cnt x.numbers : Nat) ≤ 4611686018427387904 := by have := Hcc.out; omega
  have hb2 : k + (Mk.cnt x.numbers : Nat) + (Mk.cnt x.words : Nat) ≤ 4611686018427387904 := by have := Hcc.out; omega
  have hb3 : k + (Mk.cnt x.numbers : Nat) + (Mk.cnt x.words : Nat) + (Mk.cnt x.tables : Nat) ≤ 4611686018427387904 := by have := Hcc.out; omega
  obtain ⟨n1, m1, d1, e1⟩ := nd_app hnd
  obtain ⟨n2, n3, d2, e2⟩ := nd_app m1
  have D12 : ∀ z ∈ f1, z ∉ f2 := (fun z hz hm => d1 z hz (List.mem_append_left _ hm))
  have D13 : ∀ z ∈ f1, z ∉ f3 := (fun z hz hm => d1 z hz (List.mem_append_right _ hm))
  have D21 : ∀ z ∈ f2, z ∉ f1 := (fun z hz hm => e1 z (List.mem_append_left _ hz) hm)
  have D23 : ∀ z ∈ f2, z ∉ f3 := (fun z hz hm => d2 z hz hm)
  have D31 : ∀ z ∈ f3, z ∉ f1 := (fun z hz hm => e1 z (List.mem_append_right _ hz) hm)
  have D32 : ∀ z ∈ f3, z ∉ f2 := (fun z hz hm => e2 z hz hm)
  have l1 := Rp.lt h1
  have l2 := Rp.lt h2
  have l3 := Rp.lt h3
  go_enter Tryz.func21, Tryz.ntmps21
  go_wp2_with (first | (go_at_call 20; (with_reducible refine (markInt64S_rd v1 x.numbers f1 (k) _ (Rp.keep h1 (by with_reducible repeat (first | exact Only.refl _ _ | assumption | refine Only.drewN ?_ _ | refine Only.drew ?_ | refine Only.alloc ?_ _ | refine Only.setCell ?_ (by intro hh; exfalso; simp at hh; try omega) _ | refine Only.trans ?_ (by assumption)))) (ho.left.keep (by with_reducible repeat (first | exact Only.refl _ _ | assumption | refine Only.drewN ?_ _ | refine Only.drew ?_ | refine Only.alloc ?_ _ | refine Only.setCell ?_ (by intro hh; exfalso; simp at hh; try omega) _ | refine Only.trans ?_ (by assumption)))) (by omega) hb1).mono ?_); rintro e w1 ⟨rfl, r1, o1, t1⟩; have s1 : w.heap.size < w1.heap.size := (Nat.lt_of_lt_of_le (by simp) t1.size); have q1 := t1.cells_eq w.heap.size (by simp) (fun hm => absurd (l1 _ hm) (by omega))) | (go_at_call 19; (with_reducible refine (markInt64SS_rd v2 x.words f2 (k + (Mk.cnt x.numbers : Nat)) _ (Rp.only (Rp.keep h2 (by with_reducible repeat (first | exact Only.refl _ _ | assumption | refine Only.drewN ?_ _ | refine Only.drew ?_ | refine Only.alloc ?_ _ | refine Only.setCell ?_ (by intro hh; exfalso; simp at hh; try omega) _ | refine Only.trans ?_ (by assumption)))) t1 D21) n2 ((ho.right.left.keep (by with_reducible repeat (first | exact Only.refl _ _ | assumption | refine Only.drewN ?_ _ | refine Only.drew ?_ | refine Only.alloc ?_ _ | refine Only.setCell ?_ (by intro hh; exfalso; simp at hh; try omega) _ | refine Only.trans ?_ (by assumption)))).only t1 D21) (by omega) hb2).mono ?_); rintro e w2 ⟨rfl, r2, o2, t2⟩; have s2 : w.heap.size < w2.heap.size := (Nat.lt_of_lt_of_le s1 t2.size); have q2 := t2.cells_eq w.heap.size s1 (fun hm => absurd (l2 _ hm) (by omega))) | (go_at_call 37; (with_reducible refine (markTableS_rd v3 x.tables f3 (k + (Mk.cnt x.numbers : Nat) + (Mk.cnt x.words : Nat)) _ (Rp.only (Rp.only (Rp.keep h3 (by with_reducible repeat (first | exact Only.refl _ _ | assumption | refine Only.drewN ?_ _ | refine Only.drew ?_ | refine Only.alloc ?_ _ | refine Only.setCell ?_ (by intro hh; exfalso; simp at hh; try omega) _ | refine Only.trans ?_ (by assumption)))) t1 D31) t2 D32) n3 (((ho.right.right.keep (by with_reducible repeat (first | exact Only.refl _ _ | assumption | refine Only.drewN ?_ _ | refine Only.drew ?_ | refine Only.alloc ?_ _ | refine Only.setCell ?_ (by intro hh; exfalso; simp at hh; try omega) _ | refine Only.trans ?_ (by assumption)))).only t1 D31).only t2 D32) (by omega) hb3).mono ?_); rintro e w3 ⟨rfl, r3, o3, t3⟩; have s3 : w.heap.size < w3.heap.size := (Nat.lt_of_lt_of_le s2 t3.size); have q3 := t3.cells_eq w.heap.size s2 (fun hm => absurd (l3 _ hm) (by omega))))
  go_ret
  have hk0 : Only [] w (w.alloc (.cells ([Value.int .i64 x.kind] ++ [v1] ++ [v2] ++ [v3]).toArray 30)) := (by with_reducible repeat (first | exact Only.refl _ _ | assumption | refine Only.drewN ?_ _ | refine Only.drew ?_ | refine Only.alloc ?_ _ | refine Only.setCell ?_ (by intro hh; exfalso; simp at hh; try omega) _ | refine Only.trans ?_ (by assumption)))
  exact ⟨ret_int (by have := Hcc.out; omega), ⟨v1, v2, v3, f1, f2, f3, rfl, rfl, p0, (Rp.only (Rp.only r1 t2 D12) t3 D13), (Rp.only r2 t3 D23), r3⟩, (((o1.only t2 D12).only t3 D13).append ((o2.only t3 D23).append o3)), (hk0.weaken _).trans (Only.trans (Only.trans (t1.mono (fun z hz _ => by simp [hz])) (t2.mono (fun z hz _ => by simp [hz]))) (t3.mono (fun z hz _ => by simp [hz])))⟩

end Go.Proofs.YtclhblofchfglaaGreat


namespace Go.Proofs.YtclhblofchfglaaGreat
open Go.RowKit
set_option maxRecDepth 10000
theorem tkU {P : Program} {ops : Array Oper} {Q : Exit → Act → World → Prop} {md : Region.Mode} {S : World → Prop} {oi : Oper} {fuel : Nat} {listed : Array Bool} {a : Act} {w : World} (i : Nat) (h : wpAnyH P md ops Q S fuel (listed.setIfInBounds i true) (a.put oi.dst undef) w) (hi : ops[i]? = some oi := by rfl)
    (hs : Region.noSelect ops = true := by kernel_rfl) (hf : Region.free md ops listed i = true := by kernel_rfl) (hr : (Region.ready md ops listed).contains i = true := by kernel_rfl) (hQ : ∀ c a w, Q (.panic c) (a.put oi.dst undef) w → Q (.panic c) a w := by exact fun _ _ _ h => h)
    (hy : Region.wanted oi (yielded ops a.tmps) = false := by rfl) (hS : S w := by assumption) : wpAnyH P md ops Q S (fuel + 1) listed a w := wpAnyH_take hi hs hf hr hQ (.inr ⟨hy, rfl⟩) hS h
theorem tkV {P : Program} {ops : Array Oper} {Q : Exit → Act → World → Prop} {md : Region.Mode} {S : World → Prop} {oi : Oper} {v : Value} {fuel : Nat} {listed : Array Bool} {a : Act} {w : World} (i : Nat) (hy : ∀ w, S w → (execOp a.eval oi).run P w = .ok (.value v) w) (h : wpAnyH P md ops Q S fuel (listed.setIfInBounds i true) (a.put oi.dst v) w) (hi : ops[i]? = some oi := by rfl)
    (hs : Region.noSelect ops = true := by kernel_rfl) (hf : Region.free md ops listed i = true := by kernel_rfl) (hr : (Region.ready md ops listed).contains i = true := by kernel_rfl) (hQ : ∀ c a w, Q (.panic c) (a.put oi.dst v) w → Q (.panic c) a w := by exact fun _ _ _ h => h)
    (hw : Region.wanted oi (yielded ops a.tmps) = true := by rfl) (hS : S w := by assumption) : wpAnyH P md ops Q S (fuel + 1) listed a w := wpAnyH_take hi hs hf hr hQ (.inl ⟨hw, hy⟩) hS h
theorem aT {α : Type} {l : List α} {i : Nat} (h : i < l.toArray.size) : l.toArray[i] = l[i]'(by simpa using h) := by simp
theorem aZ {α : Type} {a : α} {l : List α} (h : 0 < (a :: l).length) : (a :: l)[0] = a := rfl
theorem aS {α : Type} {a : α} {l : List α} {i : Nat} (h : i + 1 < (a :: l).length) : (a :: l)[i + 1] = l[i]'(by simpa using h) := rfl
theorem sB {α : Type} {l : List α} {i : Nat} {a : α} : l.toArray.setIfInBounds i a = (l.set i a).toArray := by simp
theorem sZ {α : Type} {a b : α} {l : List α} : (a :: l).set 0 b = b :: l := rfl
theorem sS {α : Type} {a b : α} {l : List α} {i : Nat} : (a :: l).set (i + 1) b = a :: l.set i b := rfl
end Go.Proofs.YtclhblofchfglaaGreat
