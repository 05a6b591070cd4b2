/- The reference's faults of an entry. (Written by mkspecent.py.) -/
import Derived.Test.YtpkplmnpepkdaaaGreatRowAdmissibleTablesG13
import Derived.Test.YtpkplmnpepkdaaaGreatRowAdmissibleTablesG1
import Derived.Deep.DeepCutAuto
namespace Go.Proofs.YtpkplmnpepkdaaaGreat
open Go.RowKit
set_option maxRecDepth 10000

theorem Tryz.infoFault : (Tryz.prog.info? 51).map (fun i => (i.zero, i.size, i.bytes)) = some (some (.agg #[.int .i64 0, .int .i64 0, .int .i64 0]), 3, 24) := by kernel_rfl
/-- the faults so far, beside the call's own blocks of G -/
def FR (w : World) (G : List Nat) (W wx : World) (v : Value) (L : List Fault) : Prop := AccK w (w.heap.size + 2) 51 G W wx v L
theorem FR.keep {w W wx wy : World} {G : List Nat} {v : Value} {L : List Fault} (h : FR w G W wx v L) (ho : Only [] wx wy) : FR w G W wy v L := AccK.keep h ho
theorem FR.only {w W wx : World} {G : List Nat} {v : Value} {L : List Fault} (h : FR w G W wx v L) : Only [] w wx := AccK.only h
theorem FR.cell {w W wx : World} {G : List Nat} {v : Value} {L : List Fault} (h : FR w G W wx v L) {p : Addr} {u : Value} (hc : W.cell? p = some u) (hs : p.block ∈ G) : wx.cell? p = some u := AccK.cell h hc hs
theorem one_true (f : Fault) : one true f = [f] := rfl
theorem one_false (f : Fault) : one false f = [] := rfl
theorem wp_fpush {ops : Array Oper} {rest : List Oper} {o : Oper} {a : Act} {Q : Exit → Act → World → Prop} {w w0 wx W : World} {G : List Nat} {v : Value} {L : List Fault}
    (hgd : o.guard = none) (s y : Operand) (ho : o.op = .call { callee := .builtin .append, args := #[s, y], argTypes := #[48, 48] })
    (hs : a.eval s = v) (hR : FR w G W w0 v L) (hG : w.heap.size + 1 ∈ G) (hK0 : Only [] w0 wx) (g c : Nat) (f : Fault) (hx : a.eval y = .slice (some ⟨g, 0, none⟩) 1 c)
    (hsrc : ∀ j u, [Value.int .i64 f.kind, Value.int .i64 f.entry, Value.int .i64 f.letter][j]? = some u → wx.cell? ⟨g, j, none⟩ = some u)
    (hf : I64 f.kind ∧ I64 f.entry ∧ I64 f.letter) (hlen : L.length + 1 ≤ 1073741824)
    (h : ∀ v' w', FR w G W w' v' (L ++ [f]) → wpList Tryz.prog ops Q rest (a.put o.dst v') w') : wpList Tryz.prog ops Q (o :: rest) a wx := by
  obtain ⟨i0, hi, hz0, hz1, hz2⟩ := info_parts Tryz.infoFault
  exact wpList_pushK hgd s y 48 ho 51 i0 _ 24 Tryz.underlying48 hi hz0 hz1 hz2 rfl (by decide) (by decide) hs hR hK0 (Nat.le_add_right _ _) (AccK.lt hR _ hG) g c _ f [] hx hsrc (by intro u hu; simp at hu; rcases hu with rfl | rfl | rfl <;> rfl) ⟨rfl, hf, rfl⟩ (Fresh.nil _ _) hlen
    fun v' w' h1 _ => h v' w' h1
theorem letF_miss {x : Puzzle} {t : Table} {i : Nat} {l : Int} (h : nextI x t (atP t i) l < 0) : letF x t i l = [⟨4, i, l⟩] := by unfold letF; rw [if_pos h]
theorem letF_ok {x : Puzzle} {t : Table} {i : Nat} {l : Int} (h : ¬ nextI x t (atP t i) l < 0) (h2 : inR (atD t (nextI x t (atP t i) l) - atD t i) (-1) 1 = true) : letF x t i l = [] := by unfold letF; rw [if_neg h, if_pos h2]
theorem letF_jump {x : Puzzle} {t : Table} {i : Nat} {l : Int} (h : ¬ nextI x t (atP t i) l < 0) (h2 : inR (atD t (nextI x t (atP t i) l) - atD t i) (-1) 1 = false) : letF x t i l = [⟨5, i, l⟩] := by unfold letF; rw [if_neg h, if_neg (by simp [h2])]
theorem flat_take_succ {α β : Type} (f : α → List β) (l : List α) (j : Nat) (h : j < l.length) : (l.take (j + 1)).flatMap f = (l.take j).flatMap f ++ f l[j] := by
  rw [take_succ_get l j h, List.flatMap_append]; simp only [List.flatMap_cons, List.flatMap_nil, List.append_nil]
set_option maxHeartbeats 4000000 in
theorem l30Entry_any (cs ds : List Value) (x : Puzzle) (t : Table) (i : Nat) (f1 f2 : List Nat) (w : World) (h : Rp.rep w cs x f1) (h2 : Rp.rep w ds t f2)
    (hc : checkT x t = true) (hi0 : i < t.patterns.length) :
    Calls Tryz.prog 19 #[.agg cs.toArray, .agg ds.toArray, .int .i64 i] w fun e w' => ∃ v fp', e = .returned v ∧ Rd w' v (entF x t i) fp' ∧ Fresh w.heap.size w' fp' ∧ Only [] w w' := by
  have h0 := h
  have h20 := h2
  obtain ⟨hv, hw, ht, hps⟩ := checkT_iff.1 hc
  obtain ⟨w1', w2', w3', w4', w5'⟩ := wfT_iff.1 hw
  have hml := (validPz_facts hv).2.2.1
  obtain ⟨v2, rfl, p0, p1, hm⟩ := h
  obtain ⟨u0, u1, u2, q0, q1, q2, rfl, rfl, r0, r1, r2⟩ := h2
  obtain ⟨A0, C0, rfl, I0⟩ := r0.ints
  obtain ⟨A1, C1, ob, fps, rfl, -, hs⟩ := r1.open_
  obtain ⟨A2, C2, rfl, I2⟩ := r2.ints
  have hi2 : i < t.distances.length := by omega
  have hi0' : 0 < t.patterns.length := by omega
  have hpat := hps t.patterns[i] (List.getElem_mem hi0)
  have HatP := Lib.hid (atP_of hi0)
  have HatP0 := Lib.hid (atP_of hi0')
  have hatD := atD_of (j := i) rfl hi2
  obtain ⟨b1, o1, uP, rfl, -, hcP0, huP0⟩ := hs.atRow i hi0
  obtain ⟨b1', o1', uZ, hb1, -, hcZ0, huZ0⟩ := hs.atRow 0 hi0'
  obtain ⟨rfl, rfl⟩ : b1 = b1' ∧ o1 = o1' := by simpa using hb1
  rw [Nat.add_zero] at hcZ0
  obtain ⟨b2, o2, rfl, -, hcD0⟩ := I2.at_ i hi2
  have hdI := I2.wf _ (List.getElem_mem hi2)
  have hdr := w5' _ (List.getElem_mem hi2)
  rw [inR_iff] at hdr
  obtain ⟨d, hd⟩ : ∃ d, d = t.distances[i] := ⟨_, rfl⟩
  rw [← hd] at hatD hcD0 hdI hdr
  have HatD := Lib.hid hatD
  have W3 := Lib.hid w3'
  have W5 := Lib.hid w5'
  have hplen := hs.bound
  have hn3 := w2'.2
  obtain ⟨k1, hk1⟩ : ∃ k, k = (decide (i = 0) && (decide (atD t i ≠ 0) || decide (atP t 0 ≠ t.tracked))) := ⟨_, rfl⟩
  obtain ⟨k2, hk2⟩ : ∃ k, k = decide (idxL t.patterns (atP t i) < i) := ⟨_, rfl⟩
  obtain ⟨k3, hk3⟩ : ∃ k, k = (decide (0 < i) && decide (atD t i = 0)) := ⟨_, rfl⟩
  have HK1 := Lib.hid hk1
  have HK2 := Lib.hid hk2
  have HK3 := Lib.hid hk3
  clear hd hatD w2' w3' w5' hdI hk1 hk2 hk3 hb1
  have HIi := Lib.hid (show I64 (i : Int) by unfold I64; omega)
  go_enter Tryz.func19, Tryz.ntmps19
  go_upto_region 2 with fail
  go_cut [8] (fun s8 wx => s8 = .int .i64 d ∧ Blk wx w.heap.size [.int .i64 x.points, .string x.names, v2] ∧ Blk wx (w.heap.size + 1) [.slice A0 t.tracked.length C0, .slice (some ⟨b1, o1, none⟩) t.patterns.length C1, .slice (some ⟨b2, o2, none⟩) t.distances.length C2] ∧ FR w [w.heap.size, w.heap.size + 1] wx wx (.slice (some ⟨w.heap.size + 1 + 1, 0, none⟩) 0 0) [])
  case first =>
    have hcD := (((((Only.refl [] w).alloc (.cells [.int .i64 x.points, .string x.names, v2].toArray 26)).alloc (.cells [.slice A0 t.tracked.length C0, .slice (some ⟨b1, o1, none⟩) t.patterns.length C1, .slice (some ⟨b2, o2, none⟩) t.distances.length C2].toArray 29)).alloc (.cells #[] 51))).cell (by simp) hcD0
    go_wp2_with fail
    go_meet
    exact ⟨rfl, Blk.keep (Blk.new_at (w := w) (t := 26) rfl) (by with_reducible repeat (first | exact Only.refl _ _ | assumption | refine Only.drewN ?_ _ | refine Only.drew ?_ | refine Only.alloc ?_ _ | refine Only.setCell ?_ (by intro hh; exfalso; simp at hh; try omega) _ | refine Only.trans ?_ (by assumption))), Blk.keep (Blk.new_at (w := w.alloc (.cells [.int .i64 x.points, .string x.names, v2].toArray 26)) (t := 29) (by simp)) (by with_reducible repeat (first | exact Only.refl _ _ | assumption | refine Only.drewN ?_ _ | refine Only.drew ?_ | refine Only.alloc ?_ _ | refine Only.setCell ?_ (by intro hh; exfalso; simp at hh; try omega) _ | refine Only.trans ?_ (by assumption))), [], Acc.made _ _ _ (by simp) (by simp), Fresh.nil _ _, (by with_reducible repeat (first | exact Only.refl _ _ | assumption | refine Only.drewN ?_ _ | refine Only.drew ?_ | refine Only.alloc ?_ _ | refine Only.setCell ?_ (by intro hh; exfalso; simp at hh; try omega) _ | refine Only.trans ?_ (by assumption))), fun _ _ => rfl, fun b hb => by simp at hb ⊢; omega, fun b hb hm => by simp [Value.ownBlock] at hb hm; omega⟩
  case rest =>
  obtain ⟨rfl, D1, D2, hR⟩ := hcut
  obtain ⟨Wa, hnew⟩ : ∃ W, W = wc := ⟨_, rfl⟩
  subst hnew
  go_upto_region 3 with fail
  go_cut [33] (fun s wx => s = .bool k1 ∧ Only [] Wa wx)
  case first =>
    have hKW := hR.only
    have y0 := hR.cell (D1.cell 0 rfl) (by simp)
    have y1 := hR.cell (D1.cell 1 rfl) (by simp)
    have y2 := hR.cell (D1.cell 2 rfl) (by simp)
    have z0 := hR.cell (D2.cell 0 rfl) (by simp)
    have z1 := hR.cell (D2.cell 1 rfl) (by simp)
    have z2 := hR.cell (D2.cell 2 rfl) (by simp)
    have hcP := hKW.cell (by simp) hcP0
    have huP := Rp.keep huP0 hKW
    have hcZ := hKW.cell (by simp) hcZ0
    have huZ := Rp.keep huZ0 hKW
    by_cases hi00 : i = 0
    · by_cases hd0 : d = 0
      · have hd1 : (d != 0) = false := by simp [hd0]
        have hii : ((i : Int) == 0) = true := by simp [hi00]
        have hq := eqV_dec t.patterns[0] t.tracked
        have Hi := Lib.hid hi00
        have Hd := Lib.hid hd0
        clear hi00 hd0
        rcases hx : eqV t.patterns[0] t.tracked
        all_goals rw [hx] at hq
        all_goals have Hq := Lib.hid hq
        all_goals clear hq
        all_goals go_quiet ((go_at_call 49; exact quiet_drewN0 ((equalInts_rd uZ _ t.patterns[0] t.tracked _ _ _ (Rp.keep huZ (Only.ofDrewN _ _ _)) (Rp.keep r0 (hKW.trans (Only.ofDrewN _ _ _)))).mono (fun _ _ h => ⟨h.1.trans (by rw [hx]), h.2⟩))))
        all_goals go_wp2_with fail
        all_goals go_meet
        · have h9 : t.patterns[0] ≠ t.tracked := of_decide_eq_false Hq.out.symm
          exact ⟨by rw [HK1.out, HatP0.out]; simp [Hi.out, h9], (by with_reducible repeat (first | exact Only.refl _ _ | assumption | refine Only.drewN ?_ _ | refine Only.drew ?_ | refine Only.alloc ?_ _ | refine Only.setCell ?_ (by intro hh; exfalso; simp at hh; try omega) _ | refine Only.trans ?_ (by assumption)))⟩
        · have h9 : t.patterns[0] = t.tracked := of_decide_eq_true Hq.out.symm
          exact ⟨by rw [HK1.out, HatP0.out, HatD.out, Hd.out]; simp [h9], (by with_reducible repeat (first | exact Only.refl _ _ | assumption | refine Only.drewN ?_ _ | refine Only.drew ?_ | refine Only.alloc ?_ _ | refine Only.setCell ?_ (by intro hh; exfalso; simp at hh; try omega) _ | refine Only.trans ?_ (by assumption)))⟩
      · have hd1 : (d != 0) = true := by simp [hd0]
        have hii : ((i : Int) == 0) = true := by simp [hi00]
        have Hi := Lib.hid hi00
        have Hd := Lib.hid hd0
        clear hi00 hd0
        go_quiet (fail)
        go_wp2_with fail
        go_meet
        exact ⟨by rw [HK1.out, HatD.out, Hi.out]; simp [Hd.out], (by with_reducible repeat (first | exact Only.refl _ _ | assumption | refine Only.drewN ?_ _ | refine Only.drew ?_ | refine Only.alloc ?_ _ | refine Only.setCell ?_ (by intro hh; exfalso; simp at hh; try omega) _ | refine Only.trans ?_ (by assumption)))⟩
    · have hii : ((i : Int) == 0) = false := by simp [hi00]
      have Hi := Lib.hid hi00
      clear hi00
      go_quiet (fail)
      go_wp2_with fail
      go_meet
      exact ⟨by rw [HK1.out]; simp [Hi.out], (by with_reducible repeat (first | exact Only.refl _ _ | assumption | refine Only.drewN ?_ _ | refine Only.drew ?_ | refine Only.alloc ?_ _ | refine Only.setCell ?_ (by intro hh; exfalso; simp at hh; try omega) _ | refine Only.trans ?_ (by assumption)))⟩
  case rest =>
  obtain ⟨rfl, hKa⟩ := hcut
  replace hR := hR.keep hKa
  obtain ⟨Wb, hnew⟩ : ∃ W, W = wc := ⟨_, rfl⟩
  subst hnew
  go_upto_if 33 with fail
  go_cut [7] (fun s7 wx => FR w [w.heap.size, w.heap.size + 1] Wa wx s7 (one k1 ⟨1, i, 0⟩))
  case first =>
    rcases k1
    · go_wp2_with fail
      go_meet
      rw [one_false]
      exact hR
    · go_wp2_with (at_builtin; refine wp_fpush rfl _ _ rfl rfl hR (by simp) ((Only.refl _ _).alloc _) _ 1 ⟨1, (i : Int), 0⟩ rfl (lit_src Wb [.int .i64 1, .int .i64 (i : Int), .int .i64 0] _ rfl) ⟨(show I64 1 by unfold I64; omega), HIi.out, (show I64 0 by unfold I64; omega)⟩ (by simp) ?_; intro v1 wp1 hR1)
      go_meet
      rw [one_true]
      exact hR1
  case rest =>
  replace hR := hcut
  clear hcut
  obtain ⟨Wc, hnew⟩ : ∃ W, W = wc := ⟨_, rfl⟩
  subst hnew
  go_upto_region 5 with fail
  go_cut [48] (fun s wx => s = .bool k2 ∧ Only [] Wc wx)
  case first =>
    have hKW := hR.only
    have y0 := hR.cell (D1.cell 0 rfl) (by simp)
    have y1 := hR.cell (D1.cell 1 rfl) (by simp)
    have y2 := hR.cell (D1.cell 2 rfl) (by simp)
    have z0 := hR.cell (D2.cell 0 rfl) (by simp)
    have z1 := hR.cell (D2.cell 1 rfl) (by simp)
    have z2 := hR.cell (D2.cell 2 rfl) (by simp)
    have hcP := hKW.cell (by simp) hcP0
    have huP := Rp.keep huP0 hKW
    go_quiet ((go_at_call 50; exact quiet_drewN0 (indexOfList_rd _ uP t.patterns t.patterns[i] _ _ _ (Rp.keep r1 (hKW.trans (Only.ofDrewN _ _ _))) (Rp.keep huP (Only.ofDrewN _ _ _)))))
    go_wp2_with fail
    go_meet
    exact ⟨by rw [HK2.out, HatP.out], (by with_reducible repeat (first | exact Only.refl _ _ | assumption | refine Only.drewN ?_ _ | refine Only.drew ?_ | refine Only.alloc ?_ _ | refine Only.setCell ?_ (by intro hh; exfalso; simp at hh; try omega) _ | refine Only.trans ?_ (by assumption)))⟩
  case rest =>
  obtain ⟨rfl, hKc⟩ := hcut
  replace hR := hR.keep hKc
  obtain ⟨Wd, hnew⟩ : ∃ W, W = wc := ⟨_, rfl⟩
  subst hnew
  go_upto_if 48 with fail
  go_cut [7] (fun s7 wx => FR w [w.heap.size, w.heap.size + 1] Wa wx s7 (one k1 ⟨1, i, 0⟩ ++ one k2 ⟨2, i, 0⟩))
  case first =>
    rcases k2
    · go_wp2_with fail
      go_meet
      rw [one_false, List.append_nil]
      exact hR
    · go_wp2_with (at_builtin; refine wp_fpush rfl _ _ rfl rfl hR (by simp) ((Only.refl _ _).alloc _) _ 1 ⟨2, (i : Int), 0⟩ rfl (lit_src Wd [.int .i64 2, .int .i64 (i : Int), .int .i64 0] _ rfl) ⟨(show I64 2 by unfold I64; omega), HIi.out, (show I64 0 by unfold I64; omega)⟩ (by simp; have := one_len k1 ⟨1, i, 0⟩; omega) ?_; intro v2 wp2 hR2)
      go_meet
      rw [one_true]
      exact hR2
  case rest =>
  replace hR := hcut
  clear hcut
  obtain ⟨We, hnew⟩ : ∃ W, W = wc := ⟨_, rfl⟩
  subst hnew
  go_upto_region 7 with fail
  go_cut [59] (fun s wx => s = .bool k3 ∧ wx = We)
  case first =>
    by_cases hi00 : 0 < i
    · by_cases hd0 : d = 0
      · have hd1 : (d == 0) = true := by simp [hd0]
        have Hi := Lib.hid hi00
        have Hd := Lib.hid hd0
        clear hd0
        go_wp2_with fail
        go_meet
        exact ⟨by rw [HK3.out, HatD.out, Hd.out]; simp [Hi.out], rfl⟩
      · have hd1 : (d == 0) = false := by simp [hd0]
        have Hd := Lib.hid hd0
        clear hd0
        go_wp2_with fail
        go_meet
        exact ⟨by rw [HK3.out, HatD.out]; simp [Hd.out], rfl⟩
    · have Hi := Lib.hid hi00
      go_wp2_with fail
      go_meet
      exact ⟨by rw [HK3.out]; simp [Hi.out], rfl⟩
  case rest =>
  obtain ⟨rfl, rfl⟩ := hcut
  go_upto_if 59 with fail
  go_cut [7] (fun s7 wx => FR w [w.heap.size, w.heap.size + 1] Wa wx s7 (one k1 ⟨1, i, 0⟩ ++ one k2 ⟨2, i, 0⟩ ++ one k3 ⟨3, i, 0⟩))
  case first =>
    rcases k3
    · go_wp2_with fail
      go_meet
      rw [one_false, List.append_nil]
      exact hR
    · go_wp2_with (at_builtin; refine wp_fpush rfl _ _ rfl rfl hR (by simp) ((Only.refl _ _).alloc _) _ 1 ⟨3, (i : Int), 0⟩ rfl (lit_src wc [.int .i64 3, .int .i64 (i : Int), .int .i64 0] _ rfl) ⟨(show I64 3 by unfold I64; omega), HIi.out, (show I64 0 by unfold I64; omega)⟩ (by simp; have := one_len k1 ⟨1, i, 0⟩; have := one_len k2 ⟨2, i, 0⟩; omega) ?_; intro v3 wp3 hR3)
      go_meet
      rw [one_true]
      exact hR3
  case rest =>
  replace hR := hcut
  clear hcut
  obtain ⟨Wf, hnew⟩ : ∃ W, W = wc := ⟨_, rfl⟩
  subst hnew
  obtain ⟨L3, hL3⟩ : ∃ L, L = one k1 ⟨1, i, 0⟩ ++ one k2 ⟨2, i, 0⟩ ++ one k3 ⟨3, i, 0⟩ := ⟨_, rfl⟩
  rw [← hL3] at hR
  have hL3l : L3.length ≤ 3 := by
    rw [hL3]; have := one_len k1 ⟨1, i, 0⟩; have := one_len k2 ⟨2, i, 0⟩; have := one_len k3 ⟨3, i, 0⟩; simp only [List.length_append]; omega
  have HL3 := Lib.hid hL3
  clear hL3
  have hKW := hR.only
  have y0 := hR.cell (D1.cell 0 rfl) (by simp)
  have y1 := hR.cell (D1.cell 1 rfl) (by simp)
  have y2 := hR.cell (D1.cell 2 rfl) (by simp)
  have z0 := hR.cell (D2.cell 0 rfl) (by simp)
  have z1 := hR.cell (D2.cell 1 rfl) (by simp)
  have z2 := hR.cell (D2.cell 2 rfl) (by simp)
  have hcP := hKW.cell (by simp) hcP0
  have huP := Rp.keep huP0 hKW
  go_wp2_with ((go_at_call 51; (with_reducible refine (specLetters_any [.int .i64 x.points, .string x.names, v2] x _ _ (Rp.keep h0 hKW) hv).mono ?_); rintro e w1 ⟨u3, f3, rfl, r3, F3, t3⟩))
  obtain ⟨A3, C3, rfl, I3⟩ := r3.ints
  have hR0 := hR
  replace hR := AccK.hold hR t3 (G' := f3) F3.lt F3.ge
  have e1 := fun k (u : Value) (hu : [.int .i64 x.points, .string x.names, v2][k]? = some u) => t3.cell (p := ⟨w.heap.size, k, none⟩) (by simp) (hR0.cell (D1.cell k hu) (by simp))
  have e2 := fun k (u : Value) (hu : [.slice A0 t.tracked.length C0, .slice (some ⟨b1, o1, none⟩) t.patterns.length C1, .slice (some ⟨b2, o2, none⟩) t.distances.length C2][k]? = some u) => t3.cell (p := ⟨w.heap.size + 1, k, none⟩) (by simp) (hR0.cell (D2.cell k hu) (by simp))
  have hKw1 := hKW.trans t3
  have hb3 := I3.bound
  have hll : (ltrs x.moves.length).length ≤ 16 := by rw [ltrs_len]; omega
  clear y0 y1 y2 z0 z1 z2 hcP huP hKW
  go_loopw [7, 10] (fun o k wr => ∃ j : Nat, j ≤ (ltrs x.moves.length).length ∧ k = .int .i64 j ∧ FR w ([w.heap.size, w.heap.size + 1] ++ f3) w1 wr o (L3 ++ ((ltrs x.moves.length).take j).flatMap (letF x t i)))
    (fun _ k _ => (ltrs x.moves.length).length - (intOf k).toNat)
  case atStart => exact ⟨0, Nat.zero_le _, rfl, by rw [List.take_zero, List.flatMap_nil, List.append_nil]; exact hR⟩
  case round =>
    clear hR
    obtain ⟨j, hj, rfl, hR⟩ := hrel
    have hKW := hR.only
    have y0 := hR.cell (e1 0 _ rfl) (by simp)
    have y1 := hR.cell (e1 1 _ rfl) (by simp)
    have y2 := hR.cell (e1 2 _ rfl) (by simp)
    have z0 := hR.cell (e2 0 _ rfl) (by simp)
    have z1 := hR.cell (e2 1 _ rfl) (by simp)
    have z2 := hR.cell (e2 2 _ rfl) (by simp)
    have hcP := hKW.cell (by simp) hcP0
    have huP := Rp.keep huP0 hKW
    have hlen : (L3 ++ ((ltrs x.moves.length).take j).flatMap (letF x t i)).length + 1 ≤ 1073741824 := by
      have h9 := flat_len (letF_len x t i) ((ltrs x.moves.length).take j)
      rw [List.length_append]; rw [List.length_take] at h9; omega
    have Hlen := Lib.hid hlen
    clear hlen
    by_cases hlt : j < (ltrs x.moves.length).length
    · obtain ⟨b, off, rfl, hfb, hc0⟩ := I3.at_ j hlt
      have hcl := hR.cell hc0 (by rw [hfb]; simp)
      have hla := List.getElem_mem hlt
      have HIl := Lib.hid (I3.wf _ hla)
      obtain ⟨hn0, hn1⟩ := nextI_lt x t t.patterns[i] (ltrs x.moves.length)[j]
      obtain ⟨n, hn⟩ : ∃ n, n = nextI x t t.patterns[i] (ltrs x.moves.length)[j] := ⟨_, rfl⟩
      rw [← hn] at hn0 hn1
      have hn' : n = nextI x t (atP t i) (ltrs x.moves.length)[j] := by rw [hn, HatP.out]
      have hfl := flat_take_succ (letF x t i) (ltrs x.moves.length) j hlt
      have HN := Lib.hid hn
      have HN' := Lib.hid hn'
      have Hfl := Lib.hid hfl
      clear hn hn' hfl hc0 hfb
      by_cases hneg : n < 0
      · have Hneg := Lib.hid (letF_miss (x := x) (t := t) (i := i) (l := (ltrs x.moves.length)[j]) (by rw [← HN'.out]; exact hneg))
        go_wp2
        go_region_held3 (fun w' => Only [] wr w' ∧ w'.cell? ⟨w.heap.size, 0, none⟩ = some (.int .i64 x.points) ∧ w'.cell? ⟨w.heap.size, 1, none⟩ = some (.string x.names) ∧ w'.cell? ⟨w.heap.size, 2, none⟩ = some (v2) ∧ w'.cell? ⟨w.heap.size + 1, 0, none⟩ = some (.slice A0 t.tracked.length C0) ∧ w'.cell? ⟨w.heap.size + 1, 1, none⟩ = some (.slice (some ⟨b1, o1, none⟩) t.patterns.length C1) ∧ w'.cell? ⟨w.heap.size + 1, 2, none⟩ = some (.slice (some ⟨b2, o2, none⟩) t.distances.length C2) ∧ w'.cell? ⟨b1, o1 + i, none⟩ = some (uP) ∧ w'.cell? ⟨b, off + j, none⟩ = some (.int .i64 (ltrs x.moves.length)[j])) (((refine and_of ?_ (fun h__ => ⟨h__.cell (by simp) y0, h__.cell (by simp) y1, h__.cell (by simp) y2, h__.cell (by simp) z0, h__.cell (by simp) z1, h__.cell (by simp) z2, h__.cell (by simp) hcP, h__.cell (by simp) hcl⟩)); first | exact (Only.refl _ _).drew | exact ((Only.refl _ _).drewN _).drew | exact Only.trans (And.left (by assumption)) (by assumption) | exact Only.alloc (And.left (by assumption)) _ | assumption)) (first | (go_at_call 52; (with_reducible refine (l30Next_any [.int .i64 x.points, .string x.names, v2] [.slice A0 t.tracked.length C0, .slice (some ⟨b1, o1, none⟩) t.patterns.length C1, .slice (some ⟨b2, o2, none⟩) t.distances.length C2] x t _ t.patterns[i] (ltrs x.moves.length)[j] _ _ _ _ (Rp.keep h0 (hKW.trans (And.left (by assumption)))) (Rp.keep h20 (hKW.trans (And.left (by assumption)))) (Rp.keep huP (And.left (by assumption))) hc hpat hla).mono ?_); rintro e w4 ⟨he, t4⟩; rw [← HN.out] at he; subst he) | fail "no arm")
        go_wp2_with (at_builtin; refine wp_fpush rfl _ _ rfl rfl (hR.keep (by with_reducible repeat (first | exact Only.refl _ _ | assumption | refine Only.drewN ?_ _ | refine Only.drew ?_ | refine Only.alloc ?_ _ | refine Only.setCell ?_ (by intro hh; exfalso; simp at hh; try omega) _ | refine Only.trans ?_ (by assumption)))) (by simp) ((Only.refl _ _).alloc _) _ 1 ⟨4, (i : Int), (ltrs x.moves.length)[j]⟩ rfl (lit_src _ [.int .i64 4, .int .i64 (i : Int), .int .i64 (ltrs x.moves.length)[j]] _ rfl) ⟨(show I64 4 by unfold I64; omega), HIi.out, HIl.out⟩ Hlen.out ?_; intro v4 wp4 hR4)
        go_roundw
        case rel => exact ⟨j + 1, by omega, by go_num, by rw [Hfl.out, Hneg.out, ← List.append_assoc]; exact hR4⟩
        case measure => simp [intOf]; omega
      · have hnl : n.toNat < t.distances.length := by have := W3.out; omega
        have hnl' : n < (t.distances.length : Int) := by have := W3.out; omega
        have hn0' : 0 ≤ n := by omega
        obtain ⟨b2', o2', hb2, -, hdd0⟩ := I2.at_ n.toNat hnl
        obtain ⟨rfl, rfl⟩ : b2 = b2' ∧ o2 = o2' := by simpa using hb2
        have hdd := hKW.cell (by simp) hdd0
        have hdr2 := W5.out _ (List.getElem_mem hnl)
        rw [inR_iff] at hdr2
        have hat2 := atD_of (t := t) (j := n) (i := n.toNat) (by omega) hnl
        have Hat2 := Lib.hid hat2
        have hwr : wrap64 (t.distances[n.toNat] - d) = t.distances[n.toNat] - d := wrap64_lit _ (by omega) (by omega)
        clear hb2 hdd0 hat2
        rcases hin : inR (t.distances[n.toNat] - d) (-1) 1
        · have Hin := Lib.hid (letF_jump (x := x) (t := t) (i := i) (l := (ltrs x.moves.length)[j]) (by rw [← HN'.out]; exact hneg) (by rw [← HN'.out, Hat2.out, HatD.out]; exact hin))
          go_wp2
          go_region_held3 (fun w' => Only [] wr w' ∧ w'.cell? ⟨w.heap.size, 0, none⟩ = some (.int .i64 x.points) ∧ w'.cell? ⟨w.heap.size, 1, none⟩ = some (.string x.names) ∧ w'.cell? ⟨w.heap.size, 2, none⟩ = some (v2) ∧ w'.cell? ⟨w.heap.size + 1, 0, none⟩ = some (.slice A0 t.tracked.length C0) ∧ w'.cell? ⟨w.heap.size + 1, 1, none⟩ = some (.slice (some ⟨b1, o1, none⟩) t.patterns.length C1) ∧ w'.cell? ⟨w.heap.size + 1, 2, none⟩ = some (.slice (some ⟨b2, o2, none⟩) t.distances.length C2) ∧ w'.cell? ⟨b1, o1 + i, none⟩ = some (uP) ∧ w'.cell? ⟨b, off + j, none⟩ = some (.int .i64 (ltrs x.moves.length)[j]) ∧ w'.cell? ⟨b2, o2 + n.toNat, none⟩ = some (.int .i64 t.distances[n.toNat])) (((refine and_of ?_ (fun h__ => ⟨h__.cell (by simp) y0, h__.cell (by simp) y1, h__.cell (by simp) y2, h__.cell (by simp) z0, h__.cell (by simp) z1, h__.cell (by simp) z2, h__.cell (by simp) hcP, h__.cell (by simp) hcl, h__.cell (by simp) hdd⟩)); first | exact (Only.refl _ _).drew | exact ((Only.refl _ _).drewN _).drew | exact Only.trans (And.left (by assumption)) (by assumption) | exact Only.alloc (And.left (by assumption)) _ | assumption)) (first | (go_at_call 52; (with_reducible refine (l30Next_any [.int .i64 x.points, .string x.names, v2] [.slice A0 t.tracked.length C0, .slice (some ⟨b1, o1, none⟩) t.patterns.length C1, .slice (some ⟨b2, o2, none⟩) t.distances.length C2] x t _ t.patterns[i] (ltrs x.moves.length)[j] _ _ _ _ (Rp.keep h0 (hKW.trans (And.left (by assumption)))) (Rp.keep h20 (hKW.trans (And.left (by assumption)))) (Rp.keep huP (And.left (by assumption))) hc hpat hla).mono ?_); rintro e w4 ⟨he, t4⟩; rw [← HN.out] at he; subst he) | fail "no arm")
          go_wp2_with (first | (go_at_call 53; (with_reducible refine (inRange_any (t.distances[n.toNat] - d) (-1) 1 _).mono ?_); rintro e w5 ⟨he, rfl⟩; rw [hin] at he; subst he) | (at_builtin; refine wp_fpush rfl _ _ rfl rfl (hR.keep (by with_reducible repeat (first | exact Only.refl _ _ | assumption | refine Only.drewN ?_ _ | refine Only.drew ?_ | refine Only.alloc ?_ _ | refine Only.setCell ?_ (by intro hh; exfalso; simp at hh; try omega) _ | refine Only.trans ?_ (by assumption)))) (by simp) ((Only.refl _ _).alloc _) _ 1 ⟨5, (i : Int), (ltrs x.moves.length)[j]⟩ rfl (lit_src _ [.int .i64 5, .int .i64 (i : Int), .int .i64 (ltrs x.moves.length)[j]] _ rfl) ⟨(show I64 5 by unfold I64; omega), HIi.out, HIl.out⟩ Hlen.out ?_; intro v5 wp5 hR5))
          go_roundw
          case rel => exact ⟨j + 1, by omega, by go_num, by rw [Hfl.out, Hin.out, ← List.append_assoc]; exact hR5⟩
          case measure => simp [intOf]; omega
        · have Hin := Lib.hid (letF_ok (x := x) (t := t) (i := i) (l := (ltrs x.moves.length)[j]) (by rw [← HN'.out]; exact hneg) (by rw [← HN'.out, Hat2.out, HatD.out]; exact hin))
          go_wp2
          go_region_held3 (fun w' => Only [] wr w' ∧ w'.cell? ⟨w.heap.size, 0, none⟩ = some (.int .i64 x.points) ∧ w'.cell? ⟨w.heap.size, 1, none⟩ = some (.string x.names) ∧ w'.cell? ⟨w.heap.size, 2, none⟩ = some (v2) ∧ w'.cell? ⟨w.heap.size + 1, 0, none⟩ = some (.slice A0 t.tracked.length C0) ∧ w'.cell? ⟨w.heap.size + 1, 1, none⟩ = some (.slice (some ⟨b1, o1, none⟩) t.patterns.length C1) ∧ w'.cell? ⟨w.heap.size + 1, 2, none⟩ = some (.slice (some ⟨b2, o2, none⟩) t.distances.length C2) ∧ w'.cell? ⟨b1, o1 + i, none⟩ = some (uP) ∧ w'.cell? ⟨b, off + j, none⟩ = some (.int .i64 (ltrs x.moves.length)[j]) ∧ w'.cell? ⟨b2, o2 + n.toNat, none⟩ = some (.int .i64 t.distances[n.toNat])) (((refine and_of ?_ (fun h__ => ⟨h__.cell (by simp) y0, h__.cell (by simp) y1, h__.cell (by simp) y2, h__.cell (by simp) z0, h__.cell (by simp) z1, h__.cell (by simp) z2, h__.cell (by simp) hcP, h__.cell (by simp) hcl, h__.cell (by simp) hdd⟩)); first | exact (Only.refl _ _).drew | exact ((Only.refl _ _).drewN _).drew | exact Only.trans (And.left (by assumption)) (by assumption) | exact Only.alloc (And.left (by assumption)) _ | assumption)) (first | (go_at_call 52; (with_reducible refine (l30Next_any [.int .i64 x.points, .string x.names, v2] [.slice A0 t.tracked.length C0, .slice (some ⟨b1, o1, none⟩) t.patterns.length C1, .slice (some ⟨b2, o2, none⟩) t.distances.length C2] x t _ t.patterns[i] (ltrs x.moves.length)[j] _ _ _ _ (Rp.keep h0 (hKW.trans (And.left (by assumption)))) (Rp.keep h20 (hKW.trans (And.left (by assumption)))) (Rp.keep huP (And.left (by assumption))) hc hpat hla).mono ?_); rintro e w4 ⟨he, t4⟩; rw [← HN.out] at he; subst he) | fail "no arm")
          go_wp2_with ((go_at_call 53; (with_reducible refine (inRange_any (t.distances[n.toNat] - d) (-1) 1 _).mono ?_); rintro e w5 ⟨he, rfl⟩; rw [hin] at he; subst he))
          go_roundw
          case rel => exact ⟨j + 1, by omega, by go_num, by rw [Hfl.out, Hin.out, List.append_nil]; exact hR.keep (by with_reducible repeat (first | exact Only.refl _ _ | assumption | refine Only.drewN ?_ _ | refine Only.drew ?_ | refine Only.alloc ?_ _ | refine Only.setCell ?_ (by intro hh; exfalso; simp at hh; try omega) _ | refine Only.trans ?_ (by assumption)))⟩
          case measure => simp [intOf]; omega
    · have hjl : j = (ltrs x.moves.length).length := by omega
      rw [hjl, List.take_length] at hR Hlen
      have hend : ∀ q : Bool, q = (decide (0 < atD t i) && decide (descL x t (atP t i) (atD t i - 1) = 0)) → entF x t i = (L3 ++ (ltrs x.moves.length).flatMap (letF x t i)) ++ one q ⟨6, i, 0⟩ := by
        intro q hq
        unfold entF
        rw [HL3.out, HK1.out, HK2.out, HK3.out, hq]
        simp only [List.append_assoc]
      rw [HatD.out, HatP.out] at hend
      have Hend := Lib.hid hend
      clear hend hjl
      by_cases hdp : 0 < d
      · obtain ⟨q, hq⟩ : ∃ q, q = descL x t t.patterns[i] (d - 1) := ⟨_, rfl⟩
        rw [← hq] at Hend
        have Hq := Lib.hid hq
        clear hq
        have hw1 : IntKind.i64.wrap (d - 1) = d - 1 := by rw [IntKind.wrap_i64]; omega
        have hgt : decide (d > 0) = true := decide_eq_true hdp
        by_cases hq0 : q = 0
        · have hqq : (q == 0) = true := by simp [hq0]
          have Hq0 := Lib.hid hq0
          clear hq0
          go_wp2
          go_region_held3 (fun w' => Only [] wr w' ∧ w'.cell? ⟨w.heap.size, 0, none⟩ = some (.int .i64 x.points) ∧ w'.cell? ⟨w.heap.size, 1, none⟩ = some (.string x.names) ∧ w'.cell? ⟨w.heap.size, 2, none⟩ = some (v2) ∧ w'.cell? ⟨w.heap.size + 1, 0, none⟩ = some (.slice A0 t.tracked.length C0) ∧ w'.cell? ⟨w.heap.size + 1, 1, none⟩ = some (.slice (some ⟨b1, o1, none⟩) t.patterns.length C1) ∧ w'.cell? ⟨w.heap.size + 1, 2, none⟩ = some (.slice (some ⟨b2, o2, none⟩) t.distances.length C2) ∧ w'.cell? ⟨b1, o1 + i, none⟩ = some (uP)) (((refine and_of ?_ (fun h__ => ⟨h__.cell (by simp) y0, h__.cell (by simp) y1, h__.cell (by simp) y2, h__.cell (by simp) z0, h__.cell (by simp) z1, h__.cell (by simp) z2, h__.cell (by simp) hcP⟩)); first | exact (Only.refl _ _).drew | exact ((Only.refl _ _).drewN _).drew | exact Only.trans (And.left (by assumption)) (by assumption) | exact Only.alloc (And.left (by assumption)) _ | assumption)) (first | (go_at_call 54; (try rw [hw1]); (with_reducible refine (l30Descent_any [.int .i64 x.points, .string x.names, v2] [.slice A0 t.tracked.length C0, .slice (some ⟨b1, o1, none⟩) t.patterns.length C1, .slice (some ⟨b2, o2, none⟩) t.distances.length C2] x t _ t.patterns[i] (d - 1) _ _ _ _ (Rp.keep h0 (hKW.trans (And.left (by assumption)))) (Rp.keep h20 (hKW.trans (And.left (by assumption)))) (Rp.keep huP (And.left (by assumption))) hc hpat).mono ?_); rintro e w4 ⟨he, t4⟩; rw [← Hq.out] at he; subst he) | fail "no arm")
          go_wp2_with (at_builtin; refine wp_fpush rfl _ _ rfl rfl (hR.keep (by with_reducible repeat (first | exact Only.refl _ _ | assumption | refine Only.drewN ?_ _ | refine Only.drew ?_ | refine Only.alloc ?_ _ | refine Only.setCell ?_ (by intro hh; exfalso; simp at hh; try omega) _ | refine Only.trans ?_ (by assumption)))) (by simp) ((Only.refl _ _).alloc _) _ 1 ⟨6, (i : Int), 0⟩ rfl (lit_src _ [.int .i64 6, .int .i64 (i : Int), .int .i64 0] _ rfl) ⟨(show I64 6 by unfold I64; omega), HIi.out, (show I64 0 by unfold I64; omega)⟩ Hlen.out ?_; intro v6 wp6 hR6)
          go_ret
          obtain ⟨fp, hr9, hF9⟩ := AccK.rd hR6 (by decide)
          refine ⟨_, _, rfl, ?_, Fresh.mono hF9 (Nat.le_add_right _ _), hR6.only⟩
          rw [Hend.out true (by simp [hdp, Hq0.out])]
          exact hr9
        · have hqq : (q == 0) = false := by simp [hq0]
          have Hq0 := Lib.hid hq0
          clear hq0
          go_wp2
          go_region_held3 (fun w' => Only [] wr w' ∧ w'.cell? ⟨w.heap.size, 0, none⟩ = some (.int .i64 x.points) ∧ w'.cell? ⟨w.heap.size, 1, none⟩ = some (.string x.names) ∧ w'.cell? ⟨w.heap.size, 2, none⟩ = some (v2) ∧ w'.cell? ⟨w.heap.size + 1, 0, none⟩ = some (.slice A0 t.tracked.length C0) ∧ w'.cell? ⟨w.heap.size + 1, 1, none⟩ = some (.slice (some ⟨b1, o1, none⟩) t.patterns.length C1) ∧ w'.cell? ⟨w.heap.size + 1, 2, none⟩ = some (.slice (some ⟨b2, o2, none⟩) t.distances.length C2) ∧ w'.cell? ⟨b1, o1 + i, none⟩ = some (uP)) (((refine and_of ?_ (fun h__ => ⟨h__.cell (by simp) y0, h__.cell (by simp) y1, h__.cell (by simp) y2, h__.cell (by simp) z0, h__.cell (by simp) z1, h__.cell (by simp) z2, h__.cell (by simp) hcP⟩)); first | exact (Only.refl _ _).drew | exact ((Only.refl _ _).drewN _).drew | exact Only.trans (And.left (by assumption)) (by assumption) | exact Only.alloc (And.left (by assumption)) _ | assumption)) (first | (go_at_call 54; (try rw [hw1]); (with_reducible refine (l30Descent_any [.int .i64 x.points, .string x.names, v2] [.slice A0 t.tracked.length C0, .slice (some ⟨b1, o1, none⟩) t.patterns.length C1, .slice (some ⟨b2, o2, none⟩) t.distances.length C2] x t _ t.patterns[i] (d - 1) _ _ _ _ (Rp.keep h0 (hKW.trans (And.left (by assumption)))) (Rp.keep h20 (hKW.trans (And.left (by assumption)))) (Rp.keep huP (And.left (by assumption))) hc hpat).mono ?_); rintro e w4 ⟨he, t4⟩; rw [← Hq.out] at he; subst he) | fail "no arm")
          go_wp2
          go_ret
          obtain ⟨fp, hr9, hF9⟩ := AccK.rd (wx := w4) (hR.keep (by with_reducible repeat (first | exact Only.refl _ _ | assumption | refine Only.drewN ?_ _ | refine Only.drew ?_ | refine Only.alloc ?_ _ | refine Only.setCell ?_ (by intro hh; exfalso; simp at hh; try omega) _ | refine Only.trans ?_ (by assumption)))) (by decide)
          refine ⟨_, _, rfl, ?_, Fresh.mono hF9 (Nat.le_add_right _ _), (hR.keep (by with_reducible repeat (first | exact Only.refl _ _ | assumption | refine Only.drewN ?_ _ | refine Only.drew ?_ | refine Only.alloc ?_ _ | refine Only.setCell ?_ (by intro hh; exfalso; simp at hh; try omega) _ | refine Only.trans ?_ (by assumption)))).only⟩
          rw [Hend.out false (by simp [Hq0.out]), one_false, List.append_nil]
          exact hr9
      · obtain rfl : d = 0 := by omega
        go_wp2
        go_quiet (fail)
        go_wp2
        go_ret
        obtain ⟨fp, hr9, hF9⟩ := AccK.rd (wx := wr.drewN nq) (hR.keep (by with_reducible repeat (first | exact Only.refl _ _ | assumption | refine Only.drewN ?_ _ | refine Only.drew ?_ | refine Only.alloc ?_ _ | refine Only.setCell ?_ (by intro hh; exfalso; simp at hh; try omega) _ | refine Only.trans ?_ (by assumption)))) (by decide)
        refine ⟨_, _, rfl, ?_, Fresh.mono hF9 (Nat.le_add_right _ _), (hR.keep (by with_reducible repeat (first | exact Only.refl _ _ | assumption | refine Only.drewN ?_ _ | refine Only.drew ?_ | refine Only.alloc ?_ _ | refine Only.setCell ?_ (by intro hh; exfalso; simp at hh; try omega) _ | refine Only.trans ?_ (by assumption)))).only⟩
        rw [Hend.out false (by simp), one_false, List.append_nil]
        exact hr9
end Go.Proofs.YtpkplmnpepkdaaaGreat
