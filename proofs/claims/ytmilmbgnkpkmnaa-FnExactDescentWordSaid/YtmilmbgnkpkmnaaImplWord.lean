/- The program's DescentWord. (Written by mkdwi.py.) -/
import Derived.Test.YtmilmbgnkpkmnaaImplDesc
import Derived.Test.YtmilmbgnkpkmnaaSpecWord
namespace Go.Proofs.Ytmilmbgnkpkmnaa
open Go.RowKit
set_option maxRecDepth 10000

set_option maxHeartbeats 8000000 in
theorem implDescentWord_any (cs ds : List Value) (x : Puzzle) (t : Table) (u : Value) (p : List Int) (f1 f2 f3 : List Nat) (w : World) (h : Rp.rep w cs x f1) (h2 : Rp.rep w ds t f2) (h3 : Rd w u p f3) :
    Calls Try.prog 40 #[.agg cs.toArray, .agg ds.toArray, u] w fun e w' => ∃ v fp', e = .returned (.tuple #[v, .bool (dWord x t p).isSome]) ∧ Rd w' v ((dWord x t p).getD []) fp' ∧ Fresh w.heap.size w' fp' ∧ Only [] w w' := by
  have h0 := h
  have h20 := h2
  obtain ⟨v2, rfl, p0, p1, hm⟩ := h
  obtain ⟨u0, u1, u2, q0, q1, q2, rfl, rfl, r0, r1, r2⟩ := h2
  obtain ⟨A0, C0, rfl, I0⟩ := r0.ints
  have hB2 := Blk.new_at (w := w.alloc (.cells [.int .i64 x.points, .string x.names, v2].toArray 26)) (g := w.heap.size + 1) (cs := [.slice A0 t.tracked.length C0, u1, u2]) (t := 42) (by simp)
  rcases hcp : checkT x t && patB x.points t.tracked.length p
  · have hd : dWord x t p = none := by
      unfold dWord
      rw [Bool.and_eq_false_iff] at hcp
      rw [if_neg]
      rintro ⟨hc, hi⟩
      rcases hcp with h9 | h9
      · rw [hc] at h9; cases h9
      · have := idxL_no hc h9; omega
    have Hd := Lib.hid hd
    clear hd
    go_enter Try.func40, Try.ntmps40
    go_wp2_with ((go_at_call 61; (with_reducible refine (proofOf_any [.int .i64 x.points, .string x.names, v2] [.slice A0 t.tracked.length C0, u1, u2] x t u p _ _ _ _ (Rp.keep h0 (by with_reducible repeat (first | exact Only.refl _ _ | assumption | refine Only.drewN ?_ _ | refine Only.drew ?_ | refine Only.alloc ?_ _ | refine Only.setCell ?_ (by intro hh; exfalso; simp at hh; try omega) _ | refine Only.trans ?_ (by assumption)))) (Rp.keep h20 (by with_reducible repeat (first | exact Only.refl _ _ | assumption | refine Only.drewN ?_ _ | refine Only.drew ?_ | refine Only.alloc ?_ _ | refine Only.setCell ?_ (by intro hh; exfalso; simp at hh; try omega) _ | refine Only.trans ?_ (by assumption)))) (Rp.keep h3 (by with_reducible repeat (first | exact Only.refl _ _ | assumption | refine Only.drewN ?_ _ | refine Only.drew ?_ | refine Only.alloc ?_ _ | refine Only.setCell ?_ (by intro hh; exfalso; simp at hh; try omega) _ | refine Only.trans ?_ (by assumption))))).mono ?_); rintro e w1 ⟨q, he, hq, t1⟩; rw [hcp] at he; subst he))
    refine bodyPost_ret (v := .tuple #[.slice none 0 0, .bool false]) (by simp [results, Try.results40, go_sem]) rfl ⟨_, [], by rw [Hd.out]; rfl, by rw [Hd.out]; exact nil_rd _, Fresh.nil _ _, (by with_reducible repeat (first | exact Only.refl _ _ | assumption | refine Only.drewN ?_ _ | refine Only.drew ?_ | refine Only.alloc ?_ _ | refine Only.setCell ?_ (by intro hh; exfalso; simp at hh; try omega) _ | refine Only.trans ?_ (by assumption)))⟩
  obtain ⟨hc, hp⟩ := Bool.and_eq_true_iff.1 hcp
  rcases Int.lt_or_le (idxL t.patterns p) 0 with hneg | hneg
  · have hd : dWord x t p = none := by unfold dWord; rw [if_neg (by omega)]
    have Hd := Lib.hid hd
    have Hdes := Lib.hid (desI_no (x := x) hneg)
    have Htb := Lib.hid (toB_no hneg)
    clear hd hneg
    go_enter Try.func40, Try.ntmps40
    go_wp2_with ((go_at_call 61; (with_reducible refine (proofOf_any [.int .i64 x.points, .string x.names, v2] [.slice A0 t.tracked.length C0, u1, u2] x t u p _ _ _ _ (Rp.keep h0 (by with_reducible repeat (first | exact Only.refl _ _ | assumption | refine Only.drewN ?_ _ | refine Only.drew ?_ | refine Only.alloc ?_ _ | refine Only.setCell ?_ (by intro hh; exfalso; simp at hh; try omega) _ | refine Only.trans ?_ (by assumption)))) (Rp.keep h20 (by with_reducible repeat (first | exact Only.refl _ _ | assumption | refine Only.drewN ?_ _ | refine Only.drew ?_ | refine Only.alloc ?_ _ | refine Only.setCell ?_ (by intro hh; exfalso; simp at hh; try omega) _ | refine Only.trans ?_ (by assumption)))) (Rp.keep h3 (by with_reducible repeat (first | exact Only.refl _ _ | assumption | refine Only.drewN ?_ _ | refine Only.drew ?_ | refine Only.alloc ?_ _ | refine Only.setCell ?_ (by intro hh; exfalso; simp at hh; try omega) _ | refine Only.trans ?_ (by assumption))))).mono ?_); rintro e w1 ⟨q, he, hq, t1⟩; rw [hcp] at he; subst he; obtain ⟨g, rfl, hP⟩ := hq hc; have hK1 : Only [] w w1 := (by with_reducible repeat (first | exact Only.refl _ _ | assumption | refine Only.drewN ?_ _ | refine Only.drew ?_ | refine Only.alloc ?_ _ | refine Only.setCell ?_ (by intro hh; exfalso; simp at hh; try omega) _ | refine Only.trans ?_ (by assumption)))))
    go_loopw [2, 10] (fun pv o wr => pv = u ∧ wr = w1) (fun _ _ _ => 0)
    case atStart => exact ⟨rfl, rfl⟩
    case round =>
      obtain ⟨rfl, rfl⟩ := hrel
      go_wp2_with ((go_at_call 62; (with_reducible refine (descent_any g x t _ p _ _ hP (Rp.keep h3 hK1) hc hp).mono ?_); rintro e w3 ⟨he, t3⟩; rw [Hdes.out, Htb.out] at he; subst he))
      refine bodyPost_ret (v := .tuple #[.slice none 0 0, .bool false]) (by simp [results, Try.results40, go_sem]) rfl ⟨_, [], by rw [Hd.out]; rfl, by rw [Hd.out]; exact nil_rd _, Fresh.nil _ _, hK1.trans t3⟩
  have hstart := WInv.start hc hneg
  obtain ⟨i0, hi, hz0, hz1, hz2⟩ := info_parts Try.info2
  have hvp := (checkT_iff.1 hc).1
  have hx8 := (validPz_facts hvp).2.2.1
  have hx20 := (validPz_facts hvp).2.1
  have hlt3 := Rp.lt h3
  have htl := inc_len_le2 (checkT_iff.1 hc).2.2.1
  go_enter Try.func40, Try.ntmps40
  go_wp2_with ((go_at_call 61; (with_reducible refine (proofOf_any [.int .i64 x.points, .string x.names, v2] [.slice A0 t.tracked.length C0, u1, u2] x t u p _ _ _ _ (Rp.keep h0 (by with_reducible repeat (first | exact Only.refl _ _ | assumption | refine Only.drewN ?_ _ | refine Only.drew ?_ | refine Only.alloc ?_ _ | refine Only.setCell ?_ (by intro hh; exfalso; simp at hh; try omega) _ | refine Only.trans ?_ (by assumption)))) (Rp.keep h20 (by with_reducible repeat (first | exact Only.refl _ _ | assumption | refine Only.drewN ?_ _ | refine Only.drew ?_ | refine Only.alloc ?_ _ | refine Only.setCell ?_ (by intro hh; exfalso; simp at hh; try omega) _ | refine Only.trans ?_ (by assumption)))) (Rp.keep h3 (by with_reducible repeat (first | exact Only.refl _ _ | assumption | refine Only.drewN ?_ _ | refine Only.drew ?_ | refine Only.alloc ?_ _ | refine Only.setCell ?_ (by intro hh; exfalso; simp at hh; try omega) _ | refine Only.trans ?_ (by assumption))))).mono ?_); rintro e w1 ⟨q, he, hq, t1⟩; rw [hcp] at he; subst he; obtain ⟨g, rfl, hP⟩ := hq hc; have hK1 : Only [] w w1 := (by with_reducible repeat (first | exact Only.refl _ _ | assumption | refine Only.drewN ?_ _ | refine Only.drew ?_ | refine Only.alloc ?_ _ | refine Only.setCell ?_ (by intro hh; exfalso; simp at hh; try omega) _ | refine Only.trans ?_ (by assumption)))))
  have c2 := hB2.keep t1
  have hA0 : AccK w1 w1.heap.size 2 f3 w1 w1 (.slice none 0 0) ([] : List Int) :=
    ⟨[], Acc.nil _ _ _, Fresh.nil _ _, Only.refl _ _, fun _ _ => rfl, fun b hb => Nat.lt_of_lt_of_le (hlt3 b hb) hK1.size, by simp [Value.ownBlock]⟩
  have hh3 := Rp.keep h3 hK1
  go_loopw [2, 10] (fun pv o wr => ∃ (wl q : List Int) (fq : List Nat), AccK w1 w1.heap.size 2 fq wr wr o wl ∧ Rd wr pv q fq ∧ patB x.points t.tracked.length q = true ∧ 0 ≤ idxL t.patterns q ∧ WInv x t p wl q)
    (fun _ o _ => 201 - sliceLen o)
  case atStart => exact ⟨[], p, f3, hA0, hh3, hp, hneg, hstart⟩
  case round =>
    clear hA0 hstart hh3 hneg
    obtain ⟨wl, q, fq, hA, hq, hpq, hidx, hI⟩ := hrel
    have hK := hA.only
    have hKW := hK1.trans hK
    have hsz := hK.size
    have hP2 := hP.keep hK
    have hb2 := c2.keep hK
    obtain ⟨ao, no, co, hno, ho⟩ := hA.formL
    subst ho
    have Hno := Lib.hid hno
    have hnl : no ≤ 200 := by rw [hno]; exact hI.1
    clear hno
    obtain ⟨ap, cp, hpv, Ip⟩ := hq.ints
    subst hpv
    have Htb := Lib.hid (toB_yes hidx)
    have hdes0 := desI_yes (x := x) hidx
    have hdl := dLet_yes hc hidx
    rcases heq : eqV q t.tracked
    · have hne : q ≠ t.tracked := eqV_iff'.1 heq
      rcases descL_of_dK (x := x) (t := t) (p := q) (d := atD t (idxL t.patterns q) - 1) with ⟨e1, e2⟩ | ⟨k, hk, e1, e2⟩
      · rw [e1] at hdes0
        rw [e2] at hdl
        have Hd := Lib.hid (hI.fail hne (.inl hdl))
        have Hdes := Lib.hid hdes0
        clear hdes0 hdl e1 e2 hne
        go_wp2_with (first | (go_at_call 62; (with_reducible refine (descent_any g x t _ q _ _ hP2 hq hc hpq).mono ?_); rintro e w3 ⟨he, t3⟩; rw [Hdes.out, Htb.out] at he; subst he; have s0 := (hb2.keep t3).cell 0 rfl) | (go_at_call 73; (with_reducible refine (Equal_rd _ (.slice A0 t.tracked.length C0) q t.tracked _ _ _ (Rp.keep hq t3) (Rp.keep r0 (hKW.trans t3))).mono ?_); rintro e w4 ⟨he, k4⟩; rw [heq] at he; subst he; have hk4 := Drew.only k4 []; have hk34 := t3.trans hk4))
        refine bodyPost_ret (v := .tuple #[.slice none 0 0, .bool false]) (by simp [results, Try.results40, go_sem]) rfl ⟨_, [], by rw [Hd.out]; rfl, by rw [Hd.out]; exact nil_rd _, Fresh.nil _ _, hKW.trans hk34⟩
      rw [e1] at hdes0
      rw [e2] at hdl
      have Hdes := Lib.hid hdes0
      have hk1 : ¬ (k : Int) < 0 := by omega
      by_cases hm : no = 200
      · have hmm : ((no : Int) == 200) = true := by simp [hm]
        have Hd := Lib.hid (hI.fail hne (.inr (by rw [← Hno.out]; exact hm)))
        clear hdes0 hdl e1 e2 hne hm
        go_wp2_with (first | (go_at_call 62; (with_reducible refine (descent_any g x t _ q _ _ hP2 hq hc hpq).mono ?_); rintro e w3 ⟨he, t3⟩; rw [Hdes.out, Htb.out] at he; subst he; have s0 := (hb2.keep t3).cell 0 rfl) | (go_at_call 73; (with_reducible refine (Equal_rd _ (.slice A0 t.tracked.length C0) q t.tracked _ _ _ (Rp.keep hq t3) (Rp.keep r0 (hKW.trans t3))).mono ?_); rintro e w4 ⟨he, k4⟩; rw [heq] at he; subst he; have hk4 := Drew.only k4 []; have hk34 := t3.trans hk4))
        refine bodyPost_ret (v := .tuple #[.slice none 0 0, .bool false]) (by simp [results, Try.results40, go_sem]) rfl ⟨_, [], by rw [Hd.out]; rfl, by rw [Hd.out]; exact nil_rd _, Fresh.nil _ _, hKW.trans hk34⟩
      have hmm : ((no : Int) == 200) = false := by rw [beq_eq_false_iff_ne]; omega
      have hl0 : dLet x t q ≠ 0 := by rw [hdl]; exact (mem_ltrs.1 (List.getElem_mem hk)).1
      obtain ⟨hlm, hnx⟩ := dLet_letter hl0
      have hstep := hI.step hne hl0 (by have := Hno.out; omega)
      have hnp := nxt_pat hvp hpq hlm
      rw [hdl] at hstep hnp hnx hlm
      obtain ⟨l, hl⟩ : ∃ l, l = (ltrs x.moves.length)[k] := ⟨_, rfl⟩
      rw [← hl] at hstep hnp hnx hlm
      have HIl := Lib.hid (show I64 l by have := mem_ltrs.1 hlm; unfold I64; omega)
      have Hlen := Lib.hid (show wl.length + 1 ≤ 1073741824 by have := hI.1; omega)
      have HLk := Lib.hid hl
      have hpn := mv_pn (validPz_pn hvp) hlm
      have hrg : ∀ y ∈ q, 0 ≤ y ∧ y < ((mv x.moves l).length : Int) := fun y hy => by have := (patB_iff.1 hpq).2.1 y hy; have := hpn.1; omega
      have Hrg := Lib.hid hrg
      have Hql := Lib.hid (show q.length ≤ 1000 by have := (patB_iff.1 hpq).1; omega)
      have hk2 : (k : Int) < ((ltrs x.moves.length).length : Int) := by omega
      have hk3 : (k : Int) < (((ltrs x.moves.length).map (mv x.moves)).length : Int) := by rw [List.length_map]; omega
      clear hdes0 hdl e1 e2 hne hm hl hl0 hrg
      go_wp2_with (first | (go_at_call 62; (with_reducible refine (descent_any g x t _ q _ _ hP2 hq hc hpq).mono ?_); rintro e w3 ⟨he, t3⟩; rw [Hdes.out, Htb.out] at he; subst he; have s0 := (hb2.keep t3).cell 0 rfl) | (go_at_call 73; (with_reducible refine (Equal_rd _ (.slice A0 t.tracked.length C0) q t.tracked _ _ _ (Rp.keep hq t3) (Rp.keep r0 (hKW.trans t3))).mono ?_); rintro e w4 ⟨he, k4⟩; rw [heq] at he; subst he; have hk4 := Drew.only k4 []; have hk34 := t3.trans hk4; obtain ⟨x0', x1', x2', xl', xm', M3, y0', y1', y2', yl', ym', z0', hB3, -, -, -, rl3, -, -⟩ := hP2.keep hk34; obtain ⟨A3, C3, rfl, I3⟩ := rl3.ints; obtain ⟨bl, ol, rfl, -, hcl⟩ := I3.at_ k hk; rw [← HLk.out] at hcl; have dl := hB3.cell 3 rfl) | (at_builtin; refine wpList_pushK rfl _ _ 27 rfl 2 i0 _ 8 Try.underlying27 hi hz0 hz1 hz2 rfl (by decide) (by decide) rfl (hA.keep hk34) ((Only.refl _ _).alloc _) (Nat.le_refl _) (Nat.le_trans hsz hk34.size) _ 1 [.int .i64 l] l [] rfl (lit_src w4 [.int .i64 l] _ rfl) (by intro u hu; simp at hu; subst hu; rfl) (int_rd _ HIl.out) (Fresh.nil _ _) Hlen.out ?_; intro v5 w5 hA5 hO5; have hK5 := hA5.only; have hP5 := hP.keep hK5; obtain ⟨w0', w1', w2', wl', wm', M', g0', g1', g2', gl', gm', km', hB', -, -, -, -, rm', -⟩ := hP5; obtain ⟨Am, Cm, obm, fpm, rfl, -, hsm⟩ := rm'.open_; obtain ⟨bm, om, um, rfl, -, hcm, hum⟩ := hsm.atRow k (by rw [List.length_map]; exact hk); rw [List.getElem_map, ← HLk.out] at hum; have dm := hB'.cell 4 rfl; have hq5 := hA5.frame hq (fun b hb => hb); obtain ⟨a5, n5, c5, hn5, hv5⟩ := hA5.formL; subst hv5; have Hn5 := Lib.hid hn5; clear hn5) | (go_at_call 74; (with_reducible refine (picked_rd um _ (mv x.moves l) q _ _ _ hum hq5 Hrg.out Hql.out).mono ?_); rintro e w7 ⟨u7, f7, rfl, r7, F7, t7⟩))
      go_roundw
      case rel => exact ⟨wl ++ [l], nxt x q l, f7, by have h9 := (hA5.now.drop (G' := []) (by simp)).hold t7 F7.lt F7.ge; simpa using h9, r7, hnp, hnx, hstep⟩
      case measure => have h5 := Hn5.out; have h6 := Hno.out; rw [List.length_append] at h5; simp only [List.length_cons, List.length_nil] at h5; simp only [sliceLen]; omega
    · have Hit := Lib.hid (hI.hit (eqV_iff.1 heq))
      have Hdes := Lib.hid (rfl : desI x t q = desI x t q)
      obtain ⟨kd, hkd⟩ : ∃ k, k = desI x t q := ⟨_, rfl⟩
      clear hdes0 hdl
      go_wp2_with (first | (go_at_call 62; (with_reducible refine (descent_any g x t _ q _ _ hP2 hq hc hpq).mono ?_); rintro e w3 ⟨he, t3⟩; rw [Hdes.out, Htb.out] at he; subst he; have s0 := (hb2.keep t3).cell 0 rfl) | (go_at_call 73; (with_reducible refine (Equal_rd _ (.slice A0 t.tracked.length C0) q t.tracked _ _ _ (Rp.keep hq t3) (Rp.keep r0 (hKW.trans t3))).mono ?_); rintro e w4 ⟨he, k4⟩; rw [heq] at he; subst he; have hk4 := Drew.only k4 []; have hk34 := t3.trans hk4))
      obtain ⟨fp, hr, hF⟩ := AccK.rd (hA.keep hk34) (by decide)
      refine bodyPost_ret (v := .tuple #[.slice ao no co, .bool true]) (by simp [results, Try.results40, go_sem]) rfl ⟨_, _, by rw [Hit.out]; rfl, by rw [Hit.out]; exact hr, hF.mono hK1.size, hKW.trans hk34⟩
end Go.Proofs.Ytmilmbgnkpkmnaa
