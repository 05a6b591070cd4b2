/- The reference's table functions: faults, admissible tables, descents. (Written by mkspectab4.py.) The reference's DescentWord. (Written by mkdw.py.) The program's DescentWord. (Written by mkdwi.py.) The law on descents (law 11): its walk. -/
import Derived.Test.YtoinaidncncdhaaRowDescentsG10
namespace Go.Proofs.Ytoinaidncncdhaa
open Go.RowKit
set_option maxRecDepth 10000
theorem AccK.drop {α : Type} [Rp α] {w0 W wx : World} {B : Nat} {e : TypeId} {G G' : List Nat} {v : Value} {l : List α} (h : AccK w0 B e G W wx v l) (hs : ∀ b ∈ G', b ∈ G) : AccK w0 B e G' W wx v l := by
  obtain ⟨fs, a, b, c, d, f, g⟩ := h
  exact ⟨fs, a, b, c, fun x hx => d x (hs x hx), fun x hx => f x (hs x hx), fun x hx => g x (hs x hx)⟩
theorem AccK.blk {α : Type} [Rp α] {w0 W wx : World} {B : Nat} {e : TypeId} {G : List Nat} {v : Value} {l : List α} (h : AccK w0 B e G W wx v l) {g : Nat} {cs : List Value} (hb : Blk W g cs) (hg : g ∈ G) : Blk wx g cs := by
  obtain ⟨fs, _, _, _, d, _⟩ := h
  obtain ⟨t, ht⟩ := hb
  exact ⟨t, by rw [d g hg]; exact ht⟩
end Go.Proofs.Ytoinaidncncdhaa

namespace Go.Proofs.Ytoinaidncncdhaa
open Go.RowKit
set_option maxRecDepth 10000

theorem dW_hit {x : Puzzle} {t : Table} {n : Nat} {q : List Int} (h : q = t.tracked) : dW x t n q = some [] := by cases n <;> simp [dW, h]
theorem dW_none {x : Puzzle} {t : Table} {n : Nat} {q : List Int} (h : q ≠ t.tracked) (h2 : dLet x t q = 0) : dW x t n q = none := by cases n <;> simp [dW, h, h2]
theorem dW_zero {x : Puzzle} {t : Table} {q : List Int} (h : q ≠ t.tracked) : dW x t 0 q = none := by simp [dW, h]
theorem dW_succ {x : Puzzle} {t : Table} {n : Nat} {q : List Int} (h : q ≠ t.tracked) (h2 : dLet x t q ≠ 0) : dW x t (n + 1) q = (dW x t n (nxt x q (dLet x t q))).map (dLet x t q :: ·) := by simp [dW, h, h2]
/-- what is left of the descent -/
def WInv (x : Puzzle) (t : Table) (p wl q : List Int) : Prop := wl.length ≤ 200 ∧ dWord x t p = (dW x t (200 - wl.length) q).map (wl ++ ·)
theorem WInv.start {x : Puzzle} {t : Table} {p : List Int} (hc : checkT x t = true) (hi : 0 ≤ idxL t.patterns p) : WInv x t p [] p := by
  refine ⟨by simp, ?_⟩
  unfold dWord
  rw [if_pos ⟨hc, hi⟩]
  simp
theorem WInv.step {x : Puzzle} {t : Table} {p wl q : List Int} (h : WInv x t p wl q) (h1 : q ≠ t.tracked) (h2 : dLet x t q ≠ 0) (h3 : wl.length < 200) : WInv x t p (wl ++ [dLet x t q]) (nxt x q (dLet x t q)) := by
  obtain ⟨a, b⟩ := h
  refine ⟨by simp; omega, ?_⟩
  rw [b, show 200 - wl.length = (200 - (wl.length + 1)) + 1 by omega, dW_succ h1 h2, List.length_append]
  simp [Option.map_map, Function.comp_def]
theorem WInv.hit {x : Puzzle} {t : Table} {p wl q : List Int} (h : WInv x t p wl q) (h1 : q = t.tracked) : dWord x t p = some wl := by
  rw [h.2, dW_hit h1]; simp
theorem WInv.fail {x : Puzzle} {t : Table} {p wl q : List Int} (h : WInv x t p wl q) (h1 : q ≠ t.tracked) (h2 : dLet x t q = 0 ∨ wl.length = 200) : dWord x t p = none := by
  rw [h.2]
  rcases h2 with h2 | h2
  · rw [dW_none h1 h2]; rfl
  · rw [h2, Nat.sub_self, dW_zero h1]; rfl
theorem dLet_letter {x : Puzzle} {t : Table} {q : List Int} (h : dLet x t q ≠ 0) : dLet x t q ∈ ltrs x.moves.length ∧ 0 ≤ nextI x t q (dLet x t q) := by
  unfold dLet at h ⊢
  split at h
  · rename_i hc
    rw [if_pos hc]
    unfold descL at h ⊢
    cases hf : (ltrs x.moves.length).find? (leads x t q (atD t (idxL t.patterns q) - 1)) with
    | none => rw [hf] at h; exact absurd rfl h
    | some a =>
      have h1 := List.find?_some hf
      exact ⟨List.mem_of_find?_eq_some hf, (leads_iff.1 h1).1⟩
  · exact absurd rfl h
theorem AccK.formL {α : Type} [Rp α] {w0 W wx : World} {B : Nat} {e : TypeId} {G : List Nat} {v : Value} {l : List α} (h : AccK w0 B e G W wx v l) : ∃ a n c, n = l.length ∧ v = Value.slice a n c := by
  obtain ⟨a, c, hv⟩ := h.form
  exact ⟨a, _, c, rfl, hv⟩
def sliceLen : Value → Nat
  | .slice _ n _ => n
  | _ => 0

end Go.Proofs.Ytoinaidncncdhaa

namespace Go.Proofs.Ytoinaidncncdhaa
open Go.RowKit
set_option maxRecDepth 10000

set_option maxHeartbeats 8000000 in
theorem implDescentWord_any (cs ds : List Value) (x : Puzzle) (t : Table) (u : Value) (p : List Int) (f1 f2 f3 : List Nat) (w : World) (h : Rp.rep w cs x f1) (h2 : Rp.rep w ds t f2) (h3 : Rd w u p f3) :
    Calls Try.prog 16 #[.agg cs.toArray, .agg ds.toArray, u] w fun e w' => ∃ v fp', e = .returned (.tuple #[v, .bool (dWord x t p).isSome]) ∧ Rd w' v ((dWord x t p).getD []) fp' ∧ Fresh w.heap.size w' fp' ∧ Only [] w w' := by
  have h0 := h
  have h20 := h2
  obtain ⟨v2, rfl, p0, p1, hm⟩ := h
  obtain ⟨u0, u1, u2, q0, q1, q2, rfl, rfl, r0, r1, r2⟩ := h2
  obtain ⟨A0, C0, rfl, I0⟩ := r0.ints
  have hB2 := Blk.new_at (w := w.alloc (.cells [.int .i64 x.points, .string x.names, v2].toArray 29)) (g := w.heap.size + 1) (cs := [.slice A0 t.tracked.length C0, u1, u2]) (t := 33) (by simp)
  rcases hcp : checkT x t && patB x.points t.tracked.length p
  · have hd : dWord x t p = none := by
      unfold dWord
      rw [Bool.and_eq_false_iff] at hcp
      rw [if_neg]
      rintro ⟨hc, hi⟩
      rcases hcp with h9 | h9
      · rw [hc] at h9; cases h9
      · have := idxL_no hc h9; omega
    have Hd := Lib.hid hd
    clear hd
    go_enter Try.func16, Try.ntmps16
    go_wp2_with ((go_at_call 38; (with_reducible refine (proofOf_any [.int .i64 x.points, .string x.names, v2] [.slice A0 t.tracked.length C0, u1, u2] x t u p _ _ _ _ (Rp.keep h0 (by with_reducible repeat (first | exact Only.refl _ _ | assumption | refine Only.drewN ?_ _ | refine Only.drew ?_ | refine Only.alloc ?_ _ | refine Only.setCell ?_ (by intro hh; exfalso; simp at hh; try omega) _ | refine Only.trans ?_ (by assumption)))) (Rp.keep h20 (by with_reducible repeat (first | exact Only.refl _ _ | assumption | refine Only.drewN ?_ _ | refine Only.drew ?_ | refine Only.alloc ?_ _ | refine Only.setCell ?_ (by intro hh; exfalso; simp at hh; try omega) _ | refine Only.trans ?_ (by assumption)))) (Rp.keep h3 (by with_reducible repeat (first | exact Only.refl _ _ | assumption | refine Only.drewN ?_ _ | refine Only.drew ?_ | refine Only.alloc ?_ _ | refine Only.setCell ?_ (by intro hh; exfalso; simp at hh; try omega) _ | refine Only.trans ?_ (by assumption))))).mono ?_); rintro e w1 ⟨q, he, hq, t1⟩; rw [hcp] at he; subst he))
    refine bodyPost_ret (v := .tuple #[.slice none 0 0, .bool false]) (by simp [results, Try.results16, go_sem]) rfl ⟨_, [], by rw [Hd.out]; rfl, by rw [Hd.out]; exact nil_rd _, Fresh.nil _ _, (by with_reducible repeat (first | exact Only.refl _ _ | assumption | refine Only.drewN ?_ _ | refine Only.drew ?_ | refine Only.alloc ?_ _ | refine Only.setCell ?_ (by intro hh; exfalso; simp at hh; try omega) _ | refine Only.trans ?_ (by assumption)))⟩
  obtain ⟨hc, hp⟩ := Bool.and_eq_true_iff.1 hcp
  rcases Int.lt_or_le (idxL t.patterns p) 0 with hneg | hneg
  · have hd : dWord x t p = none := by unfold dWord; rw [if_neg (by omega)]
    have Hd := Lib.hid hd
    have Hdes := Lib.hid (desI_no (x := x) hneg)
    have Htb := Lib.hid (toB_no hneg)
    clear hd hneg
    go_enter Try.func16, Try.ntmps16
    go_wp2_with ((go_at_call 38; (with_reducible refine (proofOf_any [.int .i64 x.points, .string x.names, v2] [.slice A0 t.tracked.length C0, u1, u2] x t u p _ _ _ _ (Rp.keep h0 (by with_reducible repeat (first | exact Only.refl _ _ | assumption | refine Only.drewN ?_ _ | refine Only.drew ?_ | refine Only.alloc ?_ _ | refine Only.setCell ?_ (by intro hh; exfalso; simp at hh; try omega) _ | refine Only.trans ?_ (by assumption)))) (Rp.keep h20 (by with_reducible repeat (first | exact Only.refl _ _ | assumption | refine Only.drewN ?_ _ | refine Only.drew ?_ | refine Only.alloc ?_ _ | refine Only.setCell ?_ (by intro hh; exfalso; simp at hh; try omega) _ | refine Only.trans ?_ (by assumption)))) (Rp.keep h3 (by with_reducible repeat (first | exact Only.refl _ _ | assumption | refine Only.drewN ?_ _ | refine Only.drew ?_ | refine Only.alloc ?_ _ | refine Only.setCell ?_ (by intro hh; exfalso; simp at hh; try omega) _ | refine Only.trans ?_ (by assumption))))).mono ?_); rintro e w1 ⟨q, he, hq, t1⟩; rw [hcp] at he; subst he; obtain ⟨g, rfl, hP⟩ := hq hc; have hK1 : Only [] w w1 := (by with_reducible repeat (first | exact Only.refl _ _ | assumption | refine Only.drewN ?_ _ | refine Only.drew ?_ | refine Only.alloc ?_ _ | refine Only.setCell ?_ (by intro hh; exfalso; simp at hh; try omega) _ | refine Only.trans ?_ (by assumption)))))
    go_loopw [2, 10] (fun pv o wr => pv = u ∧ wr = w1) (fun _ _ _ => 0)
    case atStart => exact ⟨rfl, rfl⟩
    case round =>
      obtain ⟨rfl, rfl⟩ := hrel
      go_wp2_with ((go_at_call 39; (with_reducible refine (descent_any g x t _ p _ _ hP (Rp.keep h3 hK1) hc hp).mono ?_); rintro e w3 ⟨he, t3⟩; rw [Hdes.out, Htb.out] at he; subst he))
      refine bodyPost_ret (v := .tuple #[.slice none 0 0, .bool false]) (by simp [results, Try.results16, go_sem]) rfl ⟨_, [], by rw [Hd.out]; rfl, by rw [Hd.out]; exact nil_rd _, Fresh.nil _ _, hK1.trans t3⟩
  have hstart := WInv.start hc hneg
  obtain ⟨i0, hi, hz0, hz1, hz2⟩ := info_parts Try.info2
  have hvp := (checkT_iff.1 hc).1
  have hx8 := (validPz_facts hvp).2.2.1
  have hx20 := (validPz_facts hvp).2.1
  have hlt3 := Rp.lt h3
  have htl := inc_len_le2 (checkT_iff.1 hc).2.2.1
  go_enter Try.func16, Try.ntmps16
  go_wp2_with ((go_at_call 38; (with_reducible refine (proofOf_any [.int .i64 x.points, .string x.names, v2] [.slice A0 t.tracked.length C0, u1, u2] x t u p _ _ _ _ (Rp.keep h0 (by with_reducible repeat (first | exact Only.refl _ _ | assumption | refine Only.drewN ?_ _ | refine Only.drew ?_ | refine Only.alloc ?_ _ | refine Only.setCell ?_ (by intro hh; exfalso; simp at hh; try omega) _ | refine Only.trans ?_ (by assumption)))) (Rp.keep h20 (by with_reducible repeat (first | exact Only.refl _ _ | assumption | refine Only.drewN ?_ _ | refine Only.drew ?_ | refine Only.alloc ?_ _ | refine Only.setCell ?_ (by intro hh; exfalso; simp at hh; try omega) _ | refine Only.trans ?_ (by assumption)))) (Rp.keep h3 (by with_reducible repeat (first | exact Only.refl _ _ | assumption | refine Only.drewN ?_ _ | refine Only.drew ?_ | refine Only.alloc ?_ _ | refine Only.setCell ?_ (by intro hh; exfalso; simp at hh; try omega) _ | refine Only.trans ?_ (by assumption))))).mono ?_); rintro e w1 ⟨q, he, hq, t1⟩; rw [hcp] at he; subst he; obtain ⟨g, rfl, hP⟩ := hq hc; have hK1 : Only [] w w1 := (by with_reducible repeat (first | exact Only.refl _ _ | assumption | refine Only.drewN ?_ _ | refine Only.drew ?_ | refine Only.alloc ?_ _ | refine Only.setCell ?_ (by intro hh; exfalso; simp at hh; try omega) _ | refine Only.trans ?_ (by assumption)))))
  have c2 := hB2.keep t1
  have hA0 : AccK w1 w1.heap.size 2 f3 w1 w1 (.slice none 0 0) ([] : List Int) :=
    ⟨[], Acc.nil _ _ _, Fresh.nil _ _, Only.refl _ _, fun _ _ => rfl, fun b hb => Nat.lt_of_lt_of_le (hlt3 b hb) hK1.size, by simp [Value.ownBlock]⟩
  have hh3 := Rp.keep h3 hK1
  go_loopw [2, 10] (fun pv o wr => ∃ (wl q : List Int) (fq : List Nat), AccK w1 w1.heap.size 2 fq wr wr o wl ∧ Rd wr pv q fq ∧ patB x.points t.tracked.length q = true ∧ 0 ≤ idxL t.patterns q ∧ WInv x t p wl q)
    (fun _ o _ => 201 - sliceLen o)
  case atStart => exact ⟨[], p, f3, hA0, hh3, hp, hneg, hstart⟩
  case round =>
    clear hA0 hstart hh3 hneg
    obtain ⟨wl, q, fq, hA, hq, hpq, hidx, hI⟩ := hrel
    have hK := hA.only
    have hKW := hK1.trans hK
    have hsz := hK.size
    have hP2 := hP.keep hK
    have hb2 := c2.keep hK
    obtain ⟨ao, no, co, hno, ho⟩ := hA.formL
    subst ho
    have Hno := Lib.hid hno
    have hnl : no ≤ 200 := by rw [hno]; exact hI.1
    clear hno
    obtain ⟨ap, cp, hpv, Ip⟩ := hq.ints
    subst hpv
    have Htb := Lib.hid (toB_yes hidx)
    have hdes0 := desI_yes (x := x) hidx
    have hdl := dLet_yes hc hidx
    rcases heq : eqV q t.tracked
    · have hne : q ≠ t.tracked := eqV_iff'.1 heq
      rcases descL_of_dK (x := x) (t := t) (p := q) (d := atD t (idxL t.patterns q) - 1) with ⟨e1, e2⟩ | ⟨k, hk, e1, e2⟩
      · rw [e1] at hdes0
        rw [e2] at hdl
        have Hd := Lib.hid (hI.fail hne (.inl hdl))
        have Hdes := Lib.hid hdes0
        clear hdes0 hdl e1 e2 hne
        go_wp2_with (first | (go_at_call 39; (with_reducible refine (descent_any g x t _ q _ _ hP2 hq hc hpq).mono ?_); rintro e w3 ⟨he, t3⟩; rw [Hdes.out, Htb.out] at he; subst he; have s0 := (hb2.keep t3).cell 0 rfl) | (go_at_call 40; (with_reducible refine (Equal_rd _ (.slice A0 t.tracked.length C0) q t.tracked _ _ _ (Rp.keep hq t3) (Rp.keep r0 (hKW.trans t3))).mono ?_); rintro e w4 ⟨he, k4⟩; rw [heq] at he; subst he; have hk4 := Drew.only k4 []; have hk34 := t3.trans hk4))
        refine bodyPost_ret (v := .tuple #[.slice none 0 0, .bool false]) (by simp [results, Try.results16, go_sem]) rfl ⟨_, [], by rw [Hd.out]; rfl, by rw [Hd.out]; exact nil_rd _, Fresh.nil _ _, hKW.trans hk34⟩
      rw [e1] at hdes0
      rw [e2] at hdl
      have Hdes := Lib.hid hdes0
      have hk1 : ¬ (k : Int) < 0 := by omega
      by_cases hm : no = 200
      · have hmm : ((no : Int) == 200) = true := by simp [hm]
        have Hd := Lib.hid (hI.fail hne (.inr (by rw [← Hno.out]; exact hm)))
        clear hdes0 hdl e1 e2 hne hm
        go_wp2_with (first | (go_at_call 39; (with_reducible refine (descent_any g x t _ q _ _ hP2 hq hc hpq).mono ?_); rintro e w3 ⟨he, t3⟩; rw [Hdes.out, Htb.out] at he; subst he; have s0 := (hb2.keep t3).cell 0 rfl) | (go_at_call 40; (with_reducible refine (Equal_rd _ (.slice A0 t.tracked.length C0) q t.tracked _ _ _ (Rp.keep hq t3) (Rp.keep r0 (hKW.trans t3))).mono ?_); rintro e w4 ⟨he, k4⟩; rw [heq] at he; subst he; have hk4 := Drew.only k4 []; have hk34 := t3.trans hk4))
        refine bodyPost_ret (v := .tuple #[.slice none 0 0, .bool false]) (by simp [results, Try.results16, go_sem]) rfl ⟨_, [], by rw [Hd.out]; rfl, by rw [Hd.out]; exact nil_rd _, Fresh.nil _ _, hKW.trans hk34⟩
      have hmm : ((no : Int) == 200) = false := by rw [beq_eq_false_iff_ne]; omega
      have hl0 : dLet x t q ≠ 0 := by rw [hdl]; exact (mem_ltrs.1 (List.getElem_mem hk)).1
      obtain ⟨hlm, hnx⟩ := dLet_letter hl0
      have hstep := hI.step hne hl0 (by have := Hno.out; omega)
      have hnp := nxt_pat hvp hpq hlm
      rw [hdl] at hstep hnp hnx hlm
      obtain ⟨l, hl⟩ : ∃ l, l = (ltrs x.moves.length)[k] := ⟨_, rfl⟩
      rw [← hl] at hstep hnp hnx hlm
      have HIl := Lib.hid (show I64 l by have := mem_ltrs.1 hlm; unfold I64; omega)
      have Hlen := Lib.hid (show wl.length + 1 ≤ 1073741824 by have := hI.1; omega)
      have HLk := Lib.hid hl
      have hpn := mv_pn (validPz_pn hvp) hlm
      have hrg : ∀ y ∈ q, 0 ≤ y ∧ y < ((mv x.moves l).length : Int) := fun y hy => by have := (patB_iff.1 hpq).2.1 y hy; have := hpn.1; omega
      have Hrg := Lib.hid hrg
      have Hql := Lib.hid (show q.length ≤ 1000 by have := (patB_iff.1 hpq).1; omega)
      have hk2 : (k : Int) < ((ltrs x.moves.length).length : Int) := by omega
      have hk3 : (k : Int) < (((ltrs x.moves.length).map (mv x.moves)).length : Int) := by rw [List.length_map]; omega
      clear hdes0 hdl e1 e2 hne hm hl hl0 hrg
      go_wp2_with (first | (go_at_call 39; (with_reducible refine (descent_any g x t _ q _ _ hP2 hq hc hpq).mono ?_); rintro e w3 ⟨he, t3⟩; rw [Hdes.out, Htb.out] at he; subst he; have s0 := (hb2.keep t3).cell 0 rfl) | (go_at_call 40; (with_reducible refine (Equal_rd _ (.slice A0 t.tracked.length C0) q t.tracked _ _ _ (Rp.keep hq t3) (Rp.keep r0 (hKW.trans t3))).mono ?_); rintro e w4 ⟨he, k4⟩; rw [heq] at he; subst he; have hk4 := Drew.only k4 []; have hk34 := t3.trans hk4; obtain ⟨x0', x1', x2', xl', xm', M3, y0', y1', y2', yl', ym', z0', hB3, -, -, -, rl3, -, -⟩ := hP2.keep hk34; obtain ⟨A3, C3, rfl, I3⟩ := rl3.ints; obtain ⟨bl, ol, rfl, -, hcl⟩ := I3.at_ k hk; rw [← HLk.out] at hcl; have dl := hB3.cell 3 rfl) | (at_builtin; refine wpList_pushK rfl _ _ 31 rfl 2 i0 _ 8 Try.underlying31 hi hz0 hz1 hz2 rfl (by decide) (by decide) rfl (hA.keep hk34) ((Only.refl _ _).alloc _) (Nat.le_refl _) (Nat.le_trans hsz hk34.size) _ 1 [.int .i64 l] l [] rfl (lit_src w4 [.int .i64 l] _ rfl) (by intro u hu; simp at hu; subst hu; rfl) (int_rd _ HIl.out) (Fresh.nil _ _) Hlen.out ?_; intro v5 w5 hA5 hO5; have hK5 := hA5.only; have hP5 := hP.keep hK5; obtain ⟨w0', w1', w2', wl', wm', M', g0', g1', g2', gl', gm', km', hB', -, -, -, -, rm', -⟩ := hP5; obtain ⟨Am, Cm, obm, fpm, rfl, -, hsm⟩ := rm'.open_; obtain ⟨bm, om, um, rfl, -, hcm, hum⟩ := hsm.atRow k (by rw [List.length_map]; exact hk); rw [List.getElem_map, ← HLk.out] at hum; have dm := hB'.cell 4 rfl; have hq5 := hA5.frame hq (fun b hb => hb); obtain ⟨a5, n5, c5, hn5, hv5⟩ := hA5.formL; subst hv5; have Hn5 := Lib.hid hn5; clear hn5) | (go_at_call 41; (with_reducible refine (picked_rd um _ (mv x.moves l) q _ _ _ hum hq5 Hrg.out Hql.out).mono ?_); rintro e w7 ⟨u7, f7, rfl, r7, F7, t7⟩))
      go_roundw
      case rel => exact ⟨wl ++ [l], nxt x q l, f7, by have h9 := (hA5.now.drop (G' := []) (by simp)).hold t7 F7.lt F7.ge; simpa using h9, r7, hnp, hnx, hstep⟩
      case measure => have h5 := Hn5.out; have h6 := Hno.out; rw [List.length_append] at h5; simp only [List.length_cons, List.length_nil] at h5; simp only [sliceLen]; omega
    · have Hit := Lib.hid (hI.hit (eqV_iff.1 heq))
      have Hdes := Lib.hid (rfl : desI x t q = desI x t q)
      obtain ⟨kd, hkd⟩ : ∃ k, k = desI x t q := ⟨_, rfl⟩
      clear hdes0 hdl
      go_wp2_with (first | (go_at_call 39; (with_reducible refine (descent_any g x t _ q _ _ hP2 hq hc hpq).mono ?_); rintro e w3 ⟨he, t3⟩; rw [Hdes.out, Htb.out] at he; subst he; have s0 := (hb2.keep t3).cell 0 rfl) | (go_at_call 40; (with_reducible refine (Equal_rd _ (.slice A0 t.tracked.length C0) q t.tracked _ _ _ (Rp.keep hq t3) (Rp.keep r0 (hKW.trans t3))).mono ?_); rintro e w4 ⟨he, k4⟩; rw [heq] at he; subst he; have hk4 := Drew.only k4 []; have hk34 := t3.trans hk4))
      obtain ⟨fp, hr, hF⟩ := AccK.rd (hA.keep hk34) (by decide)
      refine bodyPost_ret (v := .tuple #[.slice ao no co, .bool true]) (by simp [results, Try.results16, go_sem]) rfl ⟨_, _, by rw [Hit.out]; rfl, by rw [Hit.out]; exact hr, hF.mono hK1.size, hKW.trans hk34⟩
end Go.Proofs.Ytoinaidncncdhaa

namespace Go.Proofs.Ytoinaidncncdhaa
open Go.RowKit
set_option maxRecDepth 10000

set_option maxHeartbeats 4000000 in
theorem FnDescents_any (w : World) (v : Value) (l : List UInt8) (fc : List Nat) (h : Rd w v l fc) :
    Calls Try.prog 4 #[v] w fun e w' => e = .returned (.bool true) ∧ Only [] w w' := by
  by_cases hb : 4096 < l.length
  · have hd : decide (4096 < l.length) = true := by simp [hb]
    go_enter Try.func4, Try.ntmps4
    go_wp2_with ((go_at_call 7; (with_reducible refine (big_any v l fc _ h).mono ?_); rintro e w1 ⟨he, t1⟩; rw [hd] at he; subst he))
    go_ret
    exact ⟨rfl, (by with_reducible repeat (first | exact Only.refl _ _ | assumption | refine Only.drewN ?_ _ | refine Only.drew ?_ | refine Only.alloc ?_ _ | refine Only.setCell ?_ (by intro hh; exfalso; simp at hh; try omega) _ | refine Only.trans ?_ (by assumption)))⟩
  have hd : decide (4096 < l.length) = false := by simp [hb]
  have hl : l.length ≤ 4096 := by omega
  have hfc : ∀ b ∈ fc, b < w.heap.size := fun b hb => Rp.lt h b hb
  go_enter Try.func4, Try.ntmps4
  go_upto_region 5 with (first
    | (go_at_call 7; (with_reducible refine (big_any v l fc _ h).mono ?_); rintro e w1 ⟨he, t1⟩; rw [hd] at he; subst he; have k1 : Only [] w w1 := (by with_reducible repeat (first | exact Only.refl _ _ | assumption | refine Only.drewN ?_ _ | refine Only.drew ?_ | refine Only.alloc ?_ _ | refine Only.setCell ?_ (by intro hh; exfalso; simp at hh; try omega) _ | refine Only.trans ?_ (by assumption))))
    | (go_at_call 8; (with_reducible refine (roll_any v l fc 917 _ (Rp.keep h (by with_reducible repeat (first | exact Only.refl _ _ | assumption | refine Only.drewN ?_ _ | refine Only.drew ?_ | refine Only.alloc ?_ _ | refine Only.setCell ?_ (by intro hh; exfalso; simp at hh; try omega) _ | refine Only.trans ?_ (by assumption)))) hl).mono ?_); rintro e w2 ⟨g, rfl, D2, hg, t2⟩; have k2 : Only [] w w2 := (by with_reducible repeat (first | exact Only.refl _ _ | assumption | refine Only.drewN ?_ _ | refine Only.drew ?_ | refine Only.alloc ?_ _ | refine Only.setCell ?_ (by intro hh; exfalso; simp at hh; try omega) _ | refine Only.trans ?_ (by assumption))))
    | (go_at_call 9; (with_reducible refine (w6Puzzle_any g fc l _ D2 hl).mono ?_); rintro e w3 ⟨cs, x, fp, rfl, rP, hv, p3, p5, m1, m3, FP, D3, K3⟩; obtain ⟨v2, rfl, q0, q1, rM⟩ := rP; obtain ⟨A2, C2, _, _, rfl, -, -⟩ := rM.open_)
    | fail "no arm")
  obtain ⟨W3, hW3⟩ : ∃ W3, W3 = w3.alloc (.cells #[.int .i64 x.points, .string x.names, .slice A2 x.moves.length C2] 29) := ⟨_, rfl⟩
  have hP : Blk W3 w3.heap.size [.int .i64 x.points, .string x.names, .slice A2 x.moves.length C2] := by rw [hW3]; exact Blk.new w3 _ _
  have ka : Only [] w3 W3 := by rw [hW3]; exact (Only.refl _ _).alloc _
  have DW := D3.keep ka
  have rP : Rp.rep W3 [.int .i64 x.points, .string x.names, .slice A2 x.moves.length C2] x fp := Rp.keep ⟨_, rfl, q0, q1, rM⟩ ka
  have hgl := DW.lt
  have hgw : w.heap.size ≤ g := by have := k1.size; omega
  have hK3 : Only [] w W3 := ((k2.weaken [g]).trans (K3.trans (ka.weaken [g]))).mono fun b hb hl => by simp at hb; omega
  have hfcg : ∀ b ∈ fc, b < W3.heap.size := fun b hb => by have := hfc b hb; have := hK3.size; omega
  have hPg : ∀ b ∈ fp, b ∉ [g] := fun b hb hm => by have := FP.ge b hb; have := D2.lt; simp at hm; omega
  have hgp : w3.heap.size ∉ [g] := by simp; have := D3.lt; omega
  have x0 := hP.cell 0 rfl
  have x1 := hP.cell 1 rfl
  have x2 := hP.cell 2 rfl
  have kz : Only [] W3 (W3.alloc (.cells #[.slice none 0 0, .slice none 0 0, .slice none 0 0] 33)) := (Only.refl _ _).alloc _
  have xa0 := kz.cell (by simp) x0
  have xa1 := kz.cell (by simp) x1
  have xa2 := kz.cell (by simp) x2
  have Hc := Lib.hid (fun (W : World) (u : Value) (tr : List Int) (ft : List Nat) (hh : Only [g] W3 W) (hu : Rd W u tr ft) (hT : Trk tr) => specBuildDrawn [.int .i64 x.points, .string x.names, .slice A2 x.moves.length C2] x fp u tr ft W (Rp.only rP hh hPg) hu hv p3 p5 hT)
  have hgn : W3.heap.size ∉ [g] := by simp; omega
  have hz3 := hP.lt
  have hg3 := D3.lt
  have hc3 : ([.slice none 0 0, .slice none 0 0, .slice none 0 0] : List Value).length = 3 := rfl
  rw [← hW3]
  clear hW3
  go_cut [5, 6] (fun s5 s6 wx => VT W3 wx g fc l x s5 s6)
  case first =>
    go_region_law (first
      | (go_simp; go_at_call 11; (with_reducible refine (w6Tracked_any g fc l _ (DW.keep (by with_reducible repeat (first | exact Only.refl _ _ | assumption | refine Only.drewN ?_ _ | refine Only.drew ?_ | refine Only.alloc ?_ _ | refine Only.setCell ?_ (by intro hh; exfalso; simp at hh; try omega) _ | refine Only.trans ?_ (by assumption)))) hl).mono ?_); rintro e w5 ⟨u5, tr, f5, rfl, r5, hT, F5, D5, K5⟩; have hTT : Trk tr := hT; have K5w : Only [g] W3 w5 := Only.trans (by with_reducible repeat (first | exact Only.refl _ _ | refine Only.drew ?_ | refine Only.alloc ?_ _)) K5; have x50 := K5w.cell hgp x0; have x51 := K5w.cell hgp x1; have x52 := K5w.cell hgp x2; have kz5 : Only [] w5 (w5.alloc (.cells #[.slice none 0 0, .slice none 0 0, .slice none 0 0] 33)) := (Only.refl _ _).alloc _; have y50 := kz5.cell (by simp) x50; have y51 := kz5.cell (by simp) x51; have y52 := kz5.cell (by simp) x52)
      | (go_simp; go_at_call 10; (with_reducible refine (Hc.out _ _ tr f5 (Only.keepThen K5w (by with_reducible repeat (first | exact Only.refl _ _ | assumption | refine Only.drewN ?_ _ | refine Only.drew ?_ | refine Only.alloc ?_ _ | refine Only.setCell ?_ (by intro hh; exfalso; simp at hh; try omega) _ | refine Only.trans ?_ (by assumption)))) (Rp.keep r5 (by with_reducible repeat (first | exact Only.refl _ _ | assumption | refine Only.drewN ?_ _ | refine Only.drew ?_ | refine Only.alloc ?_ _ | refine Only.setCell ?_ (by intro hh; exfalso; simp at hh; try omega) _ | refine Only.trans ?_ (by assumption)))) hTT).mono ?_); rintro e w6 ⟨A5, C5, A6, C6, A7, C7, t, f6, he6, hbt, hbu, htr, r6, F6, t6⟩; subst he6; have hTt : Trk t.tracked := (by rw [htr]; exact hTT); clear htr hbt; have hz5 := K5.size; have hz6 := t6.size; (try simp at hz5); (try simp at hz6); first
        | (have Z := (((Blk.new W3 [.slice none 0 0, .slice none 0 0, .slice none 0 0] 33).keep ((Only.refl [] _).drew)).only K5 hgn).keep t6; have hgf : W3.heap.size ∉ f6 := (fun hm => by have := F6.ge _ hm; omega); have FF := F6.mono (B' := W3.heap.size) (by (try simp); omega); have g0 := Z.cell 0 rfl; have g1 := Z.cell 1 rfl; have g2 := Z.cell 2 rfl; have p0 := Z.frozen 0; have p1 := Z.frozen 1; have p2 := Z.frozen 2)
        | (have Z := (Blk.new w5 [.slice none 0 0, .slice none 0 0, .slice none 0 0] 33).keep t6; have hgf : w5.heap.size ∉ f6 := (fun hm => by have := F6.ge _ hm; (try simp at this); omega); have FF := F6.mono (B' := W3.heap.size) (by (try simp); omega); have g0 := Z.cell 0 rfl; have g1 := Z.cell 1 rfl; have g2 := Z.cell 2 rfl; have p0 := Z.frozen 0; have p1 := Z.frozen 1; have p2 := Z.frozen 2)
        | (have Z := Blk.new w6 [.slice none 0 0, .slice none 0 0, .slice none 0 0] 33; have hgf : w6.heap.size ∉ f6 := (fun hm => by have := F6.lt _ hm; omega); have rra := Rp.keep r6 ((Only.refl [] w6).alloc (.cells #[.slice none 0 0, .slice none 0 0, .slice none 0 0] 33)); have FF := F6.mono (B' := W3.heap.size) (by (try simp); omega); have g0 := Z.cell 0 rfl; have g1 := Z.cell 1 rfl; have g2 := Z.cell 2 rfl; have p0 := Z.frozen 0; have p1 := Z.frozen 1; have p2 := Z.frozen 2; have FFa := FF.keep ((Only.refl [] w6).alloc (.cells #[.slice none 0 0, .slice none 0 0, .slice none 0 0] 33))))
      | fail "no arm")
    all_goals go_wp2_with fail
    all_goals go_meet
    all_goals have K56 : Only [] w5 w6 := (by with_reducible repeat (first | exact Only.refl _ _ | assumption | refine Only.drew ?_ | refine Only.alloc ?_ _ | refine Only.trans ?_ (by assumption)))
    all_goals have KK6 : Only [g] W3 w6 := Only.keepThen K5w K56
    all_goals have D6 := D5.keep K56
    all_goals first
      | with_reducible exact VT.of2 KK6 r6 FF rfl hbu hTt D6
      | with_reducible exact VT.of Z hc3 (KK6.alloc _) rra FFa hgf (by omega) hbu hTt (D6.keep ((Only.refl [] w6).alloc _)) hgl hfcg
      | with_reducible exact VT.of Z hc3 KK6 r6 FF hgf (by omega) hbu hTt D6 hgl hfcg
  case rest =>
    obtain ⟨W4, hnew⟩ : ∃ W, W = wc := ⟨_, rfl⟩
    subst hnew
    obtain ⟨gb, t, A5, A6, A7, C5, C6, C7, f, hWg, rfl, rfl, hT, rT, FT, hgf, hbu, hTt, D4, K4⟩ := hcut
    obtain ⟨_, _, _, g1, g2, g3, hcs, -, s1, s2, s3⟩ := id rT
    cases hcs
    obtain ⟨aq, cq, oq, fq, hv2, -, S2⟩ := s2.open_
    injection hv2 with e1 _ e2
    subst e1
    subst e2
    obtain ⟨ar, cr, hv3, I3⟩ := s3.ints
    injection hv3 with e1 _ e2
    subst e1
    subst e2
    obtain ⟨at_, ct_, hv1, I1⟩ := s1.ints
    injection hv1 with e1 _ e2
    subst e1
    subst e2
    have hln := hbu.len
    have hpos := hbu.pos
    have hsml := hbu.small p5 hTt
    obtain ⟨b7, o7, rfl, -, -⟩ := I3.at_ 0 (by omega)
    obtain ⟨b6, o6, _, rfl, -, -, -⟩ := S2.atRow 0 (by omega)
    have hTl := hTt.len
    obtain ⟨b5, o5, rfl, -, -⟩ := I1.at_ 0 (by omega)
    have Hln := Lib.hid hln
    clear hln xa0 xa1 xa2 x0 x1 x2
    have hgbg : gb ∉ [g] := by simp; omega
    have hfg : ∀ b ∈ f, b ∉ [g] := fun b hb hm => by have := FT.ge b hb; simp at hm; omega
    have y1 := hT.cell 1 rfl
    have hd1 : (1 : Int) ≤ (t.patterns.length : Int) := by omega
    have hd2 : (t.patterns.length : Int) ≤ 1000000 := by omega
    go_upto_region 9 with ((go_at_call 15; (with_reducible refine (below_any g fc l t.patterns.length _ (D4.keep (by with_reducible repeat (first | exact Only.refl _ _ | assumption | refine Only.drewN ?_ _ | refine Only.drew ?_ | refine Only.alloc ?_ _ | refine Only.setCell ?_ (by intro hh; exfalso; simp at hh; try omega) _ | refine Only.trans ?_ (by assumption)))) hd1 hd2 hl).mono ?_); rintro e w9 ⟨r, rfl, q1, q2, D9, K9⟩))
    obtain ⟨k, rfl⟩ := Int.eq_ofNat_of_zero_le q1
    have hk : k < t.patterns.length := by omega
    clear q1 q2 y1
    have K9w : Only [g] W4 w9 := Only.trans ((Only.refl [g] W4)) K9
    have hKw9 : Only [] w w9 := (hK3.then_ K4 (fun b hb hl => by simp at hb; omega)).then_ K9w (fun b hb hl => by simp at hb; omega)
    have rT9 := Rp.only rT K9w hfg
    have hT9 := hT.only K9w hgbg
    have hP9 := (hP.only K4 hgp).only K9w hgp
    have rP9 := Rp.only (Rp.only rP K4 hPg) K9w hPg
    obtain ⟨_, _, _, y1, y2, y3, hcs, -, v1, v2, v3⟩ := id rT9
    cases hcs
    obtain ⟨aq, cq, oq, fq, hv2, -, S9⟩ := v2.open_
    injection hv2 with e1 _ e2
    subst e1
    subst e2
    obtain ⟨ar, cr, hv3, I9⟩ := v3.ints
    injection hv3 with e1 _ e2
    subst e1
    subst e2
    obtain ⟨at_, ct_, hv1, I8⟩ := v1.ints
    injection hv1 with e1 _ e2
    subst e1
    subst e2
    obtain ⟨b8, o8, u, he8, -, hrow, hu⟩ := S9.atRow k hk
    injection he8 with he8
    injection he8 with e1 e2
    subst e1
    subst e2
    obtain ⟨b8, o8, he8, -, hdc⟩ := I9.at_ k (by have := Hln.out; omega)
    injection he8 with he8
    injection he8 with e1 e2
    subst e1
    subst e2
    obtain ⟨A4, C4, rfl, I4⟩ := hu.ints
    obtain ⟨q, hq⟩ : ∃ q, q = t.patterns[k] := ⟨_, rfl⟩
    obtain ⟨d0, hd0⟩ : ∃ d, d = t.distances[k]'(by have := Hln.out; omega) := ⟨_, rfl⟩
    have hdl : k < t.distances.length := by have := Hln.out; omega
    have hqg : t.patterns.getD k [] = q := by rw [hq, List.getD_eq_getElem?_getD, List.getElem?_eq_getElem hk]; rfl
    have hdg : atD t k = d0 := by rw [atD_nat, hd0, List.getD_eq_getElem?_getD, List.getElem?_eq_getElem hdl]; rfl
    rw [← hq] at hrow hu I4
    rw [← hd0] at hdc
    have hdr := hbu.dep k hk
    rw [← atD_nat, hdg] at hdr
    obtain ⟨wd, w1', w2', w3', w4'⟩ := hbu.dWord_ hk (by rw [hdg]; omega)
    have hl0 := hbu.letter hk
    have hpq : patB x.points t.tracked.length q = true := by rw [hq]; exact hbu.bi.pat _ (List.getElem_mem hk)
    rw [hqg] at w1' w4' hl0
    rw [hdg] at w2' hl0
    have hwl : wd.length ≤ 200 := by omega
    obtain ⟨lt, hlt⟩ : ∃ lt, lt = dLet x t q := ⟨_, rfl⟩
    rw [← hlt] at hl0
    have H1 := Lib.hid w1'
    have H2 := Lib.hid w2'
    have H4 := Lib.hid w4'
    have Hl := Lib.hid hlt
    have Hl0 := Lib.hid hl0
    have hdm : d0 ≤ 25 := by omega
    have hd00 := hdr.1
    have hk1 : (k : Int) < (t.patterns.length : Int) := by omega
    have hk2 : (k : Int) < (t.distances.length : Int) := by omega
    have hk0 : (0 : Int) ≤ (k : Int) := by omega
    clear hq hd0 hqg hdg w1' w2' w4' hlt hl0 hdr
    have HcD := Lib.hid (fun (W : World) (hh : Only [] w9 W) => implDescentWord_any [.int .i64 x.points, .string x.names, .slice A2 x.moves.length C2] [.slice (some ⟨b5, o5, none⟩) t.tracked.length C5, .slice (some ⟨b6, o6, none⟩) t.patterns.length C6, .slice (some ⟨b7, o7, none⟩) t.distances.length C7] x t (.slice A4 q.length C4) q _ _ _ W (Rp.keep rP9 hh) (Rp.keep rT9 hh) (Rp.keep hu hh))
    have m0 := hP9.cell 0 rfl
    have m1' := hP9.cell 1 rfl
    have m2 := hP9.cell 2 rfl
    have n0 := hT9.cell 0 rfl
    have n1 := hT9.cell 1 rfl
    have n2 := hT9.cell 2 rfl
    go_region_held3 (fun w' => Only [] w9 w' ∧ w'.cell? ⟨w3.heap.size, 0, none⟩ = some (Value.int .i64 x.points) ∧ w'.cell? ⟨w3.heap.size, 1, none⟩ = some (.string x.names) ∧ w'.cell? ⟨w3.heap.size, 2, none⟩ = some (.slice A2 x.moves.length C2) ∧ w'.cell? ⟨gb, 0, none⟩ = some (.slice (some ⟨b5, o5, none⟩) t.tracked.length C5) ∧ w'.cell? ⟨gb, 1, none⟩ = some (.slice (some ⟨b6, o6, none⟩) t.patterns.length C6) ∧ w'.cell? ⟨gb, 2, none⟩ = some (.slice (some ⟨b7, o7, none⟩) t.distances.length C7) ∧ w'.cell? ⟨b6, o6 + k, none⟩ = some (.slice A4 q.length C4)) ((refine and_of ?_ (fun h__ => ⟨h__.cell (by simp) m0, h__.cell (by simp) m1', h__.cell (by simp) m2, h__.cell (by simp) n0, h__.cell (by simp) n1, h__.cell (by simp) n2, h__.cell (by simp) hrow⟩); first | with_reducible exact (Only.refl _ _).drew | with_reducible exact Only.keepThen (And.left (by assumption)) (by assumption))) (first
      | (go_at_call 16; (with_reducible refine (HcD.out _ (And.left (by assumption))).mono ?_); rintro e wA ⟨uA, fA, he, rA, FA, tA⟩; rw [H1.out] at he rA; subst he; obtain ⟨AA, CA, rfl, IA⟩ := rA.ints)
      | fail "no arm")
    have KA : Only [] w9 wA := ((Only.refl [] _).drew).trans tA
    have tAm0 := KA.cell (by simp) m0
    have tAm1 := KA.cell (by simp) m1'
    have tAm2 := KA.cell (by simp) m2
    have tAn0 := KA.cell (by simp) n0
    have tAn1 := KA.cell (by simp) n1
    have tAn2 := KA.cell (by simp) n2
    have tArow := KA.cell (by simp) hrow
    have HcP := Lib.hid (fun (W : World) (hh : Only [] wA W) => specPatternAfter_any [.int .i64 x.points, .string x.names, .slice A2 x.moves.length C2] x fp (.slice (some ⟨b5, o5, none⟩) t.tracked.length C5) (.slice A4 q.length C4) (.slice AA wd.length CA) t.tracked q wd _ _ _ W (Rp.keep rP9 (KA.trans hh)) (Rp.keep v1 (KA.trans hh)) (Rp.keep hu (KA.trans hh)) (Rp.keep IA.rd hh) hv (hTt.trackB p3) hpq w3' hwl)
    go_wp2_with fail
    go_region_held3 (fun w' => Only [] wA w' ∧ w'.cell? ⟨w3.heap.size, 0, none⟩ = some (Value.int .i64 x.points) ∧ w'.cell? ⟨w3.heap.size, 1, none⟩ = some (.string x.names) ∧ w'.cell? ⟨w3.heap.size, 2, none⟩ = some (.slice A2 x.moves.length C2) ∧ w'.cell? ⟨gb, 0, none⟩ = some (.slice (some ⟨b5, o5, none⟩) t.tracked.length C5) ∧ w'.cell? ⟨gb, 1, none⟩ = some (.slice (some ⟨b6, o6, none⟩) t.patterns.length C6) ∧ w'.cell? ⟨gb, 2, none⟩ = some (.slice (some ⟨b7, o7, none⟩) t.distances.length C7) ∧ w'.cell? ⟨b6, o6 + k, none⟩ = some (.slice A4 q.length C4)) ((refine and_of ?_ (fun h__ => ⟨h__.cell (by simp) tAm0, h__.cell (by simp) tAm1, h__.cell (by simp) tAm2, h__.cell (by simp) tAn0, h__.cell (by simp) tAn1, h__.cell (by simp) tAn2, h__.cell (by simp) tArow⟩); first | with_reducible exact (Only.refl _ _).drew | with_reducible exact Only.keepThen (And.left (by assumption)) (by assumption))) (first
      | (go_at_call 17; (with_reducible refine (HcP.out _ (And.left (by assumption))).mono ?_); rintro e wB ⟨uB, fB, rfl, rB, FB, tB⟩; rw [H4.out] at rB; obtain ⟨AB, CB, rfl, IB⟩ := rB.ints)
      | fail "no arm")
    have KB : Only [] w9 wB := KA.trans (((Only.refl [] _).drew).trans tB)
    have tBm0 := KB.cell (by simp) m0
    have tBm1 := KB.cell (by simp) m1'
    have tBm2 := KB.cell (by simp) m2
    have tBn0 := KB.cell (by simp) n0
    have tBn1 := KB.cell (by simp) n1
    have tBn2 := KB.cell (by simp) n2
    have tBrow := KB.cell (by simp) hrow
    have HcL := Lib.hid (fun (W : World) (hh : Only [] wB W) => implDescentLetter_any [.int .i64 x.points, .string x.names, .slice A2 x.moves.length C2] [.slice (some ⟨b5, o5, none⟩) t.tracked.length C5, .slice (some ⟨b6, o6, none⟩) t.patterns.length C6, .slice (some ⟨b7, o7, none⟩) t.distances.length C7] x t (.slice A4 q.length C4) q _ _ _ W (Rp.keep rP9 (KB.trans hh)) (Rp.keep rT9 (KB.trans hh)) (Rp.keep hu (KB.trans hh)))
    go_wp2_with fail
    go_region_held3 (fun w' => Only [] wB w' ∧ w'.cell? ⟨w3.heap.size, 0, none⟩ = some (Value.int .i64 x.points) ∧ w'.cell? ⟨w3.heap.size, 1, none⟩ = some (.string x.names) ∧ w'.cell? ⟨w3.heap.size, 2, none⟩ = some (.slice A2 x.moves.length C2) ∧ w'.cell? ⟨gb, 0, none⟩ = some (.slice (some ⟨b5, o5, none⟩) t.tracked.length C5) ∧ w'.cell? ⟨gb, 1, none⟩ = some (.slice (some ⟨b6, o6, none⟩) t.patterns.length C6) ∧ w'.cell? ⟨gb, 2, none⟩ = some (.slice (some ⟨b7, o7, none⟩) t.distances.length C7) ∧ w'.cell? ⟨b6, o6 + k, none⟩ = some (.slice A4 q.length C4)) ((refine and_of ?_ (fun h__ => ⟨h__.cell (by simp) tBm0, h__.cell (by simp) tBm1, h__.cell (by simp) tBm2, h__.cell (by simp) tBn0, h__.cell (by simp) tBn1, h__.cell (by simp) tBn2, h__.cell (by simp) tBrow⟩); first | with_reducible exact (Only.refl _ _).drew | with_reducible exact Only.keepThen (And.left (by assumption)) (by assumption))) (first
      | (go_at_call 18; (with_reducible refine (HcL.out _ (And.left (by assumption))).mono ?_); rintro e wC ⟨rfl, tC⟩; rw [← Hl.out])
      | fail "no arm")
    have KC : Only [] w9 wC := KB.trans (((Only.refl [] _).drew).trans tC)
    have tCn0 := KC.cell (by simp) n0
    have tCn2 := KC.cell (by simp) n2
    have tCd := KC.cell (by simp) hdc
    have tEq : ((wd.length : Int) == d0) = true := by rw [H2.out]; simp
    have IT := I8.keep KC
    have IE := IB.keep (((Only.refl [] _).drew).trans tC)
    have HeV := Lib.hid (show eqV t.tracked t.tracked = true from by unfold eqV; simp)
    have hKC := hKw9.trans KC
    clear tAm0 tAm1 tAm2 tAn0 tAn1 tAn2 tArow tBm0 tBm1 tBm2 tBn0 tBn1 tBn2 tBrow m0 m1' m2 n0 n1 n2 hrow hdc
    by_cases hz : d0 = 0
    · have e1 : (lt == 0) = true := by rw [Hl0.out.2 hz]; rfl
      have e2 : (d0 == 0) = true := by rw [hz]; rfl
      have HZ := Lib.hid hz
      clear hz
      go_wp2_with (first
        | (go_at_call 19; (with_reducible refine (likeInts_any AB (some ⟨b5, o5, none⟩) CB C5 t.tracked t.tracked _ _ _ (IE.keep (by with_reducible repeat (first | exact Only.refl _ _ | assumption | refine Only.drewN ?_ _ | refine Only.drew ?_ | refine Only.alloc ?_ _ | refine Only.setCell ?_ (by intro hh; exfalso; simp at hh; try omega) _ | refine Only.trans ?_ (by assumption)))) (IT.keep (by with_reducible repeat (first | exact Only.refl _ _ | assumption | refine Only.drewN ?_ _ | refine Only.drew ?_ | refine Only.alloc ?_ _ | refine Only.setCell ?_ (by intro hh; exfalso; simp at hh; try omega) _ | refine Only.trans ?_ (by assumption))))).mono ?_); rintro e wD ⟨he, tD⟩; rw [HeV.out] at he; subst he; obtain ⟨nD, rfl⟩ := tD)
        | fail "no arm")
      go_ret
      exact ⟨rfl, hKC.trans ((Only.refl [] wC).drewN _)⟩
    · have e1 : (lt == 0) = false := by rw [beq_eq_false_iff_ne]; intro h0; exact hz (Hl0.out.1 h0)
      have e2 : (d0 == 0) = false := by rw [beq_eq_false_iff_ne]; exact hz
      have HZ := Lib.hid hz
      clear hz
      go_wp2_with (first
        | (go_at_call 19; (with_reducible refine (likeInts_any AB (some ⟨b5, o5, none⟩) CB C5 t.tracked t.tracked _ _ _ (IE.keep (by with_reducible repeat (first | exact Only.refl _ _ | assumption | refine Only.drewN ?_ _ | refine Only.drew ?_ | refine Only.alloc ?_ _ | refine Only.setCell ?_ (by intro hh; exfalso; simp at hh; try omega) _ | refine Only.trans ?_ (by assumption)))) (IT.keep (by with_reducible repeat (first | exact Only.refl _ _ | assumption | refine Only.drewN ?_ _ | refine Only.drew ?_ | refine Only.alloc ?_ _ | refine Only.setCell ?_ (by intro hh; exfalso; simp at hh; try omega) _ | refine Only.trans ?_ (by assumption))))).mono ?_); rintro e wD ⟨he, tD⟩; rw [HeV.out] at he; subst he; obtain ⟨nD, rfl⟩ := tD)
        | fail "no arm")
      go_ret
      exact ⟨rfl, hKC.trans ((Only.refl [] wC).drewN _)⟩
end Go.Proofs.Ytoinaidncncdhaa
