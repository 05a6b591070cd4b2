/- The reference's DescentWord. (Written by mkdw.py.) -/
import Derived.Test.YtmilmbgnkpkmnaaSpecDesc
import Derived.Test.YtmilmbgnkpkmnaaSpecTab4
namespace Go.Proofs.Ytmilmbgnkpkmnaa
open Go.RowKit
set_option maxRecDepth 10000

theorem dW_hit {x : Puzzle} {t : Table} {n : Nat} {q : List Int} (h : q = t.tracked) : dW x t n q = some [] := by cases n <;> simp [dW, h]
theorem dW_none {x : Puzzle} {t : Table} {n : Nat} {q : List Int} (h : q ≠ t.tracked) (h2 : dLet x t q = 0) : dW x t n q = none := by cases n <;> simp [dW, h, h2]
theorem dW_zero {x : Puzzle} {t : Table} {q : List Int} (h : q ≠ t.tracked) : dW x t 0 q = none := by simp [dW, h]
theorem dW_succ {x : Puzzle} {t : Table} {n : Nat} {q : List Int} (h : q ≠ t.tracked) (h2 : dLet x t q ≠ 0) : dW x t (n + 1) q = (dW x t n (nxt x q (dLet x t q))).map (dLet x t q :: ·) := by simp [dW, h, h2]
/-- what is left of the descent -/
def WInv (x : Puzzle) (t : Table) (p wl q : List Int) : Prop := wl.length ≤ 200 ∧ dWord x t p = (dW x t (200 - wl.length) q).map (wl ++ ·)
theorem WInv.start {x : Puzzle} {t : Table} {p : List Int} (hc : checkT x t = true) (hi : 0 ≤ idxL t.patterns p) : WInv x t p [] p := by
  refine ⟨by simp, ?_⟩
  unfold dWord
  rw [if_pos ⟨hc, hi⟩]
  simp
theorem WInv.step {x : Puzzle} {t : Table} {p wl q : List Int} (h : WInv x t p wl q) (h1 : q ≠ t.tracked) (h2 : dLet x t q ≠ 0) (h3 : wl.length < 200) : WInv x t p (wl ++ [dLet x t q]) (nxt x q (dLet x t q)) := by
  obtain ⟨a, b⟩ := h
  refine ⟨by simp; omega, ?_⟩
  rw [b, show 200 - wl.length = (200 - (wl.length + 1)) + 1 by omega, dW_succ h1 h2, List.length_append]
  simp [Option.map_map, Function.comp_def]
theorem WInv.hit {x : Puzzle} {t : Table} {p wl q : List Int} (h : WInv x t p wl q) (h1 : q = t.tracked) : dWord x t p = some wl := by
  rw [h.2, dW_hit h1]; simp
theorem WInv.fail {x : Puzzle} {t : Table} {p wl q : List Int} (h : WInv x t p wl q) (h1 : q ≠ t.tracked) (h2 : dLet x t q = 0 ∨ wl.length = 200) : dWord x t p = none := by
  rw [h.2]
  rcases h2 with h2 | h2
  · rw [dW_none h1 h2]; rfl
  · rw [h2, Nat.sub_self, dW_zero h1]; rfl
theorem dLet_letter {x : Puzzle} {t : Table} {q : List Int} (h : dLet x t q ≠ 0) : dLet x t q ∈ ltrs x.moves.length ∧ 0 ≤ nextI x t q (dLet x t q) := by
  unfold dLet at h ⊢
  split at h
  · rename_i hc
    rw [if_pos hc]
    unfold descL at h ⊢
    cases hf : (ltrs x.moves.length).find? (leads x t q (atD t (idxL t.patterns q) - 1)) with
    | none => rw [hf] at h; exact absurd rfl h
    | some a =>
      have h1 := List.find?_some hf
      exact ⟨List.mem_of_find?_eq_some hf, (leads_iff.1 h1).1⟩
  · exact absurd rfl h
theorem AccK.formL {α : Type} [Rp α] {w0 W wx : World} {B : Nat} {e : TypeId} {G : List Nat} {v : Value} {l : List α} (h : AccK w0 B e G W wx v l) : ∃ a n c, n = l.length ∧ v = Value.slice a n c := by
  obtain ⟨a, c, hv⟩ := h.form
  exact ⟨a, _, c, rfl, hv⟩
def sliceLen : Value → Nat
  | .slice _ n _ => n
  | _ => 0
set_option maxHeartbeats 8000000 in
theorem specDescentWord_any (cs ds : List Value) (x : Puzzle) (t : Table) (u : Value) (p : List Int) (f1 f2 f3 : List Nat) (w : World) (h : Rp.rep w cs x f1) (h2 : Rp.rep w ds t f2) (h3 : Rd w u p f3) :
    Calls Try.prog 39 #[.agg cs.toArray, .agg ds.toArray, u] w fun e w' => ∃ v fp', e = .returned (.tuple #[v, .bool (dWord x t p).isSome]) ∧ Rd w' v ((dWord x t p).getD []) fp' ∧ Fresh w.heap.size w' fp' ∧ Only [] w w' := by
  have h0 := h
  have h20 := h2
  obtain ⟨v2, rfl, p0, p1, hm⟩ := h
  obtain ⟨u0, u1, u2, q0, q1, q2, rfl, rfl, r0, r1, r2⟩ := h2
  obtain ⟨A0, C0, rfl, I0⟩ := r0.ints
  have hB2 := Blk.new_at (w := w.alloc (.cells [.int .i64 x.points, .string x.names, v2].toArray 26)) (g := w.heap.size + 1) (cs := [.slice A0 t.tracked.length C0, u1, u2]) (t := 42) (by simp)
  have hB1 := Blk.keep (Blk.new_at (w := w) (cs := [.int .i64 x.points, .string x.names, v2]) (t := 26) rfl) ((Only.refl [] _).alloc (.cells [.slice A0 t.tracked.length C0, u1, u2].toArray 42))
  rcases hc : checkT x t
  · have hf : dWord x t p = none := by unfold dWord; rw [hc]; simp
    have Hf := Lib.hid hf; clear hf
    go_enter Try.func39, Try.ntmps39
    go_wp2_with ((go_at_call 58; (with_reducible refine (l30Checkable_any [.int .i64 x.points, .string x.names, v2] [.slice A0 t.tracked.length C0, u1, u2] x t _ _ _ (Rp.keep h0 (by with_reducible repeat (first | exact Only.refl _ _ | assumption | refine Only.drewN ?_ _ | refine Only.drew ?_ | refine Only.alloc ?_ _ | refine Only.setCell ?_ (by intro hh; exfalso; simp at hh; try omega) _ | refine Only.trans ?_ (by assumption)))) (Rp.keep h20 (by with_reducible repeat (first | exact Only.refl _ _ | assumption | refine Only.drewN ?_ _ | refine Only.drew ?_ | refine Only.alloc ?_ _ | refine Only.setCell ?_ (by intro hh; exfalso; simp at hh; try omega) _ | refine Only.trans ?_ (by assumption))))).mono ?_); rintro e w1 ⟨he, t1⟩; rw [hc] at he; subst he))
    have hK : Only [] w w1 := (by with_reducible repeat (first | exact Only.refl _ _ | assumption | refine Only.drewN ?_ _ | refine Only.drew ?_ | refine Only.alloc ?_ _ | refine Only.setCell ?_ (by intro hh; exfalso; simp at hh; try omega) _ | refine Only.trans ?_ (by assumption)))
    refine bodyPost_ret (v := .tuple #[.slice (some ⟨w1.heap.size, 0, none⟩) 0 0, .bool false]) (by simp [results, Try.results39, go_sem]) rfl ⟨_, _, by rw [Hf.out]; rfl, by rw [Hf.out]; exact (Acc.made (α := Int) w1 w1.heap.size 2 rfl (Nat.le_refl _)).rd (by decide), (Acc.fresh (Acc.made (α := Int) w1 w1.heap.size 2 rfl (Nat.le_refl _)) (Fresh.nil _ _)).mono hK.size, (by with_reducible repeat (first | exact Only.refl _ _ | assumption | refine Only.drewN ?_ _ | refine Only.drew ?_ | refine Only.alloc ?_ _ | refine Only.setCell ?_ (by intro hh; exfalso; simp at hh; try omega) _ | refine Only.trans ?_ (by assumption)))⟩
  rcases Int.lt_or_le (idxL t.patterns p) 0 with hneg | hneg
  · have hf : dWord x t p = none := by unfold dWord; rw [if_neg (by omega)]
    have Hf := Lib.hid hf; clear hf
    go_enter Try.func39, Try.ntmps39
    go_wp2_with (first | (go_at_call 58; (with_reducible refine (l30Checkable_any [.int .i64 x.points, .string x.names, v2] [.slice A0 t.tracked.length C0, u1, u2] x t _ _ _ (Rp.keep h0 (by with_reducible repeat (first | exact Only.refl _ _ | assumption | refine Only.drewN ?_ _ | refine Only.drew ?_ | refine Only.alloc ?_ _ | refine Only.setCell ?_ (by intro hh; exfalso; simp at hh; try omega) _ | refine Only.trans ?_ (by assumption)))) (Rp.keep h20 (by with_reducible repeat (first | exact Only.refl _ _ | assumption | refine Only.drewN ?_ _ | refine Only.drew ?_ | refine Only.alloc ?_ _ | refine Only.setCell ?_ (by intro hh; exfalso; simp at hh; try omega) _ | refine Only.trans ?_ (by assumption))))).mono ?_); rintro e w1 ⟨he, t1⟩; rw [hc] at he; subst he; have c1 := hB1.keep t1; have c2 := hB2.keep t1; have z1 := c2.cell 1 rfl; have z0 := c2.cell 0 rfl) | (go_at_call 59; (with_reducible refine (indexOfList_rd u1 u t.patterns p _ _ _ (Rp.keep r1 (by with_reducible repeat (first | exact Only.refl _ _ | assumption | refine Only.drewN ?_ _ | refine Only.drew ?_ | refine Only.alloc ?_ _ | refine Only.setCell ?_ (by intro hh; exfalso; simp at hh; try omega) _ | refine Only.trans ?_ (by assumption)))) (Rp.keep h3 (by with_reducible repeat (first | exact Only.refl _ _ | assumption | refine Only.drewN ?_ _ | refine Only.drew ?_ | refine Only.alloc ?_ _ | refine Only.setCell ?_ (by intro hh; exfalso; simp at hh; try omega) _ | refine Only.trans ?_ (by assumption))))).mono ?_); rintro e w2 ⟨rfl, k2⟩; have hk2 := Drew.only k2 []))
    have hK : Only [] w w2 := (by with_reducible repeat (first | exact Only.refl _ _ | assumption | refine Only.drewN ?_ _ | refine Only.drew ?_ | refine Only.alloc ?_ _ | refine Only.setCell ?_ (by intro hh; exfalso; simp at hh; try omega) _ | refine Only.trans ?_ (by assumption)))
    refine bodyPost_ret (v := .tuple #[.slice (some ⟨w2.heap.size, 0, none⟩) 0 0, .bool false]) (by simp [results, Try.results39, go_sem]) rfl ⟨_, _, by rw [Hf.out]; rfl, by rw [Hf.out]; exact (Acc.made (α := Int) w2 w2.heap.size 2 rfl (Nat.le_refl _)).rd (by decide), (Acc.fresh (Acc.made (α := Int) w2 w2.heap.size 2 rfl (Nat.le_refl _)) (Fresh.nil _ _)).mono hK.size, (by with_reducible repeat (first | exact Only.refl _ _ | assumption | refine Only.drewN ?_ _ | refine Only.drew ?_ | refine Only.alloc ?_ _ | refine Only.setCell ?_ (by intro hh; exfalso; simp at hh; try omega) _ | refine Only.trans ?_ (by assumption)))⟩
  have hpat := (checkT_iff.1 hc).2.2.2 p (idxL_mem hneg).1
  have hstart := WInv.start hc hneg
  have hng : ¬ idxL t.patterns p < 0 := by omega
  have htr := (checkT_iff.1 hc).2.2.1
  have hvp := (checkT_iff.1 hc).1
  have hx8 := (validPz_facts hvp).2.2.1
  obtain ⟨i0, hi, hz0, hz1, hz2⟩ := info_parts Try.info2
  go_enter Try.func39, Try.ntmps39
  go_wp2_with (first | (go_at_call 58; (with_reducible refine (l30Checkable_any [.int .i64 x.points, .string x.names, v2] [.slice A0 t.tracked.length C0, u1, u2] x t _ _ _ (Rp.keep h0 (by with_reducible repeat (first | exact Only.refl _ _ | assumption | refine Only.drewN ?_ _ | refine Only.drew ?_ | refine Only.alloc ?_ _ | refine Only.setCell ?_ (by intro hh; exfalso; simp at hh; try omega) _ | refine Only.trans ?_ (by assumption)))) (Rp.keep h20 (by with_reducible repeat (first | exact Only.refl _ _ | assumption | refine Only.drewN ?_ _ | refine Only.drew ?_ | refine Only.alloc ?_ _ | refine Only.setCell ?_ (by intro hh; exfalso; simp at hh; try omega) _ | refine Only.trans ?_ (by assumption))))).mono ?_); rintro e w1 ⟨he, t1⟩; rw [hc] at he; subst he; have c1 := hB1.keep t1; have c2 := hB2.keep t1; have z1 := c2.cell 1 rfl; have z0 := c2.cell 0 rfl) | (go_at_call 59; (with_reducible refine (indexOfList_rd u1 u t.patterns p _ _ _ (Rp.keep r1 (by with_reducible repeat (first | exact Only.refl _ _ | assumption | refine Only.drewN ?_ _ | refine Only.drew ?_ | refine Only.alloc ?_ _ | refine Only.setCell ?_ (by intro hh; exfalso; simp at hh; try omega) _ | refine Only.trans ?_ (by assumption)))) (Rp.keep h3 (by with_reducible repeat (first | exact Only.refl _ _ | assumption | refine Only.drewN ?_ _ | refine Only.drew ?_ | refine Only.alloc ?_ _ | refine Only.setCell ?_ (by intro hh; exfalso; simp at hh; try omega) _ | refine Only.trans ?_ (by assumption))))).mono ?_); rintro e w2 ⟨rfl, k2⟩; have hk2 := Drew.only k2 []))
  have hKw : Only [] w w2 := (by with_reducible repeat (first | exact Only.refl _ _ | assumption | refine Only.drewN ?_ _ | refine Only.drew ?_ | refine Only.alloc ?_ _ | refine Only.setCell ?_ (by intro hh; exfalso; simp at hh; try omega) _ | refine Only.trans ?_ (by assumption)))
  have c1' := c1.keep hk2
  have c2' := c2.keep hk2
  have hlt3 := Rp.lt h3
  have hA0 : AccK w w2.heap.size 2 ([w.heap.size, w.heap.size + 1] ++ f3) (w2.alloc (.cells #[] 2)) (w2.alloc (.cells #[] 2)) (.slice (some ⟨w2.heap.size, 0, none⟩) 0 0) ([] : List Int) :=
    ⟨[], Acc.made _ _ _ rfl (Nat.le_refl _), Fresh.nil _ _, hKw.alloc _, fun _ _ => rfl, fun b hb => by
      have := c2'.lt
      rcases List.mem_append.1 hb with hb | hb
      · simp at hb ⊢; omega
      · have := hlt3 b hb; simp; omega, fun b hb hm9 => by
      have := c2'.lt
      have hm8 : b = w2.heap.size := by simpa [Value.ownBlock, eq_comm] using hm9
      rcases List.mem_append.1 hb with hb | hb
      · simp at hb; omega
      · have := hlt3 b hb; omega⟩
  have hBK : w.heap.size ≤ w2.heap.size := hKw.size
  clear z0 z1 c1 c2 hB1 hB2
  go_loopw [2, 8] (fun pv o wr => ∃ (wl q : List Int) (fq : List Nat), AccK w w2.heap.size 2 ([w.heap.size, w.heap.size + 1] ++ fq) wr wr o wl ∧ Rd wr pv q fq ∧ Blk wr w.heap.size [.int .i64 x.points, .string x.names, v2] ∧ Blk wr (w.heap.size + 1) [.slice A0 t.tracked.length C0, u1, u2] ∧ patB x.points t.tracked.length q = true ∧ WInv x t p wl q ∧ w2.heap.size ≤ wr.heap.size)
    (fun _ o _ => 201 - sliceLen o)
  case atStart => exact ⟨[], p, f3, hA0, Rp.keep h3 (hKw.alloc _), c1'.keep ((Only.refl _ _).alloc _), c2'.keep ((Only.refl _ _).alloc _), hpat, hstart, by simp⟩
  case round =>
    clear hA0 hstart
    obtain ⟨wl, q, fq, hA, hq, hb1, hb2, hpq, hI, hsz⟩ := hrel
    have hKW := hA.only
    have y0 := hb1.cell 0 rfl
    have z0 := hb2.cell 0 rfl
    obtain ⟨ao, no, co, hno, ho⟩ := hA.formL
    subst ho
    have Hno := Lib.hid hno
    have hnl : no ≤ 200 := by rw [hno]; exact hI.1
    clear hno
    obtain ⟨ap, cp, hpv, Ip⟩ := hq.ints
    subst hpv
    rcases heq : eqV q t.tracked
    · have hne : q ≠ t.tracked := eqV_iff'.1 heq
      obtain ⟨l, hl⟩ : ∃ l, l = dLet x t q := ⟨_, rfl⟩
      have HL := Lib.hid hl
      by_cases hl0 : l = 0
      · have hll : (l == 0) = true := by simp [hl0]
        have HZ : dLet x t q = 0 ∨ wl.length = 200 := .inl (by rw [← hl]; exact hl0)
        clear hl hl0
        have hfail := hI.fail hne HZ
        have Hf := Lib.hid hfail
        clear hfail
        go_wp2_with (first | (go_at_call 71; (with_reducible refine (equalInts_rd _ (.slice A0 t.tracked.length C0) q t.tracked _ _ _ hq (Rp.keep r0 hKW)).mono ?_); rintro e w3 ⟨he, k3⟩; rw [heq] at he; subst he; have hk3 := Drew.only k3 []; have x0 := (hb1.keep hk3).cell 0 rfl; have x1 := (hb1.keep hk3).cell 1 rfl; have x2 := (hb1.keep hk3).cell 2 rfl; have s0 := (hb2.keep hk3).cell 0 rfl; have s1 := (hb2.keep hk3).cell 1 rfl; have s2 := (hb2.keep hk3).cell 2 rfl) | (go_at_call 20; (with_reducible refine (specDescentLetter_any [.int .i64 x.points, .string x.names, v2] [.slice A0 t.tracked.length C0, u1, u2] x t _ q _ _ _ _ (Rp.keep h0 (hKW.trans hk3)) (Rp.keep h20 (hKW.trans hk3)) (Rp.keep hq hk3)).mono ?_); rintro e w4 ⟨he, t4⟩; rw [← HL.out] at he; subst he; have hk34 := hk3.trans t4))
        have hK4 : Only [] w w4 := hKW.trans hk34
        refine bodyPost_ret (v := .tuple #[.slice (some ⟨w4.heap.size, 0, none⟩) 0 0, .bool false]) (by simp [results, Try.results39, go_sem]) rfl ⟨_, _, by rw [Hf.out]; rfl, by rw [Hf.out]; exact (Acc.made (α := Int) w4 w4.heap.size 2 rfl (Nat.le_refl _)).rd (by decide), (Acc.fresh (Acc.made (α := Int) w4 w4.heap.size 2 rfl (Nat.le_refl _)) (Fresh.nil _ _)).mono hK4.size, hK4.alloc _⟩
      have hll : (l == 0) = false := by simp [hl0]
      by_cases hm : no = 200
      · have hmm : ((no : Int) == 200) = true := by simp [hm]
        have HZ : dLet x t q = 0 ∨ wl.length = 200 := .inr (by rw [← Hno.out]; exact hm)
        clear hl hl0 hm
        have hfail := hI.fail hne HZ
        have Hf := Lib.hid hfail
        clear hfail
        go_wp2_with (first | (go_at_call 71; (with_reducible refine (equalInts_rd _ (.slice A0 t.tracked.length C0) q t.tracked _ _ _ hq (Rp.keep r0 hKW)).mono ?_); rintro e w3 ⟨he, k3⟩; rw [heq] at he; subst he; have hk3 := Drew.only k3 []; have x0 := (hb1.keep hk3).cell 0 rfl; have x1 := (hb1.keep hk3).cell 1 rfl; have x2 := (hb1.keep hk3).cell 2 rfl; have s0 := (hb2.keep hk3).cell 0 rfl; have s1 := (hb2.keep hk3).cell 1 rfl; have s2 := (hb2.keep hk3).cell 2 rfl) | (go_at_call 20; (with_reducible refine (specDescentLetter_any [.int .i64 x.points, .string x.names, v2] [.slice A0 t.tracked.length C0, u1, u2] x t _ q _ _ _ _ (Rp.keep h0 (hKW.trans hk3)) (Rp.keep h20 (hKW.trans hk3)) (Rp.keep hq hk3)).mono ?_); rintro e w4 ⟨he, t4⟩; rw [← HL.out] at he; subst he; have hk34 := hk3.trans t4))
        have hK4 : Only [] w w4 := hKW.trans hk34
        refine bodyPost_ret (v := .tuple #[.slice (some ⟨w4.heap.size, 0, none⟩) 0 0, .bool false]) (by simp [results, Try.results39, go_sem]) rfl ⟨_, _, by rw [Hf.out]; rfl, by rw [Hf.out]; exact (Acc.made (α := Int) w4 w4.heap.size 2 rfl (Nat.le_refl _)).rd (by decide), (Acc.fresh (Acc.made (α := Int) w4 w4.heap.size 2 rfl (Nat.le_refl _)) (Fresh.nil _ _)).mono hK4.size, hK4.alloc _⟩
      have hmm : ((no : Int) == 200) = false := by rw [beq_eq_false_iff_ne]; omega
      obtain ⟨hlm, hnx⟩ := dLet_letter (x := x) (t := t) (q := q) (by rw [← hl]; exact hl0)
      rw [← hl] at hlm hnx
      have hstep := hI.step hne (by rw [← hl]; exact hl0) (by have := Hno.out; omega)
      rw [← hl] at hstep
      have hnp := nxt_pat hvp hpq hlm
      have HIl := Lib.hid (show I64 l by have := mem_ltrs.1 hlm; unfold I64; omega)
      have Hlen := Lib.hid (show wl.length + 1 ≤ 1073741824 by have := hI.1; omega)
      have Hne := Lib.hid hne
      clear hl hl0 hm hne
      go_wp2_with (first | (go_at_call 71; (with_reducible refine (equalInts_rd _ (.slice A0 t.tracked.length C0) q t.tracked _ _ _ hq (Rp.keep r0 hKW)).mono ?_); rintro e w3 ⟨he, k3⟩; rw [heq] at he; subst he; have hk3 := Drew.only k3 []; have x0 := (hb1.keep hk3).cell 0 rfl; have x1 := (hb1.keep hk3).cell 1 rfl; have x2 := (hb1.keep hk3).cell 2 rfl; have s0 := (hb2.keep hk3).cell 0 rfl; have s1 := (hb2.keep hk3).cell 1 rfl; have s2 := (hb2.keep hk3).cell 2 rfl) | (go_at_call 20; (with_reducible refine (specDescentLetter_any [.int .i64 x.points, .string x.names, v2] [.slice A0 t.tracked.length C0, u1, u2] x t _ q _ _ _ _ (Rp.keep h0 (hKW.trans hk3)) (Rp.keep h20 (hKW.trans hk3)) (Rp.keep hq hk3)).mono ?_); rintro e w4 ⟨he, t4⟩; rw [← HL.out] at he; subst he; have hk34 := hk3.trans t4) | (at_builtin; refine wpList_pushK rfl _ _ 27 rfl 2 i0 _ 8 Try.underlying27 hi hz0 hz1 hz2 rfl (by decide) (by decide) rfl (hA.keep hk34) ((Only.refl _ _).alloc _) hBK (Nat.le_trans hsz hk34.size) _ 1 [.int .i64 l] l [] rfl (lit_src w4 [.int .i64 l] _ rfl) (by intro u hu; simp at hu; subst hu; rfl) (int_rd _ HIl.out) (Fresh.nil _ _) Hlen.out ?_; intro v5 w5 hA5 hO5; have b51 := hA5.blk hb1 (by simp); have b52 := hA5.blk hb2 (by simp); have hq5 := hA5.frame hq (fun b hb => by simp [hb]); have hK5 := hA5.only; have g0 := b51.cell 0 rfl; have g1 := b51.cell 1 rfl; have g2 := b51.cell 2 rfl; have j0 := b52.cell 0 rfl; have hs5 := Nat.le_trans (Nat.le_trans hsz hk34.size) (Nat.le_trans (by simp) hO5.size); obtain ⟨a5, n5, c5, hn5, hv5⟩ := hA5.formL; subst hv5; have Hn5 := Lib.hid hn5; clear hn5) | (go_at_call 72; (with_reducible refine (specPatternAfter_any [.int .i64 x.points, .string x.names, v2] x _ _ _ _ t.tracked q [l] _ _ _ _ (Rp.keep h0 (hK5.trans (by with_reducible repeat (first | exact Only.refl _ _ | assumption | refine Only.drewN ?_ _ | refine Only.drew ?_ | refine Only.alloc ?_ _ | refine Only.setCell ?_ (by intro hh; exfalso; simp at hh; try omega) _ | refine Only.trans ?_ (by assumption))))) (Rp.keep r0 (hK5.trans (by with_reducible repeat (first | exact Only.refl _ _ | assumption | refine Only.drewN ?_ _ | refine Only.drew ?_ | refine Only.alloc ?_ _ | refine Only.setCell ?_ (by intro hh; exfalso; simp at hh; try omega) _ | refine Only.trans ?_ (by assumption))))) (Rp.keep hq5 (by with_reducible repeat (first | exact Only.refl _ _ | assumption | refine Only.drewN ?_ _ | refine Only.drew ?_ | refine Only.alloc ?_ _ | refine Only.setCell ?_ (by intro hh; exfalso; simp at hh; try omega) _ | refine Only.trans ?_ (by assumption)))) (one_rd (int_rd _ HIl.out) _ 0 (Fresh.nil _ _) rfl (Nat.zero_le _)).1 hvp htr hpq (by intro a ha; simp at ha; subst ha; exact hlm) (by simp)).mono ?_); rintro e w7 ⟨u7, f7, rfl, r7, F7, t7⟩; replace r7 : Rd w7 u7 (nxt x q l) f7 := r7; have hk57 : Only [] w5 w7 := (by with_reducible repeat (first | exact Only.refl _ _ | assumption | refine Only.drewN ?_ _ | refine Only.drew ?_ | refine Only.alloc ?_ _ | refine Only.setCell ?_ (by intro hh; exfalso; simp at hh; try omega) _ | refine Only.trans ?_ (by assumption)))))
      go_roundw
      case rel => exact ⟨wl ++ [l], nxt x q l, f7, (hA5.now.drop (G' := [w.heap.size, w.heap.size + 1]) (fun b hb => by simp at hb ⊢; omega)).hold hk57 F7.lt (fun b hb => by have := F7.ge b hb; simp at this; omega), r7, b51.keep hk57, b52.keep hk57, hnp, hstep, Nat.le_trans hs5 hk57.size⟩
      case measure => have h5 := Hn5.out; have h6 := Hno.out; rw [List.length_append] at h5; simp only [List.length_cons, List.length_nil] at h5; simp only [sliceLen]; omega
    · have hit := hI.hit (eqV_iff.1 heq)
      have Hit := Lib.hid hit
      clear hit
      go_wp2_with ((go_at_call 71; (with_reducible refine (equalInts_rd _ (.slice A0 t.tracked.length C0) q t.tracked _ _ _ hq (Rp.keep r0 hKW)).mono ?_); rintro e w3 ⟨he, k3⟩; rw [heq] at he; subst he; have hk3 := Drew.only k3 []; have x0 := (hb1.keep hk3).cell 0 rfl; have x1 := (hb1.keep hk3).cell 1 rfl; have x2 := (hb1.keep hk3).cell 2 rfl; have s0 := (hb2.keep hk3).cell 0 rfl; have s1 := (hb2.keep hk3).cell 1 rfl; have s2 := (hb2.keep hk3).cell 2 rfl))
      obtain ⟨fp, hr, hF⟩ := AccK.rd (hA.keep hk3) (by decide)
      refine bodyPost_ret (v := .tuple #[.slice ao no co, .bool true]) (by simp [results, Try.results39, go_sem]) rfl ⟨_, _, by rw [Hit.out]; rfl, by rw [Hit.out]; exact hr, hF.mono hBK, hKW.trans hk3⟩
end Go.Proofs.Ytmilmbgnkpkmnaa
