/- Words evaluated: the reference's and the program's functions. -/
import Derived.Test.YtpfmkjcngknecaaSeKit
namespace Go.Proofs.Ytpfmkjcngknecaa
open Go.RowKit
set_option maxRecDepth 10000
set_option maxHeartbeats 1000000 in
/-- a move, or its inverse: old memory, or new -/
theorem letterPerm_rd (v : Value) (gens : List (List Int)) (l : Int) (fp : List Nat) (w : World) (h : Rd w v gens fp) (hg : ∀ g ∈ gens, PM.IsP g ∧ g.length ≤ 1000) (hl : l ∈ ltrs gens.length) (hn : gens.length ≤ 1000) :
    Calls Try.prog 125 #[v, .int .i64 l] w fun e w' => ∃ v fp', e = .returned v ∧ Rd w' v (mv gens l) fp' ∧ (∀ b ∈ fp', b ∈ fp ∨ w.heap.size ≤ b) ∧ Only [] w w' := by
  obtain ⟨a, cap, ob, fps, rfl, rfl, hs⟩ := h.open_
  have hb := hs.bound
  rcases letter_cases hl with ⟨k, hk, rfl⟩ | ⟨k, hk, rfl⟩
  · have hm := mv_pos rfl hk
    have Hm := Lib.hid hm; clear hm
    obtain ⟨b, off, u, rfl, -, hc, hu⟩ := hs.atRow k hk
    have e1 : wrap64 ((k : Int) + 1 - 1) = (k : Int) := wrap64_lit _ (by omega) (by omega) |>.trans (by omega)
    have e2 : ¬ (k : Int) + 1 < 0 := by omega
    go_enter Try.func125, Try.ntmps125
    go_wp2
    go_ret
    refine ⟨_, rfl, _, by rw [Hm.out]; exact hu, fun b' hb' => ?_, (by with_reducible repeat (first | exact Only.refl _ _ | assumption | refine Only.drewN ?_ _ | refine Only.drew ?_ | refine Only.alloc ?_ _ | refine Only.setCell ?_ (by intro hh; exfalso; simp at hh; try omega) _ | refine Only.trans ?_ (by assumption)))⟩
    left
    right
    exact ⟨_, List.getElem_mem _, hb'⟩
  · have hm := mv_neg rfl hk
    have Hm := Lib.hid hm; clear hm
    obtain ⟨b, off, u, rfl, -, hc, hu⟩ := hs.atRow k hk
    have e1 : wrap64 (wrap64 (-(-((k : Int) + 1))) - 1) = (k : Int) := by
      rw [wrap64_lit (-(-((k : Int) + 1))) (by omega) (by omega), wrap64_lit _ (by omega) (by omega)]; omega
    have e2 : -((k : Int) + 1) < 0 := by omega
    have hg2 := hg _ (List.getElem_mem hk)
    go_enter Try.func125, Try.ntmps125
    go_wp2_with ((go_at_call 146; (with_reducible refine (specInverse0_rd u gens[k] _ _ hu hg2.1 hg2.2).mono ?_); rintro e w2 ⟨u2, f2, rfl, r2, F2, t2⟩))
    go_ret
    exact ⟨_, _, rfl, by rw [Hm.out]; exact r2, fun b' hb' => .inr (F2.ge b' hb'), (by with_reducible repeat (first | exact Only.refl _ _ | assumption | refine Only.drewN ?_ _ | refine Only.drew ?_ | refine Only.alloc ?_ _ | refine Only.setCell ?_ (by intro hh; exfalso; simp at hh; try omega) _ | refine Only.trans ?_ (by assumption)))⟩
set_option maxHeartbeats 1000000 in
theorem specEvaluate_any (n : Nat) (hn : n ≤ 20) (vg vl : Value) (gens : List (List Int)) (l : List Int) (fg fl : List Nat) (w : World) (hg : Rd w vg gens fg) (hl : Rd w vl l fl) (hpn : ∀ g ∈ gens, PM.PN n g) (hgl : gens.length ≤ 1000) (hlt : ∀ x ∈ l, x ∈ ltrs gens.length) :
    Calls Try.prog 101 #[.int .i64 n, vg, vl] w fun e w' => ∃ v fp', e = .returned v ∧ Rd w' v (evW n gens l) fp' ∧ Fresh w.heap.size w' fp' ∧ Only [] w w' := by
  obtain ⟨a, cap, rfl, IL⟩ := hl.ints
  have hb := IL.bound
  have hg' : ∀ g ∈ gens, PM.IsP g ∧ g.length ≤ 1000 := fun g hg => ⟨(hpn g hg).2, by have := (hpn g hg).1; omega⟩
  have Hg' := Lib.hid hg'
  have Hpn := Lib.hid hpn
  have Hlt := Lib.hid hlt
  have Hg := Lib.hid hg
  clear hg' hpn hlt hl hg
  go_enter Try.func101, Try.ntmps101
  go_wp2_with (first | (go_at_call 124; (with_reducible refine (specIdentity_any n _ (by omega)).mono ?_); rintro en w1 ⟨v1, f1, rfl, r1, F1, t1⟩) | fail "no arm")
  go_loopw [7, 8] (fun s i wr => ∃ (j : Nat) (f : List Nat), j ≤ l.length ∧ i = .int .i64 j ∧ Rd wr s (evW n gens (l.take j)) f ∧ Fresh w.heap.size wr f ∧ Only [] w wr)
    (fun _ i _ => l.length - (intOf i).toNat)
  case atStart => exact ⟨0, f1, Nat.zero_le _, rfl, r1, F1, t1⟩
  case round =>
    obtain ⟨W2, hnew⟩ : ∃ W, W = wr := ⟨_, rfl⟩
    subst hnew
    obtain ⟨j, f, hj, rfl, hr, hF, hK⟩ := hrel
    by_cases hlt : j < l.length
    · obtain ⟨b, off, rfl, -, hc0⟩ := IL.at_ j hlt
      have hc := hK.cell (by simp) hc0
      have hll := Hlt.out l[j] (List.getElem_mem _)
      have hp := evW_pn Hpn.out (l.take j) fun x hx => Hlt.out x (List.mem_of_mem_take hx)
      have hq := mv_pn Hpn.out hll
      have hst : evW n gens (l.take (j + 1)) = PM.comp (evW n gens (l.take j)) (mv gens l[j]) := by rw [take_succ_get l j hlt, evW_snoc]
      have Hst := Lib.hid hst
      have Hll := Lib.hid hll
      have Hp := Lib.hid hp
      have Hq := Lib.hid hq
      have HK := Lib.hid hK
      have Hr := Lib.hid hr
      have HF := Lib.hid hF
      clear hc0 hll hp hq hK hr hF hst
      go_wp2_with (first
        | (go_at_call 125; (with_reducible refine (letterPerm_rd _ gens l[j] _ _ (Rp.keep Hg.out HK.out) Hg'.out Hll.out hgl).mono ?_); rintro en w3 ⟨v3, f3, rfl, r3, hf3, t3⟩)
        | (go_at_call 100; (with_reducible refine (specCompose_rd n _ _ _ _ _ _ _ (Rp.keep Hr.out t3) r3 Hp.out Hq.out (by omega)).mono ?_); rintro en w4 ⟨v4, f4, rfl, r4, F4, t4⟩)
        | fail "no arm")
      go_roundw
      case rel => exact ⟨j + 1, f4, by omega, by go_num, by rw [Hst.out]; exact r4, F4.mono (Nat.le_trans HK.out.size t3.size), HK.out.trans (t3.trans t4)⟩
      case measure => simp [intOf]; omega
    · obtain rfl : j = l.length := by omega
      rw [List.take_length] at hr
      have Hr := Lib.hid hr
      clear hr
      go_wp2
      go_ret
      exact ⟨_, f, rfl, Hr.out, hF, hK⟩
set_option maxHeartbeats 1000000 in
theorem implEvaluate_any (n : Nat) (hn : n ≤ 20) (vg vl : Value) (gens : List (List Int)) (l : List Int) (fg fl : List Nat) (w : World) (hg : Rd w vg gens fg) (hl : Rd w vl l fl) (hpn : ∀ g ∈ gens, PM.PN n g) (hgl : gens.length ≤ 1000) (hlt : ∀ x ∈ l, x ∈ ltrs gens.length) :
    Calls Try.prog 105 #[.int .i64 n, vg, vl] w fun e w' => ∃ v fp', e = .returned v ∧ Rd w' v (evW n gens l) fp' ∧ Fresh w.heap.size w' fp' ∧ Only [] w w' := by
  obtain ⟨a, cap, rfl, IL⟩ := hl.ints
  have hb := IL.bound
  have hg' : ∀ g ∈ gens, PM.IsP g ∧ g.length ≤ 1000 := fun g hg => ⟨(hpn g hg).2, by have := (hpn g hg).1; omega⟩
  have Hg' := Lib.hid hg'
  have Hpn := Lib.hid hpn
  have Hlt := Lib.hid hlt
  have Hg := Lib.hid hg
  clear hg' hpn hlt hl hg
  go_enter Try.func105, Try.ntmps105
  go_wp2_with (first | (go_at_call 113; (with_reducible refine (implIdentity_any n _ (by omega)).mono ?_); rintro en w1 ⟨v1, f1, rfl, r1, F1, t1⟩) | fail "no arm")
  go_loopw [7, 14] (fun s i wr => ∃ (j : Nat) (f : List Nat), j ≤ l.length ∧ i = .int .i64 j ∧ Rd wr s (evW n gens (l.take j)) f ∧ Fresh w.heap.size wr f ∧ Only [] w wr)
    (fun _ i _ => l.length - (intOf i).toNat)
  case atStart => exact ⟨0, f1, Nat.zero_le _, rfl, r1, F1, t1⟩
  case round =>
    obtain ⟨W2, hnew⟩ : ∃ W, W = wr := ⟨_, rfl⟩
    subst hnew
    obtain ⟨j, f, hj, rfl, hr, hF, hK⟩ := hrel
    by_cases hlt : j < l.length
    · obtain ⟨b, off, rfl, -, hc0⟩ := IL.at_ j hlt
      have hc := hK.cell (by simp) hc0
      have hll := Hlt.out l[j] (List.getElem_mem _)
      have hp := evW_pn Hpn.out (l.take j) fun x hx => Hlt.out x (List.mem_of_mem_take hx)
      have hq := mv_pn Hpn.out hll
      have hst : evW n gens (l.take (j + 1)) = PM.comp (evW n gens (l.take j)) (mv gens l[j]) := by rw [take_succ_get l j hlt, evW_snoc]
      have Hst := Lib.hid hst
      have Hll := Lib.hid hll
      have Hp := Lib.hid hp
      have Hq := Lib.hid hq
      have HK := Lib.hid hK
      have Hr := Lib.hid hr
      have HF := Lib.hid hF
      clear hc0 hll hp hq hK hr hF hst
      go_wp2_with (first
        | (go_at_call 128; (with_reducible refine (letterOf_rd _ gens l[j] _ _ (Rp.keep Hg.out HK.out) Hg'.out Hll.out hgl).mono ?_); rintro en w3 ⟨v3, f3, rfl, r3, hf3, t3⟩)
        | (go_at_call 104; (with_reducible refine (implCompose_rd n _ _ _ _ _ _ _ (Rp.keep Hr.out t3) r3 Hp.out Hq.out (by omega)).mono ?_); rintro en w4 ⟨v4, f4, rfl, r4, F4, t4⟩)
        | fail "no arm")
      go_roundw
      case rel => exact ⟨j + 1, f4, by omega, by go_num, by rw [Hst.out]; exact r4, F4.mono (Nat.le_trans HK.out.size t3.size), HK.out.trans (t3.trans t4)⟩
      case measure => simp [intOf]; omega
    · obtain rfl : j = l.length := by omega
      rw [List.take_length] at hr
      have Hr := Lib.hid hr
      clear hr
      go_wp2
      go_ret
      exact ⟨_, f, rfl, Hr.out, hF, hK⟩
theorem specEvaluate_i (n : Int) (h0 : 1 ≤ n) (hn : n ≤ 20) (vg vl : Value) (gens : List (List Int)) (l : List Int) (fg fl : List Nat) (w : World) (hg : Rd w vg gens fg) (hl : Rd w vl l fl) (hpn : ∀ g ∈ gens, PM.PN n.toNat g) (hgl : gens.length ≤ 1000) (hlt : ∀ x ∈ l, x ∈ ltrs gens.length) :
    Calls Try.prog 101 #[.int .i64 n, vg, vl] w fun e w' => ∃ v fp', e = .returned v ∧ Rd w' v (evW n.toNat gens l) fp' ∧ Fresh w.heap.size w' fp' ∧ Only [] w w' := by
  obtain ⟨m, rfl⟩ := Int.eq_ofNat_of_zero_le (by omega : 0 ≤ n)
  exact specEvaluate_any m (by omega) vg vl gens l fg fl w hg hl hpn hgl hlt
theorem implEvaluate_i (n : Int) (h0 : 1 ≤ n) (hn : n ≤ 20) (vg vl : Value) (gens : List (List Int)) (l : List Int) (fg fl : List Nat) (w : World) (hg : Rd w vg gens fg) (hl : Rd w vl l fl) (hpn : ∀ g ∈ gens, PM.PN n.toNat g) (hgl : gens.length ≤ 1000) (hlt : ∀ x ∈ l, x ∈ ltrs gens.length) :
    Calls Try.prog 105 #[.int .i64 n, vg, vl] w fun e w' => ∃ v fp', e = .returned v ∧ Rd w' v (evW n.toNat gens l) fp' ∧ Fresh w.heap.size w' fp' ∧ Only [] w w' := by
  obtain ⟨m, rfl⟩ := Int.eq_ofNat_of_zero_le (by omega : 0 ≤ n)
  exact implEvaluate_any m (by omega) vg vl gens l fg fl w hg hl hpn hgl hlt
/-- what a word does to a state -/
def appW (x : Puzzle) (s l : List Int) : List Int := PM.comp s (evW x.points.toNat x.moves l)
set_option maxHeartbeats 1000000 in
theorem implApply_any (cs : List Value) (x : Puzzle) (fp : List Nat) (vs vl : Value) (s l : List Int) (fs fl : List Nat) (w : World) (h : Rp.rep w cs x fp) (hs : Rd w vs s fs) (hl : Rd w vl l fl) (hst : stateB x s = true) (hlt : ∀ y ∈ l, y ∈ ltrs x.moves.length) :
    Calls Try.prog 70 #[.agg cs.toArray, vs, vl] w fun e w' => ∃ v fp', e = .returned v ∧ Rd w' v (appW x s l) fp' ∧ Fresh w.heap.size w' fp' ∧ Only [] w w' := by
  have h0 := h
  obtain ⟨v2, rfl, p0, p1, h2⟩ := h
  obtain ⟨A2, C2, ob, fps, rfl, -, -⟩ := h2.open_
  obtain ⟨⟨n1, n20⟩, hml, hmp, hpn⟩ := stateB_pn hst
  have hev := evW_pn hmp l hlt
  have Hmp := Lib.hid hmp
  have Hpn := Lib.hid hpn
  have Hlt := Lib.hid hlt
  have Hev := Lib.hid hev
  clear hmp hpn hlt hev hst
  go_enter Try.func70, Try.ntmps70
  go_wp2_with (first
    | (go_at_call 105; (with_reducible refine (implEvaluate_i x.points n1 n20 _ _ x.moves l _ _ _ (Rp.keep h2 (by with_reducible repeat (first | exact Only.refl _ _ | assumption | refine Only.drewN ?_ _ | refine Only.drew ?_ | refine Only.alloc ?_ _ | refine Only.setCell ?_ (by intro hh; exfalso; simp at hh; try omega) _ | refine Only.trans ?_ (by assumption)))) (Rp.keep hl (by with_reducible repeat (first | exact Only.refl _ _ | assumption | refine Only.drewN ?_ _ | refine Only.drew ?_ | refine Only.alloc ?_ _ | refine Only.setCell ?_ (by intro hh; exfalso; simp at hh; try omega) _ | refine Only.trans ?_ (by assumption)))) Hmp.out (by omega) Hlt.out).mono ?_); rintro en w3 ⟨v3, f3, rfl, r3, F3, t3⟩)
    | (go_at_call 104; (with_reducible refine (implCompose_rd x.points.toNat _ _ _ _ _ _ _ (Rp.keep hs (by with_reducible repeat (first | exact Only.refl _ _ | assumption | refine Only.drewN ?_ _ | refine Only.drew ?_ | refine Only.alloc ?_ _ | refine Only.setCell ?_ (by intro hh; exfalso; simp at hh; try omega) _ | refine Only.trans ?_ (by assumption)))) r3 Hpn.out Hev.out (by omega)).mono ?_); rintro en w4 ⟨v4, f4, rfl, r4, F4, t4⟩)
    | fail "no arm")
  go_ret
  exact ⟨_, f4, rfl, r4, F4.mono (Only.size (fp := []) (by with_reducible repeat (first | exact Only.refl _ _ | assumption | refine Only.drewN ?_ _ | refine Only.drew ?_ | refine Only.alloc ?_ _ | refine Only.setCell ?_ (by intro hh; exfalso; simp at hh; try omega) _ | refine Only.trans ?_ (by assumption)))), (by with_reducible repeat (first | exact Only.refl _ _ | assumption | refine Only.drewN ?_ _ | refine Only.drew ?_ | refine Only.alloc ?_ _ | refine Only.setCell ?_ (by intro hh; exfalso; simp at hh; try omega) _ | refine Only.trans ?_ (by assumption)))⟩
end Go.Proofs.Ytpfmkjcngknecaa
