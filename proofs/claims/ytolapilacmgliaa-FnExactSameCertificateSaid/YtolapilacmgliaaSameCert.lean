/- SameCertificate: the reference's and the program's. -/
import Derived.Test.YtolapilacmgliaaEq
import Derived.StillTailTactics
namespace Go.Proofs.Ytolapilacmgliaa
open Go.RowKit

set_option maxHeartbeats 1000000 in
/-- slices.EqualFunc over slices of tables -/
theorem EqualFunc_tables (f : FuncId) (caps : Array Value) (hcf : ∀ args w, (callFunc f args).run Try.prog w = .ok (.enter f args) w)
    (v v' : Value) (l l' : List Table) (fp fp' : List Nat) (w : World) (h : Rd w v l fp) (h' : Rd w v' l' fp')
    (hc : ∀ (cs cs' : List Value) (x x' : Table) (f1 f1' : List Nat) (w' : World), Rp.rep w' cs x f1 → Rp.rep w' cs' x' f1' → Calls Try.prog f (#[.agg cs.toArray, .agg cs'.toArray] ++ caps) w' fun e w'' => e = .returned (.bool (eqV x x')) ∧ Only [] w' w'') :
    Calls Try.prog 44 #[v, v', .func (.func f) #[] caps] w fun e w' => e = .returned (.bool (eqV l l')) ∧ Only [] w w' := by
  obtain ⟨a, cap, ob, fps, rfl, -, hs⟩ := h.open_
  obtain ⟨a', cap', ob', fps', rfl, -, hs'⟩ := h'.open_
  have hb := hs.bound
  have hb' := hs'.bound
  have HC := Lib.hid hc
  clear hc
  by_cases hl : l.length = l'.length
  · have hne : ((l.length : Int) != (l'.length : Int)) = false := by simp [hl]
    have Hl := Lib.hid hl; clear hl
    go_enter Try.func44, Try.ntmps44
    go_wp2
    go_loopw [7, 8, 9, 17] (fun _ _ _ i wr => ∃ j : Nat, j ≤ l.length ∧ i = .int .i64 j ∧ l.take j = l'.take j ∧ Only [] w wr)
      (fun _ _ _ i _ => l.length - (intOf i).toNat)
    case atStart => exact ⟨0, Nat.zero_le _, rfl, rfl, Only.refl _ _⟩
    case round =>
      obtain ⟨j, hj, rfl, hr, hK⟩ := hrel
      have Hr := Lib.hid hr; clear hr
      by_cases hlt : j < l.length
      · have hlt' : j < l'.length := by have := Hl.out; omega
        obtain ⟨b, off, v1, v2, v3, rfl, -, c1, c2, c3, hv⟩ := hs.at3 j hlt
        obtain ⟨b', off', v1', v2', v3', rfl, -, c1', c2', c3', hv'⟩ := hs'.at3 j hlt'
        have d1 := hK.cell (by simp) c1
        have d2 := hK.cell (by simp) c2
        have d3 := hK.cell (by simp) c3
        have d1' := hK.cell (by simp) c1'
        have d2' := hK.cell (by simp) c2'
        have d3' := hK.cell (by simp) c3'
        have k0 := World.block_lt_of_cell? wr _ d1
        have k0' := World.block_lt_of_cell? wr _ d1'
        simp only at k0 k0'
        have q := hv
        obtain ⟨_, _, _, _, _, _, hq, -, s1, s2, s3⟩ := q
        injection hq with e1 hq; injection hq with e2 hq; injection hq with e3 hq; subst e1; subst e2; subst e3
        obtain ⟨A1, C1, _, _, rfl, -⟩ := s1.open_
        obtain ⟨A2, C2, _, _, rfl, -⟩ := s2.open_
        obtain ⟨A3, C3, _, _, rfl, -⟩ := s3.open_
        have q' := hv'
        obtain ⟨_, _, _, _, _, _, hq', -, s1', s2', s3'⟩ := q'
        injection hq' with e1 hq'; injection hq' with e2 hq'; injection hq' with e3 hq'; subst e1; subst e2; subst e3
        obtain ⟨A1', C1', _, _, rfl, -⟩ := s1'.open_
        obtain ⟨A2', C2', _, _, rfl, -⟩ := s2'.open_
        obtain ⟨A3', C3', _, _, rfl, -⟩ := s3'.open_
        clear c1 c2 c3 c1' c2' c3' hq hq'
        rcases hq : eqV l[j] l'[j]
        all_goals go_wp2_with (with_reducible refine (HC.out [.slice A1 l[j].tracked.length C1, .slice A2 l[j].patterns.length C2, .slice A3 l[j].distances.length C3] [.slice A1' l'[j].tracked.length C1', .slice A2' l'[j].patterns.length C2', .slice A3' l'[j].distances.length C3'] l[j] l'[j] _ _ ((wr.alloc (.cells #[.slice A1 l[j].tracked.length C1, .slice A2 l[j].patterns.length C2, .slice A3 l[j].distances.length C3] 52)).alloc (.cells #[.slice A1' l'[j].tracked.length C1', .slice A2' l'[j].patterns.length C2', .slice A3' l'[j].distances.length C3'] 52)) (Rp.keep hv ((hK.alloc _).alloc _)) (Rp.keep hv' ((hK.alloc _).alloc _))).mono ?_; rintro e w1 ⟨rfl, hk1⟩)
        · go_ret
          exact ⟨ret_bool (eqL_no hlt hlt' hq).symm, ((hK.alloc _).alloc _).trans hk1⟩
        · go_roundw
          case rel => exact ⟨j + 1, by omega, by go_num, eqL_step hlt hlt' hq Hr.out, ((hK.alloc _).alloc _).trans hk1⟩
          case measure => simp [intOf]; omega
      · go_wp2
        go_ret
        exact ⟨ret_bool (eqL_yes Hl.out hlt Hr.out).symm, hK⟩
  · have hne : ((l.length : Int) != (l'.length : Int)) = true := by simp; omega
    go_enter Try.func44, Try.ntmps44
    go_wp2
    go_ret
    exact ⟨ret_bool (eqL_len hne).symm, Only.refl _ _⟩

theorem EqualFunc_sameTable (v v' : Value) (l l' : List Table) (fp fp' : List Nat) (w : World) (h : Rd w v l fp) (h' : Rd w v' l' fp') :
    Calls Try.prog 44 #[v, v', .func (.func 45) #[] #[]] w fun e w' => e = .returned (.bool (eqV l l')) ∧ Only [] w w' :=
  EqualFunc_tables 45 #[] Try.call45 v v' l l' fp fp' w h h' (fun cs cs' x x' f1 f1' w' r r' => implSameTable_any cs cs' x x' f1 f1' w' r r')

theorem Certificate.neq {c c' : Certificate} (h : c.kind ≠ c'.kind ∨ eqV c.numbers c'.numbers = false ∨ eqV c.words c'.words = false ∨ eqV c.tables c'.tables = false) : eqV c c' = false :=
  eqV_no fun he => by
    subst he
    rcases h with h | h | h | h
    · exact h rfl
    · exact (eqV_iff'.1 h) rfl
    · exact (eqV_iff'.1 h) rfl
    · exact (eqV_iff'.1 h) rfl
theorem Certificate.yes {c c' : Certificate} (h0 : c.kind = c'.kind) (h1 : eqV c.numbers c'.numbers = true) (h2 : eqV c.words c'.words = true) (h3 : eqV c.tables c'.tables = true) : eqV c c' = true :=
  eqV_yes (Certificate.eq_iff.2 ⟨h0, eqV_iff.1 h1, eqV_iff.1 h2, eqV_iff.1 h3⟩)

set_option maxHeartbeats 2000000 in
theorem implSameCertificate_any (cs cs' : List Value) (x y : Certificate) (fp fp' : List Nat) (w : World) (h : Rp.rep w cs x fp) (h' : Rp.rep w cs' y fp') :
    Calls Try.prog 18 #[.agg cs.toArray, .agg cs'.toArray] w fun e w' => e = .returned (.bool (eqV x y)) ∧ Only [] w w' := by
  obtain ⟨v1, v2, v3, f1, f2, f3, rfl, rfl, p0, h1, h2, h3⟩ := h
  obtain ⟨v1', v2', v3', f1', f2', f3', rfl, rfl, p0', h1', h2', h3'⟩ := h'
  by_cases q0 : x.kind ≠ y.kind
  · have b0 : (x.kind == y.kind) = false := by simpa using q0
    go_enter Try.func18, Try.ntmps18
    go_wp2
    go_ret
    exact ⟨ret_bool (Certificate.neq (.inl q0)).symm, (by with_reducible repeat (first | exact Only.refl _ _ | assumption | refine Only.drewN ?_ _ | refine Only.drew ?_ | refine Only.alloc ?_ _ | refine Only.setCell ?_ (by intro hh; exfalso; simp at hh; try omega) _ | refine Only.trans ?_ (by assumption)))⟩
  have q0 := Classical.not_not.1 q0
  have b0 : (x.kind == y.kind) = true := by simpa using q0
  have Q0 := Lib.hid q0
  clear q0
  rcases q1 : eqV x.numbers y.numbers
  · go_enter Try.func18, Try.ntmps18
    go_wp2_with ((go_at_call 42; (with_reducible refine (Equal_rd v1 v1' x.numbers y.numbers _ _ _ (Rp.keep h1 (by with_reducible repeat (first | exact Only.refl _ _ | assumption | refine Only.drewN ?_ _ | refine Only.drew ?_ | refine Only.alloc ?_ _ | refine Only.setCell ?_ (by intro hh; exfalso; simp at hh; try omega) _ | refine Only.trans ?_ (by assumption)))) (Rp.keep h1' (by with_reducible repeat (first | exact Only.refl _ _ | assumption | refine Only.drewN ?_ _ | refine Only.drew ?_ | refine Only.alloc ?_ _ | refine Only.setCell ?_ (by intro hh; exfalso; simp at hh; try omega) _ | refine Only.trans ?_ (by assumption))))).mono ?_); rintro e w1 ⟨rfl, n1, rfl⟩))
    go_ret
    exact ⟨ret_bool (Certificate.neq (.inr (.inl q1))).symm, (by with_reducible repeat (first | exact Only.refl _ _ | assumption | refine Only.drewN ?_ _ | refine Only.drew ?_ | refine Only.alloc ?_ _ | refine Only.setCell ?_ (by intro hh; exfalso; simp at hh; try omega) _ | refine Only.trans ?_ (by assumption)))⟩
  rcases q2 : eqV x.words y.words
  · go_enter Try.func18, Try.ntmps18
    go_wp2_with (first
      | (go_at_call 42; (with_reducible refine (Equal_rd v1 v1' x.numbers y.numbers _ _ _ (Rp.keep h1 (by with_reducible repeat (first | exact Only.refl _ _ | assumption | refine Only.drewN ?_ _ | refine Only.drew ?_ | refine Only.alloc ?_ _ | refine Only.setCell ?_ (by intro hh; exfalso; simp at hh; try omega) _ | refine Only.trans ?_ (by assumption)))) (Rp.keep h1' (by with_reducible repeat (first | exact Only.refl _ _ | assumption | refine Only.drewN ?_ _ | refine Only.drew ?_ | refine Only.alloc ?_ _ | refine Only.setCell ?_ (by intro hh; exfalso; simp at hh; try omega) _ | refine Only.trans ?_ (by assumption))))).mono ?_); rintro e w1 ⟨rfl, n1, rfl⟩)
      | (go_at_call 43; (with_reducible refine (samePartition_rd v2 v2' x.words y.words _ _ _ (Rp.keep h2 (by with_reducible repeat (first | exact Only.refl _ _ | assumption | refine Only.drewN ?_ _ | refine Only.drew ?_ | refine Only.alloc ?_ _ | refine Only.setCell ?_ (by intro hh; exfalso; simp at hh; try omega) _ | refine Only.trans ?_ (by assumption)))) (Rp.keep h2' (by with_reducible repeat (first | exact Only.refl _ _ | assumption | refine Only.drewN ?_ _ | refine Only.drew ?_ | refine Only.alloc ?_ _ | refine Only.setCell ?_ (by intro hh; exfalso; simp at hh; try omega) _ | refine Only.trans ?_ (by assumption))))).mono ?_); rintro e w2 ⟨rfl, t2⟩))
    go_ret
    exact ⟨ret_bool (Certificate.neq (.inr (.inr (.inl q2)))).symm, (by with_reducible repeat (first | exact Only.refl _ _ | assumption | refine Only.drewN ?_ _ | refine Only.drew ?_ | refine Only.alloc ?_ _ | refine Only.setCell ?_ (by intro hh; exfalso; simp at hh; try omega) _ | refine Only.trans ?_ (by assumption)))⟩
  rcases q3 : eqV x.tables y.tables
  all_goals go_enter Try.func18, Try.ntmps18
  all_goals go_wp2_with (first
      | (go_at_call 42; (with_reducible refine (Equal_rd v1 v1' x.numbers y.numbers _ _ _ (Rp.keep h1 (by with_reducible repeat (first | exact Only.refl _ _ | assumption | refine Only.drewN ?_ _ | refine Only.drew ?_ | refine Only.alloc ?_ _ | refine Only.setCell ?_ (by intro hh; exfalso; simp at hh; try omega) _ | refine Only.trans ?_ (by assumption)))) (Rp.keep h1' (by with_reducible repeat (first | exact Only.refl _ _ | assumption | refine Only.drewN ?_ _ | refine Only.drew ?_ | refine Only.alloc ?_ _ | refine Only.setCell ?_ (by intro hh; exfalso; simp at hh; try omega) _ | refine Only.trans ?_ (by assumption))))).mono ?_); rintro e w1 ⟨rfl, n1, rfl⟩)
      | (go_at_call 43; (with_reducible refine (samePartition_rd v2 v2' x.words y.words _ _ _ (Rp.keep h2 (by with_reducible repeat (first | exact Only.refl _ _ | assumption | refine Only.drewN ?_ _ | refine Only.drew ?_ | refine Only.alloc ?_ _ | refine Only.setCell ?_ (by intro hh; exfalso; simp at hh; try omega) _ | refine Only.trans ?_ (by assumption)))) (Rp.keep h2' (by with_reducible repeat (first | exact Only.refl _ _ | assumption | refine Only.drewN ?_ _ | refine Only.drew ?_ | refine Only.alloc ?_ _ | refine Only.setCell ?_ (by intro hh; exfalso; simp at hh; try omega) _ | refine Only.trans ?_ (by assumption))))).mono ?_); rintro e w2 ⟨rfl, t2⟩; have y0 := t2.cells_eq w.heap.size (by simp; try omega) (by simp); have y1 := t2.cells_eq (w.heap.size + 1) (by simp) (by simp))
      | (go_at_call 44; (with_reducible refine (EqualFunc_sameTable v3 v3' x.tables y.tables _ _ _ (Rp.keep h3 (by with_reducible repeat (first | exact Only.refl _ _ | assumption | refine Only.drewN ?_ _ | refine Only.drew ?_ | refine Only.alloc ?_ _ | refine Only.setCell ?_ (by intro hh; exfalso; simp at hh; try omega) _ | refine Only.trans ?_ (by assumption)))) (Rp.keep h3' (by with_reducible repeat (first | exact Only.refl _ _ | assumption | refine Only.drewN ?_ _ | refine Only.drew ?_ | refine Only.alloc ?_ _ | refine Only.setCell ?_ (by intro hh; exfalso; simp at hh; try omega) _ | refine Only.trans ?_ (by assumption))))).mono ?_); rintro e w3 ⟨rfl, t3⟩))
  · go_ret
    exact ⟨ret_bool (Certificate.neq (.inr (.inr (.inr q3)))).symm, (by with_reducible repeat (first | exact Only.refl _ _ | assumption | refine Only.drewN ?_ _ | refine Only.drew ?_ | refine Only.alloc ?_ _ | refine Only.setCell ?_ (by intro hh; exfalso; simp at hh; try omega) _ | refine Only.trans ?_ (by assumption)))⟩
  · go_ret
    exact ⟨ret_bool (Certificate.yes Q0.out q1 q2 q3).symm, (by with_reducible repeat (first | exact Only.refl _ _ | assumption | refine Only.drewN ?_ _ | refine Only.drew ?_ | refine Only.alloc ?_ _ | refine Only.setCell ?_ (by intro hh; exfalso; simp at hh; try omega) _ | refine Only.trans ?_ (by assumption)))⟩

set_option maxHeartbeats 2000000 in
theorem specSameCertificate_any (cs cs' : List Value) (x y : Certificate) (fp fp' : List Nat) (w : World) (h : Rp.rep w cs x fp) (h' : Rp.rep w cs' y fp') :
    Calls Try.prog 16 #[.agg cs.toArray, .agg cs'.toArray] w fun e w' => e = .returned (.bool (eqV x y)) ∧ Only [] w w' := by
  obtain ⟨v1, v2, v3, f1, f2, f3, rfl, rfl, p0, h1, h2, h3⟩ := h
  obtain ⟨v1', v2', v3', f1', f2', f3', rfl, rfl, p0', h1', h2', h3'⟩ := h'
  by_cases q0 : x.kind ≠ y.kind
  · have b0 : (x.kind != y.kind) = true := by simpa using q0
    go_enter Try.func16, Try.ntmps16
    go_wp2
    go_ret
    exact ⟨ret_bool (Certificate.neq (.inl q0)).symm, (by with_reducible repeat (first | exact Only.refl _ _ | assumption | refine Only.drewN ?_ _ | refine Only.drew ?_ | refine Only.alloc ?_ _ | refine Only.setCell ?_ (by intro hh; exfalso; simp at hh; try omega) _ | refine Only.trans ?_ (by assumption)))⟩
  have q0 := Classical.not_not.1 q0
  have b0 : (x.kind != y.kind) = false := by simpa using q0
  have Q0 := Lib.hid q0
  clear q0
  rcases q1 : eqV x.numbers y.numbers
  · go_enter Try.func16, Try.ntmps16
    go_wp2_with ((go_at_call 38; (with_reducible refine (equalInts_rd v1 v1' x.numbers y.numbers _ _ _ (Rp.keep h1 (by with_reducible repeat (first | exact Only.refl _ _ | assumption | refine Only.drewN ?_ _ | refine Only.drew ?_ | refine Only.alloc ?_ _ | refine Only.setCell ?_ (by intro hh; exfalso; simp at hh; try omega) _ | refine Only.trans ?_ (by assumption)))) (Rp.keep h1' (by with_reducible repeat (first | exact Only.refl _ _ | assumption | refine Only.drewN ?_ _ | refine Only.drew ?_ | refine Only.alloc ?_ _ | refine Only.setCell ?_ (by intro hh; exfalso; simp at hh; try omega) _ | refine Only.trans ?_ (by assumption))))).mono ?_); rintro e w1 ⟨rfl, n1, rfl⟩))
    go_ret
    exact ⟨ret_bool (Certificate.neq (.inr (.inl q1))).symm, (by with_reducible repeat (first | exact Only.refl _ _ | assumption | refine Only.drewN ?_ _ | refine Only.drew ?_ | refine Only.alloc ?_ _ | refine Only.setCell ?_ (by intro hh; exfalso; simp at hh; try omega) _ | refine Only.trans ?_ (by assumption)))⟩
  rcases q2 : eqV x.words y.words
  · go_enter Try.func16, Try.ntmps16
    go_wp2_with (first
      | (go_at_call 38; (with_reducible refine (equalInts_rd v1 v1' x.numbers y.numbers _ _ _ (Rp.keep h1 (by with_reducible repeat (first | exact Only.refl _ _ | assumption | refine Only.drewN ?_ _ | refine Only.drew ?_ | refine Only.alloc ?_ _ | refine Only.setCell ?_ (by intro hh; exfalso; simp at hh; try omega) _ | refine Only.trans ?_ (by assumption)))) (Rp.keep h1' (by with_reducible repeat (first | exact Only.refl _ _ | assumption | refine Only.drewN ?_ _ | refine Only.drew ?_ | refine Only.alloc ?_ _ | refine Only.setCell ?_ (by intro hh; exfalso; simp at hh; try omega) _ | refine Only.trans ?_ (by assumption))))).mono ?_); rintro e w1 ⟨rfl, n1, rfl⟩)
      | (go_at_call 39; (with_reducible refine (equalPartitions_rd v2 v2' x.words y.words _ _ _ (Rp.keep h2 (by with_reducible repeat (first | exact Only.refl _ _ | assumption | refine Only.drewN ?_ _ | refine Only.drew ?_ | refine Only.alloc ?_ _ | refine Only.setCell ?_ (by intro hh; exfalso; simp at hh; try omega) _ | refine Only.trans ?_ (by assumption)))) (Rp.keep h2' (by with_reducible repeat (first | exact Only.refl _ _ | assumption | refine Only.drewN ?_ _ | refine Only.drew ?_ | refine Only.alloc ?_ _ | refine Only.setCell ?_ (by intro hh; exfalso; simp at hh; try omega) _ | refine Only.trans ?_ (by assumption))))).mono ?_); rintro e w2 ⟨rfl, n2, rfl⟩))
    go_ret
    exact ⟨ret_bool (Certificate.neq (.inr (.inr (.inl q2)))).symm, (by with_reducible repeat (first | exact Only.refl _ _ | assumption | refine Only.drewN ?_ _ | refine Only.drew ?_ | refine Only.alloc ?_ _ | refine Only.setCell ?_ (by intro hh; exfalso; simp at hh; try omega) _ | refine Only.trans ?_ (by assumption)))⟩
  generalize hl : x.tables = l at *
  generalize hl' : y.tables = l' at *
  have L1 := Lib.hid hl
  have L2 := Lib.hid hl'
  clear hl hl'
  obtain ⟨a, cap, ob, fps, rfl, rfl, hs⟩ := h3.open_
  obtain ⟨a', cap', ob', fps', rfl, rfl, hs'⟩ := h3'.open_
  have hb := hs.bound
  have hb' := hs'.bound
  by_cases hlen : l.length ≠ l'.length
  · have hne : ((l.length : Int) != (l'.length : Int)) = true := by simp; omega
    go_enter Try.func16, Try.ntmps16
    go_wp2_with (first
      | (go_at_call 38; (with_reducible refine (equalInts_rd v1 v1' x.numbers y.numbers _ _ _ (Rp.keep h1 (by with_reducible repeat (first | exact Only.refl _ _ | assumption | refine Only.drewN ?_ _ | refine Only.drew ?_ | refine Only.alloc ?_ _ | refine Only.setCell ?_ (by intro hh; exfalso; simp at hh; try omega) _ | refine Only.trans ?_ (by assumption)))) (Rp.keep h1' (by with_reducible repeat (first | exact Only.refl _ _ | assumption | refine Only.drewN ?_ _ | refine Only.drew ?_ | refine Only.alloc ?_ _ | refine Only.setCell ?_ (by intro hh; exfalso; simp at hh; try omega) _ | refine Only.trans ?_ (by assumption))))).mono ?_); rintro e w1 ⟨rfl, n1, rfl⟩)
      | (go_at_call 39; (with_reducible refine (equalPartitions_rd v2 v2' x.words y.words _ _ _ (Rp.keep h2 (by with_reducible repeat (first | exact Only.refl _ _ | assumption | refine Only.drewN ?_ _ | refine Only.drew ?_ | refine Only.alloc ?_ _ | refine Only.setCell ?_ (by intro hh; exfalso; simp at hh; try omega) _ | refine Only.trans ?_ (by assumption)))) (Rp.keep h2' (by with_reducible repeat (first | exact Only.refl _ _ | assumption | refine Only.drewN ?_ _ | refine Only.drew ?_ | refine Only.alloc ?_ _ | refine Only.setCell ?_ (by intro hh; exfalso; simp at hh; try omega) _ | refine Only.trans ?_ (by assumption))))).mono ?_); rintro e w2 ⟨rfl, n2, rfl⟩))
    go_ret
    exact ⟨ret_bool (Certificate.neq (.inr (.inr (.inr (by rw [L1.out, L2.out]; exact eqL_len hne))))).symm, (by with_reducible repeat (first | exact Only.refl _ _ | assumption | refine Only.drewN ?_ _ | refine Only.drew ?_ | refine Only.alloc ?_ _ | refine Only.setCell ?_ (by intro hh; exfalso; simp at hh; try omega) _ | refine Only.trans ?_ (by assumption)))⟩
  have hlen := Classical.not_not.1 hlen
  have hne : ((l.length : Int) != (l'.length : Int)) = false := by simp [hlen]
  have Hl := Lib.hid hlen; clear hlen
  go_enter Try.func16, Try.ntmps16
  go_wp2_with (first
      | (go_at_call 38; (with_reducible refine (equalInts_rd v1 v1' x.numbers y.numbers _ _ _ (Rp.keep h1 (by with_reducible repeat (first | exact Only.refl _ _ | assumption | refine Only.drewN ?_ _ | refine Only.drew ?_ | refine Only.alloc ?_ _ | refine Only.setCell ?_ (by intro hh; exfalso; simp at hh; try omega) _ | refine Only.trans ?_ (by assumption)))) (Rp.keep h1' (by with_reducible repeat (first | exact Only.refl _ _ | assumption | refine Only.drewN ?_ _ | refine Only.drew ?_ | refine Only.alloc ?_ _ | refine Only.setCell ?_ (by intro hh; exfalso; simp at hh; try omega) _ | refine Only.trans ?_ (by assumption))))).mono ?_); rintro e w1 ⟨rfl, n1, rfl⟩)
      | (go_at_call 39; (with_reducible refine (equalPartitions_rd v2 v2' x.words y.words _ _ _ (Rp.keep h2 (by with_reducible repeat (first | exact Only.refl _ _ | assumption | refine Only.drewN ?_ _ | refine Only.drew ?_ | refine Only.alloc ?_ _ | refine Only.setCell ?_ (by intro hh; exfalso; simp at hh; try omega) _ | refine Only.trans ?_ (by assumption)))) (Rp.keep h2' (by with_reducible repeat (first | exact Only.refl _ _ | assumption | refine Only.drewN ?_ _ | refine Only.drew ?_ | refine Only.alloc ?_ _ | refine Only.setCell ?_ (by intro hh; exfalso; simp at hh; try omega) _ | refine Only.trans ?_ (by assumption))))).mono ?_); rintro e w2 ⟨rfl, n2, rfl⟩))
  have T0 : Only [] w ((((w.alloc (.cells #[.int .i64 x.kind, v1, v2, .slice a l.length cap] 26)).alloc (.cells #[.int .i64 y.kind, v1', v2', .slice a' l'.length cap'] 26))).drewN (n1 + n2)) := (by with_reducible repeat (first | exact Only.refl _ _ | assumption | refine Only.drewN ?_ _ | refine Only.drew ?_ | refine Only.alloc ?_ _ | refine Only.setCell ?_ (by intro hh; exfalso; simp at hh; try omega) _ | refine Only.trans ?_ (by assumption)))
  generalize hW : ((((w.alloc (.cells #[.int .i64 x.kind, v1, v2, .slice a l.length cap] 26)).alloc (.cells #[.int .i64 y.kind, v1', v2', .slice a' l'.length cap'] 26))).drewN (n1 + n2)) = W at *
  have B1 : W.cell? ⟨w.heap.size, 3, none⟩ = some (.slice a l.length cap) := by rw [← hW]; simp
  have B2 : W.cell? ⟨w.heap.size + 1, 3, none⟩ = some (.slice a' l'.length cap') := by rw [← hW]; simp
  have S0 : w.heap.size + 1 < W.heap.size := by rw [← hW]; simp
  clear hW
  go_loopw [5] (fun i wr => ∃ j : Nat, j ≤ l.length ∧ i = .int .i64 j ∧ l.take j = l'.take j ∧ Only [] W wr)
    (fun i _ => l.length - (intOf i).toNat)
  case atStart => exact ⟨0, Nat.zero_le _, rfl, rfl, Only.refl _ _⟩
  case round =>
    obtain ⟨j, hj, rfl, hr, hK⟩ := hrel
    have Hr := Lib.hid hr; clear hr
    have D1 := hK.cell (by simp) B1
    have D2 := hK.cell (by simp) B2
    by_cases hlt : j < l.length
    · have hlt' : j < l'.length := by have := Hl.out; omega
      obtain ⟨b, off, u1, u2, u3, rfl, -, c1, c2, c3, hv⟩ := hs.at3 j hlt
      obtain ⟨b', off', u1', u2', u3', rfl, -, c1', c2', c3', hv'⟩ := hs'.at3 j hlt'
      have hK0 := T0.trans hK
      have d1 := hK0.cell (by simp) c1
      have d2 := hK0.cell (by simp) c2
      have d3 := hK0.cell (by simp) c3
      have d1' := hK0.cell (by simp) c1'
      have d2' := hK0.cell (by simp) c2'
      have d3' := hK0.cell (by simp) c3'
      clear c1 c2 c3 c1' c2' c3' B1 B2
      rcases hq : eqV l[j] l'[j]
      all_goals go_wp2
      all_goals go_still_tail 10, (by kernel_rfl)
      all_goals change wpList _ _ _ _ _ wr.drew
      all_goals go_wp2_with ((go_at_call 40; (with_reducible refine (specSameTable_any [u1, u2, u3] [u1', u2', u3'] l[j] l'[j] _ _ _ (Rp.keep hv (by with_reducible repeat (first | exact Only.refl _ _ | assumption | refine Only.drewN ?_ _ | refine Only.drew ?_ | refine Only.alloc ?_ _ | refine Only.setCell ?_ (by intro hh; exfalso; simp at hh; try omega) _ | refine Only.trans ?_ (by assumption)))) (Rp.keep hv' (by with_reducible repeat (first | exact Only.refl _ _ | assumption | refine Only.drewN ?_ _ | refine Only.drew ?_ | refine Only.alloc ?_ _ | refine Only.setCell ?_ (by intro hh; exfalso; simp at hh; try omega) _ | refine Only.trans ?_ (by assumption))))).mono ?_); rintro e w1 ⟨rfl, hk1⟩))
      · go_ret
        exact ⟨ret_bool (Certificate.neq (.inr (.inr (.inr (by rw [L1.out, L2.out]; exact eqL_no hlt hlt' hq))))).symm, (by with_reducible repeat (first | exact Only.refl _ _ | assumption | refine Only.drewN ?_ _ | refine Only.drew ?_ | refine Only.alloc ?_ _ | refine Only.setCell ?_ (by intro hh; exfalso; simp at hh; try omega) _ | refine Only.trans ?_ (by assumption)))⟩
      · go_roundw
        case rel => exact ⟨j + 1, by omega, by go_num, eqL_step hlt hlt' hq Hr.out, (by with_reducible repeat (first | exact Only.refl _ _ | assumption | refine Only.drewN ?_ _ | refine Only.drew ?_ | refine Only.alloc ?_ _ | refine Only.setCell ?_ (by intro hh; exfalso; simp at hh; try omega) _ | refine Only.trans ?_ (by assumption)))⟩
        case measure => simp [intOf]; omega
    · go_wp2
      go_ret
      exact ⟨ret_bool (Certificate.yes Q0.out q1 q2 (by rw [L1.out, L2.out]; exact eqL_yes Hl.out hlt Hr.out)).symm, (by with_reducible repeat (first | exact Only.refl _ _ | assumption | refine Only.drewN ?_ _ | refine Only.drew ?_ | refine Only.alloc ?_ _ | refine Only.setCell ?_ (by intro hh; exfalso; simp at hh; try omega) _ | refine Only.trans ?_ (by assumption)))⟩
end Go.Proofs.Ytolapilacmgliaa
