/- The certificates of a lower bound and of optimality: the reference's and the program's. BoundCertified: the reference's and the program's (law 40). (Printed by mkbnd.py.) What the built tables hold, counted. -/
import Derived.Test.YtlcoejncdbkhcaaGreatRowBoundCertifiedG10
import Derived.Test.YtlcoejncdbkhcaaGreatRowBoundCertifiedG19
import Derived.Test.YtlcoejncdbkhcaaGreatRowBoundCertifiedG18
import Derived.Test.YtlcoejncdbkhcaaGreatRowBoundCertifiedG15
import Derived.Test.YtlcoejncdbkhcaaGreatRowBoundCertifiedG16
namespace Go.Proofs.YtlcoejncdbkhcaaGreat
open Go.RowKit
set_option maxRecDepth 10000

theorem isTableCount_rd (v : Value) (l : List Table) (fp : List Nat) (w : World) (h : Rd w v l fp) :
    Calls Tryz.prog 120 #[v] w fun e w' => e = .returned (.bool (inR l.length 1 4)) ∧ w' = w := by
  obtain ⟨a, cap, ob, fps, rfl, -, hs⟩ := h.open_
  have hb := hs.bound
  rcases hq : inR l.length 1 4
  all_goals
    go_enter Tryz.func120, Tryz.ntmps120
    go_wp2_with ((go_at_call 62; (with_reducible refine (inRange_any l.length 1 4 _).mono ?_); rintro e w1 ⟨rfl, rfl⟩))
    go_ret
    exact ⟨rfl, rfl⟩
theorem lengthTable_rd (v : Value) (l : List Table) (fp : List Nat) (w : World) (h : Rd w v l fp) :
    Calls Tryz.prog 131 #[v] w fun e w' => e = .returned (.int .i64 l.length) ∧ w' = w := by
  obtain ⟨a, cap, ob, fps, rfl, -, hs⟩ := h.open_
  have hb := hs.bound
  go_enter Tryz.func131, Tryz.ntmps131
  go_wp2
  go_ret
  exact ⟨rfl, rfl⟩

def lbCert (b : Int) (l : List Table) : Certificate := if 0 ≤ b ∧ inR l.length 1 4 = true then ⟨3, [b], [], l⟩ else noCert
def opCert (x : List Int) (l : List Table) : Certificate := if validW 8 x = true ∧ inR l.length 1 4 = true then ⟨2, [], [x], l⟩ else noCert
set_option maxHeartbeats 400000 in
theorem specLBCert_rd (b : Int) (ib : I64 b) (v : Value) (l : List Table) (fp : List Nat) (w : World) (h : Rd w v l fp) (hsm : Sm.sm l) :
    Calls Tryz.prog 88 #[.int .i64 b, v] w fun e w' => ∃ cs fp', e = .returned (.agg cs.toArray) ∧ Rp.rep w' cs (lbCert b l) fp' ∧ Fresh w.heap.size w' fp' ∧ Only [] w w' := by
  by_cases c0 : b < 0
  · have hp : lbCert b l = noCert := by unfold lbCert; rw [if_neg (by omega)]
    have Hp := Lib.hid hp
    clear hp
    go_enter Tryz.func88, Tryz.ntmps88
    go_wp2
    refine bodyPost_ret (v := .agg #[.int .i64 0, .slice none 0 0, .slice none 0 0, .slice none 0 0]) (by simp [results, Tryz.results88, go_sem]) rfl ⟨[.int .i64 0, .slice none 0 0, .slice none 0 0, .slice none 0 0], [], rfl, ?_, Fresh.nil _ _, (by with_reducible repeat (first | exact Only.refl _ _ | assumption | refine Only.drewN ?_ _ | refine Only.drew ?_ | refine Only.alloc ?_ _ | refine Only.setCell ?_ (by intro hh; exfalso; simp at hh; try omega) _ | refine Only.trans ?_ (by assumption)))⟩
    rw [Hp.out]; exact noCert_rep _
  rcases hq : inR l.length 1 4
  · have hp : lbCert b l = noCert := by unfold lbCert; rw [if_neg (by simp [hq])]
    have Hp := Lib.hid hp
    clear hp
    go_enter Tryz.func88, Tryz.ntmps88
    go_wp2_with ((go_at_call 120; (with_reducible refine (isTableCount_rd v l _ _ (Rp.keep h (by with_reducible repeat (first | exact Only.refl _ _ | assumption | refine Only.drewN ?_ _ | refine Only.drew ?_ | refine Only.alloc ?_ _ | refine Only.setCell ?_ (by intro hh; exfalso; simp at hh; try omega) _ | refine Only.trans ?_ (by assumption))))).mono ?_); rintro e w1 ⟨rfl, rfl⟩))
    refine bodyPost_ret (v := .agg #[.int .i64 0, .slice none 0 0, .slice none 0 0, .slice none 0 0]) (by simp [results, Tryz.results88, go_sem]) rfl ⟨[.int .i64 0, .slice none 0 0, .slice none 0 0, .slice none 0 0], [], rfl, ?_, Fresh.nil _ _, (by with_reducible repeat (first | exact Only.refl _ _ | assumption | refine Only.drewN ?_ _ | refine Only.drew ?_ | refine Only.alloc ?_ _ | refine Only.setCell ?_ (by intro hh; exfalso; simp at hh; try omega) _ | refine Only.trans ?_ (by assumption)))⟩
    rw [Hp.out]; exact noCert_rep _
  have hp : lbCert b l = ⟨3, [b], [], l⟩ := by unfold lbCert; rw [if_pos ⟨by omega, hq⟩]
  have Hp := Lib.hid hp
  clear hp
  have Ib := Lib.hid ib; clear ib
  go_enter Tryz.func88, Tryz.ntmps88
  go_wp2_with (first
    | (go_at_call 120; (with_reducible refine (isTableCount_rd v l _ _ (Rp.keep h (by with_reducible repeat (first | exact Only.refl _ _ | assumption | refine Only.drewN ?_ _ | refine Only.drew ?_ | refine Only.alloc ?_ _ | refine Only.setCell ?_ (by intro hh; exfalso; simp at hh; try omega) _ | refine Only.trans ?_ (by assumption))))).mono ?_); rintro e w1 ⟨rfl, rfl⟩)
    | (go_at_call 121; (with_reducible refine (copyTables_rd v l _ _ (Rp.keep h (by with_reducible repeat (first | exact Only.refl _ _ | assumption | refine Only.drewN ?_ _ | refine Only.drew ?_ | refine Only.alloc ?_ _ | refine Only.setCell ?_ (by intro hh; exfalso; simp at hh; try omega) _ | refine Only.trans ?_ (by assumption)))) hsm).mono ?_); rintro e w2 ⟨v2, fp2, rfl, r2, F2, t2⟩; obtain ⟨A2, C2, _, _, rfl, -⟩ := r2.open_; have y2 := t2.cells_eq w.heap.size (by first | (simp; done) | (simp; omega)) (by simp); have z2 := t2.frozen_eq w.heap.size (by first | (simp; done) | (simp; omega)) (by simp); have s2 : w.heap.size < w2.heap.size := (by have := t2.size; simp at this; omega)))
  have HG : ∀ b' ∈ fp2, w.heap.size + 2 ≤ b' := fun b' hb => by have := F2.ge b' hb; simp at this; omega
  obtain ⟨o1, o2⟩ := one_rd (α := Int) (w := w.alloc (.cells #[.int .i64 0, .slice none 0 0, .slice none 0 0, .slice none 0 0] 51)) (v := .int .i64 b) (x := b) (fp := []) (int_rd _ Ib.out) 2 w.heap.size (Fresh.nil _ _) (g := w.heap.size + 1) (by simp) (by omega)
  have hW : Only [w.heap.size] w2 ((((w2.setCell ⟨w.heap.size, 0, none⟩ (.int .i64 3)).setCell ⟨w.heap.size, 1, none⟩ (.slice (some ⟨w.heap.size + 1, 0, none⟩) 1 1)).setCell ⟨w.heap.size, 2, none⟩ (.slice none 0 0)).setCell ⟨w.heap.size, 3, none⟩ (.slice A2 l.length C2)) := (by with_reducible repeat (first | exact Only.refl _ _ | assumption | refine Only.drewN ?_ _ | refine Only.drew ?_ | refine Only.alloc ?_ _ | refine Only.setCell ?_ (by intro _; simp) _ | refine Only.trans ?_ (Only.weaken (by assumption) _)))
  have n1 := Rp.only (Rp.keep o1 t2) hW (by simp)
  have n2 := Rp.only r2 hW (fun b' hb hm => by have := HG b' hb; simp at hm; omega)
  have n3 := (Fresh.append (o2.keep t2) F2 (by simp; omega) (by simp)).only hW (fun b' hb hm => by
    simp at hm hb
    rcases hb with hb | hb
    · omega
    · have := HG b' hb; omega)
  refine bodyPost_ret (v := .agg #[.int .i64 3, .slice (some ⟨w.heap.size + 1, 0, none⟩) 1 1, .slice none 0 0, .slice A2 l.length C2]) (by simp [results, Tryz.results88, go_sem, y2]) rfl ⟨[.int .i64 3, .slice (some ⟨w.heap.size + 1, 0, none⟩) 1 1, .slice none 0 0, .slice A2 l.length C2], _, rfl, ?_, n3, (by with_reducible repeat (first | exact Only.refl _ _ | assumption | refine Only.drewN ?_ _ | refine Only.drew ?_ | refine Only.alloc ?_ _ | refine Only.setCell ?_ (by intro hh; exfalso; simp at hh; try omega) _ | refine Only.trans ?_ (by assumption)))⟩
  rw [Hp.out]
  exact ⟨_, _, _, [w.heap.size + 1], [], fp2, rfl, (by simp), ⟨by simp, by simp⟩, n1, nil_rd _, n2⟩
set_option maxHeartbeats 400000 in
theorem implLBCert_rd (b : Int) (ib : I64 b) (v : Value) (l : List Table) (fp : List Nat) (w : World) (h : Rd w v l fp) (hsm : Sm.sm l) :
    Calls Tryz.prog 91 #[.int .i64 b, v] w fun e w' => ∃ cs fp', e = .returned (.agg cs.toArray) ∧ Rp.rep w' cs (lbCert b l) fp' ∧ Fresh w.heap.size w' fp' ∧ Only [] w w' := by
  by_cases c0 : b < 0
  · have hp : lbCert b l = noCert := by unfold lbCert; rw [if_neg (by omega)]
    have Hp := Lib.hid hp
    clear hp
    go_enter Tryz.func91, Tryz.ntmps91
    go_wp2
    refine bodyPost_ret (v := .agg #[.int .i64 0, .slice none 0 0, .slice none 0 0, .slice none 0 0]) (by simp [results, Tryz.results91, go_sem]) rfl ⟨[.int .i64 0, .slice none 0 0, .slice none 0 0, .slice none 0 0], [], rfl, ?_, Fresh.nil _ _, (by with_reducible repeat (first | exact Only.refl _ _ | assumption | refine Only.drewN ?_ _ | refine Only.drew ?_ | refine Only.alloc ?_ _ | refine Only.setCell ?_ (by intro hh; exfalso; simp at hh; try omega) _ | refine Only.trans ?_ (by assumption)))⟩
    rw [Hp.out]; exact noCert_rep _
  rcases hq : inR l.length 1 4
  · have hp : lbCert b l = noCert := by unfold lbCert; rw [if_neg (by simp [hq])]
    have Hp := Lib.hid hp
    clear hp
    go_enter Tryz.func91, Tryz.ntmps91
    go_wp2_with ((first | (go_at_call 131; (with_reducible refine (lengthTable_rd v l _ _ (Rp.keep h (by with_reducible repeat (first | exact Only.refl _ _ | assumption | refine Only.drewN ?_ _ | refine Only.drew ?_ | refine Only.alloc ?_ _ | refine Only.setCell ?_ (by intro hh; exfalso; simp at hh; try omega) _ | refine Only.trans ?_ (by assumption))))).mono ?_); rintro e w1 ⟨rfl, rfl⟩) | (go_at_call 66; (with_reducible refine (within_any l.length 1 4 _).mono ?_); rintro e w1 ⟨rfl, rfl⟩)))
    refine bodyPost_ret (v := .agg #[.int .i64 0, .slice none 0 0, .slice none 0 0, .slice none 0 0]) (by simp [results, Tryz.results91, go_sem]) rfl ⟨[.int .i64 0, .slice none 0 0, .slice none 0 0, .slice none 0 0], [], rfl, ?_, Fresh.nil _ _, (by with_reducible repeat (first | exact Only.refl _ _ | assumption | refine Only.drewN ?_ _ | refine Only.drew ?_ | refine Only.alloc ?_ _ | refine Only.setCell ?_ (by intro hh; exfalso; simp at hh; try omega) _ | refine Only.trans ?_ (by assumption)))⟩
    rw [Hp.out]; exact noCert_rep _
  have hp : lbCert b l = ⟨3, [b], [], l⟩ := by unfold lbCert; rw [if_pos ⟨by omega, hq⟩]
  have Hp := Lib.hid hp
  clear hp
  have Ib := Lib.hid ib; clear ib
  go_enter Tryz.func91, Tryz.ntmps91
  go_wp2_with (first
    | (first | (go_at_call 131; (with_reducible refine (lengthTable_rd v l _ _ (Rp.keep h (by with_reducible repeat (first | exact Only.refl _ _ | assumption | refine Only.drewN ?_ _ | refine Only.drew ?_ | refine Only.alloc ?_ _ | refine Only.setCell ?_ (by intro hh; exfalso; simp at hh; try omega) _ | refine Only.trans ?_ (by assumption))))).mono ?_); rintro e w1 ⟨rfl, rfl⟩) | (go_at_call 66; (with_reducible refine (within_any l.length 1 4 _).mono ?_); rintro e w1 ⟨rfl, rfl⟩))
    | (go_at_call 132; (with_reducible refine (cloneTables_rd v l _ _ (Rp.keep h (by with_reducible repeat (first | exact Only.refl _ _ | assumption | refine Only.drewN ?_ _ | refine Only.drew ?_ | refine Only.alloc ?_ _ | refine Only.setCell ?_ (by intro hh; exfalso; simp at hh; try omega) _ | refine Only.trans ?_ (by assumption)))) hsm).mono ?_); rintro e w2 ⟨v2, fp2, rfl, r2, F2, t2⟩; obtain ⟨A2, C2, _, _, rfl, -⟩ := r2.open_; have y2 := t2.cells_eq w.heap.size (by first | (simp; done) | (simp; omega)) (by simp); have z2 := t2.frozen_eq w.heap.size (by first | (simp; done) | (simp; omega)) (by simp); have s2 : w.heap.size < w2.heap.size := (by have := t2.size; simp at this; omega)))
  have HG : ∀ b' ∈ fp2, w.heap.size + 2 ≤ b' := fun b' hb => by have := F2.ge b' hb; simp at this; omega
  obtain ⟨o1, o2⟩ := one_rd (α := Int) (w := w.alloc (.cells #[.int .i64 0, .slice none 0 0, .slice none 0 0, .slice none 0 0] 51)) (v := .int .i64 b) (x := b) (fp := []) (int_rd _ Ib.out) 2 w.heap.size (Fresh.nil _ _) (g := w.heap.size + 1) (by simp) (by omega)
  have hW : Only [w.heap.size] w2 ((((w2.setCell ⟨w.heap.size, 0, none⟩ (.int .i64 3)).setCell ⟨w.heap.size, 1, none⟩ (.slice (some ⟨w.heap.size + 1, 0, none⟩) 1 1)).setCell ⟨w.heap.size, 2, none⟩ (.slice none 0 0)).setCell ⟨w.heap.size, 3, none⟩ (.slice A2 l.length C2)) := (by with_reducible repeat (first | exact Only.refl _ _ | assumption | refine Only.drewN ?_ _ | refine Only.drew ?_ | refine Only.alloc ?_ _ | refine Only.setCell ?_ (by intro _; simp) _ | refine Only.trans ?_ (Only.weaken (by assumption) _)))
  have n1 := Rp.only (Rp.keep o1 t2) hW (by simp)
  have n2 := Rp.only r2 hW (fun b' hb hm => by have := HG b' hb; simp at hm; omega)
  have n3 := (Fresh.append (o2.keep t2) F2 (by simp; omega) (by simp)).only hW (fun b' hb hm => by
    simp at hm hb
    rcases hb with hb | hb
    · omega
    · have := HG b' hb; omega)
  refine bodyPost_ret (v := .agg #[.int .i64 3, .slice (some ⟨w.heap.size + 1, 0, none⟩) 1 1, .slice none 0 0, .slice A2 l.length C2]) (by simp [results, Tryz.results91, go_sem, y2]) rfl ⟨[.int .i64 3, .slice (some ⟨w.heap.size + 1, 0, none⟩) 1 1, .slice none 0 0, .slice A2 l.length C2], _, rfl, ?_, n3, (by with_reducible repeat (first | exact Only.refl _ _ | assumption | refine Only.drewN ?_ _ | refine Only.drew ?_ | refine Only.alloc ?_ _ | refine Only.setCell ?_ (by intro hh; exfalso; simp at hh; try omega) _ | refine Only.trans ?_ (by assumption)))⟩
  rw [Hp.out]
  exact ⟨_, _, _, [w.heap.size + 1], [], fp2, rfl, (by simp), ⟨by simp, by simp⟩, n1, nil_rd _, n2⟩
set_option maxHeartbeats 1000000 in
theorem specOpCert_rd (u : Value) (x : List Int) (fq : List Nat) (v : Value) (l : List Table) (fp : List Nat) (w : World) (hx : Rd w u x fq) (h : Rd w v l fp) (hsm : Sm.sm l) :
    Calls Tryz.prog 73 #[u, v] w fun e w' => ∃ cs fp', e = .returned (.agg cs.toArray) ∧ Rp.rep w' cs (opCert x l) fp' ∧ Fresh w.heap.size w' fp' ∧ Only [] w w' := by
  rcases hv : validW 8 x
  · have hp : opCert x l = noCert := by unfold opCert; rw [if_neg (by simp [hv])]
    have Hp := Lib.hid hp
    clear hp
    go_enter Tryz.func73, Tryz.ntmps73
    go_wp2_with ((go_at_call 119; (with_reducible refine (specIsWord_rd u x _ _ (Rp.keep hx (by with_reducible repeat (first | exact Only.refl _ _ | assumption | refine Only.drewN ?_ _ | refine Only.drew ?_ | refine Only.alloc ?_ _ | refine Only.setCell ?_ (by intro hh; exfalso; simp at hh; try omega) _ | refine Only.trans ?_ (by assumption))))).mono ?_); rintro e w1 ⟨rfl, n1, rfl⟩))
    refine bodyPost_ret (v := .agg #[.int .i64 0, .slice none 0 0, .slice none 0 0, .slice none 0 0]) (by simp [results, Tryz.results73, go_sem]) rfl ⟨[.int .i64 0, .slice none 0 0, .slice none 0 0, .slice none 0 0], [], rfl, ?_, Fresh.nil _ _, (by with_reducible repeat (first | exact Only.refl _ _ | assumption | refine Only.drewN ?_ _ | refine Only.drew ?_ | refine Only.alloc ?_ _ | refine Only.setCell ?_ (by intro hh; exfalso; simp at hh; try omega) _ | refine Only.trans ?_ (by assumption)))⟩
    rw [Hp.out]; exact noCert_rep _
  rcases hq : inR l.length 1 4
  · have hp : opCert x l = noCert := by unfold opCert; rw [if_neg (by simp [hq])]
    have Hp := Lib.hid hp
    clear hp
    go_enter Tryz.func73, Tryz.ntmps73
    go_wp2_with (first | (go_at_call 119; (with_reducible refine (specIsWord_rd u x _ _ (Rp.keep hx (by with_reducible repeat (first | exact Only.refl _ _ | assumption | refine Only.drewN ?_ _ | refine Only.drew ?_ | refine Only.alloc ?_ _ | refine Only.setCell ?_ (by intro hh; exfalso; simp at hh; try omega) _ | refine Only.trans ?_ (by assumption))))).mono ?_); rintro e w1 ⟨rfl, n1, rfl⟩) | (go_at_call 120; (with_reducible refine (isTableCount_rd v l _ _ (Rp.keep h (by with_reducible repeat (first | exact Only.refl _ _ | assumption | refine Only.drewN ?_ _ | refine Only.drew ?_ | refine Only.alloc ?_ _ | refine Only.setCell ?_ (by intro hh; exfalso; simp at hh; try omega) _ | refine Only.trans ?_ (by assumption))))).mono ?_); rintro e w9 ⟨rfl, rfl⟩))
    refine bodyPost_ret (v := .agg #[.int .i64 0, .slice none 0 0, .slice none 0 0, .slice none 0 0]) (by simp [results, Tryz.results73, go_sem]) rfl ⟨[.int .i64 0, .slice none 0 0, .slice none 0 0, .slice none 0 0], [], rfl, ?_, Fresh.nil _ _, (by with_reducible repeat (first | exact Only.refl _ _ | assumption | refine Only.drewN ?_ _ | refine Only.drew ?_ | refine Only.alloc ?_ _ | refine Only.setCell ?_ (by intro hh; exfalso; simp at hh; try omega) _ | refine Only.trans ?_ (by assumption)))⟩
    rw [Hp.out]; exact noCert_rep _
  have hp : opCert x l = ⟨2, [], [x], l⟩ := by unfold opCert; rw [if_pos ⟨hv, hq⟩]
  have Hp := Lib.hid hp
  have hlen := validW_len hv
  clear hp
  go_enter Tryz.func73, Tryz.ntmps73
  go_wp2_with (first
    | (go_at_call 119; (with_reducible refine (specIsWord_rd u x _ _ (Rp.keep hx (by with_reducible repeat (first | exact Only.refl _ _ | assumption | refine Only.drewN ?_ _ | refine Only.drew ?_ | refine Only.alloc ?_ _ | refine Only.setCell ?_ (by intro hh; exfalso; simp at hh; try omega) _ | refine Only.trans ?_ (by assumption))))).mono ?_); rintro e w1 ⟨rfl, n1, rfl⟩)
    | (go_at_call 120; (with_reducible refine (isTableCount_rd v l _ _ (Rp.keep h (by with_reducible repeat (first | exact Only.refl _ _ | assumption | refine Only.drewN ?_ _ | refine Only.drew ?_ | refine Only.alloc ?_ _ | refine Only.setCell ?_ (by intro hh; exfalso; simp at hh; try omega) _ | refine Only.trans ?_ (by assumption))))).mono ?_); rintro e w9 ⟨rfl, rfl⟩)
    | (go_at_call 111; (with_reducible refine (copyInts_rd u x _ _ (Rp.keep hx (by with_reducible repeat (first | exact Only.refl _ _ | assumption | refine Only.drewN ?_ _ | refine Only.drew ?_ | refine Only.alloc ?_ _ | refine Only.setCell ?_ (by intro hh; exfalso; simp at hh; try omega) _ | refine Only.trans ?_ (by assumption)))) (by omega)).mono ?_); rintro e w2 ⟨v2, fp2, rfl, r2, F2, t2⟩; obtain ⟨A2, C2, _, _, rfl, -⟩ := r2.open_; have y2 := t2.cells_eq w.heap.size (by first | (simp; done) | (simp; omega)) (by simp); have z2 := t2.frozen_eq w.heap.size (by first | (simp; done) | (simp; omega)) (by simp); have s2 : w.heap.size < w2.heap.size := (by have := t2.size; first | omega | (simp at this; omega)))
    | (go_at_call 121; (with_reducible refine (copyTables_rd v l _ _ (Rp.keep h (by with_reducible repeat (first | exact Only.refl _ _ | assumption | refine Only.drewN ?_ _ | refine Only.drew ?_ | refine Only.alloc ?_ _ | refine Only.setCell ?_ (by intro hh; exfalso; simp at hh; try omega) _ | refine Only.trans ?_ (by assumption)))) hsm).mono ?_); rintro e w3 ⟨v3, fp3, rfl, r3, F3, t3⟩; obtain ⟨A3, C3, _, _, rfl, -⟩ := r3.open_; have y3 := t3.cells_eq w.heap.size (by simp; omega) (by simp); have z3 := t3.frozen_eq w.heap.size (by simp; omega) (by simp); have s3 : w2.heap.size < w3.heap.size := (by have := t3.size; simp at this; omega)))
  have HF := F2.mono (B' := w.heap.size) (by simp)
  have HG : ∀ b' ∈ fp3, w2.heap.size + 1 ≤ b' := fun b' hb => by have := F3.ge b' hb; simp at this; omega
  have HG2 : ∀ b' ∈ fp2, w.heap.size < b' := fun b' hb => by have := F2.ge b' hb; simp at this; omega
  have HL2 : ∀ b' ∈ fp2, b' < w2.heap.size := F2.lt
  obtain ⟨o1, o2⟩ := one_rd r2 25 w.heap.size HF (g := w2.heap.size) rfl (by omega)
  have hW : Only [w.heap.size] w3 ((((w3.setCell ⟨w.heap.size, 0, none⟩ (.int .i64 2)).setCell ⟨w.heap.size, 1, none⟩ (.slice none 0 0)).setCell ⟨w.heap.size, 2, none⟩ (.slice (some ⟨w2.heap.size, 0, none⟩) 1 1)).setCell ⟨w.heap.size, 3, none⟩ (.slice A3 l.length C3)) := (by with_reducible repeat (first | exact Only.refl _ _ | assumption | refine Only.drewN ?_ _ | refine Only.drew ?_ | refine Only.alloc ?_ _ | refine Only.setCell ?_ (by intro _; simp) _ | refine Only.trans ?_ (Only.weaken (by assumption) _)))
  have n1 := Rp.only (Rp.keep o1 t3) hW (fun b' hb hm => by
    simp at hm hb
    rcases hb with hb | hb
    · omega
    · have := HG2 b' hb; omega)
  have n2 := Rp.only r3 hW (fun b' hb hm => by have := HG b' hb; simp at hm; omega)
  have n3 := (Fresh.append (o2.keep t3) F3 (by simp; omega) (fun b' hb => by
    simp at hb ⊢
    rcases hb with hb | hb
    · omega
    · have := HL2 b' hb; omega)).only hW (fun b' hb hm => by
    simp at hm hb
    rcases hb with hb | hb | hb
    · omega
    · have := HG2 b' hb; omega
    · have := HG b' hb; omega)
  refine bodyPost_ret (v := .agg #[.int .i64 2, .slice none 0 0, .slice (some ⟨w2.heap.size, 0, none⟩) 1 1, .slice A3 l.length C3]) (by simp [results, Tryz.results73, go_sem, y3, y2, s2]) rfl ⟨[.int .i64 2, .slice none 0 0, .slice (some ⟨w2.heap.size, 0, none⟩) 1 1, .slice A3 l.length C3], _, rfl, ?_, n3, (by with_reducible repeat (first | exact Only.refl _ _ | assumption | refine Only.drewN ?_ _ | refine Only.drew ?_ | refine Only.alloc ?_ _ | refine Only.setCell ?_ (by intro hh; exfalso; simp at hh; try omega) _ | refine Only.trans ?_ (by assumption)))⟩
  rw [Hp.out]
  exact ⟨_, _, _, [], _, fp3, rfl, (by simp), ⟨by simp, by simp⟩, nil_rd _, n1, n2⟩
set_option maxHeartbeats 1000000 in
theorem implOpCert_rd (u : Value) (x : List Int) (fq : List Nat) (v : Value) (l : List Table) (fp : List Nat) (w : World) (hx : Rd w u x fq) (h : Rd w v l fp) (hsm : Sm.sm l) :
    Calls Tryz.prog 79 #[u, v] w fun e w' => ∃ cs fp', e = .returned (.agg cs.toArray) ∧ Rp.rep w' cs (opCert x l) fp' ∧ Fresh w.heap.size w' fp' ∧ Only [] w w' := by
  rcases hv : validW 8 x
  · have hp : opCert x l = noCert := by unfold opCert; rw [if_neg (by simp [hv])]
    have Hp := Lib.hid hp
    clear hp
    go_enter Tryz.func79, Tryz.ntmps79
    go_wp2_with ((go_at_call 130; (with_reducible refine (implIsWord_rd u x _ _ (Rp.keep hx (by with_reducible repeat (first | exact Only.refl _ _ | assumption | refine Only.drewN ?_ _ | refine Only.drew ?_ | refine Only.alloc ?_ _ | refine Only.setCell ?_ (by intro hh; exfalso; simp at hh; try omega) _ | refine Only.trans ?_ (by assumption))))).mono ?_); rintro e w1 ⟨rfl, t1⟩; have y1 := t1.cells_eq w.heap.size (by simp) (by simp); have z1 := t1.frozen_eq w.heap.size (by simp) (by simp); have s1 : w.heap.size < w1.heap.size := (by have := t1.size; simp at this; omega)))
    refine bodyPost_ret (v := .agg #[.int .i64 0, .slice none 0 0, .slice none 0 0, .slice none 0 0]) (by simp [results, Tryz.results79, go_sem, y1]) rfl ⟨[.int .i64 0, .slice none 0 0, .slice none 0 0, .slice none 0 0], [], rfl, ?_, Fresh.nil _ _, (by with_reducible repeat (first | exact Only.refl _ _ | assumption | refine Only.drewN ?_ _ | refine Only.drew ?_ | refine Only.alloc ?_ _ | refine Only.setCell ?_ (by intro hh; exfalso; simp at hh; try omega) _ | refine Only.trans ?_ (by assumption)))⟩
    rw [Hp.out]; exact noCert_rep _
  rcases hq : inR l.length 1 4
  · have hp : opCert x l = noCert := by unfold opCert; rw [if_neg (by simp [hq])]
    have Hp := Lib.hid hp
    clear hp
    go_enter Tryz.func79, Tryz.ntmps79
    go_wp2_with (first | (go_at_call 130; (with_reducible refine (implIsWord_rd u x _ _ (Rp.keep hx (by with_reducible repeat (first | exact Only.refl _ _ | assumption | refine Only.drewN ?_ _ | refine Only.drew ?_ | refine Only.alloc ?_ _ | refine Only.setCell ?_ (by intro hh; exfalso; simp at hh; try omega) _ | refine Only.trans ?_ (by assumption))))).mono ?_); rintro e w1 ⟨rfl, t1⟩; have y1 := t1.cells_eq w.heap.size (by simp) (by simp); have z1 := t1.frozen_eq w.heap.size (by simp) (by simp); have s1 : w.heap.size < w1.heap.size := (by have := t1.size; simp at this; omega)) | (first | (go_at_call 131; (with_reducible refine (lengthTable_rd v l _ _ (Rp.keep h (by with_reducible repeat (first | exact Only.refl _ _ | assumption | refine Only.drewN ?_ _ | refine Only.drew ?_ | refine Only.alloc ?_ _ | refine Only.setCell ?_ (by intro hh; exfalso; simp at hh; try omega) _ | refine Only.trans ?_ (by assumption))))).mono ?_); rintro e w9 ⟨rfl, rfl⟩) | (go_at_call 66; (with_reducible refine (within_any l.length 1 4 _).mono ?_); rintro e w9 ⟨rfl, rfl⟩)))
    refine bodyPost_ret (v := .agg #[.int .i64 0, .slice none 0 0, .slice none 0 0, .slice none 0 0]) (by simp [results, Tryz.results79, go_sem, y1]) rfl ⟨[.int .i64 0, .slice none 0 0, .slice none 0 0, .slice none 0 0], [], rfl, ?_, Fresh.nil _ _, (by with_reducible repeat (first | exact Only.refl _ _ | assumption | refine Only.drewN ?_ _ | refine Only.drew ?_ | refine Only.alloc ?_ _ | refine Only.setCell ?_ (by intro hh; exfalso; simp at hh; try omega) _ | refine Only.trans ?_ (by assumption)))⟩
    rw [Hp.out]; exact noCert_rep _
  have hp : opCert x l = ⟨2, [], [x], l⟩ := by unfold opCert; rw [if_pos ⟨hv, hq⟩]
  have Hp := Lib.hid hp
  have hlen := validW_len hv
  clear hp
  go_enter Tryz.func79, Tryz.ntmps79
  go_wp2_with (first
    | (go_at_call 130; (with_reducible refine (implIsWord_rd u x _ _ (Rp.keep hx (by with_reducible repeat (first | exact Only.refl _ _ | assumption | refine Only.drewN ?_ _ | refine Only.drew ?_ | refine Only.alloc ?_ _ | refine Only.setCell ?_ (by intro hh; exfalso; simp at hh; try omega) _ | refine Only.trans ?_ (by assumption))))).mono ?_); rintro e w1 ⟨rfl, t1⟩; have y1 := t1.cells_eq w.heap.size (by simp) (by simp); have z1 := t1.frozen_eq w.heap.size (by simp) (by simp); have s1 : w.heap.size < w1.heap.size := (by have := t1.size; simp at this; omega))
    | (first | (go_at_call 131; (with_reducible refine (lengthTable_rd v l _ _ (Rp.keep h (by with_reducible repeat (first | exact Only.refl _ _ | assumption | refine Only.drewN ?_ _ | refine Only.drew ?_ | refine Only.alloc ?_ _ | refine Only.setCell ?_ (by intro hh; exfalso; simp at hh; try omega) _ | refine Only.trans ?_ (by assumption))))).mono ?_); rintro e w9 ⟨rfl, rfl⟩) | (go_at_call 66; (with_reducible refine (within_any l.length 1 4 _).mono ?_); rintro e w9 ⟨rfl, rfl⟩))
    | (go_at_call 129; (with_reducible refine (Clone_rd u x _ _ (Rp.keep hx (by with_reducible repeat (first | exact Only.refl _ _ | assumption | refine Only.drewN ?_ _ | refine Only.drew ?_ | refine Only.alloc ?_ _ | refine Only.setCell ?_ (by intro hh; exfalso; simp at hh; try omega) _ | refine Only.trans ?_ (by assumption)))) (by omega)).mono ?_); rintro e w2 ⟨v2, fp2, rfl, r2, F2, t2⟩; obtain ⟨A2, C2, _, _, rfl, -⟩ := r2.open_; have y2 := t2.cells_eq w.heap.size s1 (by simp); have z2 := t2.frozen_eq w.heap.size s1 (by simp); have s2 : w.heap.size < w2.heap.size := (by have := t2.size; first | omega | (simp at this; omega)))
    | (go_at_call 132; (with_reducible refine (cloneTables_rd v l _ _ (Rp.keep h (by with_reducible repeat (first | exact Only.refl _ _ | assumption | refine Only.drewN ?_ _ | refine Only.drew ?_ | refine Only.alloc ?_ _ | refine Only.setCell ?_ (by intro hh; exfalso; simp at hh; try omega) _ | refine Only.trans ?_ (by assumption)))) hsm).mono ?_); rintro e w3 ⟨v3, fp3, rfl, r3, F3, t3⟩; obtain ⟨A3, C3, _, _, rfl, -⟩ := r3.open_; have y3 := t3.cells_eq w.heap.size (by simp; omega) (by simp); have z3 := t3.frozen_eq w.heap.size (by simp; omega) (by simp); have s3 : w2.heap.size < w3.heap.size := (by have := t3.size; simp at this; omega)))
  have HF := F2.mono (B' := w.heap.size) (by omega)
  have HG : ∀ b' ∈ fp3, w2.heap.size + 1 ≤ b' := fun b' hb => by have := F3.ge b' hb; simp at this; omega
  have HG2 : ∀ b' ∈ fp2, w.heap.size < b' := fun b' hb => by have := F2.ge b' hb; omega
  have HL2 : ∀ b' ∈ fp2, b' < w2.heap.size := F2.lt
  obtain ⟨o1, o2⟩ := one_rd r2 25 w.heap.size HF (g := w2.heap.size) rfl (by omega)
  have hW : Only [w.heap.size] w3 ((((w3.setCell ⟨w.heap.size, 0, none⟩ (.int .i64 2)).setCell ⟨w.heap.size, 1, none⟩ (.slice none 0 0)).setCell ⟨w.heap.size, 2, none⟩ (.slice (some ⟨w2.heap.size, 0, none⟩) 1 1)).setCell ⟨w.heap.size, 3, none⟩ (.slice A3 l.length C3)) := (by with_reducible repeat (first | exact Only.refl _ _ | assumption | refine Only.drewN ?_ _ | refine Only.drew ?_ | refine Only.alloc ?_ _ | refine Only.setCell ?_ (by intro _; simp) _ | refine Only.trans ?_ (Only.weaken (by assumption) _)))
  have n1 := Rp.only (Rp.keep o1 t3) hW (fun b' hb hm => by
    simp at hm hb
    rcases hb with hb | hb
    · omega
    · have := HG2 b' hb; omega)
  have n2 := Rp.only r3 hW (fun b' hb hm => by have := HG b' hb; simp at hm; omega)
  have n3 := (Fresh.append (o2.keep t3) F3 (by simp; omega) (fun b' hb => by
    simp at hb ⊢
    rcases hb with hb | hb
    · omega
    · have := HL2 b' hb; omega)).only hW (fun b' hb hm => by
    simp at hm hb
    rcases hb with hb | hb | hb
    · omega
    · have := HG2 b' hb; omega
    · have := HG b' hb; omega)
  refine bodyPost_ret (v := .agg #[.int .i64 2, .slice none 0 0, .slice (some ⟨w2.heap.size, 0, none⟩) 1 1, .slice A3 l.length C3]) (by simp [results, Tryz.results79, go_sem, y3, y2, y1, s2]) rfl ⟨[.int .i64 2, .slice none 0 0, .slice (some ⟨w2.heap.size, 0, none⟩) 1 1, .slice A3 l.length C3], _, rfl, ?_, n3, (by with_reducible repeat (first | exact Only.refl _ _ | assumption | refine Only.drewN ?_ _ | refine Only.drew ?_ | refine Only.alloc ?_ _ | refine Only.setCell ?_ (by intro hh; exfalso; simp at hh; try omega) _ | refine Only.trans ?_ (by assumption)))⟩
  rw [Hp.out]
  exact ⟨_, _, _, [], _, fp3, rfl, (by simp), ⟨by simp, by simp⟩, nil_rd _, n1, n2⟩
end Go.Proofs.YtlcoejncdbkhcaaGreat

namespace Go.Proofs.YtlcoejncdbkhcaaGreat
open Go.RowKit
set_option maxRecDepth 10000

theorem bTabsK_mem {x : Puzzle} : ∀ {trs : List (List Int)} {ts : List Table}, bTabsK x trs = some ts → ts.length = trs.length ∧ ∀ t ∈ ts, ∃ tr, bTab x tr = some t
  | [], ts, h => by unfold bTabsK at h; injection h with h; subst h; simp
  | tr :: trs, ts, h => by
    unfold bTabsK at h
    rw [Option.bind_eq_some_iff] at h
    obtain ⟨t, e1, e2⟩ := h
    rw [Option.map_eq_some_iff] at e2
    obtain ⟨ts', e3, e4⟩ := e2
    subst e4
    obtain ⟨a, b⟩ := bTabsK_mem e3
    refine ⟨by simp [a], fun t' ht' => ?_⟩
    rcases List.mem_cons.1 ht' with rfl | ht'
    · exact ⟨tr, e1⟩
    · exact b t' ht'
theorem bTabs_mem {x : Puzzle} {trs : List (List Int)} {ts : List Table} (h : bTabs x trs = some ts) : ts.length ≤ 4 ∧ ∀ t ∈ ts, ∃ tr, bTab x tr = some t := by
  unfold bTabs at h
  split at h
  · rename_i hq
    obtain ⟨q1, q2⟩ := inR_iff.1 hq
    obtain ⟨a, b⟩ := bTabsK_mem h
    exact ⟨by omega, b⟩
  · cases h
theorem bTabs_sm {x : Puzzle} {trs : List (List Int)} {ts : List Table} (h : bTabs x trs = some ts) : Sm.sm ts := by
  obtain ⟨h1, h2⟩ := bTabs_mem h
  refine ⟨by omega, fun t ht => ?_⟩
  obtain ⟨tr, e⟩ := h2 t ht
  obtain ⟨a1, a2, a3, -, a5, a6, a7⟩ := bTab_facts e
  have h8 := (trackB_iff.1 a2).2.len
  have h9 := (validPz_facts a1).2.1
  simp only at a5 a6 a7
  refine ⟨⟨by rw [a3]; omega, fun _ _ => trivial⟩, ⟨by omega, fun q hq => ⟨by rw [a7 q hq]; omega, fun _ _ => trivial⟩⟩, ⟨by omega, fun _ _ => trivial⟩⟩
theorem bTabs_small {x : Puzzle} {trs : List (List Int)} {ts : List Table} (h : bTabs x trs = some ts) : ∀ t ∈ ts, t.tracked.length ≤ 2097152 := fun t ht => by
  obtain ⟨-, h2⟩ := bTabs_mem h
  obtain ⟨tr, e⟩ := h2 t ht
  obtain ⟨a1, a2, a3, -, -⟩ := bTab_facts e
  have h8 := (trackB_iff.1 a2).2.len
  have h9 := (validPz_facts a1).2.1
  rw [a3]; omega
noncomputable def bndOk (x : Puzzle) (trs : List (List Int)) (s : List Int) : Bool := (bTabs x trs).isSome && decide (0 ≤ lb x ((bTabs x trs).getD []) s)
noncomputable def bndCert (x : Puzzle) (trs : List (List Int)) (s : List Int) : Certificate := if bndOk x trs s = true then lbCert (lb x ((bTabs x trs).getD []) s) ((bTabs x trs).getD []) else noCert

set_option maxHeartbeats 4000000 in
theorem specBound_any (cs : List Value) (x : Puzzle) (fp : List Nat) (v : Value) (trs : List (List Int)) (ft : List Nat) (u : Value) (s : List Int) (fs0 : List Nat) (w : World) (h : Rp.rep w cs x fp) (hv : Rd w v trs ft) (hu : Rd w u s fs0) (hsm : ∀ y ∈ trs, y.length ≤ 2097152) :
    Calls Tryz.prog 38 #[.agg cs.toArray, v, u] w fun e w' => ∃ cs' fp', e = .returned (.tuple #[.agg (List.toArray cs'), .bool (bndOk x trs s)]) ∧ Rp.rep w' cs' (bndCert x trs s) fp' ∧ Fresh w.heap.size w' fp' ∧ Only [] w w' := by
  have h0 := h
  obtain ⟨v2, rfl, p0, p1, h2⟩ := h
  obtain ⟨A3, C3, _, _, rfl, -, -⟩ := h2.open_
  clear h2 p0 p1
  have X0 : Blk ((w.alloc (.cells #[.int .i64 x.points, .string x.names, .slice A3 x.moves.length C3] 37)).alloc (.cells #[.int .i64 0, .slice none 0 0, .slice none 0 0, .slice none 0 0] 51)) w.heap.size [.int .i64 x.points, .string x.names, .slice A3 x.moves.length C3] := (Blk.new w [.int .i64 x.points, .string x.names, .slice A3 x.moves.length C3] 37).keep ((Only.refl _ _).alloc _)
  have Y0 : Blk ((w.alloc (.cells #[.int .i64 x.points, .string x.names, .slice A3 x.moves.length C3] 37)).alloc (.cells #[.int .i64 0, .slice none 0 0, .slice none 0 0, .slice none 0 0] 51)) (w.heap.size + 1) [.int .i64 0, .slice none 0 0, .slice none 0 0, .slice none 0 0] := Blk.new_at (by simp)
  have x0 := X0.cell 0 rfl
  have x1 := X0.cell 1 rfl
  have x2 := X0.cell 2 rfl
  rcases hb : bTabs x trs with _ | ts
  · have hk : bndOk x trs s = false := by unfold bndOk; rw [hb]; rfl
    have hc : bndCert x trs s = noCert := by unfold bndCert; rw [hk]; rfl
    have Hb := Lib.hid hb
    have Hk := Lib.hid hk
    have Hc := Lib.hid hc
    clear hb hk hc
    go_enter Tryz.func38, Tryz.ntmps38
    go_wp2_with (first
      | (go_at_call 86; (with_reducible refine (specBuildTables_any [.int .i64 x.points, .string x.names, .slice A3 x.moves.length C3] x _ _ trs _ _ (Rp.keep h0 (by with_reducible repeat (first | exact Only.refl _ _ | assumption | refine Only.drewN ?_ _ | refine Only.drew ?_ | refine Only.alloc ?_ _ | refine Only.setCell ?_ (by intro hh; exfalso; simp at hh; try omega) _ | refine Only.trans ?_ (by assumption)))) (Rp.keep hv (by with_reducible repeat (first | exact Only.refl _ _ | assumption | refine Only.drewN ?_ _ | refine Only.drew ?_ | refine Only.alloc ?_ _ | refine Only.setCell ?_ (by intro hh; exfalso; simp at hh; try omega) _ | refine Only.trans ?_ (by assumption)))) hsm).mono ?_); rintro e w2 ⟨u1, f1, he, r1, F1, t2⟩; rw [Hb.out] at he; subst he; have Y9 := Y0.keep t2; have g0 := Y9.cell 0 rfl; have g1 := Y9.cell 1 rfl; have g2 := Y9.cell 2 rfl; have g3 := Y9.cell 3 rfl; have p0 := Y9.frozen 0; have p1 := Y9.frozen 1; have p2 := Y9.frozen 2; have p3 := Y9.frozen 3)
      | fail "no arm")
    have K2 : Only [] w w2 := (by with_reducible repeat (first | exact Only.refl _ _ | assumption | refine Only.drewN ?_ _ | refine Only.drew ?_ | refine Only.alloc ?_ _ | refine Only.setCell ?_ (by intro hh; exfalso; simp at hh; try omega) _ | refine Only.trans ?_ (by assumption)))
    have Yf := (((Y9.set 0 (.int .i64 0)).set 1 (.slice none 0 0)).set 2 (.slice none 0 0)).set 3 (.slice none 0 0)
    have kf : Only [w.heap.size + 1] w2 ((((w2.setCell ⟨w.heap.size + 1, 0, none⟩ (.int .i64 0)).setCell ⟨w.heap.size + 1, 1, none⟩ (.slice none 0 0)).setCell ⟨w.heap.size + 1, 2, none⟩ (.slice none 0 0)).setCell ⟨w.heap.size + 1, 3, none⟩ (.slice none 0 0)) := ((((Only.refl _ _).setCell (by simp) _).setCell (by simp) _).setCell (by simp) _).setCell (by simp) _
    obtain ⟨wf, hwf⟩ : ∃ wf, wf = ((((w2.setCell ⟨w.heap.size + 1, 0, none⟩ (.int .i64 0)).setCell ⟨w.heap.size + 1, 1, none⟩ (.slice none 0 0)).setCell ⟨w.heap.size + 1, 2, none⟩ (.slice none 0 0)).setCell ⟨w.heap.size + 1, 3, none⟩ (.slice none 0 0)) := ⟨_, rfl⟩
    rw [← hwf] at Yf kf ⊢
    simp only [List.set] at Yf
    clear hwf g0 g1 g2 g3 p0 p1 p2 p3
    have z0 := Yf.cell 0 rfl
    have z1 := Yf.cell 1 rfl
    have z2 := Yf.cell 2 rfl
    have z3 := Yf.cell 3 rfl
    refine bodyPost_ret (v := .tuple #[.agg #[.int .i64 0, .slice none 0 0, .slice none 0 0, .slice none 0 0], .bool false]) (by simp [results, Tryz.results38, go_sem, z0, z1, z2, z3]) rfl ⟨[.int .i64 0, .slice none 0 0, .slice none 0 0, .slice none 0 0], [], by rw [Hk.out], by rw [Hc.out]; exact noCert_rep _, Fresh.nil _ _, K2.then_ kf (by simp)⟩
  · obtain ⟨b, hbd⟩ : ∃ b, b = lb x ts s := ⟨_, rfl⟩
    have hrg := lb_rng x ts s
    rw [← hbd] at hrg
    have Hb := Lib.hid hb
    have HB := Lib.hid hbd.symm
    have Hsm := Lib.hid (bTabs_small hb)
    by_cases hneg : b < 0
    · have hk : bndOk x trs s = false := by unfold bndOk; rw [hb]; show (true && decide (0 ≤ lb x ts s)) = false; rw [← hbd]; simp; omega
      have hc : bndCert x trs s = noCert := by unfold bndCert; rw [hk]; rfl
      have Hk := Lib.hid hk
      have Hc := Lib.hid hc
      have hbc : b < 0 := by omega
      clear hb hk hc hbd
      go_enter Tryz.func38, Tryz.ntmps38
      go_wp2_with (first
        | (go_at_call 86; (with_reducible refine (specBuildTables_any [.int .i64 x.points, .string x.names, .slice A3 x.moves.length C3] x _ _ trs _ _ (Rp.keep h0 (by with_reducible repeat (first | exact Only.refl _ _ | assumption | refine Only.drewN ?_ _ | refine Only.drew ?_ | refine Only.alloc ?_ _ | refine Only.setCell ?_ (by intro hh; exfalso; simp at hh; try omega) _ | refine Only.trans ?_ (by assumption)))) (Rp.keep hv (by with_reducible repeat (first | exact Only.refl _ _ | assumption | refine Only.drewN ?_ _ | refine Only.drew ?_ | refine Only.alloc ?_ _ | refine Only.setCell ?_ (by intro hh; exfalso; simp at hh; try omega) _ | refine Only.trans ?_ (by assumption)))) hsm).mono ?_); rintro e w2 ⟨u1, f1, he, r1, F1, t2⟩; rw [Hb.out] at he r1; subst he; simp only [Option.getD] at r1; have X2 := X0.keep t2; have y0 := X2.cell 0 rfl; have y1 := X2.cell 1 rfl; have y2 := X2.cell 2 rfl)
        | (go_at_call 87; (with_reducible refine (specLowerBound_any [.int .i64 x.points, .string x.names, .slice A3 x.moves.length C3] x _ u1 ts f1 u s fs0 _ (Rp.keep h0 (by with_reducible repeat (first | exact Only.refl _ _ | assumption | refine Only.drewN ?_ _ | refine Only.drew ?_ | refine Only.alloc ?_ _ | refine Only.setCell ?_ (by intro hh; exfalso; simp at hh; try omega) _ | refine Only.trans ?_ (by assumption)))) (Rp.keep r1 (by with_reducible repeat (first | exact Only.refl _ _ | assumption | refine Only.drewN ?_ _ | refine Only.drew ?_ | refine Only.alloc ?_ _ | refine Only.setCell ?_ (by intro hh; exfalso; simp at hh; try omega) _ | refine Only.trans ?_ (by assumption)))) (Rp.keep hu (by with_reducible repeat (first | exact Only.refl _ _ | assumption | refine Only.drewN ?_ _ | refine Only.drew ?_ | refine Only.alloc ?_ _ | refine Only.setCell ?_ (by intro hh; exfalso; simp at hh; try omega) _ | refine Only.trans ?_ (by assumption)))) Hsm.out).mono ?_); rintro e w3 ⟨he, t3⟩; rw [HB.out] at he; subst he; have Y9 := (Y0.keep t2).keep t3; have g0 := Y9.cell 0 rfl; have g1 := Y9.cell 1 rfl; have g2 := Y9.cell 2 rfl; have g3 := Y9.cell 3 rfl; have p0 := Y9.frozen 0; have p1 := Y9.frozen 1; have p2 := Y9.frozen 2; have p3 := Y9.frozen 3)
        | fail "no arm")
      have K3 : Only [] w w3 := (by with_reducible repeat (first | exact Only.refl _ _ | assumption | refine Only.drewN ?_ _ | refine Only.drew ?_ | refine Only.alloc ?_ _ | refine Only.setCell ?_ (by intro hh; exfalso; simp at hh; try omega) _ | refine Only.trans ?_ (by assumption)))
      have Yf := (((Y9.set 0 (.int .i64 0)).set 1 (.slice none 0 0)).set 2 (.slice none 0 0)).set 3 (.slice none 0 0)
      have kf : Only [w.heap.size + 1] w3 ((((w3.setCell ⟨w.heap.size + 1, 0, none⟩ (.int .i64 0)).setCell ⟨w.heap.size + 1, 1, none⟩ (.slice none 0 0)).setCell ⟨w.heap.size + 1, 2, none⟩ (.slice none 0 0)).setCell ⟨w.heap.size + 1, 3, none⟩ (.slice none 0 0)) := ((((Only.refl _ _).setCell (by simp) _).setCell (by simp) _).setCell (by simp) _).setCell (by simp) _
      obtain ⟨wf, hwf⟩ : ∃ wf, wf = ((((w3.setCell ⟨w.heap.size + 1, 0, none⟩ (.int .i64 0)).setCell ⟨w.heap.size + 1, 1, none⟩ (.slice none 0 0)).setCell ⟨w.heap.size + 1, 2, none⟩ (.slice none 0 0)).setCell ⟨w.heap.size + 1, 3, none⟩ (.slice none 0 0)) := ⟨_, rfl⟩
      rw [← hwf] at Yf kf ⊢
      simp only [List.set] at Yf
      clear hwf g0 g1 g2 g3 p0 p1 p2 p3
      have z0 := Yf.cell 0 rfl
      have z1 := Yf.cell 1 rfl
      have z2 := Yf.cell 2 rfl
      have z3 := Yf.cell 3 rfl
      refine bodyPost_ret (v := .tuple #[.agg #[.int .i64 0, .slice none 0 0, .slice none 0 0, .slice none 0 0], .bool false]) (by simp [results, Tryz.results38, go_sem, z0, z1, z2, z3]) rfl ⟨[.int .i64 0, .slice none 0 0, .slice none 0 0, .slice none 0 0], [], by rw [Hk.out], by rw [Hc.out]; exact noCert_rep _, Fresh.nil _ _, K3.then_ kf (by simp)⟩
    · have hk : bndOk x trs s = true := by unfold bndOk; rw [hb]; show (true && decide (0 ≤ lb x ts s)) = true; rw [← hbd]; simp; omega
      have hc : bndCert x trs s = lbCert b ts := by unfold bndCert; rw [hk, hb]; show lbCert (lb x ts s) ts = _; rw [← hbd]
      have Hk := Lib.hid hk
      have Hc := Lib.hid hc
      have HS := Lib.hid (bTabs_sm hb)
      have HI := Lib.hid (show I64 b by unfold I64; omega)
      have hbc : ¬ b < 0 := by omega
      clear hb hk hc hbd
      go_enter Tryz.func38, Tryz.ntmps38
      go_wp2_with (first
        | (go_at_call 86; (with_reducible refine (specBuildTables_any [.int .i64 x.points, .string x.names, .slice A3 x.moves.length C3] x _ _ trs _ _ (Rp.keep h0 (by with_reducible repeat (first | exact Only.refl _ _ | assumption | refine Only.drewN ?_ _ | refine Only.drew ?_ | refine Only.alloc ?_ _ | refine Only.setCell ?_ (by intro hh; exfalso; simp at hh; try omega) _ | refine Only.trans ?_ (by assumption)))) (Rp.keep hv (by with_reducible repeat (first | exact Only.refl _ _ | assumption | refine Only.drewN ?_ _ | refine Only.drew ?_ | refine Only.alloc ?_ _ | refine Only.setCell ?_ (by intro hh; exfalso; simp at hh; try omega) _ | refine Only.trans ?_ (by assumption)))) hsm).mono ?_); rintro e w2 ⟨u1, f1, he, r1, F1, t2⟩; rw [Hb.out] at he r1; subst he; simp only [Option.getD] at r1; have X2 := X0.keep t2; have y0 := X2.cell 0 rfl; have y1 := X2.cell 1 rfl; have y2 := X2.cell 2 rfl; have hz2 := t2.size; simp at hz2)
        | (go_at_call 87; (with_reducible refine (specLowerBound_any [.int .i64 x.points, .string x.names, .slice A3 x.moves.length C3] x _ u1 ts f1 u s fs0 _ (Rp.keep h0 (by with_reducible repeat (first | exact Only.refl _ _ | assumption | refine Only.drewN ?_ _ | refine Only.drew ?_ | refine Only.alloc ?_ _ | refine Only.setCell ?_ (by intro hh; exfalso; simp at hh; try omega) _ | refine Only.trans ?_ (by assumption)))) (Rp.keep r1 (by with_reducible repeat (first | exact Only.refl _ _ | assumption | refine Only.drewN ?_ _ | refine Only.drew ?_ | refine Only.alloc ?_ _ | refine Only.setCell ?_ (by intro hh; exfalso; simp at hh; try omega) _ | refine Only.trans ?_ (by assumption)))) (Rp.keep hu (by with_reducible repeat (first | exact Only.refl _ _ | assumption | refine Only.drewN ?_ _ | refine Only.drew ?_ | refine Only.alloc ?_ _ | refine Only.setCell ?_ (by intro hh; exfalso; simp at hh; try omega) _ | refine Only.trans ?_ (by assumption)))) Hsm.out).mono ?_); rintro e w3 ⟨he, t3⟩; rw [HB.out] at he; subst he)
        | (go_at_call 88; (with_reducible refine (specLBCert_rd b HI.out u1 ts f1 _ (Rp.keep r1 (by with_reducible repeat (first | exact Only.refl _ _ | assumption | refine Only.drewN ?_ _ | refine Only.drew ?_ | refine Only.alloc ?_ _ | refine Only.setCell ?_ (by intro hh; exfalso; simp at hh; try omega) _ | refine Only.trans ?_ (by assumption)))) HS.out).mono ?_); rintro e w4 ⟨cs4, f4, rfl, r4, F4, t4⟩; have rr := id r4; obtain ⟨v1, v2, v3, e1, e2, e3, rfl, -, i1, s1, s2, s3⟩ := r4; simp only [List.cons_append, List.nil_append] at rr; obtain ⟨a1, k1, _, _, rfl, -, -⟩ := s1.open_; obtain ⟨a2, k2, _, _, rfl, -, -⟩ := s2.open_; obtain ⟨a3, k3, _, _, rfl, -, -⟩ := s3.open_; have Y9 := ((Y0.keep t2).keep t3).keep t4; have g0 := Y9.cell 0 rfl; have g1 := Y9.cell 1 rfl; have g2 := Y9.cell 2 rfl; have g3 := Y9.cell 3 rfl; have p0 := Y9.frozen 0; have p1 := Y9.frozen 1; have p2 := Y9.frozen 2; have p3 := Y9.frozen 3)
        | fail "no arm")
      have K4 : Only [] w w4 := (by with_reducible repeat (first | exact Only.refl _ _ | assumption | refine Only.drewN ?_ _ | refine Only.drew ?_ | refine Only.alloc ?_ _ | refine Only.setCell ?_ (by intro hh; exfalso; simp at hh; try omega) _ | refine Only.trans ?_ (by assumption)))
      have hz3 := t3.size
      have hFg : ∀ g ∈ f4, g ∉ [w.heap.size + 1] := fun g hg hm => by have := F4.ge g hg; simp at hm; omega
      have Yf := (((Y9.set 0 (.int .i64 (lbCert b ts).kind)).set 1 (.slice a1 (lbCert b ts).numbers.length k1)).set 2 (.slice a2 (lbCert b ts).words.length k2)).set 3 (.slice a3 (lbCert b ts).tables.length k3)
      have kf : Only [w.heap.size + 1] w4 ((((w4.setCell ⟨w.heap.size + 1, 0, none⟩ (.int .i64 (lbCert b ts).kind)).setCell ⟨w.heap.size + 1, 1, none⟩ (.slice a1 (lbCert b ts).numbers.length k1)).setCell ⟨w.heap.size + 1, 2, none⟩ (.slice a2 (lbCert b ts).words.length k2)).setCell ⟨w.heap.size + 1, 3, none⟩ (.slice a3 (lbCert b ts).tables.length k3)) := ((((Only.refl _ _).setCell (by simp) _).setCell (by simp) _).setCell (by simp) _).setCell (by simp) _
      obtain ⟨wf, hwf⟩ : ∃ wf, wf = ((((w4.setCell ⟨w.heap.size + 1, 0, none⟩ (.int .i64 (lbCert b ts).kind)).setCell ⟨w.heap.size + 1, 1, none⟩ (.slice a1 (lbCert b ts).numbers.length k1)).setCell ⟨w.heap.size + 1, 2, none⟩ (.slice a2 (lbCert b ts).words.length k2)).setCell ⟨w.heap.size + 1, 3, none⟩ (.slice a3 (lbCert b ts).tables.length k3)) := ⟨_, rfl⟩
      rw [← hwf] at Yf kf ⊢
      simp only [List.set] at Yf
      clear hwf g0 g1 g2 g3 p0 p1 p2 p3
      have z0 := Yf.cell 0 rfl
      have z1 := Yf.cell 1 rfl
      have z2 := Yf.cell 2 rfl
      have z3 := Yf.cell 3 rfl
      refine bodyPost_ret (v := .tuple #[.agg #[.int .i64 (lbCert b ts).kind, .slice a1 (lbCert b ts).numbers.length k1, .slice a2 (lbCert b ts).words.length k2, .slice a3 (lbCert b ts).tables.length k3], .bool true]) (by simp [results, Tryz.results38, go_sem, z0, z1, z2, z3]) rfl ⟨[.int .i64 (lbCert b ts).kind, .slice a1 (lbCert b ts).numbers.length k1, .slice a2 (lbCert b ts).words.length k2, .slice a3 (lbCert b ts).tables.length k3], f4, by rw [Hk.out], by rw [Hc.out]; exact Rp.only rr kf hFg, (F4.mono (by omega)).only kf hFg, K4.then_ kf (by simp)⟩
set_option maxHeartbeats 4000000 in
theorem implBound_any (cs : List Value) (x : Puzzle) (fp : List Nat) (v : Value) (trs : List (List Int)) (ft : List Nat) (u : Value) (s : List Int) (fs0 : List Nat) (w : World) (h : Rp.rep w cs x fp) (hv : Rd w v trs ft) (hu : Rd w u s fs0) (hsm : ∀ y ∈ trs, y.length ≤ 2097152) :
    Calls Tryz.prog 40 #[.agg cs.toArray, v, u] w fun e w' => ∃ cs' fp', e = .returned (.tuple #[.agg (List.toArray cs'), .bool (bndOk x trs s)]) ∧ Rp.rep w' cs' (bndCert x trs s) fp' ∧ Fresh w.heap.size w' fp' ∧ Only [] w w' := by
  have h0 := h
  obtain ⟨v2, rfl, p0, p1, h2⟩ := h
  obtain ⟨A3, C3, _, _, rfl, -, -⟩ := h2.open_
  clear h2 p0 p1
  have X0 : Blk ((w.alloc (.cells #[.int .i64 x.points, .string x.names, .slice A3 x.moves.length C3] 37)).alloc (.cells #[.int .i64 0, .slice none 0 0, .slice none 0 0, .slice none 0 0] 51)) w.heap.size [.int .i64 x.points, .string x.names, .slice A3 x.moves.length C3] := (Blk.new w [.int .i64 x.points, .string x.names, .slice A3 x.moves.length C3] 37).keep ((Only.refl _ _).alloc _)
  have Y0 : Blk ((w.alloc (.cells #[.int .i64 x.points, .string x.names, .slice A3 x.moves.length C3] 37)).alloc (.cells #[.int .i64 0, .slice none 0 0, .slice none 0 0, .slice none 0 0] 51)) (w.heap.size + 1) [.int .i64 0, .slice none 0 0, .slice none 0 0, .slice none 0 0] := Blk.new_at (by simp)
  have x0 := X0.cell 0 rfl
  have x1 := X0.cell 1 rfl
  have x2 := X0.cell 2 rfl
  rcases hb : bTabs x trs with _ | ts
  · have hk : bndOk x trs s = false := by unfold bndOk; rw [hb]; rfl
    have hc : bndCert x trs s = noCert := by unfold bndCert; rw [hk]; rfl
    have Hb := Lib.hid hb
    have Hk := Lib.hid hk
    have Hc := Lib.hid hc
    clear hb hk hc
    go_enter Tryz.func40, Tryz.ntmps40
    go_wp2_with (first
      | (go_at_call 89; (with_reducible refine (implBuildTables_any [.int .i64 x.points, .string x.names, .slice A3 x.moves.length C3] x _ _ trs _ _ (Rp.keep h0 (by with_reducible repeat (first | exact Only.refl _ _ | assumption | refine Only.drewN ?_ _ | refine Only.drew ?_ | refine Only.alloc ?_ _ | refine Only.setCell ?_ (by intro hh; exfalso; simp at hh; try omega) _ | refine Only.trans ?_ (by assumption)))) (Rp.keep hv (by with_reducible repeat (first | exact Only.refl _ _ | assumption | refine Only.drewN ?_ _ | refine Only.drew ?_ | refine Only.alloc ?_ _ | refine Only.setCell ?_ (by intro hh; exfalso; simp at hh; try omega) _ | refine Only.trans ?_ (by assumption)))) hsm).mono ?_); rintro e w2 ⟨u1, f1, he, r1, F1, t2⟩; rw [Hb.out] at he; subst he; have Y9 := Y0.keep t2; have g0 := Y9.cell 0 rfl; have g1 := Y9.cell 1 rfl; have g2 := Y9.cell 2 rfl; have g3 := Y9.cell 3 rfl; have p0 := Y9.frozen 0; have p1 := Y9.frozen 1; have p2 := Y9.frozen 2; have p3 := Y9.frozen 3)
      | fail "no arm")
    have K2 : Only [] w w2 := (by with_reducible repeat (first | exact Only.refl _ _ | assumption | refine Only.drewN ?_ _ | refine Only.drew ?_ | refine Only.alloc ?_ _ | refine Only.setCell ?_ (by intro hh; exfalso; simp at hh; try omega) _ | refine Only.trans ?_ (by assumption)))
    have Yf := (((Y9.set 0 (.int .i64 0)).set 1 (.slice none 0 0)).set 2 (.slice none 0 0)).set 3 (.slice none 0 0)
    have kf : Only [w.heap.size + 1] w2 ((((w2.setCell ⟨w.heap.size + 1, 0, none⟩ (.int .i64 0)).setCell ⟨w.heap.size + 1, 1, none⟩ (.slice none 0 0)).setCell ⟨w.heap.size + 1, 2, none⟩ (.slice none 0 0)).setCell ⟨w.heap.size + 1, 3, none⟩ (.slice none 0 0)) := ((((Only.refl _ _).setCell (by simp) _).setCell (by simp) _).setCell (by simp) _).setCell (by simp) _
    obtain ⟨wf, hwf⟩ : ∃ wf, wf = ((((w2.setCell ⟨w.heap.size + 1, 0, none⟩ (.int .i64 0)).setCell ⟨w.heap.size + 1, 1, none⟩ (.slice none 0 0)).setCell ⟨w.heap.size + 1, 2, none⟩ (.slice none 0 0)).setCell ⟨w.heap.size + 1, 3, none⟩ (.slice none 0 0)) := ⟨_, rfl⟩
    rw [← hwf] at Yf kf ⊢
    simp only [List.set] at Yf
    clear hwf g0 g1 g2 g3 p0 p1 p2 p3
    have z0 := Yf.cell 0 rfl
    have z1 := Yf.cell 1 rfl
    have z2 := Yf.cell 2 rfl
    have z3 := Yf.cell 3 rfl
    refine bodyPost_ret (v := .tuple #[.agg #[.int .i64 0, .slice none 0 0, .slice none 0 0, .slice none 0 0], .bool false]) (by simp [results, Tryz.results40, go_sem, z0, z1, z2, z3]) rfl ⟨[.int .i64 0, .slice none 0 0, .slice none 0 0, .slice none 0 0], [], by rw [Hk.out], by rw [Hc.out]; exact noCert_rep _, Fresh.nil _ _, K2.then_ kf (by simp)⟩
  · obtain ⟨b, hbd⟩ : ∃ b, b = lb x ts s := ⟨_, rfl⟩
    have hrg := lb_rng x ts s
    rw [← hbd] at hrg
    have Hb := Lib.hid hb
    have HB := Lib.hid hbd.symm
    have Hsm := Lib.hid (bTabs_small hb)
    by_cases hneg : b < 0
    · have hk : bndOk x trs s = false := by unfold bndOk; rw [hb]; show (true && decide (0 ≤ lb x ts s)) = false; rw [← hbd]; simp; omega
      have hc : bndCert x trs s = noCert := by unfold bndCert; rw [hk]; rfl
      have Hk := Lib.hid hk
      have Hc := Lib.hid hc
      have hbc : (b == -1) = true := by simp; omega
      clear hb hk hc hbd
      go_enter Tryz.func40, Tryz.ntmps40
      go_wp2_with (first
        | (go_at_call 89; (with_reducible refine (implBuildTables_any [.int .i64 x.points, .string x.names, .slice A3 x.moves.length C3] x _ _ trs _ _ (Rp.keep h0 (by with_reducible repeat (first | exact Only.refl _ _ | assumption | refine Only.drewN ?_ _ | refine Only.drew ?_ | refine Only.alloc ?_ _ | refine Only.setCell ?_ (by intro hh; exfalso; simp at hh; try omega) _ | refine Only.trans ?_ (by assumption)))) (Rp.keep hv (by with_reducible repeat (first | exact Only.refl _ _ | assumption | refine Only.drewN ?_ _ | refine Only.drew ?_ | refine Only.alloc ?_ _ | refine Only.setCell ?_ (by intro hh; exfalso; simp at hh; try omega) _ | refine Only.trans ?_ (by assumption)))) hsm).mono ?_); rintro e w2 ⟨u1, f1, he, r1, F1, t2⟩; rw [Hb.out] at he r1; subst he; simp only [Option.getD] at r1; have X2 := X0.keep t2; have y0 := X2.cell 0 rfl; have y1 := X2.cell 1 rfl; have y2 := X2.cell 2 rfl)
        | (go_at_call 90; (with_reducible refine (implLowerBound_any [.int .i64 x.points, .string x.names, .slice A3 x.moves.length C3] x _ u1 ts f1 u s fs0 _ (Rp.keep h0 (by with_reducible repeat (first | exact Only.refl _ _ | assumption | refine Only.drewN ?_ _ | refine Only.drew ?_ | refine Only.alloc ?_ _ | refine Only.setCell ?_ (by intro hh; exfalso; simp at hh; try omega) _ | refine Only.trans ?_ (by assumption)))) (Rp.keep r1 (by with_reducible repeat (first | exact Only.refl _ _ | assumption | refine Only.drewN ?_ _ | refine Only.drew ?_ | refine Only.alloc ?_ _ | refine Only.setCell ?_ (by intro hh; exfalso; simp at hh; try omega) _ | refine Only.trans ?_ (by assumption)))) (Rp.keep hu (by with_reducible repeat (first | exact Only.refl _ _ | assumption | refine Only.drewN ?_ _ | refine Only.drew ?_ | refine Only.alloc ?_ _ | refine Only.setCell ?_ (by intro hh; exfalso; simp at hh; try omega) _ | refine Only.trans ?_ (by assumption)))) Hsm.out).mono ?_); rintro e w3 ⟨he, t3⟩; rw [HB.out] at he; subst he; have Y9 := (Y0.keep t2).keep t3; have g0 := Y9.cell 0 rfl; have g1 := Y9.cell 1 rfl; have g2 := Y9.cell 2 rfl; have g3 := Y9.cell 3 rfl; have p0 := Y9.frozen 0; have p1 := Y9.frozen 1; have p2 := Y9.frozen 2; have p3 := Y9.frozen 3)
        | fail "no arm")
      have K3 : Only [] w w3 := (by with_reducible repeat (first | exact Only.refl _ _ | assumption | refine Only.drewN ?_ _ | refine Only.drew ?_ | refine Only.alloc ?_ _ | refine Only.setCell ?_ (by intro hh; exfalso; simp at hh; try omega) _ | refine Only.trans ?_ (by assumption)))
      have Yf := (((Y9.set 0 (.int .i64 0)).set 1 (.slice none 0 0)).set 2 (.slice none 0 0)).set 3 (.slice none 0 0)
      have kf : Only [w.heap.size + 1] w3 ((((w3.setCell ⟨w.heap.size + 1, 0, none⟩ (.int .i64 0)).setCell ⟨w.heap.size + 1, 1, none⟩ (.slice none 0 0)).setCell ⟨w.heap.size + 1, 2, none⟩ (.slice none 0 0)).setCell ⟨w.heap.size + 1, 3, none⟩ (.slice none 0 0)) := ((((Only.refl _ _).setCell (by simp) _).setCell (by simp) _).setCell (by simp) _).setCell (by simp) _
      obtain ⟨wf, hwf⟩ : ∃ wf, wf = ((((w3.setCell ⟨w.heap.size + 1, 0, none⟩ (.int .i64 0)).setCell ⟨w.heap.size + 1, 1, none⟩ (.slice none 0 0)).setCell ⟨w.heap.size + 1, 2, none⟩ (.slice none 0 0)).setCell ⟨w.heap.size + 1, 3, none⟩ (.slice none 0 0)) := ⟨_, rfl⟩
      rw [← hwf] at Yf kf ⊢
      simp only [List.set] at Yf
      clear hwf g0 g1 g2 g3 p0 p1 p2 p3
      have z0 := Yf.cell 0 rfl
      have z1 := Yf.cell 1 rfl
      have z2 := Yf.cell 2 rfl
      have z3 := Yf.cell 3 rfl
      refine bodyPost_ret (v := .tuple #[.agg #[.int .i64 0, .slice none 0 0, .slice none 0 0, .slice none 0 0], .bool false]) (by simp [results, Tryz.results40, go_sem, z0, z1, z2, z3]) rfl ⟨[.int .i64 0, .slice none 0 0, .slice none 0 0, .slice none 0 0], [], by rw [Hk.out], by rw [Hc.out]; exact noCert_rep _, Fresh.nil _ _, K3.then_ kf (by simp)⟩
    · have hk : bndOk x trs s = true := by unfold bndOk; rw [hb]; show (true && decide (0 ≤ lb x ts s)) = true; rw [← hbd]; simp; omega
      have hc : bndCert x trs s = lbCert b ts := by unfold bndCert; rw [hk, hb]; show lbCert (lb x ts s) ts = _; rw [← hbd]
      have Hk := Lib.hid hk
      have Hc := Lib.hid hc
      have HS := Lib.hid (bTabs_sm hb)
      have HI := Lib.hid (show I64 b by unfold I64; omega)
      have hbc : (b == -1) = false := by simp; omega
      clear hb hk hc hbd
      go_enter Tryz.func40, Tryz.ntmps40
      go_wp2_with (first
        | (go_at_call 89; (with_reducible refine (implBuildTables_any [.int .i64 x.points, .string x.names, .slice A3 x.moves.length C3] x _ _ trs _ _ (Rp.keep h0 (by with_reducible repeat (first | exact Only.refl _ _ | assumption | refine Only.drewN ?_ _ | refine Only.drew ?_ | refine Only.alloc ?_ _ | refine Only.setCell ?_ (by intro hh; exfalso; simp at hh; try omega) _ | refine Only.trans ?_ (by assumption)))) (Rp.keep hv (by with_reducible repeat (first | exact Only.refl _ _ | assumption | refine Only.drewN ?_ _ | refine Only.drew ?_ | refine Only.alloc ?_ _ | refine Only.setCell ?_ (by intro hh; exfalso; simp at hh; try omega) _ | refine Only.trans ?_ (by assumption)))) hsm).mono ?_); rintro e w2 ⟨u1, f1, he, r1, F1, t2⟩; rw [Hb.out] at he r1; subst he; simp only [Option.getD] at r1; have X2 := X0.keep t2; have y0 := X2.cell 0 rfl; have y1 := X2.cell 1 rfl; have y2 := X2.cell 2 rfl; have hz2 := t2.size; simp at hz2)
        | (go_at_call 90; (with_reducible refine (implLowerBound_any [.int .i64 x.points, .string x.names, .slice A3 x.moves.length C3] x _ u1 ts f1 u s fs0 _ (Rp.keep h0 (by with_reducible repeat (first | exact Only.refl _ _ | assumption | refine Only.drewN ?_ _ | refine Only.drew ?_ | refine Only.alloc ?_ _ | refine Only.setCell ?_ (by intro hh; exfalso; simp at hh; try omega) _ | refine Only.trans ?_ (by assumption)))) (Rp.keep r1 (by with_reducible repeat (first | exact Only.refl _ _ | assumption | refine Only.drewN ?_ _ | refine Only.drew ?_ | refine Only.alloc ?_ _ | refine Only.setCell ?_ (by intro hh; exfalso; simp at hh; try omega) _ | refine Only.trans ?_ (by assumption)))) (Rp.keep hu (by with_reducible repeat (first | exact Only.refl _ _ | assumption | refine Only.drewN ?_ _ | refine Only.drew ?_ | refine Only.alloc ?_ _ | refine Only.setCell ?_ (by intro hh; exfalso; simp at hh; try omega) _ | refine Only.trans ?_ (by assumption)))) Hsm.out).mono ?_); rintro e w3 ⟨he, t3⟩; rw [HB.out] at he; subst he)
        | (go_at_call 91; (with_reducible refine (implLBCert_rd b HI.out u1 ts f1 _ (Rp.keep r1 (by with_reducible repeat (first | exact Only.refl _ _ | assumption | refine Only.drewN ?_ _ | refine Only.drew ?_ | refine Only.alloc ?_ _ | refine Only.setCell ?_ (by intro hh; exfalso; simp at hh; try omega) _ | refine Only.trans ?_ (by assumption)))) HS.out).mono ?_); rintro e w4 ⟨cs4, f4, rfl, r4, F4, t4⟩; have rr := id r4; obtain ⟨v1, v2, v3, e1, e2, e3, rfl, -, i1, s1, s2, s3⟩ := r4; simp only [List.cons_append, List.nil_append] at rr; obtain ⟨a1, k1, _, _, rfl, -, -⟩ := s1.open_; obtain ⟨a2, k2, _, _, rfl, -, -⟩ := s2.open_; obtain ⟨a3, k3, _, _, rfl, -, -⟩ := s3.open_; have Y9 := ((Y0.keep t2).keep t3).keep t4; have g0 := Y9.cell 0 rfl; have g1 := Y9.cell 1 rfl; have g2 := Y9.cell 2 rfl; have g3 := Y9.cell 3 rfl; have p0 := Y9.frozen 0; have p1 := Y9.frozen 1; have p2 := Y9.frozen 2; have p3 := Y9.frozen 3)
        | fail "no arm")
      have K4 : Only [] w w4 := (by with_reducible repeat (first | exact Only.refl _ _ | assumption | refine Only.drewN ?_ _ | refine Only.drew ?_ | refine Only.alloc ?_ _ | refine Only.setCell ?_ (by intro hh; exfalso; simp at hh; try omega) _ | refine Only.trans ?_ (by assumption)))
      have hz3 := t3.size
      have hFg : ∀ g ∈ f4, g ∉ [w.heap.size + 1] := fun g hg hm => by have := F4.ge g hg; simp at hm; omega
      have Yf := (((Y9.set 0 (.int .i64 (lbCert b ts).kind)).set 1 (.slice a1 (lbCert b ts).numbers.length k1)).set 2 (.slice a2 (lbCert b ts).words.length k2)).set 3 (.slice a3 (lbCert b ts).tables.length k3)
      have kf : Only [w.heap.size + 1] w4 ((((w4.setCell ⟨w.heap.size + 1, 0, none⟩ (.int .i64 (lbCert b ts).kind)).setCell ⟨w.heap.size + 1, 1, none⟩ (.slice a1 (lbCert b ts).numbers.length k1)).setCell ⟨w.heap.size + 1, 2, none⟩ (.slice a2 (lbCert b ts).words.length k2)).setCell ⟨w.heap.size + 1, 3, none⟩ (.slice a3 (lbCert b ts).tables.length k3)) := ((((Only.refl _ _).setCell (by simp) _).setCell (by simp) _).setCell (by simp) _).setCell (by simp) _
      obtain ⟨wf, hwf⟩ : ∃ wf, wf = ((((w4.setCell ⟨w.heap.size + 1, 0, none⟩ (.int .i64 (lbCert b ts).kind)).setCell ⟨w.heap.size + 1, 1, none⟩ (.slice a1 (lbCert b ts).numbers.length k1)).setCell ⟨w.heap.size + 1, 2, none⟩ (.slice a2 (lbCert b ts).words.length k2)).setCell ⟨w.heap.size + 1, 3, none⟩ (.slice a3 (lbCert b ts).tables.length k3)) := ⟨_, rfl⟩
      rw [← hwf] at Yf kf ⊢
      simp only [List.set] at Yf
      clear hwf g0 g1 g2 g3 p0 p1 p2 p3
      have z0 := Yf.cell 0 rfl
      have z1 := Yf.cell 1 rfl
      have z2 := Yf.cell 2 rfl
      have z3 := Yf.cell 3 rfl
      refine bodyPost_ret (v := .tuple #[.agg #[.int .i64 (lbCert b ts).kind, .slice a1 (lbCert b ts).numbers.length k1, .slice a2 (lbCert b ts).words.length k2, .slice a3 (lbCert b ts).tables.length k3], .bool true]) (by simp [results, Tryz.results40, go_sem, z0, z1, z2, z3]) rfl ⟨[.int .i64 (lbCert b ts).kind, .slice a1 (lbCert b ts).numbers.length k1, .slice a2 (lbCert b ts).words.length k2, .slice a3 (lbCert b ts).tables.length k3], f4, by rw [Hk.out], by rw [Hc.out]; exact Rp.only rr kf hFg, (F4.mono (by omega)).only kf hFg, K4.then_ kf (by simp)⟩
end Go.Proofs.YtlcoejncdbkhcaaGreat

namespace Go.Proofs.YtlcoejncdbkhcaaGreat
open Go.RowKit
set_option maxRecDepth 10000

theorem bTabsK_cnt {x : Puzzle} : ∀ {trs : List (List Int)} {ts : List Table}, bTabsK x trs = some ts → Mk.cnt ts ≤ trs.length * 64000
  | [], ts, h => by unfold bTabsK at h; injection h with h; subst h; simp [Mk.cnt, cntL]
  | tr :: trs, ts, h => by
    unfold bTabsK at h
    rw [Option.bind_eq_some_iff] at h
    obtain ⟨t, e1, e2⟩ := h
    rw [Option.map_eq_some_iff] at e2
    obtain ⟨ts', e3, e4⟩ := e2
    subst e4
    have h1 := bTab_cnt e1
    have h2 := bTabsK_cnt e3
    show cntL (t :: ts') ≤ _
    simp only [cntL, List.length_cons]
    have : Mk.cnt ts' = cntL ts' := rfl
    rw [Nat.add_mul]
    omega
theorem bTabs_cnt (x : Puzzle) (trs : List (List Int)) : Mk.cnt ((bTabs x trs).getD []) ≤ 256000 := by
  unfold bTabs
  rcases hq : inR trs.length 1 4
  · simp [Mk.cnt, cntL]
  · obtain ⟨q1, q2⟩ := inR_iff.1 hq
    rcases hb : bTabsK x trs with _ | ts
    · simp [Mk.cnt, cntL]
    · have := bTabsK_cnt hb
      simp only [if_true, Option.getD]
      have : trs.length * 64000 ≤ 4 * 64000 := Nat.mul_le_mul_right _ (by omega)
      omega
theorem sm_rows {l : List (List Int)} (h : Sm.sm l) : ∀ y ∈ l, y.length ≤ 2097152 := by
  intro y hy
  obtain ⟨-, h2⟩ := h
  exact (h2 y hy).1
end Go.Proofs.YtlcoejncdbkhcaaGreat
