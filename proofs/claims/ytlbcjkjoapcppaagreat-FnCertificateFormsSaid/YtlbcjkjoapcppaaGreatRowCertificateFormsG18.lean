/- The certificates of a lower bound and of optimality: the reference's and the program's. BoundCertified: the reference's and the program's (law 40). (Printed by mkbnd.py.) SolveCertified: the reference's and the program's (law 38). (Printed by mksolv.py.) -/
import Derived.Test.YtlbcjkjoapcppaaGreatRowCertificateFormsG6
import Derived.Test.YtlbcjkjoapcppaaGreatRowCertificateFormsG17
import Derived.Test.YtlbcjkjoapcppaaGreatRowCertificateFormsG16
import Derived.Test.YtlbcjkjoapcppaaGreatRowCertificateFormsG10
import Derived.Deep.DeepCutAuto
import Derived.Deep.RegionLaw
namespace Go.Proofs.YtlbcjkjoapcppaaGreat
open Go.RowKit
set_option maxRecDepth 10000

theorem isTableCount_rd (v : Value) (l : List Table) (fp : List Nat) (w : World) (h : Rd w v l fp) :
    Calls Tryz.prog 32 #[v] w fun e w' => e = .returned (.bool (inR l.length 1 4)) ∧ w' = w := by
  obtain ⟨a, cap, ob, fps, rfl, -, hs⟩ := h.open_
  have hb := hs.bound
  rcases hq : inR l.length 1 4
  all_goals
    go_enter Tryz.func32, Tryz.ntmps32
    go_wp2_with ((go_at_call 51; (with_reducible refine (inRange_any l.length 1 4 _).mono ?_); rintro e w1 ⟨rfl, rfl⟩))
    go_ret
    exact ⟨rfl, rfl⟩
theorem lengthTable_rd (v : Value) (l : List Table) (fp : List Nat) (w : World) (h : Rd w v l fp) :
    Calls Tryz.prog 25 #[v] w fun e w' => e = .returned (.int .i64 l.length) ∧ w' = w := by
  obtain ⟨a, cap, ob, fps, rfl, -, hs⟩ := h.open_
  have hb := hs.bound
  go_enter Tryz.func25, Tryz.ntmps25
  go_wp2
  go_ret
  exact ⟨rfl, rfl⟩

def lbCert (b : Int) (l : List Table) : Certificate := if 0 ≤ b ∧ inR l.length 1 4 = true then ⟨3, [b], [], l⟩ else noCert
def opCert (x : List Int) (l : List Table) : Certificate := if validW 8 x = true ∧ inR l.length 1 4 = true then ⟨2, [], [x], l⟩ else noCert
set_option maxHeartbeats 400000 in
theorem specLBCert_rd (b : Int) (ib : I64 b) (v : Value) (l : List Table) (fp : List Nat) (w : World) (h : Rd w v l fp) (hsm : Sm.sm l) :
    Calls Tryz.prog 13 #[.int .i64 b, v] w fun e w' => ∃ cs fp', e = .returned (.agg cs.toArray) ∧ Rp.rep w' cs (lbCert b l) fp' ∧ Fresh w.heap.size w' fp' ∧ Only [] w w' := by
  by_cases c0 : b < 0
  · have hp : lbCert b l = noCert := by unfold lbCert; rw [if_neg (by omega)]
    have Hp := Lib.hid hp
    clear hp
    go_enter Tryz.func13, Tryz.ntmps13
    go_wp2
    refine bodyPost_ret (v := .agg #[.int .i64 0, .slice none 0 0, .slice none 0 0, .slice none 0 0]) (by simp [results, Tryz.results13, go_sem]) rfl ⟨[.int .i64 0, .slice none 0 0, .slice none 0 0, .slice none 0 0], [], rfl, ?_, Fresh.nil _ _, (by with_reducible repeat (first | exact Only.refl _ _ | assumption | refine Only.drewN ?_ _ | refine Only.drew ?_ | refine Only.alloc ?_ _ | refine Only.setCell ?_ (by intro hh; exfalso; simp at hh; try omega) _ | refine Only.trans ?_ (by assumption)))⟩
    rw [Hp.out]; exact noCert_rep _
  rcases hq : inR l.length 1 4
  · have hp : lbCert b l = noCert := by unfold lbCert; rw [if_neg (by simp [hq])]
    have Hp := Lib.hid hp
    clear hp
    go_enter Tryz.func13, Tryz.ntmps13
    go_wp2_with ((go_at_call 32; (with_reducible refine (isTableCount_rd v l _ _ (Rp.keep h (by with_reducible repeat (first | exact Only.refl _ _ | assumption | refine Only.drewN ?_ _ | refine Only.drew ?_ | refine Only.alloc ?_ _ | refine Only.setCell ?_ (by intro hh; exfalso; simp at hh; try omega) _ | refine Only.trans ?_ (by assumption))))).mono ?_); rintro e w1 ⟨rfl, rfl⟩))
    refine bodyPost_ret (v := .agg #[.int .i64 0, .slice none 0 0, .slice none 0 0, .slice none 0 0]) (by simp [results, Tryz.results13, go_sem]) rfl ⟨[.int .i64 0, .slice none 0 0, .slice none 0 0, .slice none 0 0], [], rfl, ?_, Fresh.nil _ _, (by with_reducible repeat (first | exact Only.refl _ _ | assumption | refine Only.drewN ?_ _ | refine Only.drew ?_ | refine Only.alloc ?_ _ | refine Only.setCell ?_ (by intro hh; exfalso; simp at hh; try omega) _ | refine Only.trans ?_ (by assumption)))⟩
    rw [Hp.out]; exact noCert_rep _
  have hp : lbCert b l = ⟨3, [b], [], l⟩ := by unfold lbCert; rw [if_pos ⟨by omega, hq⟩]
  have Hp := Lib.hid hp
  clear hp
  have Ib := Lib.hid ib; clear ib
  go_enter Tryz.func13, Tryz.ntmps13
  go_wp2_with (first
    | (go_at_call 32; (with_reducible refine (isTableCount_rd v l _ _ (Rp.keep h (by with_reducible repeat (first | exact Only.refl _ _ | assumption | refine Only.drewN ?_ _ | refine Only.drew ?_ | refine Only.alloc ?_ _ | refine Only.setCell ?_ (by intro hh; exfalso; simp at hh; try omega) _ | refine Only.trans ?_ (by assumption))))).mono ?_); rintro e w1 ⟨rfl, rfl⟩)
    | (go_at_call 34; (with_reducible refine (copyTables_rd v l _ _ (Rp.keep h (by with_reducible repeat (first | exact Only.refl _ _ | assumption | refine Only.drewN ?_ _ | refine Only.drew ?_ | refine Only.alloc ?_ _ | refine Only.setCell ?_ (by intro hh; exfalso; simp at hh; try omega) _ | refine Only.trans ?_ (by assumption)))) hsm).mono ?_); rintro e w2 ⟨v2, fp2, rfl, r2, F2, t2⟩; obtain ⟨A2, C2, _, _, rfl, -⟩ := r2.open_; have y2 := t2.cells_eq w.heap.size (by first | (simp; done) | (simp; omega)) (by simp); have z2 := t2.frozen_eq w.heap.size (by first | (simp; done) | (simp; omega)) (by simp); have s2 : w.heap.size < w2.heap.size := (by have := t2.size; simp at this; omega)))
  have HG : ∀ b' ∈ fp2, w.heap.size + 2 ≤ b' := fun b' hb => by have := F2.ge b' hb; simp at this; omega
  obtain ⟨o1, o2⟩ := one_rd (α := Int) (w := w.alloc (.cells #[.int .i64 0, .slice none 0 0, .slice none 0 0, .slice none 0 0] 32)) (v := .int .i64 b) (x := b) (fp := []) (int_rd _ Ib.out) 2 w.heap.size (Fresh.nil _ _) (g := w.heap.size + 1) (by simp) (by omega)
  have hW : Only [w.heap.size] w2 ((((w2.setCell ⟨w.heap.size, 0, none⟩ (.int .i64 3)).setCell ⟨w.heap.size, 1, none⟩ (.slice (some ⟨w.heap.size + 1, 0, none⟩) 1 1)).setCell ⟨w.heap.size, 2, none⟩ (.slice none 0 0)).setCell ⟨w.heap.size, 3, none⟩ (.slice A2 l.length C2)) := (by with_reducible repeat (first | exact Only.refl _ _ | assumption | refine Only.drewN ?_ _ | refine Only.drew ?_ | refine Only.alloc ?_ _ | refine Only.setCell ?_ (by intro _; simp) _ | refine Only.trans ?_ (Only.weaken (by assumption) _)))
  have n1 := Rp.only (Rp.keep o1 t2) hW (by simp)
  have n2 := Rp.only r2 hW (fun b' hb hm => by have := HG b' hb; simp at hm; omega)
  have n3 := (Fresh.append (o2.keep t2) F2 (by simp; omega) (by simp)).only hW (fun b' hb hm => by
    simp at hm hb
    rcases hb with hb | hb
    · omega
    · have := HG b' hb; omega)
  refine bodyPost_ret (v := .agg #[.int .i64 3, .slice (some ⟨w.heap.size + 1, 0, none⟩) 1 1, .slice none 0 0, .slice A2 l.length C2]) (by simp [results, Tryz.results13, go_sem, y2]) rfl ⟨[.int .i64 3, .slice (some ⟨w.heap.size + 1, 0, none⟩) 1 1, .slice none 0 0, .slice A2 l.length C2], _, rfl, ?_, n3, (by with_reducible repeat (first | exact Only.refl _ _ | assumption | refine Only.drewN ?_ _ | refine Only.drew ?_ | refine Only.alloc ?_ _ | refine Only.setCell ?_ (by intro hh; exfalso; simp at hh; try omega) _ | refine Only.trans ?_ (by assumption)))⟩
  rw [Hp.out]
  exact ⟨_, _, _, [w.heap.size + 1], [], fp2, rfl, (by simp), ⟨by simp, by simp⟩, n1, nil_rd _, n2⟩
set_option maxHeartbeats 400000 in
theorem implLBCert_rd (b : Int) (ib : I64 b) (v : Value) (l : List Table) (fp : List Nat) (w : World) (h : Rd w v l fp) (hsm : Sm.sm l) :
    Calls Tryz.prog 9 #[.int .i64 b, v] w fun e w' => ∃ cs fp', e = .returned (.agg cs.toArray) ∧ Rp.rep w' cs (lbCert b l) fp' ∧ Fresh w.heap.size w' fp' ∧ Only [] w w' := by
  by_cases c0 : b < 0
  · have hp : lbCert b l = noCert := by unfold lbCert; rw [if_neg (by omega)]
    have Hp := Lib.hid hp
    clear hp
    go_enter Tryz.func9, Tryz.ntmps9
    go_wp2
    refine bodyPost_ret (v := .agg #[.int .i64 0, .slice none 0 0, .slice none 0 0, .slice none 0 0]) (by simp [results, Tryz.results9, go_sem]) rfl ⟨[.int .i64 0, .slice none 0 0, .slice none 0 0, .slice none 0 0], [], rfl, ?_, Fresh.nil _ _, (by with_reducible repeat (first | exact Only.refl _ _ | assumption | refine Only.drewN ?_ _ | refine Only.drew ?_ | refine Only.alloc ?_ _ | refine Only.setCell ?_ (by intro hh; exfalso; simp at hh; try omega) _ | refine Only.trans ?_ (by assumption)))⟩
    rw [Hp.out]; exact noCert_rep _
  rcases hq : inR l.length 1 4
  · have hp : lbCert b l = noCert := by unfold lbCert; rw [if_neg (by simp [hq])]
    have Hp := Lib.hid hp
    clear hp
    go_enter Tryz.func9, Tryz.ntmps9
    go_wp2_with ((first | (go_at_call 25; (with_reducible refine (lengthTable_rd v l _ _ (Rp.keep h (by with_reducible repeat (first | exact Only.refl _ _ | assumption | refine Only.drewN ?_ _ | refine Only.drew ?_ | refine Only.alloc ?_ _ | refine Only.setCell ?_ (by intro hh; exfalso; simp at hh; try omega) _ | refine Only.trans ?_ (by assumption))))).mono ?_); rintro e w1 ⟨rfl, rfl⟩) | (go_at_call 24; (with_reducible refine (within_any l.length 1 4 _).mono ?_); rintro e w1 ⟨rfl, rfl⟩)))
    refine bodyPost_ret (v := .agg #[.int .i64 0, .slice none 0 0, .slice none 0 0, .slice none 0 0]) (by simp [results, Tryz.results9, go_sem]) rfl ⟨[.int .i64 0, .slice none 0 0, .slice none 0 0, .slice none 0 0], [], rfl, ?_, Fresh.nil _ _, (by with_reducible repeat (first | exact Only.refl _ _ | assumption | refine Only.drewN ?_ _ | refine Only.drew ?_ | refine Only.alloc ?_ _ | refine Only.setCell ?_ (by intro hh; exfalso; simp at hh; try omega) _ | refine Only.trans ?_ (by assumption)))⟩
    rw [Hp.out]; exact noCert_rep _
  have hp : lbCert b l = ⟨3, [b], [], l⟩ := by unfold lbCert; rw [if_pos ⟨by omega, hq⟩]
  have Hp := Lib.hid hp
  clear hp
  have Ib := Lib.hid ib; clear ib
  go_enter Tryz.func9, Tryz.ntmps9
  go_wp2_with (first
    | (first | (go_at_call 25; (with_reducible refine (lengthTable_rd v l _ _ (Rp.keep h (by with_reducible repeat (first | exact Only.refl _ _ | assumption | refine Only.drewN ?_ _ | refine Only.drew ?_ | refine Only.alloc ?_ _ | refine Only.setCell ?_ (by intro hh; exfalso; simp at hh; try omega) _ | refine Only.trans ?_ (by assumption))))).mono ?_); rintro e w1 ⟨rfl, rfl⟩) | (go_at_call 24; (with_reducible refine (within_any l.length 1 4 _).mono ?_); rintro e w1 ⟨rfl, rfl⟩))
    | (go_at_call 27; (with_reducible refine (cloneTables_rd v l _ _ (Rp.keep h (by with_reducible repeat (first | exact Only.refl _ _ | assumption | refine Only.drewN ?_ _ | refine Only.drew ?_ | refine Only.alloc ?_ _ | refine Only.setCell ?_ (by intro hh; exfalso; simp at hh; try omega) _ | refine Only.trans ?_ (by assumption)))) hsm).mono ?_); rintro e w2 ⟨v2, fp2, rfl, r2, F2, t2⟩; obtain ⟨A2, C2, _, _, rfl, -⟩ := r2.open_; have y2 := t2.cells_eq w.heap.size (by first | (simp; done) | (simp; omega)) (by simp); have z2 := t2.frozen_eq w.heap.size (by first | (simp; done) | (simp; omega)) (by simp); have s2 : w.heap.size < w2.heap.size := (by have := t2.size; simp at this; omega)))
  have HG : ∀ b' ∈ fp2, w.heap.size + 2 ≤ b' := fun b' hb => by have := F2.ge b' hb; simp at this; omega
  obtain ⟨o1, o2⟩ := one_rd (α := Int) (w := w.alloc (.cells #[.int .i64 0, .slice none 0 0, .slice none 0 0, .slice none 0 0] 32)) (v := .int .i64 b) (x := b) (fp := []) (int_rd _ Ib.out) 2 w.heap.size (Fresh.nil _ _) (g := w.heap.size + 1) (by simp) (by omega)
  have hW : Only [w.heap.size] w2 ((((w2.setCell ⟨w.heap.size, 0, none⟩ (.int .i64 3)).setCell ⟨w.heap.size, 1, none⟩ (.slice (some ⟨w.heap.size + 1, 0, none⟩) 1 1)).setCell ⟨w.heap.size, 2, none⟩ (.slice none 0 0)).setCell ⟨w.heap.size, 3, none⟩ (.slice A2 l.length C2)) := (by with_reducible repeat (first | exact Only.refl _ _ | assumption | refine Only.drewN ?_ _ | refine Only.drew ?_ | refine Only.alloc ?_ _ | refine Only.setCell ?_ (by intro _; simp) _ | refine Only.trans ?_ (Only.weaken (by assumption) _)))
  have n1 := Rp.only (Rp.keep o1 t2) hW (by simp)
  have n2 := Rp.only r2 hW (fun b' hb hm => by have := HG b' hb; simp at hm; omega)
  have n3 := (Fresh.append (o2.keep t2) F2 (by simp; omega) (by simp)).only hW (fun b' hb hm => by
    simp at hm hb
    rcases hb with hb | hb
    · omega
    · have := HG b' hb; omega)
  refine bodyPost_ret (v := .agg #[.int .i64 3, .slice (some ⟨w.heap.size + 1, 0, none⟩) 1 1, .slice none 0 0, .slice A2 l.length C2]) (by simp [results, Tryz.results9, go_sem, y2]) rfl ⟨[.int .i64 3, .slice (some ⟨w.heap.size + 1, 0, none⟩) 1 1, .slice none 0 0, .slice A2 l.length C2], _, rfl, ?_, n3, (by with_reducible repeat (first | exact Only.refl _ _ | assumption | refine Only.drewN ?_ _ | refine Only.drew ?_ | refine Only.alloc ?_ _ | refine Only.setCell ?_ (by intro hh; exfalso; simp at hh; try omega) _ | refine Only.trans ?_ (by assumption)))⟩
  rw [Hp.out]
  exact ⟨_, _, _, [w.heap.size + 1], [], fp2, rfl, (by simp), ⟨by simp, by simp⟩, n1, nil_rd _, n2⟩
set_option maxHeartbeats 1000000 in
theorem specOpCert_rd (u : Value) (x : List Int) (fq : List Nat) (v : Value) (l : List Table) (fp : List Nat) (w : World) (hx : Rd w u x fq) (h : Rd w v l fp) (hsm : Sm.sm l) :
    Calls Tryz.prog 11 #[u, v] w fun e w' => ∃ cs fp', e = .returned (.agg cs.toArray) ∧ Rp.rep w' cs (opCert x l) fp' ∧ Fresh w.heap.size w' fp' ∧ Only [] w w' := by
  rcases hv : validW 8 x
  · have hp : opCert x l = noCert := by unfold opCert; rw [if_neg (by simp [hv])]
    have Hp := Lib.hid hp
    clear hp
    go_enter Tryz.func11, Tryz.ntmps11
    go_wp2_with ((go_at_call 31; (with_reducible refine (specIsWord_rd u x _ _ (Rp.keep hx (by with_reducible repeat (first | exact Only.refl _ _ | assumption | refine Only.drewN ?_ _ | refine Only.drew ?_ | refine Only.alloc ?_ _ | refine Only.setCell ?_ (by intro hh; exfalso; simp at hh; try omega) _ | refine Only.trans ?_ (by assumption))))).mono ?_); rintro e w1 ⟨rfl, n1, rfl⟩))
    refine bodyPost_ret (v := .agg #[.int .i64 0, .slice none 0 0, .slice none 0 0, .slice none 0 0]) (by simp [results, Tryz.results11, go_sem]) rfl ⟨[.int .i64 0, .slice none 0 0, .slice none 0 0, .slice none 0 0], [], rfl, ?_, Fresh.nil _ _, (by with_reducible repeat (first | exact Only.refl _ _ | assumption | refine Only.drewN ?_ _ | refine Only.drew ?_ | refine Only.alloc ?_ _ | refine Only.setCell ?_ (by intro hh; exfalso; simp at hh; try omega) _ | refine Only.trans ?_ (by assumption)))⟩
    rw [Hp.out]; exact noCert_rep _
  rcases hq : inR l.length 1 4
  · have hp : opCert x l = noCert := by unfold opCert; rw [if_neg (by simp [hq])]
    have Hp := Lib.hid hp
    clear hp
    go_enter Tryz.func11, Tryz.ntmps11
    go_wp2_with (first | (go_at_call 31; (with_reducible refine (specIsWord_rd u x _ _ (Rp.keep hx (by with_reducible repeat (first | exact Only.refl _ _ | assumption | refine Only.drewN ?_ _ | refine Only.drew ?_ | refine Only.alloc ?_ _ | refine Only.setCell ?_ (by intro hh; exfalso; simp at hh; try omega) _ | refine Only.trans ?_ (by assumption))))).mono ?_); rintro e w1 ⟨rfl, n1, rfl⟩) | (go_at_call 32; (with_reducible refine (isTableCount_rd v l _ _ (Rp.keep h (by with_reducible repeat (first | exact Only.refl _ _ | assumption | refine Only.drewN ?_ _ | refine Only.drew ?_ | refine Only.alloc ?_ _ | refine Only.setCell ?_ (by intro hh; exfalso; simp at hh; try omega) _ | refine Only.trans ?_ (by assumption))))).mono ?_); rintro e w9 ⟨rfl, rfl⟩))
    refine bodyPost_ret (v := .agg #[.int .i64 0, .slice none 0 0, .slice none 0 0, .slice none 0 0]) (by simp [results, Tryz.results11, go_sem]) rfl ⟨[.int .i64 0, .slice none 0 0, .slice none 0 0, .slice none 0 0], [], rfl, ?_, Fresh.nil _ _, (by with_reducible repeat (first | exact Only.refl _ _ | assumption | refine Only.drewN ?_ _ | refine Only.drew ?_ | refine Only.alloc ?_ _ | refine Only.setCell ?_ (by intro hh; exfalso; simp at hh; try omega) _ | refine Only.trans ?_ (by assumption)))⟩
    rw [Hp.out]; exact noCert_rep _
  have hp : opCert x l = ⟨2, [], [x], l⟩ := by unfold opCert; rw [if_pos ⟨hv, hq⟩]
  have Hp := Lib.hid hp
  have hlen := validW_len hv
  clear hp
  go_enter Tryz.func11, Tryz.ntmps11
  go_wp2_with (first
    | (go_at_call 31; (with_reducible refine (specIsWord_rd u x _ _ (Rp.keep hx (by with_reducible repeat (first | exact Only.refl _ _ | assumption | refine Only.drewN ?_ _ | refine Only.drew ?_ | refine Only.alloc ?_ _ | refine Only.setCell ?_ (by intro hh; exfalso; simp at hh; try omega) _ | refine Only.trans ?_ (by assumption))))).mono ?_); rintro e w1 ⟨rfl, n1, rfl⟩)
    | (go_at_call 32; (with_reducible refine (isTableCount_rd v l _ _ (Rp.keep h (by with_reducible repeat (first | exact Only.refl _ _ | assumption | refine Only.drewN ?_ _ | refine Only.drew ?_ | refine Only.alloc ?_ _ | refine Only.setCell ?_ (by intro hh; exfalso; simp at hh; try omega) _ | refine Only.trans ?_ (by assumption))))).mono ?_); rintro e w9 ⟨rfl, rfl⟩)
    | (go_at_call 33; (with_reducible refine (copyInts_rd u x _ _ (Rp.keep hx (by with_reducible repeat (first | exact Only.refl _ _ | assumption | refine Only.drewN ?_ _ | refine Only.drew ?_ | refine Only.alloc ?_ _ | refine Only.setCell ?_ (by intro hh; exfalso; simp at hh; try omega) _ | refine Only.trans ?_ (by assumption)))) (by omega)).mono ?_); rintro e w2 ⟨v2, fp2, rfl, r2, F2, t2⟩; obtain ⟨A2, C2, _, _, rfl, -⟩ := r2.open_; have y2 := t2.cells_eq w.heap.size (by first | (simp; done) | (simp; omega)) (by simp); have z2 := t2.frozen_eq w.heap.size (by first | (simp; done) | (simp; omega)) (by simp); have s2 : w.heap.size < w2.heap.size := (by have := t2.size; first | omega | (simp at this; omega)))
    | (go_at_call 34; (with_reducible refine (copyTables_rd v l _ _ (Rp.keep h (by with_reducible repeat (first | exact Only.refl _ _ | assumption | refine Only.drewN ?_ _ | refine Only.drew ?_ | refine Only.alloc ?_ _ | refine Only.setCell ?_ (by intro hh; exfalso; simp at hh; try omega) _ | refine Only.trans ?_ (by assumption)))) hsm).mono ?_); rintro e w3 ⟨v3, fp3, rfl, r3, F3, t3⟩; obtain ⟨A3, C3, _, _, rfl, -⟩ := r3.open_; have y3 := t3.cells_eq w.heap.size (by simp; omega) (by simp); have z3 := t3.frozen_eq w.heap.size (by simp; omega) (by simp); have s3 : w2.heap.size < w3.heap.size := (by have := t3.size; simp at this; omega)))
  have HF := F2.mono (B' := w.heap.size) (by simp)
  have HG : ∀ b' ∈ fp3, w2.heap.size + 1 ≤ b' := fun b' hb => by have := F3.ge b' hb; simp at this; omega
  have HG2 : ∀ b' ∈ fp2, w.heap.size < b' := fun b' hb => by have := F2.ge b' hb; simp at this; omega
  have HL2 : ∀ b' ∈ fp2, b' < w2.heap.size := F2.lt
  obtain ⟨o1, o2⟩ := one_rd r2 24 w.heap.size HF (g := w2.heap.size) rfl (by omega)
  have hW : Only [w.heap.size] w3 ((((w3.setCell ⟨w.heap.size, 0, none⟩ (.int .i64 2)).setCell ⟨w.heap.size, 1, none⟩ (.slice none 0 0)).setCell ⟨w.heap.size, 2, none⟩ (.slice (some ⟨w2.heap.size, 0, none⟩) 1 1)).setCell ⟨w.heap.size, 3, none⟩ (.slice A3 l.length C3)) := (by with_reducible repeat (first | exact Only.refl _ _ | assumption | refine Only.drewN ?_ _ | refine Only.drew ?_ | refine Only.alloc ?_ _ | refine Only.setCell ?_ (by intro _; simp) _ | refine Only.trans ?_ (Only.weaken (by assumption) _)))
  have n1 := Rp.only (Rp.keep o1 t3) hW (fun b' hb hm => by
    simp at hm hb
    rcases hb with hb | hb
    · omega
    · have := HG2 b' hb; omega)
  have n2 := Rp.only r3 hW (fun b' hb hm => by have := HG b' hb; simp at hm; omega)
  have n3 := (Fresh.append (o2.keep t3) F3 (by simp; omega) (fun b' hb => by
    simp at hb ⊢
    rcases hb with hb | hb
    · omega
    · have := HL2 b' hb; omega)).only hW (fun b' hb hm => by
    simp at hm hb
    rcases hb with hb | hb | hb
    · omega
    · have := HG2 b' hb; omega
    · have := HG b' hb; omega)
  refine bodyPost_ret (v := .agg #[.int .i64 2, .slice none 0 0, .slice (some ⟨w2.heap.size, 0, none⟩) 1 1, .slice A3 l.length C3]) (by simp [results, Tryz.results11, go_sem, y3, y2, s2]) rfl ⟨[.int .i64 2, .slice none 0 0, .slice (some ⟨w2.heap.size, 0, none⟩) 1 1, .slice A3 l.length C3], _, rfl, ?_, n3, (by with_reducible repeat (first | exact Only.refl _ _ | assumption | refine Only.drewN ?_ _ | refine Only.drew ?_ | refine Only.alloc ?_ _ | refine Only.setCell ?_ (by intro hh; exfalso; simp at hh; try omega) _ | refine Only.trans ?_ (by assumption)))⟩
  rw [Hp.out]
  exact ⟨_, _, _, [], _, fp3, rfl, (by simp), ⟨by simp, by simp⟩, nil_rd _, n1, n2⟩
set_option maxHeartbeats 1000000 in
theorem implOpCert_rd (u : Value) (x : List Int) (fq : List Nat) (v : Value) (l : List Table) (fp : List Nat) (w : World) (hx : Rd w u x fq) (h : Rd w v l fp) (hsm : Sm.sm l) :
    Calls Tryz.prog 7 #[u, v] w fun e w' => ∃ cs fp', e = .returned (.agg cs.toArray) ∧ Rp.rep w' cs (opCert x l) fp' ∧ Fresh w.heap.size w' fp' ∧ Only [] w w' := by
  rcases hv : validW 8 x
  · have hp : opCert x l = noCert := by unfold opCert; rw [if_neg (by simp [hv])]
    have Hp := Lib.hid hp
    clear hp
    go_enter Tryz.func7, Tryz.ntmps7
    go_wp2_with ((go_at_call 23; (with_reducible refine (implIsWord_rd u x _ _ (Rp.keep hx (by with_reducible repeat (first | exact Only.refl _ _ | assumption | refine Only.drewN ?_ _ | refine Only.drew ?_ | refine Only.alloc ?_ _ | refine Only.setCell ?_ (by intro hh; exfalso; simp at hh; try omega) _ | refine Only.trans ?_ (by assumption))))).mono ?_); rintro e w1 ⟨rfl, t1⟩; have y1 := t1.cells_eq w.heap.size (by simp) (by simp); have z1 := t1.frozen_eq w.heap.size (by simp) (by simp); have s1 : w.heap.size < w1.heap.size := (by have := t1.size; simp at this; omega)))
    refine bodyPost_ret (v := .agg #[.int .i64 0, .slice none 0 0, .slice none 0 0, .slice none 0 0]) (by simp [results, Tryz.results7, go_sem, y1]) rfl ⟨[.int .i64 0, .slice none 0 0, .slice none 0 0, .slice none 0 0], [], rfl, ?_, Fresh.nil _ _, (by with_reducible repeat (first | exact Only.refl _ _ | assumption | refine Only.drewN ?_ _ | refine Only.drew ?_ | refine Only.alloc ?_ _ | refine Only.setCell ?_ (by intro hh; exfalso; simp at hh; try omega) _ | refine Only.trans ?_ (by assumption)))⟩
    rw [Hp.out]; exact noCert_rep _
  rcases hq : inR l.length 1 4
  · have hp : opCert x l = noCert := by unfold opCert; rw [if_neg (by simp [hq])]
    have Hp := Lib.hid hp
    clear hp
    go_enter Tryz.func7, Tryz.ntmps7
    go_wp2_with (first | (go_at_call 23; (with_reducible refine (implIsWord_rd u x _ _ (Rp.keep hx (by with_reducible repeat (first | exact Only.refl _ _ | assumption | refine Only.drewN ?_ _ | refine Only.drew ?_ | refine Only.alloc ?_ _ | refine Only.setCell ?_ (by intro hh; exfalso; simp at hh; try omega) _ | refine Only.trans ?_ (by assumption))))).mono ?_); rintro e w1 ⟨rfl, t1⟩; have y1 := t1.cells_eq w.heap.size (by simp) (by simp); have z1 := t1.frozen_eq w.heap.size (by simp) (by simp); have s1 : w.heap.size < w1.heap.size := (by have := t1.size; simp at this; omega)) | (first | (go_at_call 25; (with_reducible refine (lengthTable_rd v l _ _ (Rp.keep h (by with_reducible repeat (first | exact Only.refl _ _ | assumption | refine Only.drewN ?_ _ | refine Only.drew ?_ | refine Only.alloc ?_ _ | refine Only.setCell ?_ (by intro hh; exfalso; simp at hh; try omega) _ | refine Only.trans ?_ (by assumption))))).mono ?_); rintro e w9 ⟨rfl, rfl⟩) | (go_at_call 24; (with_reducible refine (within_any l.length 1 4 _).mono ?_); rintro e w9 ⟨rfl, rfl⟩)))
    refine bodyPost_ret (v := .agg #[.int .i64 0, .slice none 0 0, .slice none 0 0, .slice none 0 0]) (by simp [results, Tryz.results7, go_sem, y1]) rfl ⟨[.int .i64 0, .slice none 0 0, .slice none 0 0, .slice none 0 0], [], rfl, ?_, Fresh.nil _ _, (by with_reducible repeat (first | exact Only.refl _ _ | assumption | refine Only.drewN ?_ _ | refine Only.drew ?_ | refine Only.alloc ?_ _ | refine Only.setCell ?_ (by intro hh; exfalso; simp at hh; try omega) _ | refine Only.trans ?_ (by assumption)))⟩
    rw [Hp.out]; exact noCert_rep _
  have hp : opCert x l = ⟨2, [], [x], l⟩ := by unfold opCert; rw [if_pos ⟨hv, hq⟩]
  have Hp := Lib.hid hp
  have hlen := validW_len hv
  clear hp
  go_enter Tryz.func7, Tryz.ntmps7
  go_wp2_with (first
    | (go_at_call 23; (with_reducible refine (implIsWord_rd u x _ _ (Rp.keep hx (by with_reducible repeat (first | exact Only.refl _ _ | assumption | refine Only.drewN ?_ _ | refine Only.drew ?_ | refine Only.alloc ?_ _ | refine Only.setCell ?_ (by intro hh; exfalso; simp at hh; try omega) _ | refine Only.trans ?_ (by assumption))))).mono ?_); rintro e w1 ⟨rfl, t1⟩; have y1 := t1.cells_eq w.heap.size (by simp) (by simp); have z1 := t1.frozen_eq w.heap.size (by simp) (by simp); have s1 : w.heap.size < w1.heap.size := (by have := t1.size; simp at this; omega))
    | (first | (go_at_call 25; (with_reducible refine (lengthTable_rd v l _ _ (Rp.keep h (by with_reducible repeat (first | exact Only.refl _ _ | assumption | refine Only.drewN ?_ _ | refine Only.drew ?_ | refine Only.alloc ?_ _ | refine Only.setCell ?_ (by intro hh; exfalso; simp at hh; try omega) _ | refine Only.trans ?_ (by assumption))))).mono ?_); rintro e w9 ⟨rfl, rfl⟩) | (go_at_call 24; (with_reducible refine (within_any l.length 1 4 _).mono ?_); rintro e w9 ⟨rfl, rfl⟩))
    | (go_at_call 26; (with_reducible refine (Clone_rd u x _ _ (Rp.keep hx (by with_reducible repeat (first | exact Only.refl _ _ | assumption | refine Only.drewN ?_ _ | refine Only.drew ?_ | refine Only.alloc ?_ _ | refine Only.setCell ?_ (by intro hh; exfalso; simp at hh; try omega) _ | refine Only.trans ?_ (by assumption)))) (by omega)).mono ?_); rintro e w2 ⟨v2, fp2, rfl, r2, F2, t2⟩; obtain ⟨A2, C2, _, _, rfl, -⟩ := r2.open_; have y2 := t2.cells_eq w.heap.size s1 (by simp); have z2 := t2.frozen_eq w.heap.size s1 (by simp); have s2 : w.heap.size < w2.heap.size := (by have := t2.size; first | omega | (simp at this; omega)))
    | (go_at_call 27; (with_reducible refine (cloneTables_rd v l _ _ (Rp.keep h (by with_reducible repeat (first | exact Only.refl _ _ | assumption | refine Only.drewN ?_ _ | refine Only.drew ?_ | refine Only.alloc ?_ _ | refine Only.setCell ?_ (by intro hh; exfalso; simp at hh; try omega) _ | refine Only.trans ?_ (by assumption)))) hsm).mono ?_); rintro e w3 ⟨v3, fp3, rfl, r3, F3, t3⟩; obtain ⟨A3, C3, _, _, rfl, -⟩ := r3.open_; have y3 := t3.cells_eq w.heap.size (by simp; omega) (by simp); have z3 := t3.frozen_eq w.heap.size (by simp; omega) (by simp); have s3 : w2.heap.size < w3.heap.size := (by have := t3.size; simp at this; omega)))
  have HF := F2.mono (B' := w.heap.size) (by omega)
  have HG : ∀ b' ∈ fp3, w2.heap.size + 1 ≤ b' := fun b' hb => by have := F3.ge b' hb; simp at this; omega
  have HG2 : ∀ b' ∈ fp2, w.heap.size < b' := fun b' hb => by have := F2.ge b' hb; omega
  have HL2 : ∀ b' ∈ fp2, b' < w2.heap.size := F2.lt
  obtain ⟨o1, o2⟩ := one_rd r2 24 w.heap.size HF (g := w2.heap.size) rfl (by omega)
  have hW : Only [w.heap.size] w3 ((((w3.setCell ⟨w.heap.size, 0, none⟩ (.int .i64 2)).setCell ⟨w.heap.size, 1, none⟩ (.slice none 0 0)).setCell ⟨w.heap.size, 2, none⟩ (.slice (some ⟨w2.heap.size, 0, none⟩) 1 1)).setCell ⟨w.heap.size, 3, none⟩ (.slice A3 l.length C3)) := (by with_reducible repeat (first | exact Only.refl _ _ | assumption | refine Only.drewN ?_ _ | refine Only.drew ?_ | refine Only.alloc ?_ _ | refine Only.setCell ?_ (by intro _; simp) _ | refine Only.trans ?_ (Only.weaken (by assumption) _)))
  have n1 := Rp.only (Rp.keep o1 t3) hW (fun b' hb hm => by
    simp at hm hb
    rcases hb with hb | hb
    · omega
    · have := HG2 b' hb; omega)
  have n2 := Rp.only r3 hW (fun b' hb hm => by have := HG b' hb; simp at hm; omega)
  have n3 := (Fresh.append (o2.keep t3) F3 (by simp; omega) (fun b' hb => by
    simp at hb ⊢
    rcases hb with hb | hb
    · omega
    · have := HL2 b' hb; omega)).only hW (fun b' hb hm => by
    simp at hm hb
    rcases hb with hb | hb | hb
    · omega
    · have := HG2 b' hb; omega
    · have := HG b' hb; omega)
  refine bodyPost_ret (v := .agg #[.int .i64 2, .slice none 0 0, .slice (some ⟨w2.heap.size, 0, none⟩) 1 1, .slice A3 l.length C3]) (by simp [results, Tryz.results7, go_sem, y3, y2, y1, s2]) rfl ⟨[.int .i64 2, .slice none 0 0, .slice (some ⟨w2.heap.size, 0, none⟩) 1 1, .slice A3 l.length C3], _, rfl, ?_, n3, (by with_reducible repeat (first | exact Only.refl _ _ | assumption | refine Only.drewN ?_ _ | refine Only.drew ?_ | refine Only.alloc ?_ _ | refine Only.setCell ?_ (by intro hh; exfalso; simp at hh; try omega) _ | refine Only.trans ?_ (by assumption)))⟩
  rw [Hp.out]
  exact ⟨_, _, _, [], _, fp3, rfl, (by simp), ⟨by simp, by simp⟩, nil_rd _, n1, n2⟩
end Go.Proofs.YtlbcjkjoapcppaaGreat

namespace Go.Proofs.YtlbcjkjoapcppaaGreat
open Go.RowKit
set_option maxRecDepth 10000

theorem bTabsK_mem {x : Puzzle} : ∀ {trs : List (List Int)} {ts : List Table}, bTabsK x trs = some ts → ts.length = trs.length ∧ ∀ t ∈ ts, ∃ tr, bTab x tr = some t
  | [], ts, h => by unfold bTabsK at h; injection h with h; subst h; simp
  | tr :: trs, ts, h => by
    unfold bTabsK at h
    rw [Option.bind_eq_some_iff] at h
    obtain ⟨t, e1, e2⟩ := h
    rw [Option.map_eq_some_iff] at e2
    obtain ⟨ts', e3, e4⟩ := e2
    subst e4
    obtain ⟨a, b⟩ := bTabsK_mem e3
    refine ⟨by simp [a], fun t' ht' => ?_⟩
    rcases List.mem_cons.1 ht' with rfl | ht'
    · exact ⟨tr, e1⟩
    · exact b t' ht'
theorem bTabs_mem {x : Puzzle} {trs : List (List Int)} {ts : List Table} (h : bTabs x trs = some ts) : ts.length ≤ 4 ∧ ∀ t ∈ ts, ∃ tr, bTab x tr = some t := by
  unfold bTabs at h
  split at h
  · rename_i hq
    obtain ⟨q1, q2⟩ := inR_iff.1 hq
    obtain ⟨a, b⟩ := bTabsK_mem h
    exact ⟨by omega, b⟩
  · cases h
theorem bTabs_sm {x : Puzzle} {trs : List (List Int)} {ts : List Table} (h : bTabs x trs = some ts) : Sm.sm ts := by
  obtain ⟨h1, h2⟩ := bTabs_mem h
  refine ⟨by omega, fun t ht => ?_⟩
  obtain ⟨tr, e⟩ := h2 t ht
  obtain ⟨a1, a2, a3, -, a5, a6, a7⟩ := bTab_facts e
  have h8 := (trackB_iff.1 a2).2.len
  have h9 := (validPz_facts a1).2.1
  simp only at a5 a6 a7
  refine ⟨⟨by rw [a3]; omega, fun _ _ => trivial⟩, ⟨by omega, fun q hq => ⟨by rw [a7 q hq]; omega, fun _ _ => trivial⟩⟩, ⟨by omega, fun _ _ => trivial⟩⟩
end Go.Proofs.YtlbcjkjoapcppaaGreat

namespace Go.Proofs.YtlbcjkjoapcppaaGreat
open Go.RowKit
set_option maxRecDepth 10000

def unCert : Certificate := ⟨4, [], [], []⟩
theorem unCert_rep (w : World) : Rp.rep w [.int .i64 4, .slice none 0 0, .slice none 0 0, .slice none 0 0] unCert [] :=
  ⟨_, _, _, [], [], [], rfl, rfl, by show I64 4; unfold I64; omega, nil_rd w, nil_rd w, nil_rd w⟩
noncomputable def solOk (x : Puzzle) (s : List Int) : Bool := stateB x s && (!reachB x s || (optX x s).isSome)
noncomputable def sdCert (x : Puzzle) (s : List Int) : Certificate := if stateB x s = true then (if reachB x s = true then (match optX x s with | some w => opCert w [(expl x).getD noTab] | none => noCert) else unCert) else noCert
section
variable {x : Puzzle} {s : List Int}
theorem sol_a (h : stateB x s = false) : solOk x s = false ∧ sdCert x s = noCert := by
  unfold solOk sdCert; rw [h]; exact ⟨rfl, rfl⟩
theorem sol_b (h : stateB x s = true) (hr : reachB x s = false) : solOk x s = true ∧ sdCert x s = unCert := by
  unfold solOk sdCert; rw [h, hr]; exact ⟨rfl, rfl⟩
theorem sol_c (h : stateB x s = true) (hr : reachB x s = true) (ho : optX x s = none) : solOk x s = false ∧ sdCert x s = noCert := by
  unfold solOk sdCert; rw [h, hr, ho]; exact ⟨rfl, rfl⟩
theorem sol_d {wd : List Int} (h : stateB x s = true) (hr : reachB x s = true) (ho : optX x s = some wd) : ∃ t, expl x = some t ∧ solOk x s = true ∧ sdCert x s = opCert wd [t] := by
  have hl := (optX_len ho).1
  rcases distX_or x s with h1 | ⟨-, -, -, t, ht⟩
  · omega
  · refine ⟨t, ht, ?_, ?_⟩
    · unfold solOk; rw [h, hr, ho]; rfl
    · unfold sdCert; rw [h, hr, ho, ht]; rfl
theorem expl_sm {t : Table} (h : expl x = some t) : Sm.sm [t] := bTabs_sm (x := x) (trs := [PM.pts x.points.toNat]) (by
  unfold bTabs
  rw [if_pos (show inR (([PM.pts x.points.toNat].length : Nat) : Int) 1 4 = true from rfl)]
  show (bTab x (PM.pts x.points.toNat)).bind _ = _
  rw [show bTab x (PM.pts x.points.toNat) = some t from h]; rfl)
end
set_option maxHeartbeats 8000000 in
theorem specSolveCert_any (cs : List Value) (x : Puzzle) (fp : List Nat) (v : Value) (s : List Int) (fs : List Nat) (w : World) (h : Rp.rep w cs x fp) (hu : Rd w v s fs) :
    Calls Tryz.prog 55 #[.agg cs.toArray, v] w fun e w' => ∃ cs' fp', e = .returned (.tuple #[.agg (List.toArray cs'), .bool (solOk x s)]) ∧ Rp.rep w' cs' (sdCert x s) fp' ∧ Fresh w.heap.size w' fp' ∧ Only [] w w' := by
  have h0 := h
  obtain ⟨v2, rfl, p0, p1, h2⟩ := h
  obtain ⟨A3, C3, _, _, rfl, -, -⟩ := h2.open_
  clear h2 p0 p1
  have X0 : Blk ((w.alloc (.cells #[.int .i64 x.points, .string x.names, .slice A3 x.moves.length C3] 42)).alloc (.cells #[.int .i64 0, .slice none 0 0, .slice none 0 0, .slice none 0 0] 32)) w.heap.size [.int .i64 x.points, .string x.names, .slice A3 x.moves.length C3] := (Blk.new w [.int .i64 x.points, .string x.names, .slice A3 x.moves.length C3] 42).keep ((Only.refl _ _).alloc _)
  have Y0 : Blk ((w.alloc (.cells #[.int .i64 x.points, .string x.names, .slice A3 x.moves.length C3] 42)).alloc (.cells #[.int .i64 0, .slice none 0 0, .slice none 0 0, .slice none 0 0] 32)) (w.heap.size + 1) [.int .i64 0, .slice none 0 0, .slice none 0 0, .slice none 0 0] := Blk.new_at (by simp)
  rcases hs : stateB x s
  · obtain ⟨hk, hc⟩ := sol_a hs
    have Hs := Lib.hid hs
    have Hk := Lib.hid hk
    have Hc := Lib.hid hc
    clear hs hk hc
    go_enter Tryz.func55, Tryz.ntmps55
    go_wp2_with (first
      | (go_at_call 70; (with_reducible refine (specIsState_any [.int .i64 x.points, .string x.names, .slice A3 x.moves.length C3] x _ v s _ _ (Rp.keep h0 (by with_reducible repeat (first | exact Only.refl _ _ | assumption | refine Only.drewN ?_ _ | refine Only.drew ?_ | refine Only.alloc ?_ _ | refine Only.setCell ?_ (by intro hh; exfalso; simp at hh; try omega) _ | refine Only.trans ?_ (by assumption)))) (Rp.keep hu (by with_reducible repeat (first | exact Only.refl _ _ | assumption | refine Only.drewN ?_ _ | refine Only.drew ?_ | refine Only.alloc ?_ _ | refine Only.setCell ?_ (by intro hh; exfalso; simp at hh; try omega) _ | refine Only.trans ?_ (by assumption))))).mono ?_); rintro e w1 ⟨he, t1⟩; rw [Hs.out] at he; subst he; have Y9 := Y0.keep t1; have g0 := Y9.cell 0 rfl; have g1 := Y9.cell 1 rfl; have g2 := Y9.cell 2 rfl; have g3 := Y9.cell 3 rfl; have p0 := Y9.frozen 0; have p1 := Y9.frozen 1; have p2 := Y9.frozen 2; have p3 := Y9.frozen 3)
      | fail "no arm")
    have K9 : Only [] w w1 := (by with_reducible repeat (first | exact Only.refl _ _ | assumption | refine Only.drewN ?_ _ | refine Only.drew ?_ | refine Only.alloc ?_ _ | refine Only.setCell ?_ (by intro hh; exfalso; simp at hh; try omega) _ | refine Only.trans ?_ (by assumption)))
    have Yf := (((Y9.set 0 (.int .i64 0)).set 1 (.slice none 0 0)).set 2 (.slice none 0 0)).set 3 (.slice none 0 0)
    have kf : Only [w.heap.size + 1] w1 ((((w1.setCell ⟨w.heap.size + 1, 0, none⟩ (.int .i64 0)).setCell ⟨w.heap.size + 1, 1, none⟩ (.slice none 0 0)).setCell ⟨w.heap.size + 1, 2, none⟩ (.slice none 0 0)).setCell ⟨w.heap.size + 1, 3, none⟩ (.slice none 0 0)) := ((((Only.refl _ _).setCell (by simp) _).setCell (by simp) _).setCell (by simp) _).setCell (by simp) _
    obtain ⟨wf, hwf⟩ : ∃ wf, wf = ((((w1.setCell ⟨w.heap.size + 1, 0, none⟩ (.int .i64 0)).setCell ⟨w.heap.size + 1, 1, none⟩ (.slice none 0 0)).setCell ⟨w.heap.size + 1, 2, none⟩ (.slice none 0 0)).setCell ⟨w.heap.size + 1, 3, none⟩ (.slice none 0 0)) := ⟨_, rfl⟩
    rw [← hwf] at Yf kf ⊢
    simp only [List.set] at Yf
    clear hwf g0 g1 g2 g3 p0 p1 p2 p3
    have z0 := Yf.cell 0 rfl
    have z1 := Yf.cell 1 rfl
    have z2 := Yf.cell 2 rfl
    have z3 := Yf.cell 3 rfl
    refine bodyPost_ret (v := .tuple #[.agg #[.int .i64 0, .slice none 0 0, .slice none 0 0, .slice none 0 0], .bool false]) (by simp [results, Tryz.results55, go_sem, z0, z1, z2, z3]) rfl ⟨[.int .i64 0, .slice none 0 0, .slice none 0 0, .slice none 0 0], [], by rw [Hk.out], by rw [Hc.out]; exact noCert_rep _, Fresh.nil _ _, K9.then_ kf (by simp)⟩
  have hpp := validPz_facts (stateB_valid hs)
  obtain ⟨n1, n20, -, -⟩ := hpp
  have hst := hs
  have Hs := Lib.hid hs
  rcases hr : reachB x s
  · obtain ⟨hk, hc⟩ := sol_b hst hr
    have Hr := Lib.hid hr
    have Hk := Lib.hid hk
    have Hc := Lib.hid hc
    clear hs hst hr hk hc
    go_enter Tryz.func55, Tryz.ntmps55
    go_wp2_with (first
      | (go_at_call 70; (with_reducible refine (specIsState_any [.int .i64 x.points, .string x.names, .slice A3 x.moves.length C3] x _ v s _ _ (Rp.keep h0 (by with_reducible repeat (first | exact Only.refl _ _ | assumption | refine Only.drewN ?_ _ | refine Only.drew ?_ | refine Only.alloc ?_ _ | refine Only.setCell ?_ (by intro hh; exfalso; simp at hh; try omega) _ | refine Only.trans ?_ (by assumption)))) (Rp.keep hu (by with_reducible repeat (first | exact Only.refl _ _ | assumption | refine Only.drewN ?_ _ | refine Only.drew ?_ | refine Only.alloc ?_ _ | refine Only.setCell ?_ (by intro hh; exfalso; simp at hh; try omega) _ | refine Only.trans ?_ (by assumption))))).mono ?_); rintro e w1 ⟨he, t1⟩; rw [Hs.out] at he; subst he; have X1 := X0.keep t1; have y0 := X1.cell 0 rfl; have y1 := X1.cell 1 rfl; have y2 := X1.cell 2 rfl)
      | (go_at_call 71; (with_reducible refine (specIsReachable_any [.int .i64 x.points, .string x.names, .slice A3 x.moves.length C3] x _ v s _ _ (Rp.keep h0 (by with_reducible repeat (first | exact Only.refl _ _ | assumption | refine Only.drewN ?_ _ | refine Only.drew ?_ | refine Only.alloc ?_ _ | refine Only.setCell ?_ (by intro hh; exfalso; simp at hh; try omega) _ | refine Only.trans ?_ (by assumption)))) (Rp.keep hu (by with_reducible repeat (first | exact Only.refl _ _ | assumption | refine Only.drewN ?_ _ | refine Only.drew ?_ | refine Only.alloc ?_ _ | refine Only.setCell ?_ (by intro hh; exfalso; simp at hh; try omega) _ | refine Only.trans ?_ (by assumption))))).mono ?_); rintro e w2 ⟨he, t2⟩; rw [Hr.out] at he; subst he; have Y9 := (Y0.keep t1).keep t2; have g0 := Y9.cell 0 rfl; have g1 := Y9.cell 1 rfl; have g2 := Y9.cell 2 rfl; have g3 := Y9.cell 3 rfl; have p0 := Y9.frozen 0; have p1 := Y9.frozen 1; have p2 := Y9.frozen 2; have p3 := Y9.frozen 3)
      | fail "no arm")
    have K9 : Only [] w w2 := (by with_reducible repeat (first | exact Only.refl _ _ | assumption | refine Only.drewN ?_ _ | refine Only.drew ?_ | refine Only.alloc ?_ _ | refine Only.setCell ?_ (by intro hh; exfalso; simp at hh; try omega) _ | refine Only.trans ?_ (by assumption)))
    have Yf := (((Y9.set 0 (.int .i64 4)).set 1 (.slice none 0 0)).set 2 (.slice none 0 0)).set 3 (.slice none 0 0)
    have kf : Only [w.heap.size + 1] w2 ((((w2.setCell ⟨w.heap.size + 1, 0, none⟩ (.int .i64 4)).setCell ⟨w.heap.size + 1, 1, none⟩ (.slice none 0 0)).setCell ⟨w.heap.size + 1, 2, none⟩ (.slice none 0 0)).setCell ⟨w.heap.size + 1, 3, none⟩ (.slice none 0 0)) := ((((Only.refl _ _).setCell (by simp) _).setCell (by simp) _).setCell (by simp) _).setCell (by simp) _
    obtain ⟨wf, hwf⟩ : ∃ wf, wf = ((((w2.setCell ⟨w.heap.size + 1, 0, none⟩ (.int .i64 4)).setCell ⟨w.heap.size + 1, 1, none⟩ (.slice none 0 0)).setCell ⟨w.heap.size + 1, 2, none⟩ (.slice none 0 0)).setCell ⟨w.heap.size + 1, 3, none⟩ (.slice none 0 0)) := ⟨_, rfl⟩
    rw [← hwf] at Yf kf ⊢
    simp only [List.set] at Yf
    clear hwf g0 g1 g2 g3 p0 p1 p2 p3
    have z0 := Yf.cell 0 rfl
    have z1 := Yf.cell 1 rfl
    have z2 := Yf.cell 2 rfl
    have z3 := Yf.cell 3 rfl
    refine bodyPost_ret (v := .tuple #[.agg #[.int .i64 4, .slice none 0 0, .slice none 0 0, .slice none 0 0], .bool true]) (by simp [results, Tryz.results55, go_sem, z0, z1, z2, z3]) rfl ⟨[.int .i64 4, .slice none 0 0, .slice none 0 0, .slice none 0 0], [], by rw [Hk.out], by rw [Hc.out]; exact unCert_rep _, Fresh.nil _ _, K9.then_ kf (by simp)⟩
  rcases ho : optX x s with _ | wd
  · obtain ⟨hk, hc⟩ := sol_c hst hr ho
    have Hr := Lib.hid hr
    have Ho := Lib.hid ho
    have Hk := Lib.hid hk
    have Hc := Lib.hid hc
    clear hs hst hr ho hk hc
    go_enter Tryz.func55, Tryz.ntmps55
    go_upto_region 6 with (first
      | (go_at_call 70; (with_reducible refine (specIsState_any [.int .i64 x.points, .string x.names, .slice A3 x.moves.length C3] x _ v s _ _ (Rp.keep h0 (by with_reducible repeat (first | exact Only.refl _ _ | assumption | refine Only.drewN ?_ _ | refine Only.drew ?_ | refine Only.alloc ?_ _ | refine Only.setCell ?_ (by intro hh; exfalso; simp at hh; try omega) _ | refine Only.trans ?_ (by assumption)))) (Rp.keep hu (by with_reducible repeat (first | exact Only.refl _ _ | assumption | refine Only.drewN ?_ _ | refine Only.drew ?_ | refine Only.alloc ?_ _ | refine Only.setCell ?_ (by intro hh; exfalso; simp at hh; try omega) _ | refine Only.trans ?_ (by assumption))))).mono ?_); rintro e w1 ⟨he, t1⟩; rw [Hs.out] at he; subst he; have X1 := X0.keep t1; have y0 := X1.cell 0 rfl; have y1 := X1.cell 1 rfl; have y2 := X1.cell 2 rfl)
      | (go_at_call 71; (with_reducible refine (specIsReachable_any [.int .i64 x.points, .string x.names, .slice A3 x.moves.length C3] x _ v s _ _ (Rp.keep h0 (by with_reducible repeat (first | exact Only.refl _ _ | assumption | refine Only.drewN ?_ _ | refine Only.drew ?_ | refine Only.alloc ?_ _ | refine Only.setCell ?_ (by intro hh; exfalso; simp at hh; try omega) _ | refine Only.trans ?_ (by assumption)))) (Rp.keep hu (by with_reducible repeat (first | exact Only.refl _ _ | assumption | refine Only.drewN ?_ _ | refine Only.drew ?_ | refine Only.alloc ?_ _ | refine Only.setCell ?_ (by intro hh; exfalso; simp at hh; try omega) _ | refine Only.trans ?_ (by assumption))))).mono ?_); rintro e w2 ⟨he, t2⟩; rw [Hr.out] at he; subst he; have X2 := X1.keep t2; have y0 := X2.cell 0 rfl; have y1 := X2.cell 1 rfl; have y2 := X2.cell 2 rfl)
      | (go_at_call 56; (with_reducible refine (specOptimalWord_any [.int .i64 x.points, .string x.names, .slice A3 x.moves.length C3] x _ v s _ _ (Rp.keep h0 (by with_reducible repeat (first | exact Only.refl _ _ | assumption | refine Only.drewN ?_ _ | refine Only.drew ?_ | refine Only.alloc ?_ _ | refine Only.setCell ?_ (by intro hh; exfalso; simp at hh; try omega) _ | refine Only.trans ?_ (by assumption)))) (Rp.keep hu (by with_reducible repeat (first | exact Only.refl _ _ | assumption | refine Only.drewN ?_ _ | refine Only.drew ?_ | refine Only.alloc ?_ _ | refine Only.setCell ?_ (by intro hh; exfalso; simp at hh; try omega) _ | refine Only.trans ?_ (by assumption))))).mono ?_); rintro e w3 ⟨u3, f3, he, r3, F3, t3⟩; rw [Ho.out] at he r3; subst he)
      | fail "no arm")
    have K3 : Only [] w w3 := (by with_reducible repeat (first | exact Only.refl _ _ | assumption | refine Only.drewN ?_ _ | refine Only.drew ?_ | refine Only.alloc ?_ _ | refine Only.setCell ?_ (by intro hh; exfalso; simp at hh; try omega) _ | refine Only.trans ?_ (by assumption)))
    have X3 := X2.keep t3
    have y0 := X3.cell 0 rfl
    have y1 := X3.cell 1 rfl
    have y2 := X3.cell 2 rfl
    have kz := (Only.refl [] w3).alloc (.cells #[.slice none 0 0, .slice none 0 0, .slice none 0 0] 53)
    have ya0 := kz.cell (by simp) y0
    have ya1 := kz.cell (by simp) y1
    have ya2 := kz.cell (by simp) y2
    have hpl : (PM.pts x.points.toNat).length ≤ 2097152 := by rw [PM.pts_len]; omega
    have Hpl := Lib.hid hpl
    have hc3 : ([.slice none 0 0, .slice none 0 0, .slice none 0 0] : List Value).length = 3 := rfl
    clear hpl
    go_cut [8, 9] (fun s8 s9 wx => BT1 w3 wx s8 s9 (bTab x (PM.pts x.points.toNat)))
    case first =>
      go_region_law (first
        | (go_simp; go_at_call 60; (with_reducible refine (specIdentity_i x.points _ (by omega) (by omega)).mono ?_); rintro e w5 ⟨v5, f5, rfl, r5, F5, t5⟩; have hz5 := t5.size; (try simp at hz5); have X5 := X3.keep ((by with_reducible repeat (first | exact Only.refl _ _ | assumption | refine Only.drew ?_ | refine Only.alloc ?_ _ | refine Only.trans ?_ (by assumption))) : Only [] w3 w5); have q0 := X5.cell 0 rfl; have q1 := X5.cell 1 rfl; have q2 := X5.cell 2 rfl; have kb := (Only.refl [] w5).alloc (.cells #[.slice none 0 0, .slice none 0 0, .slice none 0 0] 53); have qa0 := kb.cell (by simp) q0; have qa1 := kb.cell (by simp) q1; have qa2 := kb.cell (by simp) q2)
        | (go_simp; go_at_call 63; (with_reducible refine (specBuildTable_any [.int .i64 x.points, .string x.names, .slice A3 x.moves.length C3] x _ _ (PM.pts x.points.toNat) _ _ (Rp.keep h0 (by with_reducible repeat (first | exact Only.refl _ _ | assumption | refine Only.drewN ?_ _ | refine Only.drew ?_ | refine Only.alloc ?_ _ | refine Only.setCell ?_ (by intro hh; exfalso; simp at hh; try omega) _ | refine Only.trans ?_ (by assumption)))) (Rp.keep r5 (by with_reducible repeat (first | exact Only.refl _ _ | assumption | refine Only.drewN ?_ _ | refine Only.drew ?_ | refine Only.alloc ?_ _ | refine Only.setCell ?_ (by intro hh; exfalso; simp at hh; try omega) _ | refine Only.trans ?_ (by assumption)))) Hpl.out).mono ?_); rintro e w4 ⟨cs4, f4, he4, r4, F4, t4⟩; have rr := id r4; obtain ⟨u1, u2, u9, e1, e2, e3, rfl, -, s1, s2, s3⟩ := r4; simp only [List.cons_append, List.nil_append] at rr; have hq1 := s1.open_; have hq2 := s2.open_; have hq3 := s3.open_; obtain ⟨a1, k1, _, _, rfl, -, -⟩ := hq1; obtain ⟨a2, k2, _, _, rfl, -, -⟩ := hq2; obtain ⟨a3, k3, _, _, rfl, -, -⟩ := hq3; subst he4; have hz4 := t4.size; (try simp at hz4); have FF := F4.mono (B' := w3.heap.size) (by first | omega | (simp; omega)); first
          | (have Z := ((Blk.new w3 [.slice none 0 0, .slice none 0 0, .slice none 0 0] 53).keep t5).keep t4; have hgf : w3.heap.size ∉ f4 := (fun hm => by have := F4.ge _ hm; omega); have hgw : w3.heap.size ≤ w3.heap.size := Nat.le_refl _; have g0 := Z.cell 0 rfl; have g1 := Z.cell 1 rfl; have g2 := Z.cell 2 rfl; have p0 := Z.frozen 0; have p1 := Z.frozen 1; have p2 := Z.frozen 2)
          | (have Z := (((Blk.new w3 [.slice none 0 0, .slice none 0 0, .slice none 0 0] 53).keep ((Only.refl [] _).drew)).keep t5).keep t4; have hgf : w3.heap.size ∉ f4 := (fun hm => by have := F4.ge _ hm; omega); have hgw : w3.heap.size ≤ w3.heap.size := Nat.le_refl _; have g0 := Z.cell 0 rfl; have g1 := Z.cell 1 rfl; have g2 := Z.cell 2 rfl; have p0 := Z.frozen 0; have p1 := Z.frozen 1; have p2 := Z.frozen 2)
          | (have Z := ((Blk.new w5 [.slice none 0 0, .slice none 0 0, .slice none 0 0] 53)).keep t4; have hgf : w5.heap.size ∉ f4 := (fun hm => by have := F4.ge _ hm; first | omega | (simp at this; omega)); have hgw : w3.heap.size ≤ w5.heap.size := (by omega); have g0 := Z.cell 0 rfl; have g1 := Z.cell 1 rfl; have g2 := Z.cell 2 rfl; have p0 := Z.frozen 0; have p1 := Z.frozen 1; have p2 := Z.frozen 2)
          | (have Z := ((Blk.new w5 [.slice none 0 0, .slice none 0 0, .slice none 0 0] 53).keep ((Only.refl [] _).drew)).keep t4; have hgf : w5.heap.size ∉ f4 := (fun hm => by have := F4.ge _ hm; first | omega | (simp at this; omega)); have hgw : w3.heap.size ≤ w5.heap.size := (by omega); have g0 := Z.cell 0 rfl; have g1 := Z.cell 1 rfl; have g2 := Z.cell 2 rfl; have p0 := Z.frozen 0; have p1 := Z.frozen 1; have p2 := Z.frozen 2)
          | (have Z := Blk.new w4 [.slice none 0 0, .slice none 0 0, .slice none 0 0] 53; have hgf : w4.heap.size ∉ f4 := (fun hm => by have := F4.lt _ hm; omega); have hgw : w3.heap.size ≤ w4.heap.size := (by omega); have rra := Rp.keep rr ((Only.refl [] w4).alloc (.cells #[.slice none 0 0, .slice none 0 0, .slice none 0 0] 53)); have FFa := FF.keep ((Only.refl [] w4).alloc (.cells #[.slice none 0 0, .slice none 0 0, .slice none 0 0] 53)); have g0 := Z.cell 0 rfl; have g1 := Z.cell 1 rfl; have g2 := Z.cell 2 rfl; have p0 := Z.frozen 0; have p1 := Z.frozen 1; have p2 := Z.frozen 2))
        | fail "no arm")
      all_goals go_wp2_with fail
      all_goals go_meet
      all_goals have KK5 : Only [] w3 w4 := (by with_reducible repeat (first | exact Only.refl _ _ | assumption | refine Only.drew ?_ | refine Only.alloc ?_ _ | refine Only.trans ?_ (by assumption)))
      all_goals first
        | with_reducible exact BT1.of2 KK5 rfl rfl rfl rr FF rfl
        | with_reducible exact BT1.of Z hc3 (KK5.alloc _) rfl rfl rfl rra FFa hgf hgw
        | with_reducible exact BT1.of Z hc3 KK5 rfl rfl rfl rr FF hgf hgw
    case rest =>
      have q7 : BT1 w3 wc u8 u9 (expl x) := hcut
      clear hcut
      obtain ⟨g, B1, B2, B3, D1, D2, D3, f, rfl, rfl, z, r, F, k⟩ := q7
      have Y9 := (((Y0.keep t1).keep t2).keep t3).keep k
      have g0 := Y9.cell 0 rfl
      have g1 := Y9.cell 1 rfl
      have g2 := Y9.cell 2 rfl
      have g3 := Y9.cell 3 rfl
      have p0 := Y9.frozen 0
      have p1 := Y9.frozen 1
      have p2 := Y9.frozen 2
      have p3 := Y9.frozen 3
      have K9 : Only [] w wc := K3.trans k
      go_wp2
      have Yf := (((Y9.set 0 (.int .i64 0)).set 1 (.slice none 0 0)).set 2 (.slice none 0 0)).set 3 (.slice none 0 0)
      have kf : Only [w.heap.size + 1] wc ((((wc.setCell ⟨w.heap.size + 1, 0, none⟩ (.int .i64 0)).setCell ⟨w.heap.size + 1, 1, none⟩ (.slice none 0 0)).setCell ⟨w.heap.size + 1, 2, none⟩ (.slice none 0 0)).setCell ⟨w.heap.size + 1, 3, none⟩ (.slice none 0 0)) := ((((Only.refl _ _).setCell (by simp) _).setCell (by simp) _).setCell (by simp) _).setCell (by simp) _
      obtain ⟨wf, hwf⟩ : ∃ wf, wf = ((((wc.setCell ⟨w.heap.size + 1, 0, none⟩ (.int .i64 0)).setCell ⟨w.heap.size + 1, 1, none⟩ (.slice none 0 0)).setCell ⟨w.heap.size + 1, 2, none⟩ (.slice none 0 0)).setCell ⟨w.heap.size + 1, 3, none⟩ (.slice none 0 0)) := ⟨_, rfl⟩
      rw [← hwf] at Yf kf ⊢
      simp only [List.set] at Yf
      clear hwf g0 g1 g2 g3 p0 p1 p2 p3
      have z0 := Yf.cell 0 rfl
      have z1 := Yf.cell 1 rfl
      have z2 := Yf.cell 2 rfl
      have z3 := Yf.cell 3 rfl
      refine bodyPost_ret (v := .tuple #[.agg #[.int .i64 0, .slice none 0 0, .slice none 0 0, .slice none 0 0], .bool false]) (by simp [results, Tryz.results55, go_sem, z0, z1, z2, z3]) rfl ⟨[.int .i64 0, .slice none 0 0, .slice none 0 0, .slice none 0 0], [], by rw [Hk.out], by rw [Hc.out]; exact noCert_rep _, Fresh.nil _ _, K9.then_ kf (by simp)⟩
  · obtain ⟨t, ht, hk, hc⟩ := sol_d hst hr ho
    have HSm := Lib.hid (expl_sm ht)
    have Hr := Lib.hid hr
    have Ho := Lib.hid ho
    have Ht := Lib.hid ht
    have Hk := Lib.hid hk
    have Hc := Lib.hid hc
    clear hs hst hr ho hk hc ht
    go_enter Tryz.func55, Tryz.ntmps55
    go_upto_region 6 with (first
      | (go_at_call 70; (with_reducible refine (specIsState_any [.int .i64 x.points, .string x.names, .slice A3 x.moves.length C3] x _ v s _ _ (Rp.keep h0 (by with_reducible repeat (first | exact Only.refl _ _ | assumption | refine Only.drewN ?_ _ | refine Only.drew ?_ | refine Only.alloc ?_ _ | refine Only.setCell ?_ (by intro hh; exfalso; simp at hh; try omega) _ | refine Only.trans ?_ (by assumption)))) (Rp.keep hu (by with_reducible repeat (first | exact Only.refl _ _ | assumption | refine Only.drewN ?_ _ | refine Only.drew ?_ | refine Only.alloc ?_ _ | refine Only.setCell ?_ (by intro hh; exfalso; simp at hh; try omega) _ | refine Only.trans ?_ (by assumption))))).mono ?_); rintro e w1 ⟨he, t1⟩; rw [Hs.out] at he; subst he; have X1 := X0.keep t1; have y0 := X1.cell 0 rfl; have y1 := X1.cell 1 rfl; have y2 := X1.cell 2 rfl)
      | (go_at_call 71; (with_reducible refine (specIsReachable_any [.int .i64 x.points, .string x.names, .slice A3 x.moves.length C3] x _ v s _ _ (Rp.keep h0 (by with_reducible repeat (first | exact Only.refl _ _ | assumption | refine Only.drewN ?_ _ | refine Only.drew ?_ | refine Only.alloc ?_ _ | refine Only.setCell ?_ (by intro hh; exfalso; simp at hh; try omega) _ | refine Only.trans ?_ (by assumption)))) (Rp.keep hu (by with_reducible repeat (first | exact Only.refl _ _ | assumption | refine Only.drewN ?_ _ | refine Only.drew ?_ | refine Only.alloc ?_ _ | refine Only.setCell ?_ (by intro hh; exfalso; simp at hh; try omega) _ | refine Only.trans ?_ (by assumption))))).mono ?_); rintro e w2 ⟨he, t2⟩; rw [Hr.out] at he; subst he; have X2 := X1.keep t2; have y0 := X2.cell 0 rfl; have y1 := X2.cell 1 rfl; have y2 := X2.cell 2 rfl)
      | (go_at_call 56; (with_reducible refine (specOptimalWord_any [.int .i64 x.points, .string x.names, .slice A3 x.moves.length C3] x _ v s _ _ (Rp.keep h0 (by with_reducible repeat (first | exact Only.refl _ _ | assumption | refine Only.drewN ?_ _ | refine Only.drew ?_ | refine Only.alloc ?_ _ | refine Only.setCell ?_ (by intro hh; exfalso; simp at hh; try omega) _ | refine Only.trans ?_ (by assumption)))) (Rp.keep hu (by with_reducible repeat (first | exact Only.refl _ _ | assumption | refine Only.drewN ?_ _ | refine Only.drew ?_ | refine Only.alloc ?_ _ | refine Only.setCell ?_ (by intro hh; exfalso; simp at hh; try omega) _ | refine Only.trans ?_ (by assumption))))).mono ?_); rintro e w3 ⟨u3, f3, he, r3, F3, t3⟩; rw [Ho.out] at he r3; subst he; simp only [Option.getD] at r3)
      | fail "no arm")
    have K3 : Only [] w w3 := (by with_reducible repeat (first | exact Only.refl _ _ | assumption | refine Only.drewN ?_ _ | refine Only.drew ?_ | refine Only.alloc ?_ _ | refine Only.setCell ?_ (by intro hh; exfalso; simp at hh; try omega) _ | refine Only.trans ?_ (by assumption)))
    have X3 := X2.keep t3
    have y0 := X3.cell 0 rfl
    have y1 := X3.cell 1 rfl
    have y2 := X3.cell 2 rfl
    have kz := (Only.refl [] w3).alloc (.cells #[.slice none 0 0, .slice none 0 0, .slice none 0 0] 53)
    have ya0 := kz.cell (by simp) y0
    have ya1 := kz.cell (by simp) y1
    have ya2 := kz.cell (by simp) y2
    have hpl : (PM.pts x.points.toNat).length ≤ 2097152 := by rw [PM.pts_len]; omega
    have Hpl := Lib.hid hpl
    have hc3 : ([.slice none 0 0, .slice none 0 0, .slice none 0 0] : List Value).length = 3 := rfl
    clear hpl
    go_cut [8, 9] (fun s8 s9 wx => BT1 w3 wx s8 s9 (bTab x (PM.pts x.points.toNat)))
    case first =>
      go_region_law (first
        | (go_simp; go_at_call 60; (with_reducible refine (specIdentity_i x.points _ (by omega) (by omega)).mono ?_); rintro e w5 ⟨v5, f5, rfl, r5, F5, t5⟩; have hz5 := t5.size; (try simp at hz5); have X5 := X3.keep ((by with_reducible repeat (first | exact Only.refl _ _ | assumption | refine Only.drew ?_ | refine Only.alloc ?_ _ | refine Only.trans ?_ (by assumption))) : Only [] w3 w5); have q0 := X5.cell 0 rfl; have q1 := X5.cell 1 rfl; have q2 := X5.cell 2 rfl; have kb := (Only.refl [] w5).alloc (.cells #[.slice none 0 0, .slice none 0 0, .slice none 0 0] 53); have qa0 := kb.cell (by simp) q0; have qa1 := kb.cell (by simp) q1; have qa2 := kb.cell (by simp) q2)
        | (go_simp; go_at_call 63; (with_reducible refine (specBuildTable_any [.int .i64 x.points, .string x.names, .slice A3 x.moves.length C3] x _ _ (PM.pts x.points.toNat) _ _ (Rp.keep h0 (by with_reducible repeat (first | exact Only.refl _ _ | assumption | refine Only.drewN ?_ _ | refine Only.drew ?_ | refine Only.alloc ?_ _ | refine Only.setCell ?_ (by intro hh; exfalso; simp at hh; try omega) _ | refine Only.trans ?_ (by assumption)))) (Rp.keep r5 (by with_reducible repeat (first | exact Only.refl _ _ | assumption | refine Only.drewN ?_ _ | refine Only.drew ?_ | refine Only.alloc ?_ _ | refine Only.setCell ?_ (by intro hh; exfalso; simp at hh; try omega) _ | refine Only.trans ?_ (by assumption)))) Hpl.out).mono ?_); rintro e w4 ⟨cs4, f4, he4, r4, F4, t4⟩; have rr := id r4; obtain ⟨u1, u2, u9, e1, e2, e3, rfl, -, s1, s2, s3⟩ := r4; simp only [List.cons_append, List.nil_append] at rr; have hq1 := s1.open_; have hq2 := s2.open_; have hq3 := s3.open_; obtain ⟨a1, k1, _, _, rfl, -, -⟩ := hq1; obtain ⟨a2, k2, _, _, rfl, -, -⟩ := hq2; obtain ⟨a3, k3, _, _, rfl, -, -⟩ := hq3; subst he4; have hz4 := t4.size; (try simp at hz4); have FF := F4.mono (B' := w3.heap.size) (by first | omega | (simp; omega)); first
          | (have Z := ((Blk.new w3 [.slice none 0 0, .slice none 0 0, .slice none 0 0] 53).keep t5).keep t4; have hgf : w3.heap.size ∉ f4 := (fun hm => by have := F4.ge _ hm; omega); have hgw : w3.heap.size ≤ w3.heap.size := Nat.le_refl _; have g0 := Z.cell 0 rfl; have g1 := Z.cell 1 rfl; have g2 := Z.cell 2 rfl; have p0 := Z.frozen 0; have p1 := Z.frozen 1; have p2 := Z.frozen 2)
          | (have Z := (((Blk.new w3 [.slice none 0 0, .slice none 0 0, .slice none 0 0] 53).keep ((Only.refl [] _).drew)).keep t5).keep t4; have hgf : w3.heap.size ∉ f4 := (fun hm => by have := F4.ge _ hm; omega); have hgw : w3.heap.size ≤ w3.heap.size := Nat.le_refl _; have g0 := Z.cell 0 rfl; have g1 := Z.cell 1 rfl; have g2 := Z.cell 2 rfl; have p0 := Z.frozen 0; have p1 := Z.frozen 1; have p2 := Z.frozen 2)
          | (have Z := ((Blk.new w5 [.slice none 0 0, .slice none 0 0, .slice none 0 0] 53)).keep t4; have hgf : w5.heap.size ∉ f4 := (fun hm => by have := F4.ge _ hm; first | omega | (simp at this; omega)); have hgw : w3.heap.size ≤ w5.heap.size := (by omega); have g0 := Z.cell 0 rfl; have g1 := Z.cell 1 rfl; have g2 := Z.cell 2 rfl; have p0 := Z.frozen 0; have p1 := Z.frozen 1; have p2 := Z.frozen 2)
          | (have Z := ((Blk.new w5 [.slice none 0 0, .slice none 0 0, .slice none 0 0] 53).keep ((Only.refl [] _).drew)).keep t4; have hgf : w5.heap.size ∉ f4 := (fun hm => by have := F4.ge _ hm; first | omega | (simp at this; omega)); have hgw : w3.heap.size ≤ w5.heap.size := (by omega); have g0 := Z.cell 0 rfl; have g1 := Z.cell 1 rfl; have g2 := Z.cell 2 rfl; have p0 := Z.frozen 0; have p1 := Z.frozen 1; have p2 := Z.frozen 2)
          | (have Z := Blk.new w4 [.slice none 0 0, .slice none 0 0, .slice none 0 0] 53; have hgf : w4.heap.size ∉ f4 := (fun hm => by have := F4.lt _ hm; omega); have hgw : w3.heap.size ≤ w4.heap.size := (by omega); have rra := Rp.keep rr ((Only.refl [] w4).alloc (.cells #[.slice none 0 0, .slice none 0 0, .slice none 0 0] 53)); have FFa := FF.keep ((Only.refl [] w4).alloc (.cells #[.slice none 0 0, .slice none 0 0, .slice none 0 0] 53)); have g0 := Z.cell 0 rfl; have g1 := Z.cell 1 rfl; have g2 := Z.cell 2 rfl; have p0 := Z.frozen 0; have p1 := Z.frozen 1; have p2 := Z.frozen 2))
        | fail "no arm")
      all_goals go_wp2_with fail
      all_goals go_meet
      all_goals have KK5 : Only [] w3 w4 := (by with_reducible repeat (first | exact Only.refl _ _ | assumption | refine Only.drew ?_ | refine Only.alloc ?_ _ | refine Only.trans ?_ (by assumption)))
      all_goals first
        | with_reducible exact BT1.of2 KK5 rfl rfl rfl rr FF rfl
        | with_reducible exact BT1.of Z hc3 (KK5.alloc _) rfl rfl rfl rra FFa hgf hgw
        | with_reducible exact BT1.of Z hc3 KK5 rfl rfl rfl rr FF hgf hgw
    case rest =>
      have q7 : BT1 w3 wc u8 u9 (expl x) := hcut
      clear hcut
      obtain ⟨g, B1, B2, B3, D1, D2, D3, f, rfl, rfl, z, r, F, k⟩ := q7
      rw [Ht.out] at z r
      simp only [Option.getD] at z r
      simp only [Ht.out, Option.isSome]
      have d0 := z.cell 0 rfl
      have d1 := z.cell 1 rfl
      have d2 := z.cell 2 rfl
      have Y8 := (((Y0.keep t1).keep t2).keep t3).keep k
      have hA := (Acc.one w.heap.size 53 r (g := wc.heap.size) rfl (K3.trans k).size).rd (by decide)
      have hz9 := (K3.trans k).size
      go_wp2_with (first
        | (go_at_call 11; (with_reducible refine (specOpCert_rd u3 wd f3 _ [t] _ _ (Rp.keep r3 (k.trans (by with_reducible repeat (first | exact Only.refl _ _ | assumption | refine Only.drewN ?_ _ | refine Only.drew ?_ | refine Only.alloc ?_ _ | refine Only.setCell ?_ (by intro hh; exfalso; simp at hh; try omega) _ | refine Only.trans ?_ (by assumption))))) (Rp.keep hA (by with_reducible repeat (first | exact Only.refl _ _ | assumption | refine Only.drewN ?_ _ | refine Only.drew ?_ | refine Only.alloc ?_ _ | refine Only.setCell ?_ (by intro hh; exfalso; simp at hh; try omega) _ | refine Only.trans ?_ (by assumption)))) HSm.out).mono ?_); rintro e w4 ⟨cs4, f4, rfl, r4, F4, t4⟩; have rr := id r4; obtain ⟨v1, v2, v3, e1, e2, e3, rfl, -, i1, s1, s2, s3⟩ := r4; simp only [List.cons_append, List.nil_append] at rr; obtain ⟨a1, k1, _, _, rfl, -, -⟩ := s1.open_; obtain ⟨a2, k2, _, _, rfl, -, -⟩ := s2.open_; obtain ⟨a3, k3, _, _, rfl, -, -⟩ := s3.open_; have Y9 := (Y8.keep ((Only.refl [] wc).alloc (.cells #[.slice B1 t.tracked.length D1, .slice B2 t.patterns.length D2, .slice B3 t.distances.length D3] 53))).keep t4; have g0 := Y9.cell 0 rfl; have g1 := Y9.cell 1 rfl; have g2 := Y9.cell 2 rfl; have g3 := Y9.cell 3 rfl; have p0 := Y9.frozen 0; have p1 := Y9.frozen 1; have p2 := Y9.frozen 2; have p3 := Y9.frozen 3)
        | fail "no arm")
      have K4 : Only [] w w4 := ((K3.trans k).alloc _).trans t4
      have hY1 := Y8.lt
      have hFg : ∀ g ∈ f4, g ∉ [w.heap.size + 1] := fun g hg hm => by have := F4.ge g hg; simp at hm this; omega
      have Yf := (((Y9.set 0 (.int .i64 (opCert wd [t]).kind)).set 1 (.slice a1 (opCert wd [t]).numbers.length k1)).set 2 (.slice a2 (opCert wd [t]).words.length k2)).set 3 (.slice a3 (opCert wd [t]).tables.length k3)
      have kf : Only [w.heap.size + 1] w4 ((((w4.setCell ⟨w.heap.size + 1, 0, none⟩ (.int .i64 (opCert wd [t]).kind)).setCell ⟨w.heap.size + 1, 1, none⟩ (.slice a1 (opCert wd [t]).numbers.length k1)).setCell ⟨w.heap.size + 1, 2, none⟩ (.slice a2 (opCert wd [t]).words.length k2)).setCell ⟨w.heap.size + 1, 3, none⟩ (.slice a3 (opCert wd [t]).tables.length k3)) := ((((Only.refl _ _).setCell (by simp) _).setCell (by simp) _).setCell (by simp) _).setCell (by simp) _
      obtain ⟨wf, hwf⟩ : ∃ wf, wf = ((((w4.setCell ⟨w.heap.size + 1, 0, none⟩ (.int .i64 (opCert wd [t]).kind)).setCell ⟨w.heap.size + 1, 1, none⟩ (.slice a1 (opCert wd [t]).numbers.length k1)).setCell ⟨w.heap.size + 1, 2, none⟩ (.slice a2 (opCert wd [t]).words.length k2)).setCell ⟨w.heap.size + 1, 3, none⟩ (.slice a3 (opCert wd [t]).tables.length k3)) := ⟨_, rfl⟩
      rw [← hwf] at Yf kf ⊢
      simp only [List.set] at Yf
      clear hwf g0 g1 g2 g3 p0 p1 p2 p3
      have z0 := Yf.cell 0 rfl
      have z1 := Yf.cell 1 rfl
      have z2 := Yf.cell 2 rfl
      have z3 := Yf.cell 3 rfl
      refine bodyPost_ret (v := .tuple #[.agg #[.int .i64 (opCert wd [t]).kind, .slice a1 (opCert wd [t]).numbers.length k1, .slice a2 (opCert wd [t]).words.length k2, .slice a3 (opCert wd [t]).tables.length k3], .bool true]) (by simp [results, Tryz.results55, go_sem, z0, z1, z2, z3]) rfl ⟨[.int .i64 (opCert wd [t]).kind, .slice a1 (opCert wd [t]).numbers.length k1, .slice a2 (opCert wd [t]).words.length k2, .slice a3 (opCert wd [t]).tables.length k3], f4, by rw [Hk.out], by rw [Hc.out]; exact Rp.only rr kf hFg, (F4.mono (by simp; omega)).only kf hFg, K4.then_ kf (by simp)⟩

end Go.Proofs.YtlbcjkjoapcppaaGreat
