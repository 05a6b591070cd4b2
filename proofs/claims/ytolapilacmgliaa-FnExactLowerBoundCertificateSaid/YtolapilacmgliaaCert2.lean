/- The certificates of a lower bound and of optimality: the reference's and the program's. -/
import Derived.Test.YtolapilacmgliaaCopy
namespace Go.Proofs.Ytolapilacmgliaa
open Go.RowKit

theorem isTableCount_rd (v : Value) (l : List Table) (fp : List Nat) (w : World) (h : Rd w v l fp) :
    Calls Try.prog 47 #[v] w fun e w' => e = .returned (.bool (inR l.length 1 4)) ∧ w' = w := by
  obtain ⟨a, cap, ob, fps, rfl, -, hs⟩ := h.open_
  have hb := hs.bound
  rcases hq : inR l.length 1 4
  all_goals
    go_enter Try.func47, Try.ntmps47
    go_wp2_with ((go_at_call 58; (with_reducible refine (inRange_any l.length 1 4 _).mono ?_); rintro e w1 ⟨rfl, rfl⟩))
    go_ret
    exact ⟨rfl, rfl⟩
theorem lengthTable_rd (v : Value) (l : List Table) (fp : List Nat) (w : World) (h : Rd w v l fp) :
    Calls Try.prog 51 #[v] w fun e w' => e = .returned (.int .i64 l.length) ∧ w' = w := by
  obtain ⟨a, cap, ob, fps, rfl, -, hs⟩ := h.open_
  have hb := hs.bound
  go_enter Try.func51, Try.ntmps51
  go_wp2
  go_ret
  exact ⟨rfl, rfl⟩

theorem int_rd {n : Int} (w : World) (h : I64 n) : Rd w (.int .i64 n) n [] := ⟨rfl, h, rfl⟩
def lbCert (b : Int) (l : List Table) : Certificate := if 0 ≤ b ∧ inR l.length 1 4 = true then ⟨3, [b], [], l⟩ else noCert
def opCert (x : List Int) (l : List Table) : Certificate := if validW 8 x = true ∧ inR l.length 1 4 = true then ⟨2, [], [x], l⟩ else noCert
set_option maxHeartbeats 400000 in
theorem specLBCert_rd (b : Int) (ib : I64 b) (v : Value) (l : List Table) (fp : List Nat) (w : World) (h : Rd w v l fp) (hsm : Sm.sm l) :
    Calls Try.prog 20 #[.int .i64 b, v] w fun e w' => ∃ cs fp', e = .returned (.agg cs.toArray) ∧ Rp.rep w' cs (lbCert b l) fp' ∧ Fresh w.heap.size w' fp' ∧ Only [] w w' := by
  by_cases c0 : b < 0
  · have hp : lbCert b l = noCert := by unfold lbCert; rw [if_neg (by omega)]
    have Hp := Lib.hid hp
    clear hp
    go_enter Try.func20, Try.ntmps20
    go_wp2
    refine bodyPost_ret (v := .agg #[.int .i64 0, .slice none 0 0, .slice none 0 0, .slice none 0 0]) (by simp [results, Try.results20, go_sem]) rfl ⟨[.int .i64 0, .slice none 0 0, .slice none 0 0, .slice none 0 0], [], rfl, ?_, Fresh.nil _ _, (by with_reducible repeat (first | exact Only.refl _ _ | assumption | refine Only.drewN ?_ _ | refine Only.drew ?_ | refine Only.alloc ?_ _ | refine Only.setCell ?_ (by intro hh; exfalso; simp at hh; try omega) _ | refine Only.trans ?_ (by assumption)))⟩
    rw [Hp.out]; exact noCert_rep _
  rcases hq : inR l.length 1 4
  · have hp : lbCert b l = noCert := by unfold lbCert; rw [if_neg (by simp [hq])]
    have Hp := Lib.hid hp
    clear hp
    go_enter Try.func20, Try.ntmps20
    go_wp2_with ((go_at_call 47; (with_reducible refine (isTableCount_rd v l _ _ (Rp.keep h (by with_reducible repeat (first | exact Only.refl _ _ | assumption | refine Only.drewN ?_ _ | refine Only.drew ?_ | refine Only.alloc ?_ _ | refine Only.setCell ?_ (by intro hh; exfalso; simp at hh; try omega) _ | refine Only.trans ?_ (by assumption))))).mono ?_); rintro e w1 ⟨rfl, rfl⟩))
    refine bodyPost_ret (v := .agg #[.int .i64 0, .slice none 0 0, .slice none 0 0, .slice none 0 0]) (by simp [results, Try.results20, go_sem]) rfl ⟨[.int .i64 0, .slice none 0 0, .slice none 0 0, .slice none 0 0], [], rfl, ?_, Fresh.nil _ _, (by with_reducible repeat (first | exact Only.refl _ _ | assumption | refine Only.drewN ?_ _ | refine Only.drew ?_ | refine Only.alloc ?_ _ | refine Only.setCell ?_ (by intro hh; exfalso; simp at hh; try omega) _ | refine Only.trans ?_ (by assumption)))⟩
    rw [Hp.out]; exact noCert_rep _
  have hp : lbCert b l = ⟨3, [b], [], l⟩ := by unfold lbCert; rw [if_pos ⟨by omega, hq⟩]
  have Hp := Lib.hid hp
  clear hp
  have Ib := Lib.hid ib; clear ib
  go_enter Try.func20, Try.ntmps20
  go_wp2_with (first
    | (go_at_call 47; (with_reducible refine (isTableCount_rd v l _ _ (Rp.keep h (by with_reducible repeat (first | exact Only.refl _ _ | assumption | refine Only.drewN ?_ _ | refine Only.drew ?_ | refine Only.alloc ?_ _ | refine Only.setCell ?_ (by intro hh; exfalso; simp at hh; try omega) _ | refine Only.trans ?_ (by assumption))))).mono ?_); rintro e w1 ⟨rfl, rfl⟩)
    | (go_at_call 48; (with_reducible refine (copyTables_rd v l _ _ (Rp.keep h (by with_reducible repeat (first | exact Only.refl _ _ | assumption | refine Only.drewN ?_ _ | refine Only.drew ?_ | refine Only.alloc ?_ _ | refine Only.setCell ?_ (by intro hh; exfalso; simp at hh; try omega) _ | refine Only.trans ?_ (by assumption)))) hsm).mono ?_); rintro e w2 ⟨v2, fp2, rfl, r2, F2, t2⟩; obtain ⟨A2, C2, _, _, rfl, -⟩ := r2.open_; have y2 := t2.cells_eq w.heap.size (by first | (simp; done) | (simp; omega)) (by simp); have z2 := t2.frozen_eq w.heap.size (by first | (simp; done) | (simp; omega)) (by simp); have s2 : w.heap.size < w2.heap.size := (by have := t2.size; simp at this; omega)))
  have HG : ∀ b' ∈ fp2, w.heap.size + 2 ≤ b' := fun b' hb => by have := F2.ge b' hb; simp at this; omega
  obtain ⟨o1, o2⟩ := one_rd (α := Int) (w := w.alloc (.cells #[.int .i64 0, .slice none 0 0, .slice none 0 0, .slice none 0 0] 26)) (v := .int .i64 b) (x := b) (fp := []) (int_rd _ Ib.out) 2 w.heap.size (Fresh.nil _ _) (g := w.heap.size + 1) (by simp) (by omega)
  have hW : Only [w.heap.size] w2 ((((w2.setCell ⟨w.heap.size, 0, none⟩ (.int .i64 3)).setCell ⟨w.heap.size, 1, none⟩ (.slice (some ⟨w.heap.size + 1, 0, none⟩) 1 1)).setCell ⟨w.heap.size, 2, none⟩ (.slice none 0 0)).setCell ⟨w.heap.size, 3, none⟩ (.slice A2 l.length C2)) := (by with_reducible repeat (first | exact Only.refl _ _ | assumption | refine Only.drewN ?_ _ | refine Only.drew ?_ | refine Only.alloc ?_ _ | refine Only.setCell ?_ (by intro _; simp) _ | refine Only.trans ?_ (Only.weaken (by assumption) _)))
  have n1 := Rp.only (Rp.keep o1 t2) hW (by simp)
  have n2 := Rp.only r2 hW (fun b' hb hm => by have := HG b' hb; simp at hm; omega)
  have n3 := (Fresh.append (o2.keep t2) F2 (by simp; omega) (by simp)).only hW (fun b' hb hm => by
    simp at hm hb
    rcases hb with hb | hb
    · omega
    · have := HG b' hb; omega)
  refine bodyPost_ret (v := .agg #[.int .i64 3, .slice (some ⟨w.heap.size + 1, 0, none⟩) 1 1, .slice none 0 0, .slice A2 l.length C2]) (by simp [results, Try.results20, go_sem, y2]) rfl ⟨[.int .i64 3, .slice (some ⟨w.heap.size + 1, 0, none⟩) 1 1, .slice none 0 0, .slice A2 l.length C2], _, rfl, ?_, n3, (by with_reducible repeat (first | exact Only.refl _ _ | assumption | refine Only.drewN ?_ _ | refine Only.drew ?_ | refine Only.alloc ?_ _ | refine Only.setCell ?_ (by intro hh; exfalso; simp at hh; try omega) _ | refine Only.trans ?_ (by assumption)))⟩
  rw [Hp.out]
  exact ⟨_, _, _, [w.heap.size + 1], [], fp2, rfl, (by simp), ⟨by simp, by simp⟩, n1, nil_rd _, n2⟩
set_option maxHeartbeats 400000 in
theorem implLBCert_rd (b : Int) (ib : I64 b) (v : Value) (l : List Table) (fp : List Nat) (w : World) (h : Rd w v l fp) (hsm : Sm.sm l) :
    Calls Try.prog 22 #[.int .i64 b, v] w fun e w' => ∃ cs fp', e = .returned (.agg cs.toArray) ∧ Rp.rep w' cs (lbCert b l) fp' ∧ Fresh w.heap.size w' fp' ∧ Only [] w w' := by
  by_cases c0 : b < 0
  · have hp : lbCert b l = noCert := by unfold lbCert; rw [if_neg (by omega)]
    have Hp := Lib.hid hp
    clear hp
    go_enter Try.func22, Try.ntmps22
    go_wp2
    refine bodyPost_ret (v := .agg #[.int .i64 0, .slice none 0 0, .slice none 0 0, .slice none 0 0]) (by simp [results, Try.results22, go_sem]) rfl ⟨[.int .i64 0, .slice none 0 0, .slice none 0 0, .slice none 0 0], [], rfl, ?_, Fresh.nil _ _, (by with_reducible repeat (first | exact Only.refl _ _ | assumption | refine Only.drewN ?_ _ | refine Only.drew ?_ | refine Only.alloc ?_ _ | refine Only.setCell ?_ (by intro hh; exfalso; simp at hh; try omega) _ | refine Only.trans ?_ (by assumption)))⟩
    rw [Hp.out]; exact noCert_rep _
  rcases hq : inR l.length 1 4
  · have hp : lbCert b l = noCert := by unfold lbCert; rw [if_neg (by simp [hq])]
    have Hp := Lib.hid hp
    clear hp
    go_enter Try.func22, Try.ntmps22
    go_wp2_with ((first | (go_at_call 51; (with_reducible refine (lengthTable_rd v l _ _ (Rp.keep h (by with_reducible repeat (first | exact Only.refl _ _ | assumption | refine Only.drewN ?_ _ | refine Only.drew ?_ | refine Only.alloc ?_ _ | refine Only.setCell ?_ (by intro hh; exfalso; simp at hh; try omega) _ | refine Only.trans ?_ (by assumption))))).mono ?_); rintro e w1 ⟨rfl, rfl⟩) | (go_at_call 50; (with_reducible refine (within_any l.length 1 4 _).mono ?_); rintro e w1 ⟨rfl, rfl⟩)))
    refine bodyPost_ret (v := .agg #[.int .i64 0, .slice none 0 0, .slice none 0 0, .slice none 0 0]) (by simp [results, Try.results22, go_sem]) rfl ⟨[.int .i64 0, .slice none 0 0, .slice none 0 0, .slice none 0 0], [], rfl, ?_, Fresh.nil _ _, (by with_reducible repeat (first | exact Only.refl _ _ | assumption | refine Only.drewN ?_ _ | refine Only.drew ?_ | refine Only.alloc ?_ _ | refine Only.setCell ?_ (by intro hh; exfalso; simp at hh; try omega) _ | refine Only.trans ?_ (by assumption)))⟩
    rw [Hp.out]; exact noCert_rep _
  have hp : lbCert b l = ⟨3, [b], [], l⟩ := by unfold lbCert; rw [if_pos ⟨by omega, hq⟩]
  have Hp := Lib.hid hp
  clear hp
  have Ib := Lib.hid ib; clear ib
  go_enter Try.func22, Try.ntmps22
  go_wp2_with (first
    | (first | (go_at_call 51; (with_reducible refine (lengthTable_rd v l _ _ (Rp.keep h (by with_reducible repeat (first | exact Only.refl _ _ | assumption | refine Only.drewN ?_ _ | refine Only.drew ?_ | refine Only.alloc ?_ _ | refine Only.setCell ?_ (by intro hh; exfalso; simp at hh; try omega) _ | refine Only.trans ?_ (by assumption))))).mono ?_); rintro e w1 ⟨rfl, rfl⟩) | (go_at_call 50; (with_reducible refine (within_any l.length 1 4 _).mono ?_); rintro e w1 ⟨rfl, rfl⟩))
    | (go_at_call 52; (with_reducible refine (cloneTables_rd v l _ _ (Rp.keep h (by with_reducible repeat (first | exact Only.refl _ _ | assumption | refine Only.drewN ?_ _ | refine Only.drew ?_ | refine Only.alloc ?_ _ | refine Only.setCell ?_ (by intro hh; exfalso; simp at hh; try omega) _ | refine Only.trans ?_ (by assumption)))) hsm).mono ?_); rintro e w2 ⟨v2, fp2, rfl, r2, F2, t2⟩; obtain ⟨A2, C2, _, _, rfl, -⟩ := r2.open_; have y2 := t2.cells_eq w.heap.size (by first | (simp; done) | (simp; omega)) (by simp); have z2 := t2.frozen_eq w.heap.size (by first | (simp; done) | (simp; omega)) (by simp); have s2 : w.heap.size < w2.heap.size := (by have := t2.size; simp at this; omega)))
  have HG : ∀ b' ∈ fp2, w.heap.size + 2 ≤ b' := fun b' hb => by have := F2.ge b' hb; simp at this; omega
  obtain ⟨o1, o2⟩ := one_rd (α := Int) (w := w.alloc (.cells #[.int .i64 0, .slice none 0 0, .slice none 0 0, .slice none 0 0] 26)) (v := .int .i64 b) (x := b) (fp := []) (int_rd _ Ib.out) 2 w.heap.size (Fresh.nil _ _) (g := w.heap.size + 1) (by simp) (by omega)
  have hW : Only [w.heap.size] w2 ((((w2.setCell ⟨w.heap.size, 0, none⟩ (.int .i64 3)).setCell ⟨w.heap.size, 1, none⟩ (.slice (some ⟨w.heap.size + 1, 0, none⟩) 1 1)).setCell ⟨w.heap.size, 2, none⟩ (.slice none 0 0)).setCell ⟨w.heap.size, 3, none⟩ (.slice A2 l.length C2)) := (by with_reducible repeat (first | exact Only.refl _ _ | assumption | refine Only.drewN ?_ _ | refine Only.drew ?_ | refine Only.alloc ?_ _ | refine Only.setCell ?_ (by intro _; simp) _ | refine Only.trans ?_ (Only.weaken (by assumption) _)))
  have n1 := Rp.only (Rp.keep o1 t2) hW (by simp)
  have n2 := Rp.only r2 hW (fun b' hb hm => by have := HG b' hb; simp at hm; omega)
  have n3 := (Fresh.append (o2.keep t2) F2 (by simp; omega) (by simp)).only hW (fun b' hb hm => by
    simp at hm hb
    rcases hb with hb | hb
    · omega
    · have := HG b' hb; omega)
  refine bodyPost_ret (v := .agg #[.int .i64 3, .slice (some ⟨w.heap.size + 1, 0, none⟩) 1 1, .slice none 0 0, .slice A2 l.length C2]) (by simp [results, Try.results22, go_sem, y2]) rfl ⟨[.int .i64 3, .slice (some ⟨w.heap.size + 1, 0, none⟩) 1 1, .slice none 0 0, .slice A2 l.length C2], _, rfl, ?_, n3, (by with_reducible repeat (first | exact Only.refl _ _ | assumption | refine Only.drewN ?_ _ | refine Only.drew ?_ | refine Only.alloc ?_ _ | refine Only.setCell ?_ (by intro hh; exfalso; simp at hh; try omega) _ | refine Only.trans ?_ (by assumption)))⟩
  rw [Hp.out]
  exact ⟨_, _, _, [w.heap.size + 1], [], fp2, rfl, (by simp), ⟨by simp, by simp⟩, n1, nil_rd _, n2⟩
set_option maxHeartbeats 1000000 in
theorem specOpCert_rd (u : Value) (x : List Int) (fq : List Nat) (v : Value) (l : List Table) (fp : List Nat) (w : World) (hx : Rd w u x fq) (h : Rd w v l fp) (hsm : Sm.sm l) :
    Calls Try.prog 25 #[u, v] w fun e w' => ∃ cs fp', e = .returned (.agg cs.toArray) ∧ Rp.rep w' cs (opCert x l) fp' ∧ Fresh w.heap.size w' fp' ∧ Only [] w w' := by
  rcases hv : validW 8 x
  · have hp : opCert x l = noCert := by unfold opCert; rw [if_neg (by simp [hv])]
    have Hp := Lib.hid hp
    clear hp
    go_enter Try.func25, Try.ntmps25
    go_wp2_with ((go_at_call 27; (with_reducible refine (specIsWord_rd u x _ _ (Rp.keep hx (by with_reducible repeat (first | exact Only.refl _ _ | assumption | refine Only.drewN ?_ _ | refine Only.drew ?_ | refine Only.alloc ?_ _ | refine Only.setCell ?_ (by intro hh; exfalso; simp at hh; try omega) _ | refine Only.trans ?_ (by assumption))))).mono ?_); rintro e w1 ⟨rfl, n1, rfl⟩))
    refine bodyPost_ret (v := .agg #[.int .i64 0, .slice none 0 0, .slice none 0 0, .slice none 0 0]) (by simp [results, Try.results25, go_sem]) rfl ⟨[.int .i64 0, .slice none 0 0, .slice none 0 0, .slice none 0 0], [], rfl, ?_, Fresh.nil _ _, (by with_reducible repeat (first | exact Only.refl _ _ | assumption | refine Only.drewN ?_ _ | refine Only.drew ?_ | refine Only.alloc ?_ _ | refine Only.setCell ?_ (by intro hh; exfalso; simp at hh; try omega) _ | refine Only.trans ?_ (by assumption)))⟩
    rw [Hp.out]; exact noCert_rep _
  rcases hq : inR l.length 1 4
  · have hp : opCert x l = noCert := by unfold opCert; rw [if_neg (by simp [hq])]
    have Hp := Lib.hid hp
    clear hp
    go_enter Try.func25, Try.ntmps25
    go_wp2_with (first | (go_at_call 27; (with_reducible refine (specIsWord_rd u x _ _ (Rp.keep hx (by with_reducible repeat (first | exact Only.refl _ _ | assumption | refine Only.drewN ?_ _ | refine Only.drew ?_ | refine Only.alloc ?_ _ | refine Only.setCell ?_ (by intro hh; exfalso; simp at hh; try omega) _ | refine Only.trans ?_ (by assumption))))).mono ?_); rintro e w1 ⟨rfl, n1, rfl⟩) | (go_at_call 47; (with_reducible refine (isTableCount_rd v l _ _ (Rp.keep h (by with_reducible repeat (first | exact Only.refl _ _ | assumption | refine Only.drewN ?_ _ | refine Only.drew ?_ | refine Only.alloc ?_ _ | refine Only.setCell ?_ (by intro hh; exfalso; simp at hh; try omega) _ | refine Only.trans ?_ (by assumption))))).mono ?_); rintro e w9 ⟨rfl, rfl⟩))
    refine bodyPost_ret (v := .agg #[.int .i64 0, .slice none 0 0, .slice none 0 0, .slice none 0 0]) (by simp [results, Try.results25, go_sem]) rfl ⟨[.int .i64 0, .slice none 0 0, .slice none 0 0, .slice none 0 0], [], rfl, ?_, Fresh.nil _ _, (by with_reducible repeat (first | exact Only.refl _ _ | assumption | refine Only.drewN ?_ _ | refine Only.drew ?_ | refine Only.alloc ?_ _ | refine Only.setCell ?_ (by intro hh; exfalso; simp at hh; try omega) _ | refine Only.trans ?_ (by assumption)))⟩
    rw [Hp.out]; exact noCert_rep _
  have hp : opCert x l = ⟨2, [], [x], l⟩ := by unfold opCert; rw [if_pos ⟨hv, hq⟩]
  have Hp := Lib.hid hp
  have hlen := validW_len hv
  clear hp
  go_enter Try.func25, Try.ntmps25
  go_wp2_with (first
    | (go_at_call 27; (with_reducible refine (specIsWord_rd u x _ _ (Rp.keep hx (by with_reducible repeat (first | exact Only.refl _ _ | assumption | refine Only.drewN ?_ _ | refine Only.drew ?_ | refine Only.alloc ?_ _ | refine Only.setCell ?_ (by intro hh; exfalso; simp at hh; try omega) _ | refine Only.trans ?_ (by assumption))))).mono ?_); rintro e w1 ⟨rfl, n1, rfl⟩)
    | (go_at_call 47; (with_reducible refine (isTableCount_rd v l _ _ (Rp.keep h (by with_reducible repeat (first | exact Only.refl _ _ | assumption | refine Only.drewN ?_ _ | refine Only.drew ?_ | refine Only.alloc ?_ _ | refine Only.setCell ?_ (by intro hh; exfalso; simp at hh; try omega) _ | refine Only.trans ?_ (by assumption))))).mono ?_); rintro e w9 ⟨rfl, rfl⟩)
    | (go_at_call 28; (with_reducible refine (copyInts_rd u x _ _ (Rp.keep hx (by with_reducible repeat (first | exact Only.refl _ _ | assumption | refine Only.drewN ?_ _ | refine Only.drew ?_ | refine Only.alloc ?_ _ | refine Only.setCell ?_ (by intro hh; exfalso; simp at hh; try omega) _ | refine Only.trans ?_ (by assumption)))) (by omega)).mono ?_); rintro e w2 ⟨v2, fp2, rfl, r2, F2, t2⟩; obtain ⟨A2, C2, _, _, rfl, -⟩ := r2.open_; have y2 := t2.cells_eq w.heap.size (by first | (simp; done) | (simp; omega)) (by simp); have z2 := t2.frozen_eq w.heap.size (by first | (simp; done) | (simp; omega)) (by simp); have s2 : w.heap.size < w2.heap.size := (by have := t2.size; first | omega | (simp at this; omega)))
    | (go_at_call 48; (with_reducible refine (copyTables_rd v l _ _ (Rp.keep h (by with_reducible repeat (first | exact Only.refl _ _ | assumption | refine Only.drewN ?_ _ | refine Only.drew ?_ | refine Only.alloc ?_ _ | refine Only.setCell ?_ (by intro hh; exfalso; simp at hh; try omega) _ | refine Only.trans ?_ (by assumption)))) hsm).mono ?_); rintro e w3 ⟨v3, fp3, rfl, r3, F3, t3⟩; obtain ⟨A3, C3, _, _, rfl, -⟩ := r3.open_; have y3 := t3.cells_eq w.heap.size (by simp; omega) (by simp); have z3 := t3.frozen_eq w.heap.size (by simp; omega) (by simp); have s3 : w2.heap.size < w3.heap.size := (by have := t3.size; simp at this; omega)))
  have HF := F2.mono (B' := w.heap.size) (by simp)
  have HG : ∀ b' ∈ fp3, w2.heap.size + 1 ≤ b' := fun b' hb => by have := F3.ge b' hb; simp at this; omega
  have HG2 : ∀ b' ∈ fp2, w.heap.size < b' := fun b' hb => by have := F2.ge b' hb; simp at this; omega
  have HL2 : ∀ b' ∈ fp2, b' < w2.heap.size := F2.lt
  obtain ⟨o1, o2⟩ := one_rd r2 22 w.heap.size HF (g := w2.heap.size) rfl (by omega)
  have hW : Only [w.heap.size] w3 ((((w3.setCell ⟨w.heap.size, 0, none⟩ (.int .i64 2)).setCell ⟨w.heap.size, 1, none⟩ (.slice none 0 0)).setCell ⟨w.heap.size, 2, none⟩ (.slice (some ⟨w2.heap.size, 0, none⟩) 1 1)).setCell ⟨w.heap.size, 3, none⟩ (.slice A3 l.length C3)) := (by with_reducible repeat (first | exact Only.refl _ _ | assumption | refine Only.drewN ?_ _ | refine Only.drew ?_ | refine Only.alloc ?_ _ | refine Only.setCell ?_ (by intro _; simp) _ | refine Only.trans ?_ (Only.weaken (by assumption) _)))
  have n1 := Rp.only (Rp.keep o1 t3) hW (fun b' hb hm => by
    simp at hm hb
    rcases hb with hb | hb
    · omega
    · have := HG2 b' hb; omega)
  have n2 := Rp.only r3 hW (fun b' hb hm => by have := HG b' hb; simp at hm; omega)
  have n3 := (Fresh.append (o2.keep t3) F3 (by simp; omega) (fun b' hb => by
    simp at hb ⊢
    rcases hb with hb | hb
    · omega
    · have := HL2 b' hb; omega)).only hW (fun b' hb hm => by
    simp at hm hb
    rcases hb with hb | hb | hb
    · omega
    · have := HG2 b' hb; omega
    · have := HG b' hb; omega)
  refine bodyPost_ret (v := .agg #[.int .i64 2, .slice none 0 0, .slice (some ⟨w2.heap.size, 0, none⟩) 1 1, .slice A3 l.length C3]) (by simp [results, Try.results25, go_sem, y3, y2, s2]) rfl ⟨[.int .i64 2, .slice none 0 0, .slice (some ⟨w2.heap.size, 0, none⟩) 1 1, .slice A3 l.length C3], _, rfl, ?_, n3, (by with_reducible repeat (first | exact Only.refl _ _ | assumption | refine Only.drewN ?_ _ | refine Only.drew ?_ | refine Only.alloc ?_ _ | refine Only.setCell ?_ (by intro hh; exfalso; simp at hh; try omega) _ | refine Only.trans ?_ (by assumption)))⟩
  rw [Hp.out]
  exact ⟨_, _, _, [], _, fp3, rfl, (by simp), ⟨by simp, by simp⟩, nil_rd _, n1, n2⟩
set_option maxHeartbeats 1000000 in
theorem implOpCert_rd (u : Value) (x : List Int) (fq : List Nat) (v : Value) (l : List Table) (fp : List Nat) (w : World) (hx : Rd w u x fq) (h : Rd w v l fp) (hsm : Sm.sm l) :
    Calls Try.prog 26 #[u, v] w fun e w' => ∃ cs fp', e = .returned (.agg cs.toArray) ∧ Rp.rep w' cs (opCert x l) fp' ∧ Fresh w.heap.size w' fp' ∧ Only [] w w' := by
  rcases hv : validW 8 x
  · have hp : opCert x l = noCert := by unfold opCert; rw [if_neg (by simp [hv])]
    have Hp := Lib.hid hp
    clear hp
    go_enter Try.func26, Try.ntmps26
    go_wp2_with ((go_at_call 29; (with_reducible refine (implIsWord_rd u x _ _ (Rp.keep hx (by with_reducible repeat (first | exact Only.refl _ _ | assumption | refine Only.drewN ?_ _ | refine Only.drew ?_ | refine Only.alloc ?_ _ | refine Only.setCell ?_ (by intro hh; exfalso; simp at hh; try omega) _ | refine Only.trans ?_ (by assumption))))).mono ?_); rintro e w1 ⟨rfl, t1⟩; have y1 := t1.cells_eq w.heap.size (by simp) (by simp); have z1 := t1.frozen_eq w.heap.size (by simp) (by simp); have s1 : w.heap.size < w1.heap.size := (by have := t1.size; simp at this; omega)))
    refine bodyPost_ret (v := .agg #[.int .i64 0, .slice none 0 0, .slice none 0 0, .slice none 0 0]) (by simp [results, Try.results26, go_sem, y1]) rfl ⟨[.int .i64 0, .slice none 0 0, .slice none 0 0, .slice none 0 0], [], rfl, ?_, Fresh.nil _ _, (by with_reducible repeat (first | exact Only.refl _ _ | assumption | refine Only.drewN ?_ _ | refine Only.drew ?_ | refine Only.alloc ?_ _ | refine Only.setCell ?_ (by intro hh; exfalso; simp at hh; try omega) _ | refine Only.trans ?_ (by assumption)))⟩
    rw [Hp.out]; exact noCert_rep _
  rcases hq : inR l.length 1 4
  · have hp : opCert x l = noCert := by unfold opCert; rw [if_neg (by simp [hq])]
    have Hp := Lib.hid hp
    clear hp
    go_enter Try.func26, Try.ntmps26
    go_wp2_with (first | (go_at_call 29; (with_reducible refine (implIsWord_rd u x _ _ (Rp.keep hx (by with_reducible repeat (first | exact Only.refl _ _ | assumption | refine Only.drewN ?_ _ | refine Only.drew ?_ | refine Only.alloc ?_ _ | refine Only.setCell ?_ (by intro hh; exfalso; simp at hh; try omega) _ | refine Only.trans ?_ (by assumption))))).mono ?_); rintro e w1 ⟨rfl, t1⟩; have y1 := t1.cells_eq w.heap.size (by simp) (by simp); have z1 := t1.frozen_eq w.heap.size (by simp) (by simp); have s1 : w.heap.size < w1.heap.size := (by have := t1.size; simp at this; omega)) | (first | (go_at_call 51; (with_reducible refine (lengthTable_rd v l _ _ (Rp.keep h (by with_reducible repeat (first | exact Only.refl _ _ | assumption | refine Only.drewN ?_ _ | refine Only.drew ?_ | refine Only.alloc ?_ _ | refine Only.setCell ?_ (by intro hh; exfalso; simp at hh; try omega) _ | refine Only.trans ?_ (by assumption))))).mono ?_); rintro e w9 ⟨rfl, rfl⟩) | (go_at_call 50; (with_reducible refine (within_any l.length 1 4 _).mono ?_); rintro e w9 ⟨rfl, rfl⟩)))
    refine bodyPost_ret (v := .agg #[.int .i64 0, .slice none 0 0, .slice none 0 0, .slice none 0 0]) (by simp [results, Try.results26, go_sem, y1]) rfl ⟨[.int .i64 0, .slice none 0 0, .slice none 0 0, .slice none 0 0], [], rfl, ?_, Fresh.nil _ _, (by with_reducible repeat (first | exact Only.refl _ _ | assumption | refine Only.drewN ?_ _ | refine Only.drew ?_ | refine Only.alloc ?_ _ | refine Only.setCell ?_ (by intro hh; exfalso; simp at hh; try omega) _ | refine Only.trans ?_ (by assumption)))⟩
    rw [Hp.out]; exact noCert_rep _
  have hp : opCert x l = ⟨2, [], [x], l⟩ := by unfold opCert; rw [if_pos ⟨hv, hq⟩]
  have Hp := Lib.hid hp
  have hlen := validW_len hv
  clear hp
  go_enter Try.func26, Try.ntmps26
  go_wp2_with (first
    | (go_at_call 29; (with_reducible refine (implIsWord_rd u x _ _ (Rp.keep hx (by with_reducible repeat (first | exact Only.refl _ _ | assumption | refine Only.drewN ?_ _ | refine Only.drew ?_ | refine Only.alloc ?_ _ | refine Only.setCell ?_ (by intro hh; exfalso; simp at hh; try omega) _ | refine Only.trans ?_ (by assumption))))).mono ?_); rintro e w1 ⟨rfl, t1⟩; have y1 := t1.cells_eq w.heap.size (by simp) (by simp); have z1 := t1.frozen_eq w.heap.size (by simp) (by simp); have s1 : w.heap.size < w1.heap.size := (by have := t1.size; simp at this; omega))
    | (first | (go_at_call 51; (with_reducible refine (lengthTable_rd v l _ _ (Rp.keep h (by with_reducible repeat (first | exact Only.refl _ _ | assumption | refine Only.drewN ?_ _ | refine Only.drew ?_ | refine Only.alloc ?_ _ | refine Only.setCell ?_ (by intro hh; exfalso; simp at hh; try omega) _ | refine Only.trans ?_ (by assumption))))).mono ?_); rintro e w9 ⟨rfl, rfl⟩) | (go_at_call 50; (with_reducible refine (within_any l.length 1 4 _).mono ?_); rintro e w9 ⟨rfl, rfl⟩))
    | (go_at_call 30; (with_reducible refine (Clone_rd u x _ _ (Rp.keep hx (by with_reducible repeat (first | exact Only.refl _ _ | assumption | refine Only.drewN ?_ _ | refine Only.drew ?_ | refine Only.alloc ?_ _ | refine Only.setCell ?_ (by intro hh; exfalso; simp at hh; try omega) _ | refine Only.trans ?_ (by assumption)))) (by omega)).mono ?_); rintro e w2 ⟨v2, fp2, rfl, r2, F2, t2⟩; obtain ⟨A2, C2, _, _, rfl, -⟩ := r2.open_; have y2 := t2.cells_eq w.heap.size s1 (by simp); have z2 := t2.frozen_eq w.heap.size s1 (by simp); have s2 : w.heap.size < w2.heap.size := (by have := t2.size; first | omega | (simp at this; omega)))
    | (go_at_call 52; (with_reducible refine (cloneTables_rd v l _ _ (Rp.keep h (by with_reducible repeat (first | exact Only.refl _ _ | assumption | refine Only.drewN ?_ _ | refine Only.drew ?_ | refine Only.alloc ?_ _ | refine Only.setCell ?_ (by intro hh; exfalso; simp at hh; try omega) _ | refine Only.trans ?_ (by assumption)))) hsm).mono ?_); rintro e w3 ⟨v3, fp3, rfl, r3, F3, t3⟩; obtain ⟨A3, C3, _, _, rfl, -⟩ := r3.open_; have y3 := t3.cells_eq w.heap.size (by simp; omega) (by simp); have z3 := t3.frozen_eq w.heap.size (by simp; omega) (by simp); have s3 : w2.heap.size < w3.heap.size := (by have := t3.size; simp at this; omega)))
  have HF := F2.mono (B' := w.heap.size) (by omega)
  have HG : ∀ b' ∈ fp3, w2.heap.size + 1 ≤ b' := fun b' hb => by have := F3.ge b' hb; simp at this; omega
  have HG2 : ∀ b' ∈ fp2, w.heap.size < b' := fun b' hb => by have := F2.ge b' hb; omega
  have HL2 : ∀ b' ∈ fp2, b' < w2.heap.size := F2.lt
  obtain ⟨o1, o2⟩ := one_rd r2 22 w.heap.size HF (g := w2.heap.size) rfl (by omega)
  have hW : Only [w.heap.size] w3 ((((w3.setCell ⟨w.heap.size, 0, none⟩ (.int .i64 2)).setCell ⟨w.heap.size, 1, none⟩ (.slice none 0 0)).setCell ⟨w.heap.size, 2, none⟩ (.slice (some ⟨w2.heap.size, 0, none⟩) 1 1)).setCell ⟨w.heap.size, 3, none⟩ (.slice A3 l.length C3)) := (by with_reducible repeat (first | exact Only.refl _ _ | assumption | refine Only.drewN ?_ _ | refine Only.drew ?_ | refine Only.alloc ?_ _ | refine Only.setCell ?_ (by intro _; simp) _ | refine Only.trans ?_ (Only.weaken (by assumption) _)))
  have n1 := Rp.only (Rp.keep o1 t3) hW (fun b' hb hm => by
    simp at hm hb
    rcases hb with hb | hb
    · omega
    · have := HG2 b' hb; omega)
  have n2 := Rp.only r3 hW (fun b' hb hm => by have := HG b' hb; simp at hm; omega)
  have n3 := (Fresh.append (o2.keep t3) F3 (by simp; omega) (fun b' hb => by
    simp at hb ⊢
    rcases hb with hb | hb
    · omega
    · have := HL2 b' hb; omega)).only hW (fun b' hb hm => by
    simp at hm hb
    rcases hb with hb | hb | hb
    · omega
    · have := HG2 b' hb; omega
    · have := HG b' hb; omega)
  refine bodyPost_ret (v := .agg #[.int .i64 2, .slice none 0 0, .slice (some ⟨w2.heap.size, 0, none⟩) 1 1, .slice A3 l.length C3]) (by simp [results, Try.results26, go_sem, y3, y2, y1, s2]) rfl ⟨[.int .i64 2, .slice none 0 0, .slice (some ⟨w2.heap.size, 0, none⟩) 1 1, .slice A3 l.length C3], _, rfl, ?_, n3, (by with_reducible repeat (first | exact Only.refl _ _ | assumption | refine Only.drewN ?_ _ | refine Only.drew ?_ | refine Only.alloc ?_ _ | refine Only.setCell ?_ (by intro hh; exfalso; simp at hh; try omega) _ | refine Only.trans ?_ (by assumption)))⟩
  rw [Hp.out]
  exact ⟨_, _, _, [], _, fp3, rfl, (by simp), ⟨by simp, by simp⟩, nil_rd _, n1, n2⟩
end Go.Proofs.Ytolapilacmgliaa
