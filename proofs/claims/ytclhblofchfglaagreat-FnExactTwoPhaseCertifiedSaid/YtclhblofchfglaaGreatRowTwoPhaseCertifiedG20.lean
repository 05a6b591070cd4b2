/- Certificate: plain data, how it lies in memory, the laws' own helpers on it. (Printed by gen_struct.py.) CheckCertificate, IsAcceptedCertificate: the reference's and the program's (laws 42, 43). (Printed by mkchk.py.) The certificate of a solution: the reference's and the program's. The certificates of a lower bound and of optimality: the reference's and the program's. The reference's tables: where a letter leads, the first letter of a descent. Certificates that are accepted: plain laws (laws 56, 57, 58). What the built tables hold, counted. BoundCertified: the reference's and the program's (law 40). (Printed by mkbnd.py.) What the engine's solvers return, in plain words (laws 41, 46, 51, 52, 56, 57, 58). The words of a method by the program (laws 41, 51, 57, 58). -/
import Derived.Test.YtclhblofchfglaaGreatRowTwoPhaseCertifiedG4
import Derived.Test.YtclhblofchfglaaGreatRowTwoPhaseCertifiedG19
import Derived.Deep.RegionHeld3
import Derived.Deep.RegionLaw
import Derived.Deep.RegionWith
import Derived.Deep.AppendLies
import Derived.Test.YtclhblofchfglaaGreatRowTwoPhaseCertifiedG3
import Derived.Test.YtclhblofchfglaaGreatRowTwoPhaseCertifiedG7
import Derived.Test.YtclhblofchfglaaGreatRowTwoPhaseCertifiedG9
import Derived.Test.YtclhblofchfglaaGreatRowTwoPhaseCertifiedG11
import Derived.Test.YtclhblofchfglaaGreatRowTwoPhaseCertifiedG10
namespace Go.Proofs.YtclhblofchfglaaGreat
open Go.RowKit
set_option maxRecDepth 10000

structure Certificate where
  kind : Int
  numbers : List Int
  words : List (List Int)
  tables : List Table

instance : Rp Certificate where
  size := 4
  rep w cs x fp := ∃ v1 v2 v3 f1 f2 f3, cs = [Value.int .i64 x.kind] ++ [v1] ++ [v2] ++ [v3] ∧ fp = f1 ++ (f2 ++ f3) ∧ I64 x.kind ∧ Rd w v1 x.numbers f1 ∧ Rd w v2 x.words f2 ∧ Rd w v3 x.tables f3
  len h := by
    obtain ⟨v1, v2, v3, f1, f2, f3, rfl, -, p0, h1, h2, h3⟩ := h
    rfl
  frame h hf := by
    obtain ⟨v1, v2, v3, f1, f2, f3, hcs, rfl, p0, h1, h2, h3⟩ := h
    exact ⟨v1, v2, v3, f1, f2, f3, hcs, rfl, p0, Rp.frame h1 fun b hb => hf b (by simp [hb]), Rp.frame h2 fun b hb => hf b (by simp [hb]), Rp.frame h3 fun b hb => hf b (by simp [hb])⟩
  lt h := by
    obtain ⟨v1, v2, v3, f1, f2, f3, hcs, rfl, p0, h1, h2, h3⟩ := h
    intro b hb
    simp only [List.mem_append] at hb
    rcases hb with hb | hb | hb
    · exact Rp.lt h1 b hb
    · exact Rp.lt h2 b hb
    · exact Rp.lt h3 b hb

instance : Mk Certificate where
  mark k x := ⟨x.kind, Mk.mark (k) x.numbers, Mk.mark (k + (Mk.cnt x.numbers : Nat)) x.words, Mk.mark (k + (Mk.cnt x.numbers : Nat) + (Mk.cnt x.words : Nat)) x.tables⟩
  cnt x := Mk.cnt x.numbers + Mk.cnt x.words + Mk.cnt x.tables
instance : Sz Certificate where
  sz x := Sz.sz x.numbers + Sz.sz x.words + Sz.sz x.tables
instance : Sm Certificate where
  sm x := Sm.sm x.numbers ∧ Sm.sm x.words ∧ Sm.sm x.tables
instance : SzSm Certificate := ⟨fun x h => by
  have h' : Sz.sz x.numbers + Sz.sz x.words + Sz.sz x.tables ≤ 2097152 := h
  exact ⟨SzSm.of_ _ (by omega), SzSm.of_ _ (by omega), SzSm.of_ _ (by omega)⟩⟩
instance : CntSz Certificate := ⟨fun x => by
  have h' : Mk.cnt x.numbers + Mk.cnt x.words + Mk.cnt x.tables ≤ Sz.sz x.numbers + Sz.sz x.words + Sz.sz x.tables := by have := CntSz.le x.numbers; have := CntSz.le x.words; have := CntSz.le x.tables; omega
  exact h'⟩
instance : MkL Certificate := ⟨fun k x => by simp [Mk.mark, Mk.cnt, markL_idem, markL_cnt], fun k x => by simp [Mk.mark, Mk.cnt, markL_cnt]⟩
theorem Certificate.eq_iff {x y : Certificate} : x = y ↔ x.kind = y.kind ∧ x.numbers = y.numbers ∧ x.words = y.words ∧ x.tables = y.tables := by
  cases x; cases y; simp

set_option maxHeartbeats 1000000 in
theorem eqCertificate_any (cs cs' : List Value) (x y : Certificate) (fp fp' : List Nat) (w : World) (h : Rp.rep w cs x fp) (h' : Rp.rep w cs' y fp') :
    Calls Tryz.prog 14 #[.agg cs.toArray, .agg cs'.toArray] w fun e w' => e = .returned (.bool (eqV x y)) ∧ Only [] w w' := by
  obtain ⟨v1, v2, v3, f1, f2, f3, rfl, rfl, p0, h1, h2, h3⟩ := h
  obtain ⟨v1', v2', v3', f1', f2', f3', rfl, rfl, p0', h1', h2', h3'⟩ := h'
  by_cases q0 : x.kind ≠ y.kind
  · have b0 : (x.kind != y.kind) = true := by simpa using q0
    go_enter Tryz.func14, Tryz.ntmps14
    go_wp2_with (first | (go_at_call 17; (with_reducible refine (eqInt64S_rd v1 v1' x.numbers y.numbers _ _ _ (Rp.keep h1 (by with_reducible repeat (first | exact Only.refl _ _ | assumption | refine Only.drewN ?_ _ | refine Only.drew ?_ | refine Only.alloc ?_ _ | refine Only.setCell ?_ (by intro hh; exfalso; simp at hh; try omega) _ | refine Only.trans ?_ (by assumption)))) (Rp.keep h1' (by with_reducible repeat (first | exact Only.refl _ _ | assumption | refine Only.drewN ?_ _ | refine Only.drew ?_ | refine Only.alloc ?_ _ | refine Only.setCell ?_ (by intro hh; exfalso; simp at hh; try omega) _ | refine Only.trans ?_ (by assumption))))).mono ?_); rintro e w1 ⟨rfl, n1, rfl⟩) | (go_at_call 16; (with_reducible refine (eqInt64SS_rd v2 v2' x.words y.words _ _ _ (Rp.keep h2 (by with_reducible repeat (first | exact Only.refl _ _ | assumption | refine Only.drewN ?_ _ | refine Only.drew ?_ | refine Only.alloc ?_ _ | refine Only.setCell ?_ (by intro hh; exfalso; simp at hh; try omega) _ | refine Only.trans ?_ (by assumption)))) (Rp.keep h2' (by with_reducible repeat (first | exact Only.refl _ _ | assumption | refine Only.drewN ?_ _ | refine Only.drew ?_ | refine Only.alloc ?_ _ | refine Only.setCell ?_ (by intro hh; exfalso; simp at hh; try omega) _ | refine Only.trans ?_ (by assumption))))).mono ?_); rintro e w2 ⟨rfl, n2, rfl⟩) | (go_at_call 36; (with_reducible refine (eqTableS_rd v3 v3' x.tables y.tables _ _ _ (Rp.keep h3 (by with_reducible repeat (first | exact Only.refl _ _ | assumption | refine Only.drewN ?_ _ | refine Only.drew ?_ | refine Only.alloc ?_ _ | refine Only.setCell ?_ (by intro hh; exfalso; simp at hh; try omega) _ | refine Only.trans ?_ (by assumption)))) (Rp.keep h3' (by with_reducible repeat (first | exact Only.refl _ _ | assumption | refine Only.drewN ?_ _ | refine Only.drew ?_ | refine Only.alloc ?_ _ | refine Only.setCell ?_ (by intro hh; exfalso; simp at hh; try omega) _ | refine Only.trans ?_ (by assumption))))).mono ?_); rintro e w3 ⟨rfl, hk3⟩))
    go_ret
    exact ⟨ret_bool (eqV_no (fun he => q0 (Certificate.eq_iff.1 he).1)).symm, (by with_reducible repeat (first | exact Only.refl _ _ | assumption | refine Only.drewN ?_ _ | refine Only.drew ?_ | refine Only.alloc ?_ _ | refine Only.setCell ?_ (by intro hh; exfalso; simp at hh; try omega) _ | refine Only.trans ?_ (by assumption)))⟩
  have q0 : x.kind = y.kind := Classical.not_not.1 q0
  have b0 : (x.kind != y.kind) = false := by simpa using q0
  have Q0 := Lib.hid q0
  clear q0
  rcases q1 : eqV x.numbers y.numbers
  · go_enter Tryz.func14, Tryz.ntmps14
    go_wp2_with (first | (go_at_call 17; (with_reducible refine (eqInt64S_rd v1 v1' x.numbers y.numbers _ _ _ (Rp.keep h1 (by with_reducible repeat (first | exact Only.refl _ _ | assumption | refine Only.drewN ?_ _ | refine Only.drew ?_ | refine Only.alloc ?_ _ | refine Only.setCell ?_ (by intro hh; exfalso; simp at hh; try omega) _ | refine Only.trans ?_ (by assumption)))) (Rp.keep h1' (by with_reducible repeat (first | exact Only.refl _ _ | assumption | refine Only.drewN ?_ _ | refine Only.drew ?_ | refine Only.alloc ?_ _ | refine Only.setCell ?_ (by intro hh; exfalso; simp at hh; try omega) _ | refine Only.trans ?_ (by assumption))))).mono ?_); rintro e w1 ⟨rfl, n1, rfl⟩) | (go_at_call 16; (with_reducible refine (eqInt64SS_rd v2 v2' x.words y.words _ _ _ (Rp.keep h2 (by with_reducible repeat (first | exact Only.refl _ _ | assumption | refine Only.drewN ?_ _ | refine Only.drew ?_ | refine Only.alloc ?_ _ | refine Only.setCell ?_ (by intro hh; exfalso; simp at hh; try omega) _ | refine Only.trans ?_ (by assumption)))) (Rp.keep h2' (by with_reducible repeat (first | exact Only.refl _ _ | assumption | refine Only.drewN ?_ _ | refine Only.drew ?_ | refine Only.alloc ?_ _ | refine Only.setCell ?_ (by intro hh; exfalso; simp at hh; try omega) _ | refine Only.trans ?_ (by assumption))))).mono ?_); rintro e w2 ⟨rfl, n2, rfl⟩) | (go_at_call 36; (with_reducible refine (eqTableS_rd v3 v3' x.tables y.tables _ _ _ (Rp.keep h3 (by with_reducible repeat (first | exact Only.refl _ _ | assumption | refine Only.drewN ?_ _ | refine Only.drew ?_ | refine Only.alloc ?_ _ | refine Only.setCell ?_ (by intro hh; exfalso; simp at hh; try omega) _ | refine Only.trans ?_ (by assumption)))) (Rp.keep h3' (by with_reducible repeat (first | exact Only.refl _ _ | assumption | refine Only.drewN ?_ _ | refine Only.drew ?_ | refine Only.alloc ?_ _ | refine Only.setCell ?_ (by intro hh; exfalso; simp at hh; try omega) _ | refine Only.trans ?_ (by assumption))))).mono ?_); rintro e w3 ⟨rfl, hk3⟩))
    go_ret
    exact ⟨ret_bool (eqV_no (fun he => (eqV_iff'.1 q1) (Certificate.eq_iff.1 he).2.1)).symm, (by with_reducible repeat (first | exact Only.refl _ _ | assumption | refine Only.drewN ?_ _ | refine Only.drew ?_ | refine Only.alloc ?_ _ | refine Only.setCell ?_ (by intro hh; exfalso; simp at hh; try omega) _ | refine Only.trans ?_ (by assumption)))⟩
  rcases q2 : eqV x.words y.words
  · go_enter Tryz.func14, Tryz.ntmps14
    go_wp2_with (first | (go_at_call 17; (with_reducible refine (eqInt64S_rd v1 v1' x.numbers y.numbers _ _ _ (Rp.keep h1 (by with_reducible repeat (first | exact Only.refl _ _ | assumption | refine Only.drewN ?_ _ | refine Only.drew ?_ | refine Only.alloc ?_ _ | refine Only.setCell ?_ (by intro hh; exfalso; simp at hh; try omega) _ | refine Only.trans ?_ (by assumption)))) (Rp.keep h1' (by with_reducible repeat (first | exact Only.refl _ _ | assumption | refine Only.drewN ?_ _ | refine Only.drew ?_ | refine Only.alloc ?_ _ | refine Only.setCell ?_ (by intro hh; exfalso; simp at hh; try omega) _ | refine Only.trans ?_ (by assumption))))).mono ?_); rintro e w1 ⟨rfl, n1, rfl⟩) | (go_at_call 16; (with_reducible refine (eqInt64SS_rd v2 v2' x.words y.words _ _ _ (Rp.keep h2 (by with_reducible repeat (first | exact Only.refl _ _ | assumption | refine Only.drewN ?_ _ | refine Only.drew ?_ | refine Only.alloc ?_ _ | refine Only.setCell ?_ (by intro hh; exfalso; simp at hh; try omega) _ | refine Only.trans ?_ (by assumption)))) (Rp.keep h2' (by with_reducible repeat (first | exact Only.refl _ _ | assumption | refine Only.drewN ?_ _ | refine Only.drew ?_ | refine Only.alloc ?_ _ | refine Only.setCell ?_ (by intro hh; exfalso; simp at hh; try omega) _ | refine Only.trans ?_ (by assumption))))).mono ?_); rintro e w2 ⟨rfl, n2, rfl⟩) | (go_at_call 36; (with_reducible refine (eqTableS_rd v3 v3' x.tables y.tables _ _ _ (Rp.keep h3 (by with_reducible repeat (first | exact Only.refl _ _ | assumption | refine Only.drewN ?_ _ | refine Only.drew ?_ | refine Only.alloc ?_ _ | refine Only.setCell ?_ (by intro hh; exfalso; simp at hh; try omega) _ | refine Only.trans ?_ (by assumption)))) (Rp.keep h3' (by with_reducible repeat (first | exact Only.refl _ _ | assumption | refine Only.drewN ?_ _ | refine Only.drew ?_ | refine Only.alloc ?_ _ | refine Only.setCell ?_ (by intro hh; exfalso; simp at hh; try omega) _ | refine Only.trans ?_ (by assumption))))).mono ?_); rintro e w3 ⟨rfl, hk3⟩))
    go_ret
    exact ⟨ret_bool (eqV_no (fun he => (eqV_iff'.1 q2) (Certificate.eq_iff.1 he).2.2.1)).symm, (by with_reducible repeat (first | exact Only.refl _ _ | assumption | refine Only.drewN ?_ _ | refine Only.drew ?_ | refine Only.alloc ?_ _ | refine Only.setCell ?_ (by intro hh; exfalso; simp at hh; try omega) _ | refine Only.trans ?_ (by assumption)))⟩
  rcases q3 : eqV x.tables y.tables
  · go_enter Tryz.func14, Tryz.ntmps14
    go_wp2_with (first | (go_at_call 17; (with_reducible refine (eqInt64S_rd v1 v1' x.numbers y.numbers _ _ _ (Rp.keep h1 (by with_reducible repeat (first | exact Only.refl _ _ | assumption | refine Only.drewN ?_ _ | refine Only.drew ?_ | refine Only.alloc ?_ _ | refine Only.setCell ?_ (by intro hh; exfalso; simp at hh; try omega) _ | refine Only.trans ?_ (by assumption)))) (Rp.keep h1' (by with_reducible repeat (first | exact Only.refl _ _ | assumption | refine Only.drewN ?_ _ | refine Only.drew ?_ | refine Only.alloc ?_ _ | refine Only.setCell ?_ (by intro hh; exfalso; simp at hh; try omega) _ | refine Only.trans ?_ (by assumption))))).mono ?_); rintro e w1 ⟨rfl, n1, rfl⟩) | (go_at_call 16; (with_reducible refine (eqInt64SS_rd v2 v2' x.words y.words _ _ _ (Rp.keep h2 (by with_reducible repeat (first | exact Only.refl _ _ | assumption | refine Only.drewN ?_ _ | refine Only.drew ?_ | refine Only.alloc ?_ _ | refine Only.setCell ?_ (by intro hh; exfalso; simp at hh; try omega) _ | refine Only.trans ?_ (by assumption)))) (Rp.keep h2' (by with_reducible repeat (first | exact Only.refl _ _ | assumption | refine Only.drewN ?_ _ | refine Only.drew ?_ | refine Only.alloc ?_ _ | refine Only.setCell ?_ (by intro hh; exfalso; simp at hh; try omega) _ | refine Only.trans ?_ (by assumption))))).mono ?_); rintro e w2 ⟨rfl, n2, rfl⟩) | (go_at_call 36; (with_reducible refine (eqTableS_rd v3 v3' x.tables y.tables _ _ _ (Rp.keep h3 (by with_reducible repeat (first | exact Only.refl _ _ | assumption | refine Only.drewN ?_ _ | refine Only.drew ?_ | refine Only.alloc ?_ _ | refine Only.setCell ?_ (by intro hh; exfalso; simp at hh; try omega) _ | refine Only.trans ?_ (by assumption)))) (Rp.keep h3' (by with_reducible repeat (first | exact Only.refl _ _ | assumption | refine Only.drewN ?_ _ | refine Only.drew ?_ | refine Only.alloc ?_ _ | refine Only.setCell ?_ (by intro hh; exfalso; simp at hh; try omega) _ | refine Only.trans ?_ (by assumption))))).mono ?_); rintro e w3 ⟨rfl, hk3⟩))
    go_ret
    exact ⟨ret_bool (eqV_no (fun he => (eqV_iff'.1 q3) (Certificate.eq_iff.1 he).2.2.2)).symm, (by with_reducible repeat (first | exact Only.refl _ _ | assumption | refine Only.drewN ?_ _ | refine Only.drew ?_ | refine Only.alloc ?_ _ | refine Only.setCell ?_ (by intro hh; exfalso; simp at hh; try omega) _ | refine Only.trans ?_ (by assumption)))⟩
  go_enter Tryz.func14, Tryz.ntmps14
  go_wp2_with (first | (go_at_call 17; (with_reducible refine (eqInt64S_rd v1 v1' x.numbers y.numbers _ _ _ (Rp.keep h1 (by with_reducible repeat (first | exact Only.refl _ _ | assumption | refine Only.drewN ?_ _ | refine Only.drew ?_ | refine Only.alloc ?_ _ | refine Only.setCell ?_ (by intro hh; exfalso; simp at hh; try omega) _ | refine Only.trans ?_ (by assumption)))) (Rp.keep h1' (by with_reducible repeat (first | exact Only.refl _ _ | assumption | refine Only.drewN ?_ _ | refine Only.drew ?_ | refine Only.alloc ?_ _ | refine Only.setCell ?_ (by intro hh; exfalso; simp at hh; try omega) _ | refine Only.trans ?_ (by assumption))))).mono ?_); rintro e w1 ⟨rfl, n1, rfl⟩) | (go_at_call 16; (with_reducible refine (eqInt64SS_rd v2 v2' x.words y.words _ _ _ (Rp.keep h2 (by with_reducible repeat (first | exact Only.refl _ _ | assumption | refine Only.drewN ?_ _ | refine Only.drew ?_ | refine Only.alloc ?_ _ | refine Only.setCell ?_ (by intro hh; exfalso; simp at hh; try omega) _ | refine Only.trans ?_ (by assumption)))) (Rp.keep h2' (by with_reducible repeat (first | exact Only.refl _ _ | assumption | refine Only.drewN ?_ _ | refine Only.drew ?_ | refine Only.alloc ?_ _ | refine Only.setCell ?_ (by intro hh; exfalso; simp at hh; try omega) _ | refine Only.trans ?_ (by assumption))))).mono ?_); rintro e w2 ⟨rfl, n2, rfl⟩) | (go_at_call 36; (with_reducible refine (eqTableS_rd v3 v3' x.tables y.tables _ _ _ (Rp.keep h3 (by with_reducible repeat (first | exact Only.refl _ _ | assumption | refine Only.drewN ?_ _ | refine Only.drew ?_ | refine Only.alloc ?_ _ | refine Only.setCell ?_ (by intro hh; exfalso; simp at hh; try omega) _ | refine Only.trans ?_ (by assumption)))) (Rp.keep h3' (by with_reducible repeat (first | exact Only.refl _ _ | assumption | refine Only.drewN ?_ _ | refine Only.drew ?_ | refine Only.alloc ?_ _ | refine Only.setCell ?_ (by intro hh; exfalso; simp at hh; try omega) _ | refine Only.trans ?_ (by assumption))))).mono ?_); rintro e w3 ⟨rfl, hk3⟩))
  go_ret
  exact ⟨ret_bool (eqV_yes (Certificate.eq_iff.2 ⟨Q0.out, eqV_iff.1 q1, eqV_iff.1 q2, eqV_iff.1 q3⟩)).symm, (by with_reducible repeat (first | exact Only.refl _ _ | assumption | refine Only.drewN ?_ _ | refine Only.drew ?_ | refine Only.alloc ?_ _ | refine Only.setCell ?_ (by intro hh; exfalso; simp at hh; try omega) _ | refine Only.trans ?_ (by assumption)))⟩

set_option maxHeartbeats 1000000 in
theorem heldCertificate_any (cs : List Value) (x : Certificate) (fp : List Nat) (k : Int) (w : World) (h : Rp.rep w cs x fp) (h0 : 0 ≤ k) (hc : k + (Mk.cnt x : Nat) ≤ 4611686018427387904) :
    Calls Tryz.prog 22 #[.agg cs.toArray, .int .i64 k] w fun e w' => e = .returned (.int .i64 (heldV k x)) ∧ Only [] w w' := by
  obtain ⟨v1, v2, v3, f1, f2, f3, rfl, rfl, p0, h1, h2, h3⟩ := h
  have hcc : Mk.cnt x = Mk.cnt x.numbers + Mk.cnt x.words + Mk.cnt x.tables := rfl
  have Hcc := Lib.hid hcc; clear hcc
  have hb1 : k + (Mk.cnt x.numbers : Nat) ≤ 4611686018427387904 := by have := Hcc.out; omega
  have hb2 : k + (Mk.cnt x.numbers : Nat) + (Mk.cnt x.words : Nat) ≤ 4611686018427387904 := by have := Hcc.out; omega
  have hb3 : k + (Mk.cnt x.numbers : Nat) + (Mk.cnt x.words : Nat) + (Mk.cnt x.tables : Nat) ≤ 4611686018427387904 := by have := Hcc.out; omega
  have hiff : x = Mk.mark k x ↔ x.numbers = Mk.mark (k) x.numbers ∧ x.words = Mk.mark (k + (Mk.cnt x.numbers : Nat)) x.words ∧ x.tables = Mk.mark (k + (Mk.cnt x.numbers : Nat) + (Mk.cnt x.words : Nat)) x.tables := by
    rw [Certificate.eq_iff]; simp [Mk.mark]
  have Hiff := Lib.hid hiff; clear hiff
  rcases heldV_pos (k) x.numbers with ⟨e1, m1⟩ | ⟨e1, m1⟩
  · have M1 := Lib.hid m1; clear m1
    go_enter Tryz.func22, Tryz.ntmps22
    go_wp2_with (first | (go_at_call 27; (with_reducible refine (heldInt64S_rd v1 x.numbers _ (k) _ (Rp.keep h1 (by with_reducible repeat (first | exact Only.refl _ _ | assumption | refine Only.drewN ?_ _ | refine Only.drew ?_ | refine Only.alloc ?_ _ | refine Only.setCell ?_ (by intro hh; exfalso; simp at hh; try omega) _ | refine Only.trans ?_ (by assumption)))) (by omega) hb1).mono ?_); rintro e w1 ⟨rfl, n1, rfl⟩) | (go_at_call 38; (with_reducible refine (heldInt64SS_rd v2 x.words _ (k + (Mk.cnt x.numbers : Nat)) _ (Rp.keep h2 (by with_reducible repeat (first | exact Only.refl _ _ | assumption | refine Only.drewN ?_ _ | refine Only.drew ?_ | refine Only.alloc ?_ _ | refine Only.setCell ?_ (by intro hh; exfalso; simp at hh; try omega) _ | refine Only.trans ?_ (by assumption)))) (by omega) hb2).mono ?_); rintro e w2 ⟨rfl, n2, rfl⟩) | (go_at_call 39; (with_reducible refine (heldTableS_rd v3 x.tables _ (k + (Mk.cnt x.numbers : Nat) + (Mk.cnt x.words : Nat)) _ (Rp.keep h3 (by with_reducible repeat (first | exact Only.refl _ _ | assumption | refine Only.drewN ?_ _ | refine Only.drew ?_ | refine Only.alloc ?_ _ | refine Only.setCell ?_ (by intro hh; exfalso; simp at hh; try omega) _ | refine Only.trans ?_ (by assumption)))) (by omega) hb3).mono ?_); rintro e w3 ⟨rfl, hk3⟩))
    go_ret
    exact ⟨ret_int (heldV_no (fun he => M1.out (Hiff.out.1 he).1)).symm, (by with_reducible repeat (first | exact Only.refl _ _ | assumption | refine Only.drewN ?_ _ | refine Only.drew ?_ | refine Only.alloc ?_ _ | refine Only.setCell ?_ (by intro hh; exfalso; simp at hh; try omega) _ | refine Only.trans ?_ (by assumption)))⟩
  have M1 := Lib.hid m1; clear m1
  rcases heldV_pos (k + (Mk.cnt x.numbers : Nat)) x.words with ⟨e2, m2⟩ | ⟨e2, m2⟩
  · have M2 := Lib.hid m2; clear m2
    go_enter Tryz.func22, Tryz.ntmps22
    go_wp2_with (first | (go_at_call 27; (with_reducible refine (heldInt64S_rd v1 x.numbers _ (k) _ (Rp.keep h1 (by with_reducible repeat (first | exact Only.refl _ _ | assumption | refine Only.drewN ?_ _ | refine Only.drew ?_ | refine Only.alloc ?_ _ | refine Only.setCell ?_ (by intro hh; exfalso; simp at hh; try omega) _ | refine Only.trans ?_ (by assumption)))) (by omega) hb1).mono ?_); rintro e w1 ⟨rfl, n1, rfl⟩) | (go_at_call 38; (with_reducible refine (heldInt64SS_rd v2 x.words _ (k + (Mk.cnt x.numbers : Nat)) _ (Rp.keep h2 (by with_reducible repeat (first | exact Only.refl _ _ | assumption | refine Only.drewN ?_ _ | refine Only.drew ?_ | refine Only.alloc ?_ _ | refine Only.setCell ?_ (by intro hh; exfalso; simp at hh; try omega) _ | refine Only.trans ?_ (by assumption)))) (by omega) hb2).mono ?_); rintro e w2 ⟨rfl, n2, rfl⟩) | (go_at_call 39; (with_reducible refine (heldTableS_rd v3 x.tables _ (k + (Mk.cnt x.numbers : Nat) + (Mk.cnt x.words : Nat)) _ (Rp.keep h3 (by with_reducible repeat (first | exact Only.refl _ _ | assumption | refine Only.drewN ?_ _ | refine Only.drew ?_ | refine Only.alloc ?_ _ | refine Only.setCell ?_ (by intro hh; exfalso; simp at hh; try omega) _ | refine Only.trans ?_ (by assumption)))) (by omega) hb3).mono ?_); rintro e w3 ⟨rfl, hk3⟩))
    go_ret
    exact ⟨ret_int (heldV_no (fun he => M2.out (Hiff.out.1 he).2.1)).symm, (by with_reducible repeat (first | exact Only.refl _ _ | assumption | refine Only.drewN ?_ _ | refine Only.drew ?_ | refine Only.alloc ?_ _ | refine Only.setCell ?_ (by intro hh; exfalso; simp at hh; try omega) _ | refine Only.trans ?_ (by assumption)))⟩
  have M2 := Lib.hid m2; clear m2
  rcases heldV_pos (k + (Mk.cnt x.numbers : Nat) + (Mk.cnt x.words : Nat)) x.tables with ⟨e3, m3⟩ | ⟨e3, m3⟩
  · have M3 := Lib.hid m3; clear m3
    go_enter Tryz.func22, Tryz.ntmps22
    go_wp2_with (first | (go_at_call 27; (with_reducible refine (heldInt64S_rd v1 x.numbers _ (k) _ (Rp.keep h1 (by with_reducible repeat (first | exact Only.refl _ _ | assumption | refine Only.drewN ?_ _ | refine Only.drew ?_ | refine Only.alloc ?_ _ | refine Only.setCell ?_ (by intro hh; exfalso; simp at hh; try omega) _ | refine Only.trans ?_ (by assumption)))) (by omega) hb1).mono ?_); rintro e w1 ⟨rfl, n1, rfl⟩) | (go_at_call 38; (with_reducible refine (heldInt64SS_rd v2 x.words _ (k + (Mk.cnt x.numbers : Nat)) _ (Rp.keep h2 (by with_reducible repeat (first | exact Only.refl _ _ | assumption | refine Only.drewN ?_ _ | refine Only.drew ?_ | refine Only.alloc ?_ _ | refine Only.setCell ?_ (by intro hh; exfalso; simp at hh; try omega) _ | refine Only.trans ?_ (by assumption)))) (by omega) hb2).mono ?_); rintro e w2 ⟨rfl, n2, rfl⟩) | (go_at_call 39; (with_reducible refine (heldTableS_rd v3 x.tables _ (k + (Mk.cnt x.numbers : Nat) + (Mk.cnt x.words : Nat)) _ (Rp.keep h3 (by with_reducible repeat (first | exact Only.refl _ _ | assumption | refine Only.drewN ?_ _ | refine Only.drew ?_ | refine Only.alloc ?_ _ | refine Only.setCell ?_ (by intro hh; exfalso; simp at hh; try omega) _ | refine Only.trans ?_ (by assumption)))) (by omega) hb3).mono ?_); rintro e w3 ⟨rfl, hk3⟩))
    go_ret
    exact ⟨ret_int (heldV_no (fun he => M3.out (Hiff.out.1 he).2.2)).symm, (by with_reducible repeat (first | exact Only.refl _ _ | assumption | refine Only.drewN ?_ _ | refine Only.drew ?_ | refine Only.alloc ?_ _ | refine Only.setCell ?_ (by intro hh; exfalso; simp at hh; try omega) _ | refine Only.trans ?_ (by assumption)))⟩
  have M3 := Lib.hid m3; clear m3
  go_enter Tryz.func22, Tryz.ntmps22
  go_wp2_with (first | (go_at_call 27; (with_reducible refine (heldInt64S_rd v1 x.numbers _ (k) _ (Rp.keep h1 (by with_reducible repeat (first | exact Only.refl _ _ | assumption | refine Only.drewN ?_ _ | refine Only.drew ?_ | refine Only.alloc ?_ _ | refine Only.setCell ?_ (by intro hh; exfalso; simp at hh; try omega) _ | refine Only.trans ?_ (by assumption)))) (by omega) hb1).mono ?_); rintro e w1 ⟨rfl, n1, rfl⟩) | (go_at_call 38; (with_reducible refine (heldInt64SS_rd v2 x.words _ (k + (Mk.cnt x.numbers : Nat)) _ (Rp.keep h2 (by with_reducible repeat (first | exact Only.refl _ _ | assumption | refine Only.drewN ?_ _ | refine Only.drew ?_ | refine Only.alloc ?_ _ | refine Only.setCell ?_ (by intro hh; exfalso; simp at hh; try omega) _ | refine Only.trans ?_ (by assumption)))) (by omega) hb2).mono ?_); rintro e w2 ⟨rfl, n2, rfl⟩) | (go_at_call 39; (with_reducible refine (heldTableS_rd v3 x.tables _ (k + (Mk.cnt x.numbers : Nat) + (Mk.cnt x.words : Nat)) _ (Rp.keep h3 (by with_reducible repeat (first | exact Only.refl _ _ | assumption | refine Only.drewN ?_ _ | refine Only.drew ?_ | refine Only.alloc ?_ _ | refine Only.setCell ?_ (by intro hh; exfalso; simp at hh; try omega) _ | refine Only.trans ?_ (by assumption)))) (by omega) hb3).mono ?_); rintro e w3 ⟨rfl, hk3⟩))
  go_ret
  exact ⟨ret_int (by rw [heldV_yes (Hiff.out.2 ⟨M1.out, M2.out, M3.out⟩)]; have := Hcc.out; omega), (by with_reducible repeat (first | exact Only.refl _ _ | assumption | refine Only.drewN ?_ _ | refine Only.drew ?_ | refine Only.alloc ?_ _ | refine Only.setCell ?_ (by intro hh; exfalso; simp at hh; try omega) _ | refine Only.trans ?_ (by assumption)))⟩


set_option maxHeartbeats 1000000 in
theorem markCertificate_any (cs : List Value) (x : Certificate) (fp : List Nat) (k : Int) (w : World) (h : Rp.rep w cs x fp) (hnd : fp.Nodup) (ho : Own w fp) (h0 : 0 ≤ k) (hc : k + (Mk.cnt x : Nat) ≤ 4611686018427387904) :
    Calls Tryz.prog 21 #[.agg cs.toArray, .int .i64 k] w fun e w' => e = .returned (.int .i64 (k + (Mk.cnt x : Nat))) ∧ Rp.rep w' cs (Mk.mark k x) fp ∧ Own w' fp ∧ Only fp w w' := by
  obtain ⟨v1, v2, v3, f1, f2, f3, rfl, rfl, p0, h1, h2, h3⟩ := h
  have hcc : Mk.cnt x = Mk.cnt x.numbers + Mk.cnt x.words + Mk.cnt x.tables := rfl
  have Hcc := Lib.hid hcc; clear hcc
  have hb1 : k + (Mk.cnt x.numbers : Nat) ≤ 4611686018427387904 := by have := Hcc.out; omega
  have hb2 : k + (Mk.cnt x.numbers : Nat) + (Mk.cnt x.words : Nat) ≤ 4611686018427387904 := by have := Hcc.out; omega
  have hb3 : k + (Mk.cnt x.numbers : Nat) + (Mk.cnt x.words : Nat) + (Mk.cnt x.tables : Nat) ≤ 4611686018427387904 := by have := Hcc.out; omega
  obtain ⟨n1, m1, d1, e1⟩ := nd_app hnd
  obtain ⟨n2, n3, d2, e2⟩ := nd_app m1
  have D12 : ∀ z ∈ f1, z ∉ f2 := (fun z hz hm => d1 z hz (List.mem_append_left _ hm))
  have D13 : ∀ z ∈ f1, z ∉ f3 := (fun z hz hm => d1 z hz (List.mem_append_right _ hm))
  have D21 : ∀ z ∈ f2, z ∉ f1 := (fun z hz hm => e1 z (List.mem_append_left _ hz) hm)
  have D23 : ∀ z ∈ f2, z ∉ f3 := (fun z hz hm => d2 z hz hm)
  have D31 : ∀ z ∈ f3, z ∉ f1 := (fun z hz hm => e1 z (List.mem_append_right _ hz) hm)
  have D32 : ∀ z ∈ f3, z ∉ f2 := (fun z hz hm => e2 z hz hm)
  have l1 := Rp.lt h1
  have l2 := Rp.lt h2
  have l3 := Rp.lt h3
  go_enter Tryz.func21, Tryz.ntmps21
  go_wp2_with (first | (go_at_call 20; (with_reducible refine (markInt64S_rd v1 x.numbers f1 (k) _ (Rp.keep h1 (by with_reducible repeat (first | exact Only.refl _ _ | assumption | refine Only.drewN ?_ _ | refine Only.drew ?_ | refine Only.alloc ?_ _ | refine Only.setCell ?_ (by intro hh; exfalso; simp at hh; try omega) _ | refine Only.trans ?_ (by assumption)))) (ho.left.keep (by with_reducible repeat (first | exact Only.refl _ _ | assumption | refine Only.drewN ?_ _ | refine Only.drew ?_ | refine Only.alloc ?_ _ | refine Only.setCell ?_ (by intro hh; exfalso; simp at hh; try omega) _ | refine Only.trans ?_ (by assumption)))) (by omega) hb1).mono ?_); rintro e w1 ⟨rfl, r1, o1, t1⟩; have s1 : w.heap.size < w1.heap.size := (Nat.lt_of_lt_of_le (by simp) t1.size); have q1 := t1.cells_eq w.heap.size (by simp) (fun hm => absurd (l1 _ hm) (by omega))) | (go_at_call 19; (with_reducible refine (markInt64SS_rd v2 x.words f2 (k + (Mk.cnt x.numbers : Nat)) _ (Rp.only (Rp.keep h2 (by with_reducible repeat (first | exact Only.refl _ _ | assumption | refine Only.drewN ?_ _ | refine Only.drew ?_ | refine Only.alloc ?_ _ | refine Only.setCell ?_ (by intro hh; exfalso; simp at hh; try omega) _ | refine Only.trans ?_ (by assumption)))) t1 D21) n2 ((ho.right.left.keep (by with_reducible repeat (first | exact Only.refl _ _ | assumption | refine Only.drewN ?_ _ | refine Only.drew ?_ | refine Only.alloc ?_ _ | refine Only.setCell ?_ (by intro hh; exfalso; simp at hh; try omega) _ | refine Only.trans ?_ (by assumption)))).only t1 D21) (by omega) hb2).mono ?_); rintro e w2 ⟨rfl, r2, o2, t2⟩; have s2 : w.heap.size < w2.heap.size := (Nat.lt_of_lt_of_le s1 t2.size); have q2 := t2.cells_eq w.heap.size s1 (fun hm => absurd (l2 _ hm) (by omega))) | (go_at_call 37; (with_reducible refine (markTableS_rd v3 x.tables f3 (k + (Mk.cnt x.numbers : Nat) + (Mk.cnt x.words : Nat)) _ (Rp.only (Rp.only (Rp.keep h3 (by with_reducible repeat (first | exact Only.refl _ _ | assumption | refine Only.drewN ?_ _ | refine Only.drew ?_ | refine Only.alloc ?_ _ | refine Only.setCell ?_ (by intro hh; exfalso; simp at hh; try omega) _ | refine Only.trans ?_ (by assumption)))) t1 D31) t2 D32) n3 (((ho.right.right.keep (by with_reducible repeat (first | exact Only.refl _ _ | assumption | refine Only.drewN ?_ _ | refine Only.drew ?_ | refine Only.alloc ?_ _ | refine Only.setCell ?_ (by intro hh; exfalso; simp at hh; try omega) _ | refine Only.trans ?_ (by assumption)))).only t1 D31).only t2 D32) (by omega) hb3).mono ?_); rintro e w3 ⟨rfl, r3, o3, t3⟩; have s3 : w.heap.size < w3.heap.size := (Nat.lt_of_lt_of_le s2 t3.size); have q3 := t3.cells_eq w.heap.size s2 (fun hm => absurd (l3 _ hm) (by omega))))
  go_ret
  have hk0 : Only [] w (w.alloc (.cells ([Value.int .i64 x.kind] ++ [v1] ++ [v2] ++ [v3]).toArray 30)) := (by with_reducible repeat (first | exact Only.refl _ _ | assumption | refine Only.drewN ?_ _ | refine Only.drew ?_ | refine Only.alloc ?_ _ | refine Only.setCell ?_ (by intro hh; exfalso; simp at hh; try omega) _ | refine Only.trans ?_ (by assumption)))
  exact ⟨ret_int (by have := Hcc.out; omega), ⟨v1, v2, v3, f1, f2, f3, rfl, rfl, p0, (Rp.only (Rp.only r1 t2 D12) t3 D13), (Rp.only r2 t3 D23), r3⟩, (((o1.only t2 D12).only t3 D13).append ((o2.only t3 D23).append o3)), (hk0.weaken _).trans (Only.trans (Only.trans (t1.mono (fun z hz _ => by simp [hz])) (t2.mono (fun z hz _ => by simp [hz]))) (t3.mono (fun z hz _ => by simp [hz])))⟩

end Go.Proofs.YtclhblofchfglaaGreat


namespace Go.Proofs.YtclhblofchfglaaGreat
open Go.RowKit
set_option maxRecDepth 10000
theorem aS {α : Type} {a : α} {l : List α} {i : Nat} (h : i + 1 < (a :: l).length) : (a :: l)[i + 1] = l[i]'(by simpa using h) := rfl
end Go.Proofs.YtclhblofchfglaaGreat

namespace Go.Proofs.YtclhblofchfglaaGreat
open Go.RowKit
set_option maxRecDepth 10000

def solCert (l : List Int) : Certificate := if validW 8 l then ⟨1, [], [l], []⟩ else ⟨0, [], [], []⟩
def noCert : Certificate := ⟨0, [], [], []⟩
theorem noCert_rep (w : World) : Rp.rep w [.int .i64 0, .slice none 0 0, .slice none 0 0, .slice none 0 0] noCert [] :=
  ⟨_, _, _, [], [], [], rfl, rfl, ⟨by simp [noCert], by simp [noCert]⟩, nil_rd w, nil_rd w, nil_rd w⟩
set_option maxHeartbeats 400000 in
theorem specSolCert_rd (v : Value) (l : List Int) (fp : List Nat) (w : World) (h : Rd w v l fp) :
    Calls Tryz.prog 33 #[v] w fun e w' => ∃ cs fp', e = .returned (.agg cs.toArray) ∧ Rp.rep w' cs (solCert l) fp' ∧ Fresh w.heap.size w' fp' ∧ Only [] w w' := by
  rcases hq : validW 8 l
  · have hp : solCert l = noCert := by unfold solCert; rw [if_neg (by simp [hq])]; rfl
    have Hp := Lib.hid hp
    clear hp
    go_enter Tryz.func33, Tryz.ntmps33
    go_wp2_with ((go_at_call 62; (with_reducible refine (specIsWord_rd v l _ _ (Rp.keep h (by with_reducible repeat (first | exact Only.refl _ _ | assumption | refine Only.drewN ?_ _ | refine Only.drew ?_ | refine Only.alloc ?_ _ | refine Only.setCell ?_ (by intro hh; exfalso; simp at hh; try omega) _ | refine Only.trans ?_ (by assumption))))).mono ?_); rintro e w1 ⟨rfl, n1, rfl⟩))
    refine bodyPost_ret (v := .agg #[.int .i64 0, .slice none 0 0, .slice none 0 0, .slice none 0 0]) (by simp [results, Tryz.results33, go_sem]) rfl ⟨[.int .i64 0, .slice none 0 0, .slice none 0 0, .slice none 0 0], [], rfl, ?_, Fresh.nil _ _, (by with_reducible repeat (first | exact Only.refl _ _ | assumption | refine Only.drewN ?_ _ | refine Only.drew ?_ | refine Only.alloc ?_ _ | refine Only.setCell ?_ (by intro hh; exfalso; simp at hh; try omega) _ | refine Only.trans ?_ (by assumption)))⟩
    rw [Hp.out]; exact noCert_rep _
  · have hp : solCert l = ⟨1, [], [l], []⟩ := by unfold solCert; rw [if_pos hq]
    have Hp := Lib.hid hp
    have hlen := validW_len hq
    clear hp
    go_enter Tryz.func33, Tryz.ntmps33
    go_wp2_with (first
      | (go_at_call 62; (with_reducible refine (specIsWord_rd v l _ _ (Rp.keep h (by with_reducible repeat (first | exact Only.refl _ _ | assumption | refine Only.drewN ?_ _ | refine Only.drew ?_ | refine Only.alloc ?_ _ | refine Only.setCell ?_ (by intro hh; exfalso; simp at hh; try omega) _ | refine Only.trans ?_ (by assumption))))).mono ?_); rintro e w1 ⟨rfl, n1, rfl⟩)
      | (go_at_call 63; (with_reducible refine (copyInts_rd v l _ _ (Rp.keep h (by with_reducible repeat (first | exact Only.refl _ _ | assumption | refine Only.drewN ?_ _ | refine Only.drew ?_ | refine Only.alloc ?_ _ | refine Only.setCell ?_ (by intro hh; exfalso; simp at hh; try omega) _ | refine Only.trans ?_ (by assumption)))) (by omega)).mono ?_); rintro e w2 ⟨v2, fp2, rfl, r2, F2, t2⟩; obtain ⟨A2, C2, _, _, rfl, -⟩ := r2.open_; have y2 := t2.cells_eq w.heap.size (by simp) (by simp); have z2 := t2.frozen_eq w.heap.size (by simp) (by simp); have s2 : w.heap.size < w2.heap.size := (by have := t2.size; simp at this; omega)))
    have T2 := t2.size
    simp at T2
    have hR := Rp.only (fp' := [w.heap.size]) (w' := (((w2.setCell ⟨w.heap.size, 0, none⟩ (.int .i64 1)).setCell ⟨w.heap.size, 1, none⟩ (.slice none 0 0)).setCell ⟨w.heap.size, 2, none⟩ (.slice (some ⟨w2.heap.size, 0, none⟩) 1 1)).setCell ⟨w.heap.size, 3, none⟩ (.slice none 0 0)) r2 (by with_reducible repeat (first | exact Only.refl _ _ | assumption | refine Only.drewN ?_ _ | refine Only.drew ?_ | refine Only.alloc ?_ _ | refine Only.setCell ?_ (by intro _; simp) _ | refine Only.trans ?_ (Only.weaken (by assumption) _))) (fun b hb hm => by have := F2.ge b hb; simp at hm this; omega)
    have hF := F2.only (fp' := [w.heap.size]) (w' := (((w2.setCell ⟨w.heap.size, 0, none⟩ (.int .i64 1)).setCell ⟨w.heap.size, 1, none⟩ (.slice none 0 0)).setCell ⟨w.heap.size, 2, none⟩ (.slice (some ⟨w2.heap.size, 0, none⟩) 1 1)).setCell ⟨w.heap.size, 3, none⟩ (.slice none 0 0)) (by with_reducible repeat (first | exact Only.refl _ _ | assumption | refine Only.drewN ?_ _ | refine Only.drew ?_ | refine Only.alloc ?_ _ | refine Only.setCell ?_ (by intro _; simp) _ | refine Only.trans ?_ (Only.weaken (by assumption) _))) (fun b hb hm => by have := F2.ge b hb; simp at hm this; omega)
    obtain ⟨o1, o2⟩ := one_rd hR 25 w.heap.size (hF.mono (by simp)) (g := w2.heap.size) (by simp [World.setCell]) (by omega)
    refine bodyPost_ret (v := .agg #[.int .i64 1, .slice none 0 0, .slice (some ⟨w2.heap.size, 0, none⟩) 1 1, .slice none 0 0]) (by simp [results, Tryz.results33, go_sem, y2, s2]) rfl ⟨[.int .i64 1, .slice none 0 0, .slice (some ⟨w2.heap.size, 0, none⟩) 1 1, .slice none 0 0], _, rfl, ?_, o2, (by with_reducible repeat (first | exact Only.refl _ _ | assumption | refine Only.drewN ?_ _ | refine Only.drew ?_ | refine Only.alloc ?_ _ | refine Only.setCell ?_ (by intro hh; exfalso; simp at hh; try omega) _ | refine Only.trans ?_ (by assumption)))⟩
    rw [Hp.out]
    exact ⟨_, _, _, [], _, [], rfl, (by simp), ⟨by simp, by simp⟩, nil_rd _, o1, nil_rd _⟩
set_option maxHeartbeats 400000 in
theorem implSolCert_rd (v : Value) (l : List Int) (fp : List Nat) (w : World) (h : Rd w v l fp) :
    Calls Tryz.prog 57 #[v] w fun e w' => ∃ cs fp', e = .returned (.agg cs.toArray) ∧ Rp.rep w' cs (solCert l) fp' ∧ Fresh w.heap.size w' fp' ∧ Only [] w w' := by
  rcases hq : validW 8 l
  · have hp : solCert l = noCert := by unfold solCert; rw [if_neg (by simp [hq])]; rfl
    have Hp := Lib.hid hp
    clear hp
    go_enter Tryz.func57, Tryz.ntmps57
    go_wp2_with ((go_at_call 103; (with_reducible refine (implIsWord_rd v l _ _ (Rp.keep h (by with_reducible repeat (first | exact Only.refl _ _ | assumption | refine Only.drewN ?_ _ | refine Only.drew ?_ | refine Only.alloc ?_ _ | refine Only.setCell ?_ (by intro hh; exfalso; simp at hh; try omega) _ | refine Only.trans ?_ (by assumption))))).mono ?_); rintro e w1 ⟨rfl, t1⟩; have y1 := t1.cells_eq w.heap.size (by simp) (by simp); have z1 := t1.frozen_eq w.heap.size (by simp) (by simp); have s1 : w.heap.size < w1.heap.size := (by have := t1.size; simp at this; omega)))
    refine bodyPost_ret (v := .agg #[.int .i64 0, .slice none 0 0, .slice none 0 0, .slice none 0 0]) (by simp [results, Tryz.results57, go_sem, y1]) rfl ⟨[.int .i64 0, .slice none 0 0, .slice none 0 0, .slice none 0 0], [], rfl, ?_, Fresh.nil _ _, (by with_reducible repeat (first | exact Only.refl _ _ | assumption | refine Only.drewN ?_ _ | refine Only.drew ?_ | refine Only.alloc ?_ _ | refine Only.setCell ?_ (by intro hh; exfalso; simp at hh; try omega) _ | refine Only.trans ?_ (by assumption)))⟩
    rw [Hp.out]; exact noCert_rep _
  · have hp : solCert l = ⟨1, [], [l], []⟩ := by unfold solCert; rw [if_pos hq]
    have Hp := Lib.hid hp
    have hlen := validW_len hq
    clear hp
    go_enter Tryz.func57, Tryz.ntmps57
    go_wp2_with (first
      | (go_at_call 103; (with_reducible refine (implIsWord_rd v l _ _ (Rp.keep h (by with_reducible repeat (first | exact Only.refl _ _ | assumption | refine Only.drewN ?_ _ | refine Only.drew ?_ | refine Only.alloc ?_ _ | refine Only.setCell ?_ (by intro hh; exfalso; simp at hh; try omega) _ | refine Only.trans ?_ (by assumption))))).mono ?_); rintro e w1 ⟨rfl, t1⟩; have y1 := t1.cells_eq w.heap.size (by simp) (by simp); have z1 := t1.frozen_eq w.heap.size (by simp) (by simp); have s1 : w.heap.size < w1.heap.size := (by have := t1.size; simp at this; omega))
      | (go_at_call 105; (with_reducible refine (Clone_rd v l _ _ (Rp.keep h (by with_reducible repeat (first | exact Only.refl _ _ | assumption | refine Only.drewN ?_ _ | refine Only.drew ?_ | refine Only.alloc ?_ _ | refine Only.setCell ?_ (by intro hh; exfalso; simp at hh; try omega) _ | refine Only.trans ?_ (by assumption)))) (by omega)).mono ?_); rintro e w2 ⟨v2, fp2, rfl, r2, F2, t2⟩; obtain ⟨A2, C2, _, _, rfl, -⟩ := r2.open_; have y2 := t2.cells_eq w.heap.size s1 (by simp); have z2 := t2.frozen_eq w.heap.size s1 (by simp); have s2 : w.heap.size < w2.heap.size := (by have := t2.size; omega)))
    have T2 := t2.size
    have hR := Rp.only (fp' := [w.heap.size]) (w' := (((w2.setCell ⟨w.heap.size, 0, none⟩ (.int .i64 1)).setCell ⟨w.heap.size, 1, none⟩ (.slice none 0 0)).setCell ⟨w.heap.size, 2, none⟩ (.slice (some ⟨w2.heap.size, 0, none⟩) 1 1)).setCell ⟨w.heap.size, 3, none⟩ (.slice none 0 0)) r2 (by with_reducible repeat (first | exact Only.refl _ _ | assumption | refine Only.drewN ?_ _ | refine Only.drew ?_ | refine Only.alloc ?_ _ | refine Only.setCell ?_ (by intro _; simp) _ | refine Only.trans ?_ (Only.weaken (by assumption) _))) (fun b hb hm => by have := F2.ge b hb; simp at hm; omega)
    have hF := F2.only (fp' := [w.heap.size]) (w' := (((w2.setCell ⟨w.heap.size, 0, none⟩ (.int .i64 1)).setCell ⟨w.heap.size, 1, none⟩ (.slice none 0 0)).setCell ⟨w.heap.size, 2, none⟩ (.slice (some ⟨w2.heap.size, 0, none⟩) 1 1)).setCell ⟨w.heap.size, 3, none⟩ (.slice none 0 0)) (by with_reducible repeat (first | exact Only.refl _ _ | assumption | refine Only.drewN ?_ _ | refine Only.drew ?_ | refine Only.alloc ?_ _ | refine Only.setCell ?_ (by intro _; simp) _ | refine Only.trans ?_ (Only.weaken (by assumption) _))) (fun b hb hm => by have := F2.ge b hb; simp at hm; omega)
    obtain ⟨o1, o2⟩ := one_rd hR 25 w.heap.size (hF.mono (by omega)) (g := w2.heap.size) (by simp [World.setCell]) (by omega)
    refine bodyPost_ret (v := .agg #[.int .i64 1, .slice none 0 0, .slice (some ⟨w2.heap.size, 0, none⟩) 1 1, .slice none 0 0]) (by simp [results, Tryz.results57, go_sem, y1, y2, s2]) rfl ⟨[.int .i64 1, .slice none 0 0, .slice (some ⟨w2.heap.size, 0, none⟩) 1 1, .slice none 0 0], _, rfl, ?_, o2, (by with_reducible repeat (first | exact Only.refl _ _ | assumption | refine Only.drewN ?_ _ | refine Only.drew ?_ | refine Only.alloc ?_ _ | refine Only.setCell ?_ (by intro hh; exfalso; simp at hh; try omega) _ | refine Only.trans ?_ (by assumption)))⟩
    rw [Hp.out]
    exact ⟨_, _, _, [], _, [], rfl, (by simp), ⟨by simp, by simp⟩, nil_rd _, o1, nil_rd _⟩
end Go.Proofs.YtclhblofchfglaaGreat

namespace Go.Proofs.YtclhblofchfglaaGreat
open Go.RowKit
set_option maxRecDepth 10000
end Go.Proofs.YtclhblofchfglaaGreat

namespace Go.Proofs.YtclhblofchfglaaGreat
open Go.RowKit
set_option maxRecDepth 10000

theorem patB_rng {n : Int} {k : Nat} {l : List Int} (h : patB n k l = true) : ∀ y ∈ l, 0 ≤ y ∧ y < n := (patB_iff.1 h).2.1
theorem foldl_take_succ {α β : Type} (f : β → α → β) (b : β) (l : List α) (j : Nat) (h : j < l.length) : (l.take (j + 1)).foldl f b = f ((l.take j).foldl f b) l[j] := by
  rw [take_succ_get l j h, List.foldl_append]; rfl
theorem foldl_pat {x : Puzzle} {k : Nat} (hv : validPz x = true) : ∀ (wl : List Int) (l : List Int), patB x.points k l = true → (∀ a ∈ wl, a ∈ ltrs x.moves.length) → patB x.points k (wl.foldl (nxt x) l) = true
  | [], l, h, _ => h
  | a :: wl, l, h, hw => foldl_pat hv wl _ (nxt_pat hv h (hw a (by simp))) fun b hb => hw b (by simp [hb])
set_option maxHeartbeats 2000000 in
theorem applyLetters_any (cs : List Value) (x : Puzzle) (fp : List Nat) (v u : Value) (l wl : List Int) (f2 f3 : List Nat) (k : Nat) (w : World) (h : Rp.rep w cs x fp) (h2 : Rd w v l f2) (h3 : Rd w u wl f3)
    (hv : validPz x = true) (hl : ∀ a ∈ wl, a ∈ ltrs x.moves.length) (hx : patB x.points k l = true) (hk : k ≤ 1000) (hwl : wl.length ≤ 1000000) :
    Calls Tryz.prog 76 #[.agg cs.toArray, v, u] w fun e w' => ∃ v fp', e = .returned v ∧ Rd w' v (wl.foldl (nxt x) l) fp' ∧ Fresh w.heap.size w' fp' ∧ Only [] w w' := by
  have h0 := h
  obtain ⟨v2, rfl, p0, p1, hm⟩ := h
  obtain ⟨A3, C3, rfl, I3⟩ := h3.ints
  have hlk := (patB_iff.1 hx).1
  have Hlk := Lib.hid hlk; clear hlk
  have hB := Blk.new_at (w := w) (cs := [.int .i64 x.points, .string x.names, v2]) (t := 33) rfl
  go_enter Tryz.func76, Tryz.ntmps76
  go_wp2_with ((go_at_call 63; (with_reducible refine (copyInts_rd v l _ _ (Rp.keep h2 (by with_reducible repeat (first | exact Only.refl _ _ | assumption | refine Only.drewN ?_ _ | refine Only.drew ?_ | refine Only.alloc ?_ _ | refine Only.setCell ?_ (by intro hh; exfalso; simp at hh; try omega) _ | refine Only.trans ?_ (by assumption)))) (by have := Hlk.out; omega)).mono ?_); rintro e w1 ⟨u1, f1, rfl, r1, F1, t1⟩))
  have hB1 := hB.keep t1
  have hKw : Only [] w w1 := (by with_reducible repeat (first | exact Only.refl _ _ | assumption | refine Only.drewN ?_ _ | refine Only.drew ?_ | refine Only.alloc ?_ _ | refine Only.setCell ?_ (by intro hh; exfalso; simp at hh; try omega) _ | refine Only.trans ?_ (by assumption)))
  have F1' := F1.mono (B' := w.heap.size) (by simp)
  clear hB F1
  go_loopw [7, 8] (fun o i wr => ∃ (j : Nat) (fo : List Nat), j ≤ wl.length ∧ i = .int .i64 j ∧ Rd wr o ((wl.take j).foldl (nxt x) l) fo ∧ Fresh w.heap.size wr fo ∧ Only [] w1 wr)
    (fun _ i _ => wl.length - (intOf i).toNat)
  case atStart => exact ⟨0, _, Nat.zero_le _, rfl, r1, F1', Only.refl _ _⟩
  case round =>
    obtain ⟨j, fo, hj, rfl, hr, hF, hK⟩ := hrel
    have y0 := (hB1.keep hK).cell 0 rfl
    have y1 := (hB1.keep hK).cell 1 rfl
    have y2 := (hB1.keep hK).cell 2 rfl
    have hKz : Only [] w wr := hKw.trans hK
    by_cases hlt : j < wl.length
    · obtain ⟨b, off, rfl, -, hc0⟩ := I3.at_ j hlt
      have hc := hKz.cell (by simp) hc0
      have hp := foldl_pat (k := k) hv (wl.take j) l hx (fun a ha => hl a (List.mem_of_mem_take ha))
      have hla := hl wl[j] (List.getElem_mem _)
      have Hlen := Lib.hid (patB_iff.1 hp).1
      have hs := foldl_take_succ (nxt x) l wl j hlt
      have Hs := Lib.hid hs
      generalize hcur : (wl.take j).foldl (nxt x) l = cur at *
      have Hcur := Lib.hid hcur
      clear hcur hs hc0
      go_wp2
      go_region_held3 (fun w' => Only [] wr w' ∧ w'.cell? ⟨w.heap.size, 0, none⟩ = some (.int .i64 x.points) ∧ w'.cell? ⟨w.heap.size, 1, none⟩ = some (.string x.names) ∧ w'.cell? ⟨w.heap.size, 2, none⟩ = some (v2) ∧ w'.cell? ⟨b, off + j, none⟩ = some (.int .i64 wl[j])) (((refine and_of ?_ (fun h__ => ⟨h__.cell (by simp) y0, h__.cell (by simp) y1, h__.cell (by simp) y2, h__.cell (by simp) hc⟩)); first | exact (Only.refl _ _).drew | exact ((Only.refl _ _).drewN _).drew | exact Only.trans (And.left (by assumption)) (by assumption) | exact Only.alloc (And.left (by assumption)) _ | assumption)) (first | (go_at_call 128; (with_reducible refine (applyLetter_any [.int .i64 x.points, .string x.names, v2] x _ _ cur _ wl[j] _ (Rp.keep h0 (hKz.trans (And.left (by assumption)))) (Rp.keep hr (And.left (by assumption))) hv hla (patB_rng hp) (by have := Hlen.out; omega)).mono ?_); rintro e w4 ⟨u4, f4, rfl, r4, F4, t4⟩; have F4' := F4.mono (hKz.trans (And.left (by assumption))).size) | fail "no arm")
      go_wp2
      go_roundw
      case rel => exact ⟨j + 1, _, by omega, by go_num, by rw [Hs.out]; exact r4, F4', (by with_reducible repeat (first | exact Only.refl _ _ | assumption | refine Only.drewN ?_ _ | refine Only.drew ?_ | refine Only.alloc ?_ _ | refine Only.setCell ?_ (by intro hh; exfalso; simp at hh; try omega) _ | refine Only.trans ?_ (by assumption)))⟩
      case measure => simp [intOf]; omega
    · have hjl : j = wl.length := by omega
      rw [hjl, List.take_length] at hr
      have HR := Lib.hid hr
      clear hjl hr
      go_wp2
      go_ret
      exact ⟨_, _, rfl, HR.out, hF, (by with_reducible repeat (first | exact Only.refl _ _ | assumption | refine Only.drewN ?_ _ | refine Only.drew ?_ | refine Only.alloc ?_ _ | refine Only.setCell ?_ (by intro hh; exfalso; simp at hh; try omega) _ | refine Only.trans ?_ (by assumption)))⟩




end Go.Proofs.YtclhblofchfglaaGreat

namespace Go.Proofs.YtclhblofchfglaaGreat
open Go.RowKit
set_option maxRecDepth 10000
section
variable {x : Puzzle} {s w : List Int} {ts : List Table}
end
end Go.Proofs.YtclhblofchfglaaGreat

namespace Go.Proofs.YtclhblofchfglaaGreat
open Go.RowKit
set_option maxRecDepth 10000
end Go.Proofs.YtclhblofchfglaaGreat

namespace Go.Proofs.YtclhblofchfglaaGreat
open Go.RowKit
set_option maxRecDepth 10000
end Go.Proofs.YtclhblofchfglaaGreat

namespace Go.Proofs.YtclhblofchfglaaGreat
open Go.RowKit
set_option maxRecDepth 10000

/-- the certificate of a word that was found -/
def wCert (o : Option (List Int)) : Certificate := match o with
  | some w => solCert w
  | none => noCert
theorem wCert_cnt (o : Option (List Int)) : Mk.cnt (wCert o) ≤ 200 := by
  cases o with
  | none => simp [wCert, noCert, Mk.cnt, cntL]
  | some w =>
    unfold wCert solCert
    simp only
    split
    · rename_i h
      have := validW_len h
      simp [Mk.cnt, cntL, cntL_ints]; omega
    · simp [Mk.cnt, cntL]
end Go.Proofs.YtclhblofchfglaaGreat

namespace Go.Proofs.YtclhblofchfglaaGreat
open Go.RowKit
set_option maxRecDepth 10000
/-- the words of the first j goals are ws, and lead to the entry i -/
def StW (x : Puzzle) (t : Table) (goals : List (List Int)) (s : List Int) (j i : Nat) (ws : List (List Int)) : Prop := mthW x t goals s = (mthW x t (goals.drop j) (t.patterns.getD i [])).map (ws ++ ·)
theorem StW.start {x : Puzzle} {t : Table} {goals : List (List Int)} {s : List Int} {i : Nat} (h : t.patterns.getD i [] = s) : StW x t goals s 0 i [] := by
  unfold StW
  rw [h, List.drop_zero]
  cases mthW x t goals s <;> rfl
theorem StW.far {x : Puzzle} {t : Table} {goals : List (List Int)} {s : List Int} {j i : Nat} {ws : List (List Int)} (h : StW x t goals s j i ws) (hj : j < goals.length) (hN : 200 < mN x t goals[j] (t.patterns.getD i [])) : mthW x t goals s = none := by
  unfold StW at h
  rw [h, List.drop_eq_getElem_cons hj]
  unfold mthW
  rw [if_pos hN]; rfl
theorem StW.next {x : Puzzle} {t : Table} {goals : List (List Int)} {s : List Int} {j i i' : Nat} {ws : List (List Int)} (h : StW x t goals s j i ws) (hj : j < goals.length) (hN : mN x t goals[j] (t.patterns.getD i []) ≤ 200) (hi : t.patterns.getD i' [] = wEnd x (t.patterns.getD i []) (mW1 x t goals[j] (t.patterns.getD i []))) : StW x t goals s (j + 1) i' (ws ++ [mW1 x t goals[j] (t.patterns.getD i [])]) := by
  unfold StW at h ⊢
  rw [h, List.drop_eq_getElem_cons hj]
  conv => lhs; unfold mthW
  rw [if_neg (by omega), hi]
  cases mthW x t (List.drop (j + 1) goals) _ with
  | none => rfl
  | some r => simp
/-- the word that is short enough -/
def shortW (w : List Int) : Option (List Int) := if w.length ≤ 200 then some w else none
theorem shortW_yes {w : List Int} (h : w.length ≤ 200) : shortW w = some w := if_pos h
theorem shortW_no {w : List Int} (h : ¬ w.length ≤ 200) : shortW w = none := if_neg h
set_option maxHeartbeats 4000000 in
theorem solutionOf_any (v : Value) (ws : List (List Int)) (fw : List Nat) (w : World) (h : Rd w v ws fw) (hsum : ws.flatten.length ≤ 1000000) :
    Calls Tryz.prog 35 #[v] w fun e w' => ∃ cs' fp', e = .returned (.tuple #[.agg (List.toArray cs'), .bool (shortW ws.flatten).isSome]) ∧ Rp.rep w' cs' (wCert (shortW ws.flatten)) fp' ∧ Fresh w.heap.size w' fp' ∧ Only [] w w' := by
  have Y0 : Blk (w.alloc (.cells #[.int .i64 0, .slice none 0 0, .slice none 0 0, .slice none 0 0] 30)) w.heap.size [.int .i64 0, .slice none 0 0, .slice none 0 0, .slice none 0 0] := Blk.new w [.int .i64 0, .slice none 0 0, .slice none 0 0, .slice none 0 0] 30
  obtain ⟨fl, hfl⟩ : ∃ fl, fl = ws.flatten := ⟨_, rfl⟩
  have Hc := Lib.hid (fun (W : World) (hW : Only [] w W) => Concat_rows v ws fw W (Rp.keep h hW) hsum)
  rw [← hfl] at Hc hsum ⊢
  clear hfl
  by_cases hl : fl.length ≤ 200
  · have Hs := Lib.hid (shortW_yes hl)
    have hl2 : ¬ ((200 : Int) < (fl.length : Int)) := by omega
    clear hl
    go_enter Tryz.func35, Tryz.ntmps35
    go_wp2_with (first
      | (go_at_call 68; (with_reducible refine (Hc.out _ (by with_reducible repeat (first | exact Only.refl _ _ | assumption | refine Only.drewN ?_ _ | refine Only.drew ?_ | refine Only.alloc ?_ _ | refine Only.setCell ?_ (by intro hh; exfalso; simp at hh; try omega) _ | refine Only.trans ?_ (by assumption)))).mono ?_); rintro e w1 ⟨u1, rfl, A1, t1⟩; obtain ⟨a1, c1, rfl⟩ := A1.form; have Y1 := Y0.keep t1)
      | (go_at_call 57; (with_reducible refine (implSolCert_rd _ fl _ _ A1.rd).mono ?_); rintro e w4 ⟨cs4, f4, rfl, r4, F4, t4⟩; have rr := id r4; obtain ⟨v1, v2, v3, e1, e2, e3, rfl, -, i1, s1, s2, s3⟩ := r4; simp only [List.cons_append, List.nil_append] at rr; obtain ⟨b1, k1, _, _, rfl, -, -⟩ := s1.open_; obtain ⟨b2, k2, _, _, rfl, -, -⟩ := s2.open_; obtain ⟨b3, k3, _, _, rfl, -, -⟩ := s3.open_; have Y9 := Y1.keep t4; have g0 := Y9.cell 0 rfl; have g1 := Y9.cell 1 rfl; have g2 := Y9.cell 2 rfl; have g3 := Y9.cell 3 rfl; have p0 := Y9.frozen 0; have p1 := Y9.frozen 1; have p2 := Y9.frozen 2; have p3 := Y9.frozen 3)
      | fail "no arm")
    have K4 : Only [] w w4 := (by with_reducible repeat (first | exact Only.refl _ _ | assumption | refine Only.drewN ?_ _ | refine Only.drew ?_ | refine Only.alloc ?_ _ | refine Only.setCell ?_ (by intro hh; exfalso; simp at hh; try omega) _ | refine Only.trans ?_ (by assumption)))
    have hz1 := t1.size
    simp at hz1
    have hFg : ∀ g ∈ f4, g ∉ [w.heap.size] := fun g hg hm => by have := F4.ge g hg; simp at hm; omega
    have Yf := (((Y9.set 0 (.int .i64 (solCert fl).kind)).set 1 (.slice b1 (solCert fl).numbers.length k1)).set 2 (.slice b2 (solCert fl).words.length k2)).set 3 (.slice b3 (solCert fl).tables.length k3)
    have kf : Only [w.heap.size] w4 ((((w4.setCell ⟨w.heap.size, 0, none⟩ (.int .i64 (solCert fl).kind)).setCell ⟨w.heap.size, 1, none⟩ (.slice b1 (solCert fl).numbers.length k1)).setCell ⟨w.heap.size, 2, none⟩ (.slice b2 (solCert fl).words.length k2)).setCell ⟨w.heap.size, 3, none⟩ (.slice b3 (solCert fl).tables.length k3)) := ((((Only.refl _ _).setCell (by simp) _).setCell (by simp) _).setCell (by simp) _).setCell (by simp) _
    obtain ⟨wf, hwf⟩ : ∃ wf, wf = ((((w4.setCell ⟨w.heap.size, 0, none⟩ (.int .i64 (solCert fl).kind)).setCell ⟨w.heap.size, 1, none⟩ (.slice b1 (solCert fl).numbers.length k1)).setCell ⟨w.heap.size, 2, none⟩ (.slice b2 (solCert fl).words.length k2)).setCell ⟨w.heap.size, 3, none⟩ (.slice b3 (solCert fl).tables.length k3)) := ⟨_, rfl⟩
    rw [← hwf] at Yf kf ⊢
    simp only [List.set] at Yf
    clear hwf g0 g1 g2 g3 p0 p1 p2 p3
    have z0 := Yf.cell 0 rfl
    have z1 := Yf.cell 1 rfl
    have z2 := Yf.cell 2 rfl
    have z3 := Yf.cell 3 rfl
    refine bodyPost_ret (v := .tuple #[.agg #[.int .i64 (solCert fl).kind, .slice b1 (solCert fl).numbers.length k1, .slice b2 (solCert fl).words.length k2, .slice b3 (solCert fl).tables.length k3], .bool true]) (by simp [results, Tryz.results35, go_sem, z0, z1, z2, z3]) rfl ⟨[.int .i64 (solCert fl).kind, .slice b1 (solCert fl).numbers.length k1, .slice b2 (solCert fl).words.length k2, .slice b3 (solCert fl).tables.length k3], f4, by rw [Hs.out]; rfl, by rw [Hs.out]; exact Rp.only rr kf hFg, (F4.mono (by omega)).only kf hFg, K4.then_ kf (by simp)⟩
  · have Hs := Lib.hid (shortW_no hl)
    have hl2 : (200 : Int) < (fl.length : Int) := by omega
    clear hl
    go_enter Tryz.func35, Tryz.ntmps35
    go_wp2_with (first
      | (go_at_call 68; (with_reducible refine (Hc.out _ (by with_reducible repeat (first | exact Only.refl _ _ | assumption | refine Only.drewN ?_ _ | refine Only.drew ?_ | refine Only.alloc ?_ _ | refine Only.setCell ?_ (by intro hh; exfalso; simp at hh; try omega) _ | refine Only.trans ?_ (by assumption)))).mono ?_); rintro e w1 ⟨u1, rfl, A1, t1⟩; obtain ⟨a1, c1, rfl⟩ := A1.form; have Y9 := Y0.keep t1; have g0 := Y9.cell 0 rfl; have g1 := Y9.cell 1 rfl; have g2 := Y9.cell 2 rfl; have g3 := Y9.cell 3 rfl; have p0 := Y9.frozen 0; have p1 := Y9.frozen 1; have p2 := Y9.frozen 2; have p3 := Y9.frozen 3)
      | fail "no arm")
    have K2 : Only [] w w1 := (by with_reducible repeat (first | exact Only.refl _ _ | assumption | refine Only.drewN ?_ _ | refine Only.drew ?_ | refine Only.alloc ?_ _ | refine Only.setCell ?_ (by intro hh; exfalso; simp at hh; try omega) _ | refine Only.trans ?_ (by assumption)))
    have Yf := (((Y9.set 0 (.int .i64 0)).set 1 (.slice none 0 0)).set 2 (.slice none 0 0)).set 3 (.slice none 0 0)
    have kf : Only [w.heap.size] w1 ((((w1.setCell ⟨w.heap.size, 0, none⟩ (.int .i64 0)).setCell ⟨w.heap.size, 1, none⟩ (.slice none 0 0)).setCell ⟨w.heap.size, 2, none⟩ (.slice none 0 0)).setCell ⟨w.heap.size, 3, none⟩ (.slice none 0 0)) := ((((Only.refl _ _).setCell (by simp) _).setCell (by simp) _).setCell (by simp) _).setCell (by simp) _
    obtain ⟨wf, hwf⟩ : ∃ wf, wf = ((((w1.setCell ⟨w.heap.size, 0, none⟩ (.int .i64 0)).setCell ⟨w.heap.size, 1, none⟩ (.slice none 0 0)).setCell ⟨w.heap.size, 2, none⟩ (.slice none 0 0)).setCell ⟨w.heap.size, 3, none⟩ (.slice none 0 0)) := ⟨_, rfl⟩
    rw [← hwf] at Yf kf ⊢
    simp only [List.set] at Yf
    clear hwf g0 g1 g2 g3 p0 p1 p2 p3
    have z0 := Yf.cell 0 rfl
    have z1 := Yf.cell 1 rfl
    have z2 := Yf.cell 2 rfl
    have z3 := Yf.cell 3 rfl
    refine bodyPost_ret (v := .tuple #[.agg #[.int .i64 0, .slice none 0 0, .slice none 0 0, .slice none 0 0], .bool false]) (by simp [results, Tryz.results35, go_sem, z0, z1, z2, z3]) rfl ⟨[.int .i64 0, .slice none 0 0, .slice none 0 0, .slice none 0 0], [], by rw [Hs.out]; rfl, by rw [Hs.out]; exact noCert_rep _, Fresh.nil _ _, K2.then_ kf (by simp)⟩
end Go.Proofs.YtclhblofchfglaaGreat
