/- CheckCertificate, IsAcceptedCertificate: the reference's and the program's (laws 42, 43). (Printed by mkchk2.py.) CheckCertificate as the law's walk wants it; sizes (laws 42, 43). The law on CheckCertificate: its walk. (Printed by gen_exact.py.) -/
import Derived.Test.YtlcoejncdbkhcaaGreatRowCheckCertificateG19
import Derived.Deep.RegionHeld3
import Derived.Deep.DeepCutAuto
namespace Go.Proofs.YtlcoejncdbkhcaaGreat
open Go.RowKit
set_option maxRecDepth 10000

set_option maxHeartbeats 4000000 in
theorem specCheck_any (cs ds : List Value) (x : Puzzle) (c : Certificate) (fp fc : List Nat) (u : Value) (s : List Int) (fs0 : List Nat) (w : World) (h : Rp.rep w cs x fp) (hu : Rd w u s fs0) (hc : Rp.rep w ds c fc) (hsm : ∀ t ∈ c.tables, t.tracked.length ≤ 2097152) :
    Calls Tryz.prog 47 #[.agg cs.toArray, u, .agg ds.toArray] w fun e w' => e = .returned (.tuple #[.agg #[.int .i64 ((chkC x s c).getD noClaim).kind, .int .i64 ((chkC x s c).getD noClaim).value], .bool (chkC x s c).isSome]) ∧ Only [] w w' := by
  have h0 := h
  have hc0 := hc
  obtain ⟨v2, rfl, p0, p1, h2⟩ := h
  obtain ⟨A3, C3, _, _, rfl, -, -⟩ := h2.open_
  obtain ⟨v1, v2, v3, f1, f2, f3, rfl, rfl, p2, i1, i2, i3⟩ := hc
  simp only [List.cons_append, List.nil_append] at hc0 ⊢
  obtain ⟨B1, D1, _, _, rfl, -, -⟩ := i1.open_
  obtain ⟨B2, D2, _, _, rfl, -, -⟩ := i2.open_
  obtain ⟨B3, D3, _, _, rfl, -, -⟩ := i3.open_
  clear h2 p0 p1 p2
  have X0 : Blk (((w.alloc (.cells #[.int .i64 x.points, .string x.names, .slice A3 x.moves.length C3] 37)).alloc (.cells #[.int .i64 c.kind, .slice B1 c.numbers.length D1, .slice B2 c.words.length D2, .slice B3 c.tables.length D3] 51)).alloc (.cells #[.int .i64 0, .int .i64 0] 73)) w.heap.size [.int .i64 x.points, .string x.names, .slice A3 x.moves.length C3] := ((Blk.new w [.int .i64 x.points, .string x.names, .slice A3 x.moves.length C3] 37).keep ((Only.refl _ _).alloc _)).keep ((Only.refl _ _).alloc _)
  have Y0 : Blk (((w.alloc (.cells #[.int .i64 x.points, .string x.names, .slice A3 x.moves.length C3] 37)).alloc (.cells #[.int .i64 c.kind, .slice B1 c.numbers.length D1, .slice B2 c.words.length D2, .slice B3 c.tables.length D3] 51)).alloc (.cells #[.int .i64 0, .int .i64 0] 73)) (w.heap.size + 1) [.int .i64 c.kind, .slice B1 c.numbers.length D1, .slice B2 c.words.length D2, .slice B3 c.tables.length D3] := (Blk.new_at (by simp)).keep ((Only.refl _ _).alloc _)
  have R0 : Blk (((w.alloc (.cells #[.int .i64 x.points, .string x.names, .slice A3 x.moves.length C3] 37)).alloc (.cells #[.int .i64 c.kind, .slice B1 c.numbers.length D1, .slice B2 c.words.length D2, .slice B3 c.tables.length D3] 51)).alloc (.cells #[.int .i64 0, .int .i64 0] 73)) (w.heap.size + 1 + 1) [.int .i64 0, .int .i64 0] := Blk.new_at (by simp)
  rcases hst : stateB x s
  · have Ha := Lib.hid (by unfold chkC; rw [hst]; rfl : chkC x s c = none)
    go_enter Tryz.func47, Tryz.ntmps47
    go_wp2_with (first
      | (go_at_call 68; (with_reducible refine (specIsState_any [.int .i64 x.points, .string x.names, .slice A3 x.moves.length C3] x _ u s _ _ (Rp.keep h0 (by with_reducible repeat (first | exact Only.refl _ _ | assumption | refine Only.drewN ?_ _ | refine Only.drew ?_ | refine Only.alloc ?_ _ | refine Only.setCell ?_ (by intro hh; exfalso; simp at hh; try omega) _ | refine Only.trans ?_ (by assumption)))) (Rp.keep hu (by with_reducible repeat (first | exact Only.refl _ _ | assumption | refine Only.drewN ?_ _ | refine Only.drew ?_ | refine Only.alloc ?_ _ | refine Only.setCell ?_ (by intro hh; exfalso; simp at hh; try omega) _ | refine Only.trans ?_ (by assumption))))).mono ?_); rintro e w1 ⟨he, t1⟩; rw [hst] at he; subst he; have RL := R0.keep t1; have g0 := RL.cell 0 rfl; have g1 := RL.cell 1 rfl; have q0 := RL.frozen 0; have q1 := RL.frozen 1)
      | fail "no arm")
    have KL : Only [] w w1 := (by with_reducible repeat (first | exact Only.refl _ _ | assumption | refine Only.drewN ?_ _ | refine Only.drew ?_ | refine Only.alloc ?_ _ | refine Only.setCell ?_ (by intro hh; exfalso; simp at hh; try omega) _ | refine Only.trans ?_ (by assumption)))
    have Rf := (RL.set 0 (.int .i64 0)).set 1 (.int .i64 0)
    simp only [List.set] at Rf
    have z0 := Rf.cell 0 rfl
    have z1 := Rf.cell 1 rfl
    have Kf : Only [] w ((w1.setCell ⟨w.heap.size + 1 + 1, 0, none⟩ (.int .i64 0)).setCell ⟨w.heap.size + 1 + 1, 1, none⟩ (.int .i64 0)) := (KL.setCell (by simp; omega) _).setCell (by simp; omega) _
    refine bodyPost_ret (v := .tuple #[.agg #[.int .i64 0, .int .i64 0], .bool false]) (by simp [results, Tryz.results47, go_sem, z0, z1]) rfl ⟨by rw [Ha.out]; rfl, Kf⟩
  · have Ha := Lib.hid (by unfold chkC; rw [if_pos hst] : chkC x s c = accC x s c)
    go_enter Tryz.func47, Tryz.ntmps47
    go_wp2_with (first
      | (go_at_call 68; (with_reducible refine (specIsState_any [.int .i64 x.points, .string x.names, .slice A3 x.moves.length C3] x _ u s _ _ (Rp.keep h0 (by with_reducible repeat (first | exact Only.refl _ _ | assumption | refine Only.drewN ?_ _ | refine Only.drew ?_ | refine Only.alloc ?_ _ | refine Only.setCell ?_ (by intro hh; exfalso; simp at hh; try omega) _ | refine Only.trans ?_ (by assumption)))) (Rp.keep hu (by with_reducible repeat (first | exact Only.refl _ _ | assumption | refine Only.drewN ?_ _ | refine Only.drew ?_ | refine Only.alloc ?_ _ | refine Only.setCell ?_ (by intro hh; exfalso; simp at hh; try omega) _ | refine Only.trans ?_ (by assumption))))).mono ?_); rintro e w1 ⟨he, t1⟩; rw [hst] at he; subst he; have XL := X0.keep t1; have YL := Y0.keep t1; have n0 := XL.cell 0 rfl; have n1 := XL.cell 1 rfl; have n2 := XL.cell 2 rfl; have m0 := YL.cell 0 rfl; have m1 := YL.cell 1 rfl; have m2 := YL.cell 2 rfl; have m3 := YL.cell 3 rfl)
      | (go_at_call 94; (with_reducible refine (specAcc_any [.int .i64 x.points, .string x.names, .slice A3 x.moves.length C3] [.int .i64 c.kind, .slice B1 c.numbers.length D1, .slice B2 c.words.length D2, .slice B3 c.tables.length D3] x c _ _ u s _ _ (Rp.keep h0 (by with_reducible repeat (first | exact Only.refl _ _ | assumption | refine Only.drewN ?_ _ | refine Only.drew ?_ | refine Only.alloc ?_ _ | refine Only.setCell ?_ (by intro hh; exfalso; simp at hh; try omega) _ | refine Only.trans ?_ (by assumption)))) (Rp.keep hu (by with_reducible repeat (first | exact Only.refl _ _ | assumption | refine Only.drewN ?_ _ | refine Only.drew ?_ | refine Only.alloc ?_ _ | refine Only.setCell ?_ (by intro hh; exfalso; simp at hh; try omega) _ | refine Only.trans ?_ (by assumption)))) (Rp.keep hc0 (by with_reducible repeat (first | exact Only.refl _ _ | assumption | refine Only.drewN ?_ _ | refine Only.drew ?_ | refine Only.alloc ?_ _ | refine Only.setCell ?_ (by intro hh; exfalso; simp at hh; try omega) _ | refine Only.trans ?_ (by assumption)))) hst hsm).mono ?_); rintro e w2 ⟨rfl, t2⟩; have RL := (R0.keep t1).keep t2; have g0 := RL.cell 0 rfl; have g1 := RL.cell 1 rfl; have q0 := RL.frozen 0; have q1 := RL.frozen 1)
      | fail "no arm")
    have KL : Only [] w w2 := (by with_reducible repeat (first | exact Only.refl _ _ | assumption | refine Only.drewN ?_ _ | refine Only.drew ?_ | refine Only.alloc ?_ _ | refine Only.setCell ?_ (by intro hh; exfalso; simp at hh; try omega) _ | refine Only.trans ?_ (by assumption)))
    have Rf := (RL.set 0 (.int .i64 ((accC x s c).getD noClaim).kind)).set 1 (.int .i64 ((accC x s c).getD noClaim).value)
    simp only [List.set] at Rf
    have z0 := Rf.cell 0 rfl
    have z1 := Rf.cell 1 rfl
    have Kf : Only [] w ((w2.setCell ⟨w.heap.size + 1 + 1, 0, none⟩ (.int .i64 ((accC x s c).getD noClaim).kind)).setCell ⟨w.heap.size + 1 + 1, 1, none⟩ (.int .i64 ((accC x s c).getD noClaim).value)) := (KL.setCell (by simp; omega) _).setCell (by simp; omega) _
    refine bodyPost_ret (v := .tuple #[.agg #[.int .i64 ((accC x s c).getD noClaim).kind, .int .i64 ((accC x s c).getD noClaim).value], .bool (accC x s c).isSome]) (by simp [results, Tryz.results47, go_sem, z0, z1]) rfl ⟨by rw [Ha.out], Kf⟩
set_option maxHeartbeats 4000000 in
theorem implCheck_any (cs ds : List Value) (x : Puzzle) (c : Certificate) (fp fc : List Nat) (u : Value) (s : List Int) (fs0 : List Nat) (w : World) (h : Rp.rep w cs x fp) (hu : Rd w u s fs0) (hc : Rp.rep w ds c fc) (hsm : ∀ t ∈ c.tables, t.tracked.length ≤ 2097152) :
    Calls Tryz.prog 48 #[.agg cs.toArray, u, .agg ds.toArray] w fun e w' => e = .returned (.tuple #[.agg #[.int .i64 ((chkC x s c).getD noClaim).kind, .int .i64 ((chkC x s c).getD noClaim).value], .bool (chkC x s c).isSome]) ∧ Only [] w w' := by
  have h0 := h
  have hc0 := hc
  obtain ⟨v2, rfl, p0, p1, h2⟩ := h
  obtain ⟨A3, C3, _, _, rfl, -, -⟩ := h2.open_
  obtain ⟨v1, v2, v3, f1, f2, f3, rfl, rfl, p2, i1, i2, i3⟩ := hc
  simp only [List.cons_append, List.nil_append] at hc0 ⊢
  obtain ⟨B1, D1, _, _, rfl, -, -⟩ := i1.open_
  obtain ⟨B2, D2, _, _, rfl, -, -⟩ := i2.open_
  obtain ⟨B3, D3, _, _, rfl, -, -⟩ := i3.open_
  clear h2 p0 p1 p2
  have X0 : Blk (((w.alloc (.cells #[.int .i64 x.points, .string x.names, .slice A3 x.moves.length C3] 37)).alloc (.cells #[.int .i64 c.kind, .slice B1 c.numbers.length D1, .slice B2 c.words.length D2, .slice B3 c.tables.length D3] 51)).alloc (.cells #[.int .i64 0, .int .i64 0] 73)) w.heap.size [.int .i64 x.points, .string x.names, .slice A3 x.moves.length C3] := ((Blk.new w [.int .i64 x.points, .string x.names, .slice A3 x.moves.length C3] 37).keep ((Only.refl _ _).alloc _)).keep ((Only.refl _ _).alloc _)
  have Y0 : Blk (((w.alloc (.cells #[.int .i64 x.points, .string x.names, .slice A3 x.moves.length C3] 37)).alloc (.cells #[.int .i64 c.kind, .slice B1 c.numbers.length D1, .slice B2 c.words.length D2, .slice B3 c.tables.length D3] 51)).alloc (.cells #[.int .i64 0, .int .i64 0] 73)) (w.heap.size + 1) [.int .i64 c.kind, .slice B1 c.numbers.length D1, .slice B2 c.words.length D2, .slice B3 c.tables.length D3] := (Blk.new_at (by simp)).keep ((Only.refl _ _).alloc _)
  have R0 : Blk (((w.alloc (.cells #[.int .i64 x.points, .string x.names, .slice A3 x.moves.length C3] 37)).alloc (.cells #[.int .i64 c.kind, .slice B1 c.numbers.length D1, .slice B2 c.words.length D2, .slice B3 c.tables.length D3] 51)).alloc (.cells #[.int .i64 0, .int .i64 0] 73)) (w.heap.size + 1 + 1) [.int .i64 0, .int .i64 0] := Blk.new_at (by simp)
  rcases hst : stateB x s
  · have Ha := Lib.hid (by unfold chkC; rw [hst]; rfl : chkC x s c = none)
    go_enter Tryz.func48, Tryz.ntmps48
    go_wp2_with (first
      | (go_at_call 74; (with_reducible refine (implIsState_any [.int .i64 x.points, .string x.names, .slice A3 x.moves.length C3] x _ u s _ _ (Rp.keep h0 (by with_reducible repeat (first | exact Only.refl _ _ | assumption | refine Only.drewN ?_ _ | refine Only.drew ?_ | refine Only.alloc ?_ _ | refine Only.setCell ?_ (by intro hh; exfalso; simp at hh; try omega) _ | refine Only.trans ?_ (by assumption)))) (Rp.keep hu (by with_reducible repeat (first | exact Only.refl _ _ | assumption | refine Only.drewN ?_ _ | refine Only.drew ?_ | refine Only.alloc ?_ _ | refine Only.setCell ?_ (by intro hh; exfalso; simp at hh; try omega) _ | refine Only.trans ?_ (by assumption))))).mono ?_); rintro e w1 ⟨he, t1⟩; rw [hst] at he; subst he; have RL := R0.keep t1; have g0 := RL.cell 0 rfl; have g1 := RL.cell 1 rfl; have q0 := RL.frozen 0; have q1 := RL.frozen 1)
      | fail "no arm")
    have KL : Only [] w w1 := (by with_reducible repeat (first | exact Only.refl _ _ | assumption | refine Only.drewN ?_ _ | refine Only.drew ?_ | refine Only.alloc ?_ _ | refine Only.setCell ?_ (by intro hh; exfalso; simp at hh; try omega) _ | refine Only.trans ?_ (by assumption)))
    have Rf := (RL.set 0 (.int .i64 0)).set 1 (.int .i64 0)
    simp only [List.set] at Rf
    have z0 := Rf.cell 0 rfl
    have z1 := Rf.cell 1 rfl
    have Kf : Only [] w ((w1.setCell ⟨w.heap.size + 1 + 1, 0, none⟩ (.int .i64 0)).setCell ⟨w.heap.size + 1 + 1, 1, none⟩ (.int .i64 0)) := (KL.setCell (by simp; omega) _).setCell (by simp; omega) _
    refine bodyPost_ret (v := .tuple #[.agg #[.int .i64 0, .int .i64 0], .bool false]) (by simp [results, Tryz.results48, go_sem, z0, z1]) rfl ⟨by rw [Ha.out]; rfl, Kf⟩
  · have Ha := Lib.hid (by unfold chkC; rw [if_pos hst] : chkC x s c = accC x s c)
    rw [Ha.out]
    exact implAcc_any [.int .i64 x.points, .string x.names, .slice A3 x.moves.length C3] [.int .i64 c.kind, .slice B1 c.numbers.length D1, .slice B2 c.words.length D2, .slice B3 c.tables.length D3] x c _ _ u s _ w h0 hu hc0 hst hsm
end Go.Proofs.YtlcoejncdbkhcaaGreat

namespace Go.Proofs.YtlcoejncdbkhcaaGreat
open Go.RowKit
set_option maxRecDepth 10000

theorem sm_tabs {c : Certificate} (h : Sm.sm c) : ∀ t ∈ c.tables, t.tracked.length ≤ 2097152 := by
  intro t ht
  obtain ⟨-, -, h3⟩ := h
  obtain ⟨-, h4⟩ := h3
  obtain ⟨h5, -, -⟩ := h4 t ht
  exact h5.1
theorem chkC_i64 {x : Puzzle} {s : List Int} {c : Certificate} (hn : ∀ z ∈ c.numbers, I64 z) (hw : ∀ q ∈ c.words, q.length ≤ 9223372036854775807) : I64 ((chkC x s c).getD noClaim).kind ∧ I64 ((chkC x s c).getD noClaim).value := by
  have h0 : I64 0 := by unfold I64; omega
  have hnum : I64 (num0 c) := by
    unfold num0
    rw [List.getD_eq_getElem?_getD]
    cases hc : c.numbers[0]? with
    | none => exact h0
    | some z => exact hn z (List.mem_of_getElem? hc)
  have hlen : I64 ((word0 c).length : Int) := by
    unfold word0
    rw [List.getD_eq_getElem?_getD]
    cases hc : c.words[0]? with
    | none => exact h0
    | some q => have := hw q (List.mem_of_getElem? hc); show I64 ((q.length : Nat) : Int); unfold I64; omega
  have hk : ∀ n : Int, 0 ≤ n → n ≤ 4 → I64 n := fun n a b => by unfold I64; omega
  unfold chkC
  split
  · unfold accC
    split
    · split
      · split
        · exact ⟨hk 1 (by omega) (by omega), hlen⟩
        · exact ⟨h0, h0⟩
      · exact ⟨h0, h0⟩
    · split
      · split
        · split
          · split
            · exact ⟨hk 2 (by omega) (by omega), hlen⟩
            · exact ⟨h0, h0⟩
          · exact ⟨h0, h0⟩
        · exact ⟨h0, h0⟩
      · split
        · split
          · split
            · split
              · exact ⟨hk 3 (by omega) (by omega), hnum⟩
              · exact ⟨h0, h0⟩
            · exact ⟨h0, h0⟩
          · exact ⟨h0, h0⟩
        · split
          · split
            · split
              · exact ⟨h0, h0⟩
              · exact ⟨hk 4 (by omega) (by omega), h0⟩
            · exact ⟨h0, h0⟩
          · exact ⟨h0, h0⟩
  · exact ⟨h0, h0⟩
theorem rep_i64 {w : World} {ds : List Value} {c : Certificate} {fc : List Nat} (h : Rp.rep w ds c fc) : (∀ z ∈ c.numbers, I64 z) ∧ ∀ q ∈ c.words, q.length ≤ 9223372036854775807 := by
  obtain ⟨v1, v2, v3, f1, f2, f3, -, -, -, i1, i2, -⟩ := h
  obtain ⟨_, _, -, I1⟩ := i1.ints
  obtain ⟨_, _, _, _, -, -, S2⟩ := i2.open_
  refine ⟨I1.wf, fun q hq => ?_⟩
  obtain ⟨k, hk, rfl⟩ := List.getElem_of_mem hq
  obtain ⟨_, _, u, -, -, -, hu⟩ := S2.atRow k hk
  obtain ⟨_, _, _, _, -, -, hs⟩ := hu.open_
  exact hs.bound
end Go.Proofs.YtlcoejncdbkhcaaGreat

namespace Go.Proofs.YtlcoejncdbkhcaaGreat
open Go.RowKit
set_option maxRecDepth 10000

/-- what the reference's call leaves: the result's box, the flag -/
def CK1 (W wx : World) (s8 s9 : Value) (o : Option Claim) : Prop :=
  ∃ g, W.heap.size ≤ g ∧ s8 = .pointer (some ⟨g, 0, none⟩) ∧ s9 = .bool o.isSome ∧ Blk wx g [.int .i64 (o.getD noClaim).kind, .int .i64 (o.getD noClaim).value] ∧ Only [] W wx
theorem CK1.of {W w5 : World} {o : Option Claim} {g : Nat} {cs : List Value} (hz : Blk w5 g cs) (hcs : cs.length = 2) (hK : Only [] W w5) (hW : W.heap.size ≤ g) :
    CK1 W ((w5.setCell ⟨g, 0, none⟩ (.int .i64 (o.getD noClaim).kind)).setCell ⟨g, 1, none⟩ (.int .i64 (o.getD noClaim).value)) (.pointer (some ⟨g, 0, none⟩)) (.bool o.isSome) o := by
  have ho : Only [g] w5 ((w5.setCell ⟨g, 0, none⟩ (.int .i64 (o.getD noClaim).kind)).setCell ⟨g, 1, none⟩ (.int .i64 (o.getD noClaim).value)) := ((Only.refl _ _).setCell (by simp) _).setCell (by simp) _
  have hb := (hz.set 0 (.int .i64 (o.getD noClaim).kind)).set 1 (.int .i64 (o.getD noClaim).value)
  refine ⟨g, hW, rfl, rfl, ?_, hK.then_ ho (by intro b hm hl; simp at hm; omega)⟩
  obtain ⟨u0, u1, rfl⟩ : ∃ u0 u1, cs = [u0, u1] := by
    match cs, hcs with
    | [u0, u1], _ => exact ⟨u0, u1, rfl⟩
  simpa only [List.set] using hb
theorem CK1.of2 {W w5 : World} {o : Option Claim} {g : Nat} {e : TypeId} (hK : Only [] W w5) (hg : g = w5.heap.size) :
    CK1 W (w5.alloc (.cells #[.int .i64 (o.getD noClaim).kind, .int .i64 (o.getD noClaim).value] e)) (.pointer (some ⟨g, 0, none⟩)) (.bool o.isSome) o := by
  subst hg
  exact ⟨_, hK.size, rfl, rfl, Blk.new w5 _ e, hK.trans ((Only.refl _ _).alloc _)⟩
set_option maxHeartbeats 4000000 in
theorem FnExactCheckCertificate_any (w : World) (caP : List Value) (aP : Puzzle) (faP : List Nat) (raP : Rp.rep w caP aP faP) (vaS : Value) (aS : List Int) (faS : List Nat) (raS : Rd w vaS aS faS) (caC : List Value) (aC : Certificate) (faC : List Nat) (raC : Rp.rep w caC aC faC) :
    Calls Tryz.prog 10 #[.agg caP.toArray, vaS, .agg caC.toArray] w fun e w' => e = .returned (.bool true) ∧ Only [] w w' := by
  have qaP := raP
  obtain ⟨uaP2, rfl, -, -, zaP2⟩ := qaP
  obtain ⟨AaP2, CaP2, _, _, rfl, -⟩ := zaP2.open_
  have LaP := Rp.lt raP
  obtain ⟨AaS, CaS, _, _, rfl, -⟩ := raS.open_
  have LaS := Rp.lt raS
  have hbaS : aS.length ≤ 9223372036854775807 := by obtain ⟨_, _, _, _, hq, -, hs⟩ := raS.open_; have := hs.bound; exact this
  have qaC := raC
  obtain ⟨uaC1, uaC2, uaC3, _, _, _, rfl, -, -, zaC1, zaC2, zaC3⟩ := qaC
  obtain ⟨AaC1, CaC1, _, _, rfl, -⟩ := zaC1.open_
  obtain ⟨AaC2, CaC2, _, _, rfl, -⟩ := zaC2.open_
  obtain ⟨AaC3, CaC3, _, _, rfl, -⟩ := zaC3.open_
  have LaC := Rp.lt raC
  by_cases lenaS : 1048576 < aS.length
  · go_enter Tryz.func10, Tryz.ntmps10
    go_wp2
    go_ret
    exact ⟨rfl, (by with_reducible repeat (first | exact Only.refl _ _ | assumption | refine Only.drewN ?_ _ | refine Only.drew ?_ | refine Only.alloc ?_ _ | refine Only.setCell ?_ (by intro hh; exfalso; simp at hh; try omega) _ | refine Only.trans ?_ (by assumption)))⟩
  have smaS : Sm.sm aS := ⟨by omega, fun _ _ => trivial⟩
  have csaS : Mk.cnt aS ≤ 1048576 := by simp only [Mk.cnt, cntL_ints]; omega
  rcases szV_cases (1048576) aP with ⟨esaP, msaP⟩ | ⟨esaP, psaP, msaP⟩
  · go_enter Tryz.func10, Tryz.ntmps10
    go_wp2_with (with_reducible refine (szPuzzle_any [.int .i64 aP.points, .string aP.names, .slice AaP2 aP.moves.length CaP2] aP _ (1048576) _ (Rp.keep raP (((Only.refl [] _).alloc (.cells #[.int .i64 aP.points, .string aP.names, .slice AaP2 aP.moves.length CaP2] 24)).alloc (.cells #[.int .i64 aC.kind, .slice AaC1 aC.numbers.length CaC1, .slice AaC2 aC.words.length CaC2, .slice AaC3 aC.tables.length CaC3] 67))) (by omega) (by omega)).mono ?_; rintro e w1 ⟨rfl, t0⟩)
    go_ret
    exact ⟨rfl, (by with_reducible repeat (first | exact Only.refl _ _ | assumption | refine Only.drewN ?_ _ | refine Only.drew ?_ | refine Only.alloc ?_ _ | refine Only.setCell ?_ (by intro hh; exfalso; simp at hh; try omega) _ | refine Only.trans ?_ (by assumption)))⟩
  have smaP : Sm.sm aP := SzSm.of_ _ (by omega)
  have csaP : Mk.cnt aP ≤ 1048576 := Nat.le_trans (CntSz.le aP) (by omega)
  rcases szV_cases (1048576 - (Sz.sz aP : Nat)) aC with ⟨esaC, msaC⟩ | ⟨esaC, psaC, msaC⟩
  · go_enter Tryz.func10, Tryz.ntmps10
    go_wp2_with fail
    with_reducible refine (szPuzzle_any [.int .i64 aP.points, .string aP.names, .slice AaP2 aP.moves.length CaP2] aP _ (1048576) _ (Rp.keep raP (((Only.refl [] _).alloc (.cells #[.int .i64 aP.points, .string aP.names, .slice AaP2 aP.moves.length CaP2] 24)).alloc (.cells #[.int .i64 aC.kind, .slice AaC1 aC.numbers.length CaC1, .slice AaC2 aC.words.length CaC2, .slice AaC3 aC.tables.length CaC3] 67))) (by omega) (by omega)).mono ?_
    rintro e w1 ⟨rfl, t0⟩
    rw [esaP]
    have T0 : Only [] w w1 := (((Only.refl [] _).alloc (.cells #[.int .i64 aP.points, .string aP.names, .slice AaP2 aP.moves.length CaP2] 24)).alloc (.cells #[.int .i64 aC.kind, .slice AaC1 aC.numbers.length CaC1, .slice AaC2 aC.words.length CaC2, .slice AaC3 aC.tables.length CaC3] 67)).trans t0
    have S0 : w.heap.size + 2 ≤ w1.heap.size := by have := t0.size; simp at this; omega
    have BaP : Blk w1 w.heap.size [.int .i64 aP.points, .string aP.names, .slice AaP2 aP.moves.length CaP2] := (Blk.keep (Blk.keep (Blk.new_at (by simp)) ((Only.refl _ _).alloc _)) t0)
    have LBaP : w.heap.size < w1.heap.size := BaP.lt
    have HBaP := Lib.hid BaP; clear BaP
    have BaC : Blk w1 (w.heap.size + 1) [.int .i64 aC.kind, .slice AaC1 aC.numbers.length CaC1, .slice AaC2 aC.words.length CaC2, .slice AaC3 aC.tables.length CaC3] := (Blk.keep (Blk.new_at (by simp)) t0)
    have LBaC : (w.heap.size + 1) < w1.heap.size := BaC.lt
    have HBaC := Lib.hid BaC; clear BaC
    have caC_1_0 := (HBaC.out).cell 0 rfl
    have caC_1_1 := (HBaC.out).cell 1 rfl
    have caC_1_2 := (HBaC.out).cell 2 rfl
    have caC_1_3 := (HBaC.out).cell 3 rfl
    go_wp2_with (with_reducible refine (szCertificate_any [.int .i64 aC.kind, .slice AaC1 aC.numbers.length CaC1, .slice AaC2 aC.words.length CaC2, .slice AaC3 aC.tables.length CaC3] aC _ (1048576 - (Sz.sz aP : Nat)) _ (Rp.keep raC T0) (by omega) (by omega)).mono ?_; rintro e w2 ⟨rfl, t1⟩)
    go_ret
    exact ⟨rfl, (by with_reducible repeat (first | exact Only.refl _ _ | assumption | refine Only.drewN ?_ _ | refine Only.drew ?_ | refine Only.alloc ?_ _ | refine Only.setCell ?_ (by intro hh; exfalso; simp at hh; try omega) _ | refine Only.trans ?_ (by assumption)))⟩
  have smaC : Sm.sm aC := SzSm.of_ _ (by omega)
  have csaC : Mk.cnt aC ≤ 1048576 := Nat.le_trans (CntSz.le aC) (by omega)
  go_enter Tryz.func10, Tryz.ntmps10
  go_wp2_with fail
  with_reducible refine (szPuzzle_any [.int .i64 aP.points, .string aP.names, .slice AaP2 aP.moves.length CaP2] aP _ (1048576) _ (Rp.keep raP (((Only.refl [] _).alloc (.cells #[.int .i64 aP.points, .string aP.names, .slice AaP2 aP.moves.length CaP2] 24)).alloc (.cells #[.int .i64 aC.kind, .slice AaC1 aC.numbers.length CaC1, .slice AaC2 aC.words.length CaC2, .slice AaC3 aC.tables.length CaC3] 67))) (by omega) (by omega)).mono ?_
  rintro e w1 ⟨rfl, t0⟩
  rw [esaP]
  have T0 : Only [] w w1 := (((Only.refl [] _).alloc (.cells #[.int .i64 aP.points, .string aP.names, .slice AaP2 aP.moves.length CaP2] 24)).alloc (.cells #[.int .i64 aC.kind, .slice AaC1 aC.numbers.length CaC1, .slice AaC2 aC.words.length CaC2, .slice AaC3 aC.tables.length CaC3] 67)).trans t0
  have S0 : w.heap.size + 2 ≤ w1.heap.size := by have := t0.size; simp at this; omega
  have BaP : Blk w1 w.heap.size [.int .i64 aP.points, .string aP.names, .slice AaP2 aP.moves.length CaP2] := (Blk.keep (Blk.keep (Blk.new_at (by simp)) ((Only.refl _ _).alloc _)) t0)
  have LBaP : w.heap.size < w1.heap.size := BaP.lt
  have HBaP := Lib.hid BaP; clear BaP
  have BaC : Blk w1 (w.heap.size + 1) [.int .i64 aC.kind, .slice AaC1 aC.numbers.length CaC1, .slice AaC2 aC.words.length CaC2, .slice AaC3 aC.tables.length CaC3] := (Blk.keep (Blk.new_at (by simp)) t0)
  have LBaC : (w.heap.size + 1) < w1.heap.size := BaC.lt
  have HBaC := Lib.hid BaC; clear BaC
  have caC_1_0 := (HBaC.out).cell 0 rfl
  have caC_1_1 := (HBaC.out).cell 1 rfl
  have caC_1_2 := (HBaC.out).cell 2 rfl
  have caC_1_3 := (HBaC.out).cell 3 rfl
  go_wp2_with fail
  with_reducible refine (szCertificate_any [.int .i64 aC.kind, .slice AaC1 aC.numbers.length CaC1, .slice AaC2 aC.words.length CaC2, .slice AaC3 aC.tables.length CaC3] aC _ (1048576 - (Sz.sz aP : Nat)) _ (Rp.keep raC T0) (by omega) (by omega)).mono ?_
  rintro e w2 ⟨rfl, t1⟩
  rw [esaC]
  have T1 : Only [] w1 w2 := t1
  have S1 : w1.heap.size + 0 ≤ w2.heap.size := by have := T1.size; omega
  clear caC_1_0 caC_1_1 caC_1_2 caC_1_3
  go_upto_region 10 with fail
  have P0_w2 := (Blk.keep (Blk.keep HBaP.out T1) (Only.refl _ _ : Only [] w2 w2)).cell 0 rfl
  have P1_w2 := (Blk.keep (Blk.keep HBaP.out T1) (Only.refl _ _ : Only [] w2 w2)).cell 1 rfl
  have P2_w2 := (Blk.keep (Blk.keep HBaP.out T1) (Only.refl _ _ : Only [] w2 w2)).cell 2 rfl
  have a_Pw2 := (Only.refl [] w2).alloc (.cells #[.int .i64 0, .int .i64 0] 73)
  have Px0_w2 := a_Pw2.cell (by simp) P0_w2
  have Px1_w2 := a_Pw2.cell (by simp) P1_w2
  have Px2_w2 := a_Pw2.cell (by simp) P2_w2
  have C0_w2 := (Blk.keep (Blk.keep HBaC.out T1) (Only.refl _ _ : Only [] w2 w2)).cell 0 rfl
  have C1_w2 := (Blk.keep (Blk.keep HBaC.out T1) (Only.refl _ _ : Only [] w2 w2)).cell 1 rfl
  have C2_w2 := (Blk.keep (Blk.keep HBaC.out T1) (Only.refl _ _ : Only [] w2 w2)).cell 2 rfl
  have C3_w2 := (Blk.keep (Blk.keep HBaC.out T1) (Only.refl _ _ : Only [] w2 w2)).cell 3 rfl
  have a_Cw2 := (Only.refl [] w2).alloc (.cells #[.int .i64 0, .int .i64 0] 73)
  have Cx0_w2 := a_Cw2.cell (by simp) C0_w2
  have Cx1_w2 := a_Cw2.cell (by simp) C1_w2
  have Cx2_w2 := a_Cw2.cell (by simp) C2_w2
  have Cx3_w2 := a_Cw2.cell (by simp) C3_w2
  have HP := Lib.hid (fun (W : World) (hh : Only [] w2 W) => toPuzzle_any [.int .i64 aP.points, .string aP.names, .slice AaP2 aP.moves.length CaP2] aP _ W (Rp.keep (Rp.keep (Rp.keep raP T0) T1) hh) smaP)
  have HS := Lib.hid (fun (W : World) (hh : Only [] w2 W) => toInt64S_sm (.slice AaS aS.length CaS) aS _ W (Rp.keep (Rp.keep (Rp.keep raS T0) T1) hh) smaS)
  have HC := Lib.hid (fun (W : World) (hh : Only [] w2 W) => toCertificate_any [.int .i64 aC.kind, .slice AaC1 aC.numbers.length CaC1, .slice AaC2 aC.words.length CaC2, .slice AaC3 aC.tables.length CaC3] aC _ W (Rp.keep (Rp.keep (Rp.keep raC T0) T1) hh) smaC)
  have hc2 : ([.int .i64 0, .int .i64 0] : List Value).length = 2 := rfl
  go_cut [8, 9] (fun s8 s9 wx => CK1 w2 wx s8 s9 (chkC aP aS aC))
  case first =>
    go_region_law (first
      | (go_simp; go_at_call 15; (with_reducible refine (HP.out _ (by with_reducible repeat (first | exact Only.refl _ _ | assumption | refine Only.drewN ?_ _ | refine Only.drew ?_ | refine Only.alloc ?_ _ | refine Only.setCell ?_ (by intro hh; exfalso; simp at hh; try omega) _ | refine Only.trans ?_ (by assumption)))).mono ?_); rintro e w3 ⟨u1, f1, rfl, r1, F1, t2⟩; have C0_w3 := (Blk.keep (Blk.keep HBaC.out T1) ((by with_reducible repeat (first | exact Only.refl _ _ | assumption | refine Only.drewN ?_ _ | refine Only.drew ?_ | refine Only.alloc ?_ _ | refine Only.setCell ?_ (by intro hh; exfalso; simp at hh; try omega) _ | refine Only.trans ?_ (by assumption))) : Only [] w2 w3)).cell 0 rfl; have C1_w3 := (Blk.keep (Blk.keep HBaC.out T1) ((by with_reducible repeat (first | exact Only.refl _ _ | assumption | refine Only.drewN ?_ _ | refine Only.drew ?_ | refine Only.alloc ?_ _ | refine Only.setCell ?_ (by intro hh; exfalso; simp at hh; try omega) _ | refine Only.trans ?_ (by assumption))) : Only [] w2 w3)).cell 1 rfl; have C2_w3 := (Blk.keep (Blk.keep HBaC.out T1) ((by with_reducible repeat (first | exact Only.refl _ _ | assumption | refine Only.drewN ?_ _ | refine Only.drew ?_ | refine Only.alloc ?_ _ | refine Only.setCell ?_ (by intro hh; exfalso; simp at hh; try omega) _ | refine Only.trans ?_ (by assumption))) : Only [] w2 w3)).cell 2 rfl; have C3_w3 := (Blk.keep (Blk.keep HBaC.out T1) ((by with_reducible repeat (first | exact Only.refl _ _ | assumption | refine Only.drewN ?_ _ | refine Only.drew ?_ | refine Only.alloc ?_ _ | refine Only.setCell ?_ (by intro hh; exfalso; simp at hh; try omega) _ | refine Only.trans ?_ (by assumption))) : Only [] w2 w3)).cell 3 rfl; have a_Cw3 := (Only.refl [] w3).alloc (.cells #[.int .i64 0, .int .i64 0] 73); have Cx0_w3 := a_Cw3.cell (by simp) C0_w3; have Cx1_w3 := a_Cw3.cell (by simp) C1_w3; have Cx2_w3 := a_Cw3.cell (by simp) C2_w3; have Cx3_w3 := a_Cw3.cell (by simp) C3_w3)
      | (go_simp; go_at_call 30; (with_reducible refine (HS.out _ (by with_reducible repeat (first | exact Only.refl _ _ | assumption | refine Only.drewN ?_ _ | refine Only.drew ?_ | refine Only.alloc ?_ _ | refine Only.setCell ?_ (by intro hh; exfalso; simp at hh; try omega) _ | refine Only.trans ?_ (by assumption)))).mono ?_); rintro e w4 ⟨v2, f2, rfl, r2, F2, t3⟩; have C0_w4 := (Blk.keep (Blk.keep HBaC.out T1) ((by with_reducible repeat (first | exact Only.refl _ _ | assumption | refine Only.drewN ?_ _ | refine Only.drew ?_ | refine Only.alloc ?_ _ | refine Only.setCell ?_ (by intro hh; exfalso; simp at hh; try omega) _ | refine Only.trans ?_ (by assumption))) : Only [] w2 w4)).cell 0 rfl; have C1_w4 := (Blk.keep (Blk.keep HBaC.out T1) ((by with_reducible repeat (first | exact Only.refl _ _ | assumption | refine Only.drewN ?_ _ | refine Only.drew ?_ | refine Only.alloc ?_ _ | refine Only.setCell ?_ (by intro hh; exfalso; simp at hh; try omega) _ | refine Only.trans ?_ (by assumption))) : Only [] w2 w4)).cell 1 rfl; have C2_w4 := (Blk.keep (Blk.keep HBaC.out T1) ((by with_reducible repeat (first | exact Only.refl _ _ | assumption | refine Only.drewN ?_ _ | refine Only.drew ?_ | refine Only.alloc ?_ _ | refine Only.setCell ?_ (by intro hh; exfalso; simp at hh; try omega) _ | refine Only.trans ?_ (by assumption))) : Only [] w2 w4)).cell 2 rfl; have C3_w4 := (Blk.keep (Blk.keep HBaC.out T1) ((by with_reducible repeat (first | exact Only.refl _ _ | assumption | refine Only.drewN ?_ _ | refine Only.drew ?_ | refine Only.alloc ?_ _ | refine Only.setCell ?_ (by intro hh; exfalso; simp at hh; try omega) _ | refine Only.trans ?_ (by assumption))) : Only [] w2 w4)).cell 3 rfl; have a_Cw4 := (Only.refl [] w4).alloc (.cells #[.int .i64 0, .int .i64 0] 73); have Cx0_w4 := a_Cw4.cell (by simp) C0_w4; have Cx1_w4 := a_Cw4.cell (by simp) C1_w4; have Cx2_w4 := a_Cw4.cell (by simp) C2_w4; have Cx3_w4 := a_Cw4.cell (by simp) C3_w4)
      | (go_simp; go_at_call 45; (with_reducible refine (HC.out _ (by with_reducible repeat (first | exact Only.refl _ _ | assumption | refine Only.drewN ?_ _ | refine Only.drew ?_ | refine Only.alloc ?_ _ | refine Only.setCell ?_ (by intro hh; exfalso; simp at hh; try omega) _ | refine Only.trans ?_ (by assumption)))).mono ?_); rintro e w5 ⟨u3, f3, rfl, r3, F3, t4⟩)
      | (go_simp; go_at_call 47; (with_reducible refine (specCheck_any u1 u3 aP aC _ _ v2 aS _ _ (Rp.keep r1 (by with_reducible repeat (first | exact Only.refl _ _ | assumption | refine Only.drewN ?_ _ | refine Only.drew ?_ | refine Only.alloc ?_ _ | refine Only.setCell ?_ (by intro hh; exfalso; simp at hh; try omega) _ | refine Only.trans ?_ (by assumption)))) (Rp.keep r2 (by with_reducible repeat (first | exact Only.refl _ _ | assumption | refine Only.drewN ?_ _ | refine Only.drew ?_ | refine Only.alloc ?_ _ | refine Only.setCell ?_ (by intro hh; exfalso; simp at hh; try omega) _ | refine Only.trans ?_ (by assumption)))) (Rp.keep r3 (by with_reducible repeat (first | exact Only.refl _ _ | assumption | refine Only.drewN ?_ _ | refine Only.drew ?_ | refine Only.alloc ?_ _ | refine Only.setCell ?_ (by intro hh; exfalso; simp at hh; try omega) _ | refine Only.trans ?_ (by assumption)))) (sm_tabs smaC)).mono ?_); rintro e w6 ⟨rfl, t5⟩; (first
        | (have zq : Only [] (w2.alloc (.cells #[.int .i64 0, .int .i64 0] 73)) w6 := ?zq; (case zq => with_reducible repeat (first | exact Only.refl _ _ | assumption | refine Only.drew ?_ | refine Only.alloc ?_ _ | refine Only.trans ?_ (by assumption))); have Z := Blk.keep (Blk.new w2 [.int .i64 0, .int .i64 0] 73) zq; have zg : w2.heap.size ≤ w2.heap.size := Only.size ((by with_reducible repeat (first | exact Only.refl _ _ | assumption | refine Only.drewN ?_ _ | refine Only.drew ?_ | refine Only.alloc ?_ _ | refine Only.setCell ?_ (by intro hh; exfalso; simp at hh; try omega) _ | refine Only.trans ?_ (by assumption))) : Only [] w2 w2))
        | (have zq : Only [] (w3.alloc (.cells #[.int .i64 0, .int .i64 0] 73)) w6 := ?zq; (case zq => with_reducible repeat (first | exact Only.refl _ _ | assumption | refine Only.drew ?_ | refine Only.alloc ?_ _ | refine Only.trans ?_ (by assumption))); have Z := Blk.keep (Blk.new w3 [.int .i64 0, .int .i64 0] 73) zq; have zg : w2.heap.size ≤ w3.heap.size := Only.size ((by with_reducible repeat (first | exact Only.refl _ _ | assumption | refine Only.drewN ?_ _ | refine Only.drew ?_ | refine Only.alloc ?_ _ | refine Only.setCell ?_ (by intro hh; exfalso; simp at hh; try omega) _ | refine Only.trans ?_ (by assumption))) : Only [] w2 w3))
        | (have zq : Only [] (w4.alloc (.cells #[.int .i64 0, .int .i64 0] 73)) w6 := ?zq; (case zq => with_reducible repeat (first | exact Only.refl _ _ | assumption | refine Only.drew ?_ | refine Only.alloc ?_ _ | refine Only.trans ?_ (by assumption))); have Z := Blk.keep (Blk.new w4 [.int .i64 0, .int .i64 0] 73) zq; have zg : w2.heap.size ≤ w4.heap.size := Only.size ((by with_reducible repeat (first | exact Only.refl _ _ | assumption | refine Only.drewN ?_ _ | refine Only.drew ?_ | refine Only.alloc ?_ _ | refine Only.setCell ?_ (by intro hh; exfalso; simp at hh; try omega) _ | refine Only.trans ?_ (by assumption))) : Only [] w2 w4))
        | (have zq : Only [] (w5.alloc (.cells #[.int .i64 0, .int .i64 0] 73)) w6 := ?zq; (case zq => with_reducible repeat (first | exact Only.refl _ _ | assumption | refine Only.drew ?_ | refine Only.alloc ?_ _ | refine Only.trans ?_ (by assumption))); have Z := Blk.keep (Blk.new w5 [.int .i64 0, .int .i64 0] 73) zq; have zg : w2.heap.size ≤ w5.heap.size := Only.size ((by with_reducible repeat (first | exact Only.refl _ _ | assumption | refine Only.drewN ?_ _ | refine Only.drew ?_ | refine Only.alloc ?_ _ | refine Only.setCell ?_ (by intro hh; exfalso; simp at hh; try omega) _ | refine Only.trans ?_ (by assumption))) : Only [] w2 w5))
        | (have Z := Blk.new w6 [.int .i64 0, .int .i64 0] 73; have zg : w2.heap.size ≤ w6.heap.size := Only.size ((by with_reducible repeat (first | exact Only.refl _ _ | assumption | refine Only.drewN ?_ _ | refine Only.drew ?_ | refine Only.alloc ?_ _ | refine Only.setCell ?_ (by intro hh; exfalso; simp at hh; try omega) _ | refine Only.trans ?_ (by assumption))) : Only [] w2 w6))); have g0 := Z.cell 0 rfl; have g1 := Z.cell 1 rfl; have p0 := Z.frozen 0; have p1 := Z.frozen 1)
      | fail "no arm")
    all_goals go_wp2_with fail
    all_goals go_meet
    all_goals have KK : Only [] w2 w6 := (by with_reducible repeat (first | exact Only.refl _ _ | assumption | refine Only.drewN ?_ _ | refine Only.drew ?_ | refine Only.alloc ?_ _ | refine Only.setCell ?_ (by intro hh; exfalso; simp at hh; try omega) _ | refine Only.trans ?_ (by assumption)))
    all_goals first
      | with_reducible exact CK1.of2 KK rfl
      | with_reducible exact CK1.of Z hc2 (KK.alloc _) zg
      | with_reducible exact CK1.of Z hc2 KK zg
  case rest =>
    obtain ⟨g, hg, rfl, rfl, z, k⟩ := hcut
    have T2 := k
    have T3 : Only [] wc wc := Only.refl _ _
    have T4 : Only [] wc wc := Only.refl _ _
    have T5 : Only [] wc wc := Only.refl _ _
    have S2 : w2.heap.size + 0 ≤ wc.heap.size := by have := T2.size; omega
    have LBW : g < wc.heap.size := z.lt
    have HBW := Lib.hid z
    clear z k hg
    obtain ⟨i1, i2⟩ := rep_i64 raC
    obtain ⟨j1, j2⟩ := chkC_i64 (x := aP) (s := aS) i1 i2
    clear i1 i2
    have jr : ∀ (W : World), Rp.rep W [.int .i64 ((chkC aP aS aC).getD noClaim).kind, .int .i64 ((chkC aP aS aC).getD noClaim).value] ((chkC aP aS aC).getD noClaim) [] := fun _ => ⟨rfl, j1, j2, rfl⟩
    have caP_6_0 := ((Blk.keep (Blk.keep (Blk.keep (Blk.keep (Blk.keep HBaP.out T1) T2) T3) T4) T5)).cell 0 rfl
    have caP_6_1 := ((Blk.keep (Blk.keep (Blk.keep (Blk.keep (Blk.keep HBaP.out T1) T2) T3) T4) T5)).cell 1 rfl
    have caP_6_2 := ((Blk.keep (Blk.keep (Blk.keep (Blk.keep (Blk.keep HBaP.out T1) T2) T3) T4) T5)).cell 2 rfl
    go_wp2_with fail
    with_reducible refine (toPuzzle_any [.int .i64 aP.points, .string aP.names, .slice AaP2 aP.moves.length CaP2] aP _ _ (Rp.keep (Rp.keep (Rp.keep (Rp.keep (Rp.keep (Rp.keep raP T0) T1) T2) T3) T4) T5) smaP).mono ?_
    rintro e w7 ⟨u4, f4, rfl, r4, F4, t6⟩
    have T6 : Only [] wc w7 := t6
    have S6 : wc.heap.size + 0 ≤ w7.heap.size := by have := T6.size; omega
    clear caP_6_0 caP_6_1 caP_6_2
    have q4 := r4
    obtain ⟨u42, rfl, -, -, z42⟩ := q4
    obtain ⟨A42, C42, _, _, rfl, -⟩ := z42.open_
    have L4 := Rp.lt r4
    have G4 : ∀ b ∈ f4, wc.heap.size ≤ b := fun b hb => by have := F4.ge b hb; omega
    go_wp2_with fail
    with_reducible refine (toInt64S_sm (.slice AaS aS.length CaS) aS _ _ (Rp.keep (Rp.keep (Rp.keep (Rp.keep (Rp.keep (Rp.keep (Rp.keep (Rp.keep raS T0) T1) T2) T3) T4) T5) T6) ((Only.refl [] _).alloc (.cells #[.int .i64 aP.points, .string aP.names, .slice A42 aP.moves.length C42] 37))) smaS).mono ?_
    rintro e w8 ⟨v5, f5, rfl, r5, F5, t7⟩
    have T7 : Only [] w7 w8 := ((Only.refl [] _).alloc (.cells #[.int .i64 aP.points, .string aP.names, .slice A42 aP.moves.length C42] 37)).trans t7
    have S7 : w7.heap.size + 1 ≤ w8.heap.size := by have := t7.size; simp at this; omega
    have B4 : Blk w8 w7.heap.size [.int .i64 aP.points, .string aP.names, .slice A42 aP.moves.length C42] := (Blk.keep (Blk.new_at (by simp)) t7)
    have LB4 : w7.heap.size < w8.heap.size := B4.lt
    have HB4 := Lib.hid B4; clear B4
    have L5 := Rp.lt r5
    have G5 : ∀ b ∈ f5, w7.heap.size + 1 ≤ b := fun b hb => by have := F5.ge b hb; simp at this; omega
    have caC_8_0 := ((Blk.keep (Blk.keep (Blk.keep (Blk.keep (Blk.keep (Blk.keep (Blk.keep HBaC.out T1) T2) T3) T4) T5) T6) T7)).cell 0 rfl
    have caC_8_1 := ((Blk.keep (Blk.keep (Blk.keep (Blk.keep (Blk.keep (Blk.keep (Blk.keep HBaC.out T1) T2) T3) T4) T5) T6) T7)).cell 1 rfl
    have caC_8_2 := ((Blk.keep (Blk.keep (Blk.keep (Blk.keep (Blk.keep (Blk.keep (Blk.keep HBaC.out T1) T2) T3) T4) T5) T6) T7)).cell 2 rfl
    have caC_8_3 := ((Blk.keep (Blk.keep (Blk.keep (Blk.keep (Blk.keep (Blk.keep (Blk.keep HBaC.out T1) T2) T3) T4) T5) T6) T7)).cell 3 rfl
    go_wp2_with fail
    with_reducible refine (toCertificate_any [.int .i64 aC.kind, .slice AaC1 aC.numbers.length CaC1, .slice AaC2 aC.words.length CaC2, .slice AaC3 aC.tables.length CaC3] aC _ _ (Rp.keep (Rp.keep (Rp.keep (Rp.keep (Rp.keep (Rp.keep (Rp.keep (Rp.keep raC T0) T1) T2) T3) T4) T5) T6) T7) smaC).mono ?_
    rintro e w9 ⟨u6, f6, rfl, r6, F6, t8⟩
    have T8 : Only [] w8 w9 := t8
    have S8 : w8.heap.size + 0 ≤ w9.heap.size := by have := T8.size; omega
    clear caC_8_0 caC_8_1 caC_8_2 caC_8_3
    have q6 := r6
    obtain ⟨u61, u62, u63, _, _, _, rfl, -, -, z61, z62, z63⟩ := q6
    obtain ⟨A61, C61, _, _, rfl, -⟩ := z61.open_
    obtain ⟨A62, C62, _, _, rfl, -⟩ := z62.open_
    obtain ⟨A63, C63, _, _, rfl, -⟩ := z63.open_
    have L6 := Rp.lt r6
    have G6 : ∀ b ∈ f6, w8.heap.size ≤ b := fun b hb => by have := F6.ge b hb; omega
    have c4_9_0 := ((Only.refl [] _).alloc (.cells #[.int .i64 aC.kind, .slice A61 aC.numbers.length C61, .slice A62 aC.words.length C62, .slice A63 aC.tables.length C63] 51)).cell (by simp) (((Blk.keep HB4.out T8)).cell 0 rfl)
    have c4_9_1 := ((Only.refl [] _).alloc (.cells #[.int .i64 aC.kind, .slice A61 aC.numbers.length C61, .slice A62 aC.words.length C62, .slice A63 aC.tables.length C63] 51)).cell (by simp) (((Blk.keep HB4.out T8)).cell 1 rfl)
    have c4_9_2 := ((Only.refl [] _).alloc (.cells #[.int .i64 aC.kind, .slice A61 aC.numbers.length C61, .slice A62 aC.words.length C62, .slice A63 aC.tables.length C63] 51)).cell (by simp) (((Blk.keep HB4.out T8)).cell 2 rfl)
    go_wp2_with fail
    with_reducible refine (implCheck_any [.int .i64 aP.points, .string aP.names, .slice A42 aP.moves.length C42] [.int .i64 aC.kind, .slice A61 aC.numbers.length C61, .slice A62 aC.words.length C62, .slice A63 aC.tables.length C63] aP aC _ _ v5 aS _ _ (Rp.keep (Rp.keep (Rp.keep r4 T7) T8) ((Only.refl [] _).alloc (.cells #[.int .i64 aC.kind, .slice A61 aC.numbers.length C61, .slice A62 aC.words.length C62, .slice A63 aC.tables.length C63] 51))) (Rp.keep (Rp.keep r5 T8) ((Only.refl [] _).alloc (.cells #[.int .i64 aC.kind, .slice A61 aC.numbers.length C61, .slice A62 aC.words.length C62, .slice A63 aC.tables.length C63] 51))) (Rp.keep r6 ((Only.refl [] _).alloc (.cells #[.int .i64 aC.kind, .slice A61 aC.numbers.length C61, .slice A62 aC.words.length C62, .slice A63 aC.tables.length C63] 51))) (sm_tabs smaC)).mono ?_
    rintro e w10 ⟨rfl, t9⟩
    have T9 : Only [] w9 w10 := ((Only.refl [] _).alloc (.cells #[.int .i64 aC.kind, .slice A61 aC.numbers.length C61, .slice A62 aC.words.length C62, .slice A63 aC.tables.length C63] 51)).trans t9
    have S9 : w9.heap.size + 1 ≤ w10.heap.size := by have := t9.size; simp at this; omega
    have B6 : Blk w10 w9.heap.size [.int .i64 aC.kind, .slice A61 aC.numbers.length C61, .slice A62 aC.words.length C62, .slice A63 aC.tables.length C63] := (Blk.keep (Blk.new_at (by simp)) t9)
    have LB6 : w9.heap.size < w10.heap.size := B6.lt
    have HB6 := Lib.hid B6; clear B6
    clear c4_9_0 c4_9_1 c4_9_2
    have cW0 := ((Only.refl [] w10).alloc (.cells #[.int .i64 ((chkC aP aS aC).getD noClaim).kind, .int .i64 ((chkC aP aS aC).getD noClaim).value] 73)).cell (by simp) ((Blk.keep (Blk.keep (Blk.keep (Blk.keep HBW.out T6) T7) T8) T9).cell 0 rfl)
    have cW1 := ((Only.refl [] w10).alloc (.cells #[.int .i64 ((chkC aP aS aC).getD noClaim).kind, .int .i64 ((chkC aP aS aC).getD noClaim).value] 73)).cell (by simp) ((Blk.keep (Blk.keep (Blk.keep (Blk.keep HBW.out T6) T7) T8) T9).cell 1 rfl)
    have e10 : eqV ((chkC aP aS aC).getD noClaim) ((chkC aP aS aC).getD noClaim) = true := eqV_yes rfl
    go_wp2_with fail
    with_reducible refine (eqClaim_any [.int .i64 ((chkC aP aS aC).getD noClaim).kind, .int .i64 ((chkC aP aS aC).getD noClaim).value] [.int .i64 ((chkC aP aS aC).getD noClaim).kind, .int .i64 ((chkC aP aS aC).getD noClaim).value] ((chkC aP aS aC).getD noClaim) ((chkC aP aS aC).getD noClaim) [] [] _ (jr _) (jr _)).mono ?_
    rintro e w10b ⟨rfl, t9b⟩
    have T9b : Only [] w10 w10b := ((Only.refl [] _).alloc (.cells #[.int .i64 ((chkC aP aS aC).getD noClaim).kind, .int .i64 ((chkC aP aS aC).getD noClaim).value] 73)).trans t9b
    have T9c := T9.trans T9b
    have S9b : w10.heap.size + 1 ≤ w10b.heap.size := by have := t9b.size; simp at this; omega
    have HB6b := Lib.hid (Blk.keep HB6.out T9b)
    clear cW0 cW1
    go_upto_region 17 with fail
    have e11 : eqV aP aP = true := eqV_yes rfl
    go_region_held3 (fun w' => Only [] w10b w' ∧ w'.cell? ⟨w7.heap.size, 0, none⟩ = some (.int .i64 aP.points) ∧ w'.cell? ⟨w7.heap.size, 1, none⟩ = some (.string aP.names) ∧ w'.cell? ⟨w7.heap.size, 2, none⟩ = some (.slice A42 aP.moves.length C42) ∧ w'.cell? ⟨w.heap.size, 0, none⟩ = some (.int .i64 aP.points) ∧ w'.cell? ⟨w.heap.size, 1, none⟩ = some (.string aP.names) ∧ w'.cell? ⟨w.heap.size, 2, none⟩ = some (.slice AaP2 aP.moves.length CaP2)) ((refine and_of ?_ (fun h__ => ⟨(Blk.keep (Blk.keep (Blk.keep HB4.out T8) T9c) h__).cell 0 rfl, (Blk.keep (Blk.keep (Blk.keep HB4.out T8) T9c) h__).cell 1 rfl, (Blk.keep (Blk.keep (Blk.keep HB4.out T8) T9c) h__).cell 2 rfl, (Blk.keep (Blk.keep (Blk.keep (Blk.keep (Blk.keep (Blk.keep (Blk.keep (Blk.keep (Blk.keep (Blk.keep HBaP.out T1) T2) T3) T4) T5) T6) T7) T8) T9c) h__).cell 0 rfl, (Blk.keep (Blk.keep (Blk.keep (Blk.keep (Blk.keep (Blk.keep (Blk.keep (Blk.keep (Blk.keep (Blk.keep HBaP.out T1) T2) T3) T4) T5) T6) T7) T8) T9c) h__).cell 1 rfl, (Blk.keep (Blk.keep (Blk.keep (Blk.keep (Blk.keep (Blk.keep (Blk.keep (Blk.keep (Blk.keep (Blk.keep HBaP.out T1) T2) T3) T4) T5) T6) T7) T8) T9c) h__).cell 2 rfl⟩); first | exact (Only.refl _ _).drew | exact Only.trans (And.left (by assumption)) (by assumption))) (first
      | (go_at_call 15; (with_reducible refine (toPuzzle_any [.int .i64 aP.points, .string aP.names, .slice AaP2 aP.moves.length CaP2] aP _ _ (Rp.keep (Rp.keep (Rp.keep (Rp.keep (Rp.keep (Rp.keep (Rp.keep (Rp.keep (Rp.keep (Rp.keep (Rp.keep raP T0) T1) T2) T3) T4) T5) T6) T7) T8) T9c) (And.left (by assumption))) smaP).mono ?_); rintro e w11 ⟨u7, f7, rfl, r7, F7, t10⟩)
      | (go_at_call 19; (with_reducible refine (eqPuzzle_any [.int .i64 aP.points, .string aP.names, .slice A42 aP.moves.length C42] u7 aP aP _ _ _ (Rp.keep (Rp.keep (Rp.keep (Rp.keep r4 T7) T8) T9c) (And.left (by assumption))) (Rp.keep r7 (by first | exact Only.refl _ _ | assumption | exact Only.trans (by assumption) (by assumption)))).mono ?_); rintro e w12 ⟨rfl, t11⟩)
      | fail "no arm")
    have T10 : Only [] w10b w11 := ((Only.refl _ _).drew).trans t10
    have S10 : w10b.heap.size + 0 ≤ w11.heap.size := by have := T10.size; omega
    have L7 := Rp.lt r7
    have G7 : ∀ b ∈ f7, w10b.heap.size ≤ b := fun b hb => by have := F7.ge b hb; first | omega | (simp at this; omega)
    have T11 : Only [] w11 w12 := t11
    have S11 : w11.heap.size + 0 ≤ w12.heap.size := by have := T11.size; omega
    go_wp2_with fail
    with_reducible refine (toInt64S_sm (.slice AaS aS.length CaS) aS _ _ (Rp.keep (Rp.keep (Rp.keep (Rp.keep (Rp.keep (Rp.keep (Rp.keep (Rp.keep (Rp.keep (Rp.keep (Rp.keep (Rp.keep raS T0) T1) T2) T3) T4) T5) T6) T7) T8) T9c) T10) T11) smaS).mono ?_
    rintro e w13 ⟨v8, f8, rfl, r8, F8, t12⟩
    have T12 : Only [] w12 w13 := t12
    have S12 : w12.heap.size + 0 ≤ w13.heap.size := by have := T12.size; omega
    have L8 := Rp.lt r8
    have G8 : ∀ b ∈ f8, w12.heap.size ≤ b := fun b hb => by have := F8.ge b hb; omega
    have e13 : eqV aS aS = true := eqV_yes rfl
    go_wp2_with fail
    with_reducible refine (eqInt64S_rd v5 v8 aS aS _ _ _ (Rp.keep (Rp.keep (Rp.keep (Rp.keep (Rp.keep r5 T8) T9c) T10) T11) T12) r8).mono ?_
    rintro e w14 ⟨rfl, d13⟩
    have t13 := d13.only []
    have T13 : Only [] w13 w14 := t13
    have S13 : w13.heap.size + 0 ≤ w14.heap.size := by have := T13.size; omega
    go_upto_region 21 with fail
    have e15 : eqV aC aC = true := eqV_yes rfl
    go_region_held3 (fun w' => Only [] w14 w' ∧ w'.cell? ⟨w9.heap.size, 0, none⟩ = some (.int .i64 aC.kind) ∧ w'.cell? ⟨w9.heap.size, 1, none⟩ = some (.slice A61 aC.numbers.length C61) ∧ w'.cell? ⟨w9.heap.size, 2, none⟩ = some (.slice A62 aC.words.length C62) ∧ w'.cell? ⟨w9.heap.size, 3, none⟩ = some (.slice A63 aC.tables.length C63) ∧ w'.cell? ⟨(w.heap.size + 1), 0, none⟩ = some (.int .i64 aC.kind) ∧ w'.cell? ⟨(w.heap.size + 1), 1, none⟩ = some (.slice AaC1 aC.numbers.length CaC1) ∧ w'.cell? ⟨(w.heap.size + 1), 2, none⟩ = some (.slice AaC2 aC.words.length CaC2) ∧ w'.cell? ⟨(w.heap.size + 1), 3, none⟩ = some (.slice AaC3 aC.tables.length CaC3)) ((refine and_of ?_ (fun h__ => ⟨(Blk.keep (Blk.keep (Blk.keep (Blk.keep (Blk.keep HB6b.out T10) T11) T12) T13) h__).cell 0 rfl, (Blk.keep (Blk.keep (Blk.keep (Blk.keep (Blk.keep HB6b.out T10) T11) T12) T13) h__).cell 1 rfl, (Blk.keep (Blk.keep (Blk.keep (Blk.keep (Blk.keep HB6b.out T10) T11) T12) T13) h__).cell 2 rfl, (Blk.keep (Blk.keep (Blk.keep (Blk.keep (Blk.keep HB6b.out T10) T11) T12) T13) h__).cell 3 rfl, (Blk.keep (Blk.keep (Blk.keep (Blk.keep (Blk.keep (Blk.keep (Blk.keep (Blk.keep (Blk.keep (Blk.keep (Blk.keep (Blk.keep (Blk.keep (Blk.keep HBaC.out T1) T2) T3) T4) T5) T6) T7) T8) T9c) T10) T11) T12) T13) h__).cell 0 rfl, (Blk.keep (Blk.keep (Blk.keep (Blk.keep (Blk.keep (Blk.keep (Blk.keep (Blk.keep (Blk.keep (Blk.keep (Blk.keep (Blk.keep (Blk.keep (Blk.keep HBaC.out T1) T2) T3) T4) T5) T6) T7) T8) T9c) T10) T11) T12) T13) h__).cell 1 rfl, (Blk.keep (Blk.keep (Blk.keep (Blk.keep (Blk.keep (Blk.keep (Blk.keep (Blk.keep (Blk.keep (Blk.keep (Blk.keep (Blk.keep (Blk.keep (Blk.keep HBaC.out T1) T2) T3) T4) T5) T6) T7) T8) T9c) T10) T11) T12) T13) h__).cell 2 rfl, (Blk.keep (Blk.keep (Blk.keep (Blk.keep (Blk.keep (Blk.keep (Blk.keep (Blk.keep (Blk.keep (Blk.keep (Blk.keep (Blk.keep (Blk.keep (Blk.keep HBaC.out T1) T2) T3) T4) T5) T6) T7) T8) T9c) T10) T11) T12) T13) h__).cell 3 rfl⟩); first | exact (Only.refl _ _).drew | exact Only.trans (And.left (by assumption)) (by assumption))) (first
      | (go_at_call 45; (with_reducible refine (toCertificate_any [.int .i64 aC.kind, .slice AaC1 aC.numbers.length CaC1, .slice AaC2 aC.words.length CaC2, .slice AaC3 aC.tables.length CaC3] aC _ _ (Rp.keep (Rp.keep (Rp.keep (Rp.keep (Rp.keep (Rp.keep (Rp.keep (Rp.keep (Rp.keep (Rp.keep (Rp.keep (Rp.keep (Rp.keep (Rp.keep (Rp.keep raC T0) T1) T2) T3) T4) T5) T6) T7) T8) T9c) T10) T11) T12) T13) (And.left (by assumption))) smaC).mono ?_); rintro e w15 ⟨u9, f9, rfl, r9, F9, t14⟩)
      | (go_at_call 32; (with_reducible refine (eqCertificate_any [.int .i64 aC.kind, .slice A61 aC.numbers.length C61, .slice A62 aC.words.length C62, .slice A63 aC.tables.length C63] u9 aC aC _ _ _ (Rp.keep (Rp.keep (Rp.keep (Rp.keep (Rp.keep (Rp.keep r6 T9c) T10) T11) T12) T13) (And.left (by assumption))) (Rp.keep r9 (by first | exact Only.refl _ _ | assumption | exact Only.trans (by assumption) (by assumption)))).mono ?_); rintro e w16 ⟨rfl, t15⟩)
      | fail "no arm")
    have T14 : Only [] w14 w15 := ((Only.refl _ _).drew).trans t14
    have S14 : w14.heap.size + 0 ≤ w15.heap.size := by have := T14.size; omega
    have L9 := Rp.lt r9
    have G9 : ∀ b ∈ f9, w14.heap.size ≤ b := fun b hb => by have := F9.ge b hb; first | omega | (simp at this; omega)
    have T15 : Only [] w15 w16 := t15
    have S15 : w15.heap.size + 0 ≤ w16.heap.size := by have := T15.size; omega
    go_wp2
    go_ret
    refine ⟨rfl, ?_⟩
    exact (Only.keepThen (Only.keepThen (Only.keepThen (Only.keepThen (Only.keepThen (Only.keepThen (Only.keepThen (Only.keepThen (Only.keepThen (Only.keepThen (Only.keepThen (Only.keepThen (Only.keepThen (Only.keepThen (Only.keepThen T0 T1) T2) T3) T4) T5) T6) T7) T8) T9c) T10) T11) T12) T13) T14) T15)
end Go.Proofs.YtlcoejncdbkhcaaGreat
