/- Equality of plain data: the reference's and the program's. -/
import Derived.Test.YtpfmkjcngknecaaLawTableS
import Derived.Test.YtpfmkjcngknecaaWord
namespace Go.Proofs.Ytpfmkjcngknecaa
open Go.RowKit
set_option maxRecDepth 10000

set_option maxHeartbeats 400000 in
theorem equalInts_any (a a' : Option Addr) (cap cap' : Nat) (l l' : List Int) (fp fp' : List Nat) (w : World) (h : IntsA w a cap l fp) (h' : IntsA w a' cap' l' fp') :
    Calls Try.prog 49 #[.slice a l.length cap, .slice a' l'.length cap'] w fun e w' => e = .returned (.bool (eqV l l')) ∧ Drew w w' := by
  have hb := h.bound
  have hb' := h'.bound
  by_cases hl : l.length = l'.length
  · have hne : ((l.length : Int) != (l'.length : Int)) = false := by simp [hl]
    have Hl := Lib.hid hl; clear hl
    go_enter Try.func49, Try.ntmps49
    go_wp2
    go_loopw [5] (fun i wr => ∃ j : Nat, j ≤ l.length ∧ i = .int .i64 j ∧ l.take j = l'.take j ∧ Drew w wr)
      (fun i _ => l.length - (intOf i).toNat)
    case atStart => exact ⟨0, Nat.zero_le _, rfl, rfl, Drew.refl _⟩
    case round =>
      obtain ⟨j, hj, rfl, hr, n, rfl⟩ := hrel
      have Hr := Lib.hid hr; clear hr
      by_cases hlt : j < l.length
      · have hlt' : j < l'.length := by have := Hl.out; omega
        obtain ⟨b, off, ha, -, hc⟩ := h.at_ j hlt
        obtain ⟨b', off', ha', -, hc'⟩ := h'.at_ j hlt'
        go_wp2
        go_quiet (fail)
        go_wp2
        · have hne : (l[j] != l'[j]) = true := by assumption
          go_ret
          exact ⟨ret_bool (eqInts_no hlt hlt' hne).symm, ((Drew.refl _).drewN _).drewN _⟩
        · have heq : (l[j] != l'[j]) = false := by assumption
          go_roundw
          case rel => exact ⟨j + 1, by omega, by go_num, eqInts_step hlt hlt' heq Hr.out, ⟨_, rfl⟩⟩
          case measure => simp [intOf]; omega
      · go_wp2
        go_ret
        exact ⟨ret_bool (eqL_yes Hl.out hlt Hr.out).symm, (Drew.refl _).drewN n⟩
  · have hne : ((l.length : Int) != (l'.length : Int)) = true := by simp; omega
    go_enter Try.func49, Try.ntmps49
    go_wp2
    go_ret
    exact ⟨ret_bool (eqL_len hne).symm, Drew.refl _⟩

theorem equalInts_rd (v v' : Value) (l l' : List Int) (fp fp' : List Nat) (w : World) (h : Rd w v l fp) (h' : Rd w v' l' fp') :
    Calls Try.prog 49 #[v, v'] w fun e w' => e = .returned (.bool (eqV l l')) ∧ Drew w w' := by
  obtain ⟨a, cap, rfl, hI⟩ := h.ints
  obtain ⟨a', cap', rfl, hI'⟩ := h'.ints
  exact equalInts_any a a' cap cap' l l' fp fp' w hI hI'
set_option maxHeartbeats 400000 in
theorem equalPartitions_any (a a' : Option Addr) (cap cap' : Nat) (l l' : List (List Int)) (ob ob' : List Nat) (fps fps' : List (List Nat)) (w : World) (h : SeqA w a cap l ob fps) (h' : SeqA w a' cap' l' ob' fps') :
    Calls Try.prog 50 #[.slice a l.length cap, .slice a' l'.length cap'] w fun e w' => e = .returned (.bool (eqV l l')) ∧ Drew w w' := by
  have hb := h.bound
  have hb' := h'.bound
  by_cases hl : l.length = l'.length
  · have hne : ((l.length : Int) != (l'.length : Int)) = false := by simp [hl]
    have Hl := Lib.hid hl; clear hl
    go_enter Try.func50, Try.ntmps50
    go_wp2
    go_loopw [5] (fun i wr => ∃ j : Nat, j ≤ l.length ∧ i = .int .i64 j ∧ l.take j = l'.take j ∧ Drew w wr)
      (fun i _ => l.length - (intOf i).toNat)
    case atStart => exact ⟨0, Nat.zero_le _, rfl, rfl, Drew.refl _⟩
    case round =>
      obtain ⟨j, hj, rfl, hr, n, rfl⟩ := hrel
      have Hr := Lib.hid hr; clear hr
      by_cases hlt : j < l.length
      · have hlt' : j < l'.length := by have := Hl.out; omega
        obtain ⟨b, off, v, rfl, -, hc, hv⟩ := h.atRow j hlt
        obtain ⟨b', off', v', rfl, -, hc', hv'⟩ := h'.atRow j hlt'
        rcases hq : eqV l[j] l'[j]
        all_goals go_wp2
        all_goals go_quiet ((go_at_call 49; exact quiet_drewN (equalInts_rd v v' l[j] l'[j] _ _ _ (Rp.keep hv (Only.ofDrewN _ _ _)) (Rp.keep hv' (Only.ofDrewN _ _ _)))))
        all_goals go_wp2
        · go_ret
          exact ⟨ret_bool (eqL_no hlt hlt' hq).symm, ((Drew.refl _).drewN _).drewN _⟩
        · go_roundw
          case rel => exact ⟨j + 1, by omega, by go_num, eqL_step hlt hlt' hq Hr.out, ⟨_, rfl⟩⟩
          case measure => simp [intOf]; omega
      · go_wp2
        go_ret
        exact ⟨ret_bool (eqL_yes Hl.out hlt Hr.out).symm, (Drew.refl _).drewN n⟩
  · have hne : ((l.length : Int) != (l'.length : Int)) = true := by simp; omega
    go_enter Try.func50, Try.ntmps50
    go_wp2
    go_ret
    exact ⟨ret_bool (eqL_len hne).symm, Drew.refl _⟩
theorem equalPartitions_rd (v v' : Value) (l l' : List (List Int)) (fp fp' : List Nat) (w : World) (h : Rd w v l fp) (h' : Rd w v' l' fp') :
    Calls Try.prog 50 #[v, v'] w fun e w' => e = .returned (.bool (eqV l l')) ∧ Drew w w' := by
  obtain ⟨a, cap, ob, fps, rfl, -, hs⟩ := h.open_
  obtain ⟨a', cap', ob', fps', rfl, -, hs'⟩ := h'.open_
  exact equalPartitions_any a a' cap cap' l l' ob ob' fps fps' w hs hs'

set_option maxHeartbeats 400000 in
theorem Equal_any (a a' : Option Addr) (cap cap' : Nat) (l l' : List Int) (fp fp' : List Nat) (w : World) (h : IntsA w a cap l fp) (h' : IntsA w a' cap' l' fp') :
    Calls Try.prog 52 #[.slice a l.length cap, .slice a' l'.length cap'] w fun e w' => e = .returned (.bool (eqV l l')) ∧ Drew w w' := by
  have hb := h.bound
  have hb' := h'.bound
  by_cases hl : l.length = l'.length
  · have hne : ((l.length : Int) != (l'.length : Int)) = false := by simp [hl]
    have Hl := Lib.hid hl; clear hl
    go_enter Try.func52, Try.ntmps52
    go_wp2
    go_loopw [5, 13] (fun _ i wr => ∃ j : Nat, j ≤ l.length ∧ i = .int .i64 j ∧ l.take j = l'.take j ∧ Drew w wr)
      (fun _ i _ => l.length - (intOf i).toNat)
    case atStart => exact ⟨0, Nat.zero_le _, rfl, rfl, Drew.refl _⟩
    case round =>
      obtain ⟨j, hj, rfl, hr, n, rfl⟩ := hrel
      have Hr := Lib.hid hr; clear hr
      by_cases hlt : j < l.length
      · have hlt' : j < l'.length := by have := Hl.out; omega
        obtain ⟨b, off, ha, -, hc⟩ := h.at_ j hlt
        obtain ⟨b', off', ha', -, hc'⟩ := h'.at_ j hlt'
        go_wp2
        go_quiet (fail)
        go_wp2
        · have hne : (l[j] != l'[j]) = true := by assumption
          go_ret
          exact ⟨ret_bool (eqInts_no hlt hlt' hne).symm, ((Drew.refl _).drewN _).drewN _⟩
        · have heq : (l[j] != l'[j]) = false := by assumption
          go_roundw
          case rel => exact ⟨j + 1, by omega, by go_num, eqInts_step hlt hlt' heq Hr.out, ⟨_, rfl⟩⟩
          case measure => simp [intOf]; omega
      · go_wp2
        go_ret
        exact ⟨ret_bool (eqL_yes Hl.out hlt Hr.out).symm, (Drew.refl _).drewN n⟩
  · have hne : ((l.length : Int) != (l'.length : Int)) = true := by simp; omega
    go_enter Try.func52, Try.ntmps52
    go_wp2
    go_ret
    exact ⟨ret_bool (eqL_len hne).symm, Drew.refl _⟩

theorem Equal_rd (v v' : Value) (l l' : List Int) (fp fp' : List Nat) (w : World) (h : Rd w v l fp) (h' : Rd w v' l' fp') :
    Calls Try.prog 52 #[v, v'] w fun e w' => e = .returned (.bool (eqV l l')) ∧ Drew w w' := by
  obtain ⟨a, cap, rfl, hI⟩ := h.ints
  obtain ⟨a', cap', rfl, hI'⟩ := h'.ints
  exact Equal_any a a' cap cap' l l' fp fp' w hI hI'
set_option maxHeartbeats 1000000 in
/-- slices.EqualFunc over slices of slices: the function says whether two elements are equal -/
theorem EqualFunc_rows (f : FuncId) (caps : Array Value) (hcf : ∀ args w, (callFunc f args).run Try.prog w = .ok (.enter f args) w)
    (v v' : Value) (l l' : List (List Int)) (fp fp' : List Nat) (w : World) (h : Rd w v l fp) (h' : Rd w v' l' fp')
    (hc : ∀ (u u' : Value) (x x' : List Int) (f1 f1' : List Nat) (w' : World), Rd w' u x f1 → Rd w' u' x' f1' → Calls Try.prog f (#[u, u'] ++ caps) w' fun e w'' => e = .returned (.bool (eqV x x')) ∧ Only [] w' w'') :
    Calls Try.prog 86 #[v, v', .func (.func f) #[] caps] w fun e w' => e = .returned (.bool (eqV l l')) ∧ Only [] w w' := by
  obtain ⟨a, cap, ob, fps, rfl, -, hs⟩ := h.open_
  obtain ⟨a', cap', ob', fps', rfl, -, hs'⟩ := h'.open_
  have hb := hs.bound
  have hb' := hs'.bound
  have HC := Lib.hid hc
  clear hc
  by_cases hl : l.length = l'.length
  · have hne : ((l.length : Int) != (l'.length : Int)) = false := by simp [hl]
    have Hl := Lib.hid hl; clear hl
    go_enter Try.func86, Try.ntmps86
    go_wp2
    go_loopw [7, 8, 9, 17] (fun _ _ _ i wr => ∃ j : Nat, j ≤ l.length ∧ i = .int .i64 j ∧ l.take j = l'.take j ∧ Only [] w wr)
      (fun _ _ _ i _ => l.length - (intOf i).toNat)
    case atStart => exact ⟨0, Nat.zero_le _, rfl, rfl, Only.refl _ _⟩
    case round =>
      obtain ⟨j, hj, rfl, hr, hK⟩ := hrel
      have Hr := Lib.hid hr; clear hr
      by_cases hlt : j < l.length
      · have hlt' : j < l'.length := by have := Hl.out; omega
        obtain ⟨b, off, u, rfl, -, c0, hv⟩ := hs.atRow j hlt
        obtain ⟨b', off', u', rfl, -, c0', hv'⟩ := hs'.atRow j hlt'
        have c := hK.cell (by simp) c0
        have c' := hK.cell (by simp) c0'
        clear c0 c0'
        rcases hq : eqV l[j] l'[j]
        all_goals go_wp2_with (with_reducible refine (HC.out u u' l[j] l'[j] _ _ wr (Rp.keep hv hK) (Rp.keep hv' hK)).mono ?_; rintro e w1 ⟨rfl, hk1⟩)
        · go_ret
          exact ⟨ret_bool (eqL_no hlt hlt' hq).symm, hK.trans hk1⟩
        · go_roundw
          case rel => exact ⟨j + 1, by omega, by go_num, eqL_step hlt hlt' hq Hr.out, hK.trans hk1⟩
          case measure => simp [intOf]; omega
      · go_wp2
        go_ret
        exact ⟨ret_bool (eqL_yes Hl.out hlt Hr.out).symm, hK⟩
  · have hne : ((l.length : Int) != (l'.length : Int)) = true := by simp; omega
    go_enter Try.func86, Try.ntmps86
    go_wp2
    go_ret
    exact ⟨ret_bool (eqL_len hne).symm, Only.refl _ _⟩

theorem samePartition_closure (u u' : Value) (x x' : List Int) (f1 f1' : List Nat) (w : World) (h : Rd w u x f1) (h' : Rd w u' x' f1') :
    Calls Try.prog 87 #[u, u'] w fun e w' => e = .returned (.bool (eqV x x')) ∧ Only [] w w' := by
  go_enter Try.func87, Try.ntmps87
  go_wp2_with ((go_at_call 52; (with_reducible refine (Equal_rd u u' x x' _ _ _ h h').mono ?_); rintro e w1 ⟨rfl, d1⟩))
  go_ret
  exact ⟨rfl, d1.only _⟩
theorem samePartition_rd (v v' : Value) (l l' : List (List Int)) (fp fp' : List Nat) (w : World) (h : Rd w v l fp) (h' : Rd w v' l' fp') :
    Calls Try.prog 53 #[v, v'] w fun e w' => e = .returned (.bool (eqV l l')) ∧ Only [] w w' := by
  have Hc := Lib.hid (EqualFunc_rows 87 #[] Try.call87 v v' l l' fp fp' w h h' (fun u u' x x' f1 f1' w' r r' => samePartition_closure u u' x x' f1 f1' w' r r'))
  go_enter Try.func53, Try.ntmps53
  go_wp2_with ((go_at_call 86; (with_reducible refine (Hc.out).mono ?_); rintro e w1 ⟨rfl, t1⟩))
  go_ret
  exact ⟨rfl, t1⟩

theorem Table.ne1 {t t' : Table} (h : eqV t.tracked t'.tracked = false) : eqV t t' = false := eqV_no fun he => (eqV_iff'.1 h) (by rw [he])
theorem Table.ne2 {t t' : Table} (h : eqV t.patterns t'.patterns = false) : eqV t t' = false := eqV_no fun he => (eqV_iff'.1 h) (by rw [he])
theorem Table.ne3 {t t' : Table} (h : eqV t.distances t'.distances = false) : eqV t t' = false := eqV_no fun he => (eqV_iff'.1 h) (by rw [he])
theorem Table.eq3 {t t' : Table} (h1 : eqV t.tracked t'.tracked = true) (h2 : eqV t.patterns t'.patterns = true) (h3 : eqV t.distances t'.distances = true) : eqV t t' = true :=
  eqV_yes (Table.eq_iff.2 ⟨eqV_iff.1 h1, eqV_iff.1 h2, eqV_iff.1 h3⟩)

