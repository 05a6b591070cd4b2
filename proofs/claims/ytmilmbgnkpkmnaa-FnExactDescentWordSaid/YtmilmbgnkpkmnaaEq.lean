/- Equality of plain data: the reference's and the program's. -/
import Derived.Test.YtmilmbgnkpkmnaaLawTableS
import Derived.Test.YtmilmbgnkpkmnaaWord
namespace Go.Proofs.Ytmilmbgnkpkmnaa
open Go.RowKit
set_option maxRecDepth 10000

set_option maxHeartbeats 400000 in
theorem equalInts_any (a a' : Option Addr) (cap cap' : Nat) (l l' : List Int) (fp fp' : List Nat) (w : World) (h : IntsA w a cap l fp) (h' : IntsA w a' cap' l' fp') :
    Calls Try.prog 71 #[.slice a l.length cap, .slice a' l'.length cap'] w fun e w' => e = .returned (.bool (eqV l l')) ∧ Drew w w' := by
  have hb := h.bound
  have hb' := h'.bound
  by_cases hl : l.length = l'.length
  · have hne : ((l.length : Int) != (l'.length : Int)) = false := by simp [hl]
    have Hl := Lib.hid hl; clear hl
    go_enter Try.func71, Try.ntmps71
    go_wp2
    go_loopw [5] (fun i wr => ∃ j : Nat, j ≤ l.length ∧ i = .int .i64 j ∧ l.take j = l'.take j ∧ Drew w wr)
      (fun i _ => l.length - (intOf i).toNat)
    case atStart => exact ⟨0, Nat.zero_le _, rfl, rfl, Drew.refl _⟩
    case round =>
      obtain ⟨j, hj, rfl, hr, n, rfl⟩ := hrel
      have Hr := Lib.hid hr; clear hr
      by_cases hlt : j < l.length
      · have hlt' : j < l'.length := by have := Hl.out; omega
        obtain ⟨b, off, ha, -, hc⟩ := h.at_ j hlt
        obtain ⟨b', off', ha', -, hc'⟩ := h'.at_ j hlt'
        go_wp2
        go_quiet (fail)
        go_wp2
        · have hne : (l[j] != l'[j]) = true := by assumption
          go_ret
          exact ⟨ret_bool (eqInts_no hlt hlt' hne).symm, ((Drew.refl _).drewN _).drewN _⟩
        · have heq : (l[j] != l'[j]) = false := by assumption
          go_roundw
          case rel => exact ⟨j + 1, by omega, by go_num, eqInts_step hlt hlt' heq Hr.out, ⟨_, rfl⟩⟩
          case measure => simp [intOf]; omega
      · go_wp2
        go_ret
        exact ⟨ret_bool (eqL_yes Hl.out hlt Hr.out).symm, (Drew.refl _).drewN n⟩
  · have hne : ((l.length : Int) != (l'.length : Int)) = true := by simp; omega
    go_enter Try.func71, Try.ntmps71
    go_wp2
    go_ret
    exact ⟨ret_bool (eqL_len hne).symm, Drew.refl _⟩

theorem equalInts_rd (v v' : Value) (l l' : List Int) (fp fp' : List Nat) (w : World) (h : Rd w v l fp) (h' : Rd w v' l' fp') :
    Calls Try.prog 71 #[v, v'] w fun e w' => e = .returned (.bool (eqV l l')) ∧ Drew w w' := by
  obtain ⟨a, cap, rfl, hI⟩ := h.ints
  obtain ⟨a', cap', rfl, hI'⟩ := h'.ints
  exact equalInts_any a a' cap cap' l l' fp fp' w hI hI'
set_option maxHeartbeats 400000 in
theorem Equal_any (a a' : Option Addr) (cap cap' : Nat) (l l' : List Int) (fp fp' : List Nat) (w : World) (h : IntsA w a cap l fp) (h' : IntsA w a' cap' l' fp') :
    Calls Try.prog 73 #[.slice a l.length cap, .slice a' l'.length cap'] w fun e w' => e = .returned (.bool (eqV l l')) ∧ Drew w w' := by
  have hb := h.bound
  have hb' := h'.bound
  by_cases hl : l.length = l'.length
  · have hne : ((l.length : Int) != (l'.length : Int)) = false := by simp [hl]
    have Hl := Lib.hid hl; clear hl
    go_enter Try.func73, Try.ntmps73
    go_wp2
    go_loopw [5, 13] (fun _ i wr => ∃ j : Nat, j ≤ l.length ∧ i = .int .i64 j ∧ l.take j = l'.take j ∧ Drew w wr)
      (fun _ i _ => l.length - (intOf i).toNat)
    case atStart => exact ⟨0, Nat.zero_le _, rfl, rfl, Drew.refl _⟩
    case round =>
      obtain ⟨j, hj, rfl, hr, n, rfl⟩ := hrel
      have Hr := Lib.hid hr; clear hr
      by_cases hlt : j < l.length
      · have hlt' : j < l'.length := by have := Hl.out; omega
        obtain ⟨b, off, ha, -, hc⟩ := h.at_ j hlt
        obtain ⟨b', off', ha', -, hc'⟩ := h'.at_ j hlt'
        go_wp2
        go_quiet (fail)
        go_wp2
        · have hne : (l[j] != l'[j]) = true := by assumption
          go_ret
          exact ⟨ret_bool (eqInts_no hlt hlt' hne).symm, ((Drew.refl _).drewN _).drewN _⟩
        · have heq : (l[j] != l'[j]) = false := by assumption
          go_roundw
          case rel => exact ⟨j + 1, by omega, by go_num, eqInts_step hlt hlt' heq Hr.out, ⟨_, rfl⟩⟩
          case measure => simp [intOf]; omega
      · go_wp2
        go_ret
        exact ⟨ret_bool (eqL_yes Hl.out hlt Hr.out).symm, (Drew.refl _).drewN n⟩
  · have hne : ((l.length : Int) != (l'.length : Int)) = true := by simp; omega
    go_enter Try.func73, Try.ntmps73
    go_wp2
    go_ret
    exact ⟨ret_bool (eqL_len hne).symm, Drew.refl _⟩

theorem Equal_rd (v v' : Value) (l l' : List Int) (fp fp' : List Nat) (w : World) (h : Rd w v l fp) (h' : Rd w v' l' fp') :
    Calls Try.prog 73 #[v, v'] w fun e w' => e = .returned (.bool (eqV l l')) ∧ Drew w w' := by
  obtain ⟨a, cap, rfl, hI⟩ := h.ints
  obtain ⟨a', cap', rfl, hI'⟩ := h'.ints
  exact Equal_any a a' cap cap' l l' fp fp' w hI hI'
theorem Table.ne1 {t t' : Table} (h : eqV t.tracked t'.tracked = false) : eqV t t' = false := eqV_no fun he => (eqV_iff'.1 h) (by rw [he])
theorem Table.ne2 {t t' : Table} (h : eqV t.patterns t'.patterns = false) : eqV t t' = false := eqV_no fun he => (eqV_iff'.1 h) (by rw [he])
theorem Table.ne3 {t t' : Table} (h : eqV t.distances t'.distances = false) : eqV t t' = false := eqV_no fun he => (eqV_iff'.1 h) (by rw [he])
theorem Table.eq3 {t t' : Table} (h1 : eqV t.tracked t'.tracked = true) (h2 : eqV t.patterns t'.patterns = true) (h3 : eqV t.distances t'.distances = true) : eqV t t' = true :=
  eqV_yes (Table.eq_iff.2 ⟨eqV_iff.1 h1, eqV_iff.1 h2, eqV_iff.1 h3⟩)

