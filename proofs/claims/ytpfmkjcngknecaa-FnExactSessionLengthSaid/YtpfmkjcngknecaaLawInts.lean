/- The laws' own helpers on slices of int64: held, eq, mark, to, sz: what each answers and leaves. -/
import Derived.Test.YtpfmkjcngknecaaBase
namespace Go.Proofs.Ytpfmkjcngknecaa
open Go.RowKit
set_option maxRecDepth 10000

theorem mark_ints (k : Int) (l : List Int) (j : Nat) (h : j < l.length) : (markL k l)[j]? = some (k + (j : Int)) := by
  induction l generalizing k j with
  | nil => simp at h
  | cons x l ih =>
    cases j with
    | zero => simp [markL, Mk.mark]
    | succ j =>
      simp only [markL, List.getElem?_cons_succ, Mk.cnt]
      rw [ih _ _ (by simpa using h)]
      congr 1; omega
theorem mark_take (k : Int) (l : List Int) (j : Nat) : (markL k (l.take j)) = (markL k l).take j := by
  induction l generalizing k j with
  | nil => simp [markL]
  | cons x l ih => cases j with
    | zero => simp [markL]
    | succ j => simp [markL, ih]
theorem heldInts_no {k : Int} {l : List Int} {j : Nat} (hj : j < l.length) (h : (l[j] != k + (j : Int)) = true) : heldV k l = -1 := by
  apply heldV_no
  apply held_not hj
  rw [cntL_ints]
  simp only [Mk.mark, List.length_take, Nat.min_eq_left (Nat.le_of_lt hj)]
  simpa using h
theorem heldInts_yes {k : Int} {l : List Int} {j : Nat} (hj : ¬ j < l.length) (hj' : j ≤ l.length) (h : l.take j = markL k (l.take j)) : heldV k l = k + j := by
  have : j = l.length := by omega
  subst this
  rw [heldV_yes (by show l = markL k l; simpa using h)]
  simp [Mk.cnt, cntL_ints]
theorem heldInts_step {k : Int} {l : List Int} {j : Nat} (hj : j < l.length) (h : (l[j] != k + (j : Int)) = false) (hr : l.take j = markL k (l.take j)) : l.take (j + 1) = markL k (l.take (j + 1)) := by
  apply held_step hj hr
  rw [cntL_ints]
  simp only [Mk.mark, List.length_take, Nat.min_eq_left (Nat.le_of_lt hj)]
  simpa using h
theorem heldV_pos {α : Type} [Mk α] (k : Int) (x : α) : (heldV k x = -1 ∧ x ≠ Mk.mark k x) ∨ (heldV k x = k + (Mk.cnt x : Nat) ∧ x = Mk.mark k x) := by
  by_cases hx : x = Mk.mark k x
  · exact .inr ⟨heldV_yes hx, hx⟩
  · exact .inl ⟨heldV_no hx, hx⟩

set_option maxHeartbeats 400000 in
theorem heldInt64S_any (a : Option Addr) (cap : Nat) (l : List Int) (fp : List Nat) (k : Int) (w : World) (h : IntsA w a cap l fp) (h0 : 0 ≤ k) (h1 : k + l.length ≤ 9223372036854775807) :
    Calls Try.prog 62 #[.slice a l.length cap, .int .i64 k] w fun e w' => e = .returned (.int .i64 (heldV k l)) ∧ Drew w w' := by
  go_enter Try.func62, Try.ntmps62
  go_wp2
  go_loop [1, 5] (fun q i => ∃ j : Nat, j ≤ l.length ∧ q = .int .i64 (k + j) ∧ i = .int .i64 j ∧ l.take j = markL k (l.take j))
    (fun _ i => l.length - (intOf i).toNat)
  case atStart => exact ⟨0, Nat.zero_le _, by simp, rfl, rfl⟩
  case round =>
    obtain ⟨j, hj, rfl, rfl, hr⟩ := hrel
    have Hr := Lib.hid hr; clear hr
    by_cases hlt : j < l.length
    · obtain ⟨b, off, ha, -, hc⟩ := h.at_ j hlt
      go_wp2
      · have hne : (l[j] != k + (j : Int)) = true := by assumption
        go_ret
        exact ⟨ret_int (heldInts_no hlt hne).symm, Drew.refl _⟩
      · have heq : (l[j] != k + (j : Int)) = false := by assumption
        go_round
        case rel => exact ⟨j + 1, by omega, by go_num, by go_num, heldInts_step hlt heq Hr.out⟩
        case measure => simp [intOf]; omega
    · go_wp2
      go_ret
      exact ⟨ret_int (heldInts_yes hlt hj Hr.out).symm, Drew.refl _⟩

theorem eqL_len {α : Type} {l l' : List α} (h : ((l.length : Int) != (l'.length : Int)) = true) : eqV l l' = false := by
  apply eqV_no; rintro rfl; simp at h
theorem eqL_len' {α : Type} {l l' : List α} (h : l.length ≠ l'.length) : eqV l l' = false := by
  apply eqV_no; rintro rfl; simp at h
theorem eqInts_no {l l' : List Int} {j : Nat} (h1 : j < l.length) (h2 : j < l'.length) (h : (l[j] != l'[j]) = true) : eqV l l' = false := by
  apply eqV_no; rintro rfl; simp at h
theorem eqL_no {α : Type} {l l' : List α} {j : Nat} (h1 : j < l.length) (h2 : j < l'.length) (h : eqV l[j] l'[j] = false) : eqV l l' = false := by
  apply eqV_no; rintro rfl; rw [eqV_iff'] at h; exact h rfl
theorem eqL_yes {α : Type} {l l' : List α} {j : Nat} (hl : l.length = l'.length) (hj : ¬ j < l.length) (h : l.take j = l'.take j) : eqV l l' = true := by
  apply eqV_yes
  rw [List.take_of_length_le (by omega), List.take_of_length_le (by omega)] at h
  exact h
theorem eqInts_step {l l' : List Int} {j : Nat} (h1 : j < l.length) (h2 : j < l'.length) (h : (l[j] != l'[j]) = false) (hr : l.take j = l'.take j) : l.take (j + 1) = l'.take (j + 1) := by
  rw [take_succ_get l j h1, take_succ_get l' j h2, hr]
  simp at h; rw [h]
theorem eqL_step {α : Type} {l l' : List α} {j : Nat} (h1 : j < l.length) (h2 : j < l'.length) (h : eqV l[j] l'[j] = true) (hr : l.take j = l'.take j) : l.take (j + 1) = l'.take (j + 1) := by
  rw [take_succ_get l j h1, take_succ_get l' j h2, hr]
  rw [eqV_iff] at h; rw [h]

set_option maxHeartbeats 400000 in
theorem eqInt64S_any (a a' : Option Addr) (cap cap' : Nat) (l l' : List Int) (fp fp' : List Nat) (w : World) (h : IntsA w a cap l fp) (h' : IntsA w a' cap' l' fp') :
    Calls Try.prog 35 #[.slice a l.length cap, .slice a' l'.length cap'] w fun e w' => e = .returned (.bool (eqV l l')) ∧ Drew w w' := by
  have hb := h.bound
  have hb' := h'.bound
  by_cases hl : l.length = l'.length
  · have hne : ((l.length : Int) != (l'.length : Int)) = false := by simp [hl]
    have Hl := Lib.hid hl; clear hl
    go_enter Try.func35, Try.ntmps35
    go_wp2
    go_loopw [5] (fun i wr => ∃ j : Nat, j ≤ l.length ∧ i = .int .i64 j ∧ l.take j = l'.take j ∧ Drew w wr)
      (fun i _ => l.length - (intOf i).toNat)
    case atStart => exact ⟨0, Nat.zero_le _, rfl, rfl, Drew.refl _⟩
    case round =>
      obtain ⟨j, hj, rfl, hr, n, rfl⟩ := hrel
      have Hr := Lib.hid hr; clear hr
      by_cases hlt : j < l.length
      · have hlt' : j < l'.length := by have := Hl.out; omega
        obtain ⟨b, off, ha, -, hc⟩ := h.at_ j hlt
        obtain ⟨b', off', ha', -, hc'⟩ := h'.at_ j hlt'
        go_wp2
        go_quiet (fail)
        go_wp2
        · have hne : (l[j] != l'[j]) = true := by assumption
          go_ret
          exact ⟨ret_bool (eqInts_no hlt hlt' hne).symm, ((Drew.refl _).drewN _).drewN _⟩
        · have heq : (l[j] != l'[j]) = false := by assumption
          go_roundw
          case rel => exact ⟨j + 1, by omega, by go_num, eqInts_step hlt hlt' heq Hr.out, ⟨_, rfl⟩⟩
          case measure => simp [intOf]; omega
      · go_wp2
        go_ret
        exact ⟨ret_bool (eqL_yes Hl.out hlt Hr.out).symm, (Drew.refl _).drewN n⟩
  · have hne : ((l.length : Int) != (l'.length : Int)) = true := by simp; omega
    go_enter Try.func35, Try.ntmps35
    go_wp2
    go_ret
    exact ⟨ret_bool (eqL_len hne).symm, Drew.refl _⟩

theorem i64_of {n : Int} (h0 : 0 ≤ n) (h1 : n ≤ 9223372036854775807) : I64 n := ⟨by omega, h1⟩

set_option maxHeartbeats 400000 in
theorem markInt64S_any (a : Option Addr) (cap : Nat) (l : List Int) (fp : List Nat) (k : Int) (w : World) (h : IntsA w a cap l fp) (ho : Own w fp) (h0 : 0 ≤ k) (h1 : k + l.length ≤ 9223372036854775807) :
    Calls Try.prog 37 #[.slice a l.length cap, .int .i64 k] w fun e w' =>
      e = .returned (.int .i64 (k + l.length)) ∧ IntsA w' a cap (markL k l) fp ∧ Own w' fp ∧ Only fp w w' := by
  go_enter Try.func37, Try.ntmps37
  go_wp2
  go_loopw [1, 5] (fun q i wr => ∃ j : Nat, j ≤ l.length ∧ q = .int .i64 (k + j) ∧ i = .int .i64 j ∧ IntsA wr a cap (markL k (l.take j) ++ l.drop j) fp ∧ Own wr fp ∧ Only fp w wr)
    (fun _ i _ => l.length - (intOf i).toNat)
  case atStart => exact ⟨0, Nat.zero_le _, by simp, rfl, by simpa [markL] using h, ho, Only.refl _ _⟩
  case round =>
    obtain ⟨j, hj, rfl, rfl, hI, hO, hK⟩ := hrel
    by_cases hlt : j < l.length
    · obtain ⟨b, off, ha, hf, hc⟩ := hI.at_ j (by simp [markL_length]; omega)
      have hfz := hO.frozen (b := b) (off := off + j) (by simp [hf])
      rw [ha] at hI
      have hI2 := hI.set (j := j) (x := k + j) (i64_of (by omega) (by omega))
      have hset := markL_set k l j hlt
      rw [cntL_ints] at hset
      simp only [Mk.mark, List.length_take, Nat.min_eq_left (Nat.le_of_lt hlt)] at hset
      rw [hset, ← ha] at hI2
      have hO2 := hO.setCell ⟨b, off + j, none⟩ (.int .i64 (k + j))
      have hK2 := hK.setCell (p := ⟨b, off + j, none⟩) (fun _ => by simp [hf]) (.int .i64 (k + j))
      have HI := Lib.hid hI2
      clear hset hI hI2
      go_wp2
      go_roundw
      case rel => exact ⟨j + 1, by omega, by go_num, by go_num, HI.out, hO2, hK2⟩
      case measure => simp [intOf]; omega
    · have hjl : j = l.length := by omega
      have hI' := hI
      rw [hjl] at hI'
      simp only [List.take_length, List.drop_length, List.append_nil] at hI'
      have Hj := Lib.hid hjl
      clear hI hjl
      go_wp2
      go_ret
      exact ⟨ret_int (by rw [Hj.out]), hI', hO, hK⟩

theorem Try.info2 : (Try.prog.info? 2).map (fun i => (i.zero, i.size, i.bytes)) = some (some (.int .i64 0), 1, 8) := by kernel_rfl
theorem madeInts (n : Nat) : (madeCells (Value.cells (.int .i64 0)) n).toList = List.replicate n (.int .i64 0) := by
  apply List.ext_getElem (by simp [madeCells])
  intro i h1 h2
  simp [madeCells, Value.cells, Nat.mod_one]
/-- a row of the call's own that holds int64s -/
theorem own_ints {w : World} {base : Nat} {e : TypeId} {v : Value} {n : Nat} {l : List Int} (h : w.ownsRow base e 1 v n (l.map (.int .i64))) (hl : ∀ x ∈ l, I64 x) :
    ∃ a cap, v = .slice a l.length cap ∧ n = l.length ∧ IntsA w a cap l v.ownBlock.toList ∧ Fresh base w v.ownBlock.toList := by
  obtain ⟨h1, h2⟩ := h
  have hn : n = l.length := by simpa using h1.symm
  subst hn
  rcases h2 with ⟨rfl, h0⟩ | ⟨g, cap, cur, rfl, hb, hg, hnc, hcm, hcs, htake⟩
  · have : l = [] := List.eq_nil_of_length_eq_zero h0
    subst this
    exact ⟨none, 0, rfl, rfl, IntsA.nil w none (by simp [maxLen]), Fresh.nil _ _⟩
  · refine ⟨some ⟨g, 0, none⟩, cap, rfl, rfl, ⟨hnc, hcm, hl, fun k hk => ⟨g, 0, rfl, rfl, ?_⟩, ?_, by simp [Value.ownBlock]⟩, ⟨by simp [Value.ownBlock], by simpa [Value.ownBlock] using hb, ?_⟩⟩
    · have hh : (l.map (Value.int .i64))[k]? = some (.int .i64 l[k]) := by simp [hk]
      rw [← htake, List.getElem?_take] at hh
      split at hh
      · rw [cell_of_row w g _ cur e (0, 0) hg]; simpa using hh
      · cases hh
    · intro b hb'
      simp [Value.ownBlock] at hb'; subst hb'
      exact (Array.getElem?_eq_some_iff.1 hg).1
    · intro b hb'
      simp [Value.ownBlock] at hb'; subst hb'
      exact ⟨_, _, hg⟩

theorem copy_step (l : List Int) (j : Nat) (h : j < l.length) :
    ((l.take j).map (Value.int .i64) ++ List.replicate (l.length - j) (Value.int .i64 0)).set j (.int .i64 l[j]) = (l.take (j + 1)).map (Value.int .i64) ++ List.replicate (l.length - (j + 1)) (.int .i64 0) := by
  rw [take_succ_get l j h, List.set_append_right _ _ (by simp; omega)]
  have h1 : j - ((l.take j).map (Value.int .i64)).length = 0 := by simp; omega
  have h2 : l.length - j = (l.length - (j + 1)) + 1 := by omega
  rw [h1, h2, List.replicate_succ]
  simp only [List.set, List.map_append, List.map_cons, List.map_nil, List.append_assoc, List.cons_append, List.nil_append]

set_option maxHeartbeats 400000 in
theorem toInt64S_any (a : Option Addr) (cap : Nat) (l : List Int) (fp : List Nat) (w : World) (h : IntsA w a cap l fp) (hl : l.length ≤ 2097152) :
    Calls Try.prog 33 #[.slice a l.length cap] w fun e w' => ∃ v fp', e = .returned v ∧ Rd w' v l fp' ∧ Fresh w.heap.size w' fp' ∧ Only [] w w' := by
  obtain ⟨i0, hi, hz0, hz1, hz2⟩ := info_parts Try.info2
  go_enter Try.func33, Try.ntmps33
  go_wp2_with (at_make; refine wpList_make_full _ rfl _ _ 25 rfl w.heap.size 2 i0 _ 1 Try.underlying25 hi hz0 hz1 _ _ _ _ l.length rfl rfl rfl rfl (by rw [hz2]; omega) (by unfold maxLen; omega) (Nat.le_refl _) ?_; intro w1 hown hg)
  rw [madeInts, Nat.mul_one] at hown
  have hs1 := hg.size
  go_loopw [4] (fun i wr => ∃ j : Nat, j ≤ l.length ∧ i = .int .i64 j ∧
      wr.ownsRow w.heap.size 2 1 (.slice (some ⟨w.heap.size, 0, none⟩) l.length l.length) l.length ((l.take j).map (Value.int .i64) ++ List.replicate (l.length - j) (.int .i64 0)) ∧ Only [] w wr)
    (fun i _ => l.length - (intOf i).toNat)
  case atStart => exact ⟨0, Nat.zero_le _, rfl, by simpa using hown, (Only.refl _ _).grown hg (by simp)⟩
  case round =>
    obtain ⟨j, hj, rfl, hO, hK⟩ := hrel
    by_cases hlt : j < l.length
    · obtain ⟨b, off, ha, -, hc⟩ := (h.keep hK).at_ j hlt
      obtain ⟨hO2, hg2⟩ := hO.stored j (.int .i64 l[j])
      rw [copy_step l j hlt] at hO2
      have hc2 : wr.cell? ⟨w.heap.size, j, none⟩ = some (.int .i64 0) := by
        rw [hO.cellAt j (by omega), List.getElem?_append_right (by simp; omega), List.getElem?_replicate, if_pos (by simp; omega)]
      have hf2 := hO.frozenAt j
      have hK2 := hK.setCell (p := ⟨w.heap.size, j, none⟩) (by simp) (.int .i64 l[j])
      have HO := Lib.hid hO2
      clear hO hO2 hg hg2 hown
      go_wp2
      go_roundw
      case rel => exact ⟨j + 1, by omega, by go_num, HO.out, hK2⟩
      case measure => simp [intOf]; omega
    · have hjl : j = l.length := by omega
      rw [hjl] at hO
      simp only [List.take_length, Nat.sub_self, List.replicate_zero, List.append_nil] at hO
      obtain ⟨a', cap', hv, -, hI, hF⟩ := own_ints hO h.wf
      have HI := Lib.hid hI
      have Hv := Lib.hid hv
      clear hjl hO hv hown hI
      go_wp2
      go_ret
      refine ⟨_, _, rfl, ?_, hF, hK⟩
      have hr := HI.out.rd
      rw [← Hv.out] at hr; exact hr
end Go.Proofs.Ytpfmkjcngknecaa
