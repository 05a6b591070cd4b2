/- Copies of lists and of tables: the reference's and the program's. -/
import Derived.Test.YtpfmkjcngknecaaMem
import Derived.Test.YtpfmkjcngknecaaLawTableS
import Derived.Deep.RegionHeld3
import Derived.Deep.DeepCutAuto
namespace Go.Proofs.Ytpfmkjcngknecaa
open Go.RowKit
set_option maxRecDepth 10000
set_option maxHeartbeats 1000000 in
theorem copyLists_acc (a : Option Addr) (cap : Nat) (l : List (List Int)) (ob : List Nat) (fps : List (List Nat)) (w : World) (h : SeqA w a cap l ob fps) (hl : l.length ≤ 2097152) (hl2 : ∀ x ∈ l, x.length ≤ 2097152) :
    Calls Try.prog 96 #[.slice a l.length cap] w fun e w' => ∃ v fs, e = .returned v ∧ Acc w.heap.size 25 w' v l fs ∧ Fresh w.heap.size w' fs.flatten ∧ Only [] w w' := by
  obtain ⟨i0, hi, hz0, hz1, hz2⟩ := info_parts Try.info22
  have hb := h.bound
  go_enter Try.func96, Try.ntmps96
  go_wp2
  go_loopw [3, 4] (fun o i wr => ∃ (j : Nat) (fs : List (List Nat)), j ≤ l.length ∧ i = .int .i64 j ∧ Acc w.heap.size 25 wr o (l.take j) fs ∧ Fresh w.heap.size wr fs.flatten ∧ Only [] w wr)
    (fun _ i _ => l.length - (intOf i).toNat)
  case atStart => exact ⟨0, [], Nat.zero_le _, rfl, Acc.made w w.heap.size _ rfl (Nat.le_refl _), Fresh.nil _ _, (Only.refl _ _).alloc _⟩
  case round =>
    obtain ⟨j, fs, hj, rfl, hA, hF, hK⟩ := hrel
    by_cases hlt : j < l.length
    · obtain ⟨b, off, v, rfl, -, hc0, hv0⟩ := h.atRow j hlt
      have hc := hK.cell (by simp) hc0
      have hv := Rp.keep hv0 hK
      have hlen := hl2 l[j] (List.getElem_mem _)
      have hsz := hK.size
      have hlj : (l.take j).length + 1 ≤ 1073741824 := by simp; omega
      go_wp2_with (first
        | (go_at_call 95; refine (copyInts_rd v l[j] _ _ hv (by omega)).mono ?_; rintro e w2 ⟨v2, fp2, rfl, hv2, hF2, hK2⟩; have hq := hv2.open_; obtain ⟨a2, c2, _, _, rfl, -⟩ := hq)
        | (at_builtin; refine wpList_pushF rfl _ _ 22 rfl w.heap.size 25 i0 _ 24 Try.underlying22 hi hz0 hz1 hz2 rfl (by decide) (by decide) wr _ (l.take j) fs rfl hA hF (hK2.alloc _) hsz w2.heap.size 1 [.slice a2 l[j].length c2] l[j] fp2 rfl (lit_src w2 [.slice a2 l[j].length c2] _ rfl) (by intro u hu; simp at hu; subst hu; rfl) (Rp.keep hv2 ((Only.refl _ _).alloc _)) (hF2.keep ((Only.refl _ _).alloc _)) hlj w ((hK.trans hK2).alloc _) (Nat.le_refl _) ?_; intro v3 w3 hA3 hF3 hK3 _))
      go_roundw
      case rel => exact ⟨j + 1, _, by omega, by go_num, by rw [take_succ_get l j hlt]; exact hA3, hF3, hK3⟩
      case measure => simp [intOf]; omega
    · have hjl : j = l.length := by omega
      rw [hjl, List.take_length] at hA
      have HA := Lib.hid hA
      clear hjl hA
      go_wp2
      go_ret
      exact ⟨_, _, rfl, HA.out, hF, hK⟩
theorem copyLists_any (a : Option Addr) (cap : Nat) (l : List (List Int)) (ob : List Nat) (fps : List (List Nat)) (w : World) (h : SeqA w a cap l ob fps) (hl : l.length ≤ 2097152) (hl2 : ∀ x ∈ l, x.length ≤ 2097152) :
    Calls Try.prog 96 #[.slice a l.length cap] w fun e w' => ∃ v fp', e = .returned v ∧ Rd w' v l fp' ∧ Fresh w.heap.size w' fp' ∧ Only [] w w' :=
  (copyLists_acc a cap l ob fps w h hl hl2).mono fun _ _ ⟨v, _, he, hA, hF, hK⟩ => ⟨v, _, he, hA.rd (by decide), hA.fresh hF, hK⟩
theorem copyLists_rd (v : Value) (l : List (List Int)) (fp : List Nat) (w : World) (h : Rd w v l fp) (hl : l.length ≤ 2097152) (hl2 : ∀ x ∈ l, x.length ≤ 2097152) :
    Calls Try.prog 96 #[v] w fun e w' => ∃ v fp', e = .returned v ∧ Rd w' v l fp' ∧ Fresh w.heap.size w' fp' ∧ Only [] w w' := by
  obtain ⟨a, cap, ob, fps, rfl, -, hs⟩ := h.open_
  exact copyLists_any a cap l ob fps w hs hl hl2
set_option maxHeartbeats 1000000 in
theorem cloneLists_acc (a : Option Addr) (cap : Nat) (l : List (List Int)) (ob : List Nat) (fps : List (List Nat)) (w : World) (h : SeqA w a cap l ob fps) (hl : l.length ≤ 2097152) (hl2 : ∀ x ∈ l, x.length ≤ 2097152) :
    Calls Try.prog 74 #[.slice a l.length cap] w fun e w' => ∃ v fs, e = .returned v ∧ Acc w.heap.size 25 w' v l fs ∧ Fresh w.heap.size w' fs.flatten ∧ Only [] w w' := by
  obtain ⟨i0, hi, hz0, hz1, hz2⟩ := info_parts Try.info22
  have hb := h.bound
  go_enter Try.func74, Try.ntmps74
  go_wp2
  go_loopw [3, 8] (fun o i wr => ∃ (j : Nat) (fs : List (List Nat)), j ≤ l.length ∧ i = .int .i64 j ∧ Acc w.heap.size 25 wr o (l.take j) fs ∧ Fresh w.heap.size wr fs.flatten ∧ Only [] w wr)
    (fun _ i _ => l.length - (intOf i).toNat)
  case atStart => exact ⟨0, [], Nat.zero_le _, rfl, Acc.nil w _ _, Fresh.nil _ _, Only.refl _ _⟩
  case round =>
    obtain ⟨j, fs, hj, rfl, hA, hF, hK⟩ := hrel
    by_cases hlt : j < l.length
    · obtain ⟨b, off, v, rfl, -, hc0, hv0⟩ := h.atRow j hlt
      have hc := hK.cell (by simp) hc0
      have hv := Rp.keep hv0 hK
      have hlen := hl2 l[j] (List.getElem_mem _)
      have hsz := hK.size
      have hlj : (l.take j).length + 1 ≤ 1073741824 := by simp; omega
      go_wp2_with (first
        | (go_at_call 98; refine (Clone_rd v l[j] _ _ hv (by omega)).mono ?_; rintro e w2 ⟨v2, fp2, rfl, hv2, hF2, hK2⟩; have hq := hv2.open_; obtain ⟨a2, c2, _, _, rfl, -⟩ := hq)
        | (at_builtin; refine wpList_pushF rfl _ _ 22 rfl w.heap.size 25 i0 _ 24 Try.underlying22 hi hz0 hz1 hz2 rfl (by decide) (by decide) wr _ (l.take j) fs rfl hA hF (hK2.alloc _) hsz w2.heap.size 1 [.slice a2 l[j].length c2] l[j] fp2 rfl (lit_src w2 [.slice a2 l[j].length c2] _ rfl) (by intro u hu; simp at hu; subst hu; rfl) (Rp.keep hv2 ((Only.refl _ _).alloc _)) (hF2.keep ((Only.refl _ _).alloc _)) hlj w ((hK.trans hK2).alloc _) (Nat.le_refl _) ?_; intro v3 w3 hA3 hF3 hK3 _))
      go_roundw
      case rel => exact ⟨j + 1, _, by omega, by go_num, by rw [take_succ_get l j hlt]; exact hA3, hF3, hK3⟩
      case measure => simp [intOf]; omega
    · have hjl : j = l.length := by omega
      rw [hjl, List.take_length] at hA
      have HA := Lib.hid hA
      clear hjl hA
      go_wp2
      go_ret
      exact ⟨_, _, rfl, HA.out, hF, hK⟩
theorem cloneLists_any (a : Option Addr) (cap : Nat) (l : List (List Int)) (ob : List Nat) (fps : List (List Nat)) (w : World) (h : SeqA w a cap l ob fps) (hl : l.length ≤ 2097152) (hl2 : ∀ x ∈ l, x.length ≤ 2097152) :
    Calls Try.prog 74 #[.slice a l.length cap] w fun e w' => ∃ v fp', e = .returned v ∧ Rd w' v l fp' ∧ Fresh w.heap.size w' fp' ∧ Only [] w w' :=
  (cloneLists_acc a cap l ob fps w h hl hl2).mono fun _ _ ⟨v, _, he, hA, hF, hK⟩ => ⟨v, _, he, hA.rd (by decide), hA.fresh hF, hK⟩
theorem cloneLists_rd (v : Value) (l : List (List Int)) (fp : List Nat) (w : World) (h : Rd w v l fp) (hl : l.length ≤ 2097152) (hl2 : ∀ x ∈ l, x.length ≤ 2097152) :
    Calls Try.prog 74 #[v] w fun e w' => ∃ v fp', e = .returned v ∧ Rd w' v l fp' ∧ Fresh w.heap.size w' fp' ∧ Only [] w w' := by
  obtain ⟨a, cap, ob, fps, rfl, -, hs⟩ := h.open_
  exact cloneLists_any a cap l ob fps w hs hl hl2
end Go.Proofs.Ytpfmkjcngknecaa
