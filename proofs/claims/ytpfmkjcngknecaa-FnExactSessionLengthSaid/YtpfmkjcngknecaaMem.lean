/- Small values in memory: the empty slice, a literal of one element, a number; slices.Clone. -/
import Derived.Test.YtpfmkjcngknecaaAcc
namespace Go.Proofs.Ytpfmkjcngknecaa
open Go.RowKit
set_option maxRecDepth 10000

set_option maxHeartbeats 400000 in
theorem Clone_rd (v : Value) (l : List Int) (fp : List Nat) (w : World) (h : Rd w v l fp) (hl : l.length ≤ 1073741824) :
    Calls Try.prog 98 #[v] w fun e w' => ∃ v fp', e = .returned v ∧ Rd w' v l fp' ∧ Fresh w.heap.size w' fp' ∧ Only [] w w' := by
  obtain ⟨a, cap, rfl, hI⟩ := h.ints
  rcases a with _ | ad
  · have h0 : l.length = 0 := (ints_src hI).2 rfl
    have : l = [] := List.eq_nil_of_length_eq_zero h0
    subst this
    have hnil := fun W => Lib.run_eql_slice_nil (P := Try.prog) W 25 2 none 0 cap 0 0 Try.underlying25
    go_enter Try.func98, Try.ntmps98
    go_wp2
    go_ret
    exact ⟨_, [], rfl, (IntsA.nil w none (cap := 0) (by simp [maxLen])).rd, Fresh.nil _ _, (by with_reducible repeat (first | exact Only.refl _ _ | assumption | refine Only.drewN ?_ _ | refine Only.drew ?_ | refine Only.alloc ?_ _ | refine Only.setCell ?_ (by intro hh; exfalso; simp at hh; try omega) _ | refine Only.trans ?_ (by assumption)))⟩
  · obtain ⟨i0, hi, hz0, hz1, hz2⟩ := info_parts Try.info2
    obtain ⟨q1, q2⟩ := ints_src (hI.keep ((Only.refl _ w).alloc (.cells #[] 2)))
    have hnil := fun W => Lib.run_eql_slice_nil (P := Try.prog) W 25 2 (some ad) l.length cap 0 0 Try.underlying25
    go_enter Try.func98, Try.ntmps98
    go_wp2_with (at_builtin; refine wpList_app _ rfl _ _ 25 rfl w.heap.size 2 i0 _ 1 8 Try.underlying25 hi hz0 hz1 hz2 rfl (by omega) (.slice (some ⟨w.heap.size, 0, none⟩) 0 0) 0 [] rfl (World.ownsRow_made w #[] 0 (Nat.le_refl _) (by unfold maxLen; omega) rfl) (some ad) l.length cap (l.map (Value.int .i64)) rfl (by simp) q1 q2 (ints_one l) (by unfold maxLen; omega) (by omega) (by simp) ?_; intro v1 w1 hO hg hb)
    rw [Nat.zero_add, List.nil_append] at hO
    obtain ⟨a', cap', hv, -, hI', hF⟩ := own_ints hO hI.wf
    have Hv := Lib.hid hv
    have hK : Only [] w w1 := ((Only.refl _ _).alloc _).grown hg (by simp [Value.ownBlock])
    clear hO hg hb hv q1 q2
    go_wp2
    go_ret
    refine ⟨_, _, rfl, ?_, hF, hK⟩
    have hr := hI'.rd
    rw [← Hv.out] at hr; exact hr

theorem nil_rd {α : Type} [Rp α] (w : World) : Rd w (.slice none 0 0) ([] : List α) [] := ⟨none, 0, [], [], rfl, rfl, SeqA.nil w none (by simp [maxLen])⟩
theorem int_rd {n : Int} (w : World) (h : I64 n) : Rd w (.int .i64 n) n [] := ⟨rfl, h, rfl⟩
/-- a slice literal of one element -/
theorem one_rd {α : Type} [Rp α] {w : World} {v : Value} {x : α} {fp : List Nat} (h : Rd w v x fp) (e : TypeId) (B : Nat) (hF : Fresh B w fp) {g : Nat} (hgs : g = w.heap.size) (hB : B ≤ g) :
    Rd (w.alloc (.cells #[v] e)) (.slice (some ⟨g, 0, none⟩) 1 1) [x] (g :: fp) ∧ Fresh B (w.alloc (.cells #[v] e)) (g :: fp) := by
  subst hgs
  have hK : Only [] w (w.alloc (.cells #[v] e)) := (Only.refl _ _).alloc _
  have hg : (w.alloc (.cells #[v] e)).heap[w.heap.size]? = some (.cells #[v] e (0, 0)) := heap_alloc_new w _
  constructor
  · refine ⟨some ⟨w.heap.size, 0, none⟩, 1, [w.heap.size], [fp], rfl, by simp, ⟨by simp, by simp [maxLen], rfl, fun k hk => ?_, by simp, by simp⟩⟩
    have : k = 0 := by simpa using hk
    subst this
    refine ⟨w.heap.size, 0, [v], rfl, rfl, fun j u hu => ?_, Rp.keep h hK⟩
    cases j with
    | zero => simp at hu; subst hu; rw [cell_of_row _ _ _ _ _ _ hg]; simp
    | succ j => simp at hu
  · refine ⟨List.nodup_cons.2 ⟨fun hm => by have := hF.lt _ hm; omega, hF.nd⟩, fun b hb => ?_, fun b hb => ?_⟩
    · rcases List.mem_cons.1 hb with rfl | hb
      · exact hB
      · exact hF.ge b hb
    · rcases List.mem_cons.1 hb with rfl | hb
      · exact ⟨_, _, hg⟩
      · exact (hF.own.keep hK) b hb

end Go.Proofs.Ytpfmkjcngknecaa
