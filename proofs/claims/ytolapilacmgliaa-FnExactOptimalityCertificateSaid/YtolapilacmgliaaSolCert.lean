/- The certificate of a solution: the reference's and the program's. -/
import Derived.Test.YtolapilacmgliaaWord
import Derived.Test.YtolapilacmgliaaLawCertificate
namespace Go.Proofs.Ytolapilacmgliaa
open Go.RowKit

set_option maxHeartbeats 400000 in
theorem Clone_rd (v : Value) (l : List Int) (fp : List Nat) (w : World) (h : Rd w v l fp) (hl : l.length ≤ 1073741824) :
    Calls Try.prog 30 #[v] w fun e w' => ∃ v fp', e = .returned v ∧ Rd w' v l fp' ∧ Fresh w.heap.size w' fp' ∧ Only [] w w' := by
  obtain ⟨a, cap, rfl, hI⟩ := h.ints
  rcases a with _ | ad
  · have h0 : l.length = 0 := (ints_src hI).2 rfl
    have : l = [] := List.eq_nil_of_length_eq_zero h0
    subst this
    have hnil := fun W => Lib.run_eql_slice_nil (P := Try.prog) W 22 2 none 0 cap 0 0 Try.underlying22
    go_enter Try.func30, Try.ntmps30
    go_wp2
    go_ret
    exact ⟨_, [], rfl, (IntsA.nil w none (cap := 0) (by simp [maxLen])).rd, Fresh.nil _ _, (by with_reducible repeat (first | exact Only.refl _ _ | assumption | refine Only.drewN ?_ _ | refine Only.drew ?_ | refine Only.alloc ?_ _ | refine Only.setCell ?_ (by intro hh; exfalso; simp at hh; try omega) _ | refine Only.trans ?_ (by assumption)))⟩
  · obtain ⟨i0, hi, hz0, hz1, hz2⟩ := info_parts Try.info2
    obtain ⟨q1, q2⟩ := ints_src (hI.keep ((Only.refl _ w).alloc (.cells #[] 2)))
    have hnil := fun W => Lib.run_eql_slice_nil (P := Try.prog) W 22 2 (some ad) l.length cap 0 0 Try.underlying22
    go_enter Try.func30, Try.ntmps30
    go_wp2_with (at_builtin; refine wpList_app _ rfl _ _ 22 rfl w.heap.size 2 i0 _ 1 8 Try.underlying22 hi hz0 hz1 hz2 rfl (by omega) (.slice (some ⟨w.heap.size, 0, none⟩) 0 0) 0 [] rfl (World.ownsRow_made w #[] 0 (Nat.le_refl _) (by unfold maxLen; omega) rfl) (some ad) l.length cap (l.map (Value.int .i64)) rfl (by simp) q1 q2 (ints_one l) (by unfold maxLen; omega) (by omega) (by simp) ?_; intro v1 w1 hO hg hb)
    rw [Nat.zero_add, List.nil_append] at hO
    obtain ⟨a', cap', hv, -, hI', hF⟩ := own_ints hO hI.wf
    have Hv := Lib.hid hv
    have hK : Only [] w w1 := ((Only.refl _ _).alloc _).grown hg (by simp [Value.ownBlock])
    clear hO hg hb hv q1 q2
    go_wp2
    go_ret
    refine ⟨_, _, rfl, ?_, hF, hK⟩
    have hr := hI'.rd
    rw [← Hv.out] at hr; exact hr

def solCert (l : List Int) : Certificate := if validW 8 l then ⟨1, [], [l], []⟩ else ⟨0, [], [], []⟩
def noCert : Certificate := ⟨0, [], [], []⟩
theorem nil_rd {α : Type} [Rp α] (w : World) : Rd w (.slice none 0 0) ([] : List α) [] := ⟨none, 0, [], [], rfl, rfl, SeqA.nil w none (by simp [maxLen])⟩
theorem noCert_rep (w : World) : Rp.rep w [.int .i64 0, .slice none 0 0, .slice none 0 0, .slice none 0 0] noCert [] :=
  ⟨_, _, _, [], [], [], rfl, rfl, ⟨by simp [noCert], by simp [noCert]⟩, nil_rd w, nil_rd w, nil_rd w⟩
/-- a slice literal of one element -/
theorem one_rd {α : Type} [Rp α] {w : World} {v : Value} {x : α} {fp : List Nat} (h : Rd w v x fp) (e : TypeId) (B : Nat) (hF : Fresh B w fp) {g : Nat} (hgs : g = w.heap.size) (hB : B ≤ g) :
    Rd (w.alloc (.cells #[v] e)) (.slice (some ⟨g, 0, none⟩) 1 1) [x] (g :: fp) ∧ Fresh B (w.alloc (.cells #[v] e)) (g :: fp) := by
  subst hgs
  have hK : Only [] w (w.alloc (.cells #[v] e)) := (Only.refl _ _).alloc _
  have hg : (w.alloc (.cells #[v] e)).heap[w.heap.size]? = some (.cells #[v] e (0, 0)) := heap_alloc_new w _
  constructor
  · refine ⟨some ⟨w.heap.size, 0, none⟩, 1, [w.heap.size], [fp], rfl, by simp, ⟨by simp, by simp [maxLen], rfl, fun k hk => ?_, by simp, by simp⟩⟩
    have : k = 0 := by simpa using hk
    subst this
    refine ⟨w.heap.size, 0, [v], rfl, rfl, fun j u hu => ?_, Rp.keep h hK⟩
    cases j with
    | zero => simp at hu; subst hu; rw [cell_of_row _ _ _ _ _ _ hg]; simp
    | succ j => simp at hu
  · refine ⟨List.nodup_cons.2 ⟨fun hm => by have := hF.lt _ hm; omega, hF.nd⟩, fun b hb => ?_, fun b hb => ?_⟩
    · rcases List.mem_cons.1 hb with rfl | hb
      · exact hB
      · exact hF.ge b hb
    · rcases List.mem_cons.1 hb with rfl | hb
      · exact ⟨_, _, hg⟩
      · exact (hF.own.keep hK) b hb

set_option maxHeartbeats 400000 in
theorem specSolCert_rd (v : Value) (l : List Int) (fp : List Nat) (w : World) (h : Rd w v l fp) :
    Calls Try.prog 7 #[v] w fun e w' => ∃ cs fp', e = .returned (.agg cs.toArray) ∧ Rp.rep w' cs (solCert l) fp' ∧ Fresh w.heap.size w' fp' ∧ Only [] w w' := by
  rcases hq : validW 8 l
  · have hp : solCert l = noCert := by unfold solCert; rw [if_neg (by simp [hq])]; rfl
    have Hp := Lib.hid hp
    clear hp
    go_enter Try.func7, Try.ntmps7
    go_wp2_with ((go_at_call 27; (with_reducible refine (specIsWord_rd v l _ _ (Rp.keep h (by with_reducible repeat (first | exact Only.refl _ _ | assumption | refine Only.drewN ?_ _ | refine Only.drew ?_ | refine Only.alloc ?_ _ | refine Only.setCell ?_ (by intro hh; exfalso; simp at hh; try omega) _ | refine Only.trans ?_ (by assumption))))).mono ?_); rintro e w1 ⟨rfl, n1, rfl⟩))
    refine bodyPost_ret (v := .agg #[.int .i64 0, .slice none 0 0, .slice none 0 0, .slice none 0 0]) (by simp [results, Try.results7, go_sem]) rfl ⟨[.int .i64 0, .slice none 0 0, .slice none 0 0, .slice none 0 0], [], rfl, ?_, Fresh.nil _ _, (by with_reducible repeat (first | exact Only.refl _ _ | assumption | refine Only.drewN ?_ _ | refine Only.drew ?_ | refine Only.alloc ?_ _ | refine Only.setCell ?_ (by intro hh; exfalso; simp at hh; try omega) _ | refine Only.trans ?_ (by assumption)))⟩
    rw [Hp.out]; exact noCert_rep _
  · have hp : solCert l = ⟨1, [], [l], []⟩ := by unfold solCert; rw [if_pos hq]
    have Hp := Lib.hid hp
    have hlen := validW_len hq
    clear hp
    go_enter Try.func7, Try.ntmps7
    go_wp2_with (first
      | (go_at_call 27; (with_reducible refine (specIsWord_rd v l _ _ (Rp.keep h (by with_reducible repeat (first | exact Only.refl _ _ | assumption | refine Only.drewN ?_ _ | refine Only.drew ?_ | refine Only.alloc ?_ _ | refine Only.setCell ?_ (by intro hh; exfalso; simp at hh; try omega) _ | refine Only.trans ?_ (by assumption))))).mono ?_); rintro e w1 ⟨rfl, n1, rfl⟩)
      | (go_at_call 28; (with_reducible refine (copyInts_rd v l _ _ (Rp.keep h (by with_reducible repeat (first | exact Only.refl _ _ | assumption | refine Only.drewN ?_ _ | refine Only.drew ?_ | refine Only.alloc ?_ _ | refine Only.setCell ?_ (by intro hh; exfalso; simp at hh; try omega) _ | refine Only.trans ?_ (by assumption)))) (by omega)).mono ?_); rintro e w2 ⟨v2, fp2, rfl, r2, F2, t2⟩; obtain ⟨A2, C2, _, _, rfl, -⟩ := r2.open_; have y2 := t2.cells_eq w.heap.size (by simp) (by simp); have z2 := t2.frozen_eq w.heap.size (by simp) (by simp); have s2 : w.heap.size < w2.heap.size := (by have := t2.size; simp at this; omega)))
    have T2 := t2.size
    simp at T2
    have hR := Rp.only (fp' := [w.heap.size]) (w' := (((w2.setCell ⟨w.heap.size, 0, none⟩ (.int .i64 1)).setCell ⟨w.heap.size, 1, none⟩ (.slice none 0 0)).setCell ⟨w.heap.size, 2, none⟩ (.slice (some ⟨w2.heap.size, 0, none⟩) 1 1)).setCell ⟨w.heap.size, 3, none⟩ (.slice none 0 0)) r2 (by with_reducible repeat (first | exact Only.refl _ _ | assumption | refine Only.drewN ?_ _ | refine Only.drew ?_ | refine Only.alloc ?_ _ | refine Only.setCell ?_ (by intro _; simp) _ | refine Only.trans ?_ (Only.weaken (by assumption) _))) (fun b hb hm => by have := F2.ge b hb; simp at hm this; omega)
    have hF := F2.only (fp' := [w.heap.size]) (w' := (((w2.setCell ⟨w.heap.size, 0, none⟩ (.int .i64 1)).setCell ⟨w.heap.size, 1, none⟩ (.slice none 0 0)).setCell ⟨w.heap.size, 2, none⟩ (.slice (some ⟨w2.heap.size, 0, none⟩) 1 1)).setCell ⟨w.heap.size, 3, none⟩ (.slice none 0 0)) (by with_reducible repeat (first | exact Only.refl _ _ | assumption | refine Only.drewN ?_ _ | refine Only.drew ?_ | refine Only.alloc ?_ _ | refine Only.setCell ?_ (by intro _; simp) _ | refine Only.trans ?_ (Only.weaken (by assumption) _))) (fun b hb hm => by have := F2.ge b hb; simp at hm this; omega)
    obtain ⟨o1, o2⟩ := one_rd hR 22 w.heap.size (hF.mono (by simp)) (g := w2.heap.size) (by simp [World.setCell]) (by omega)
    refine bodyPost_ret (v := .agg #[.int .i64 1, .slice none 0 0, .slice (some ⟨w2.heap.size, 0, none⟩) 1 1, .slice none 0 0]) (by simp [results, Try.results7, go_sem, y2, s2]) rfl ⟨[.int .i64 1, .slice none 0 0, .slice (some ⟨w2.heap.size, 0, none⟩) 1 1, .slice none 0 0], _, rfl, ?_, o2, (by with_reducible repeat (first | exact Only.refl _ _ | assumption | refine Only.drewN ?_ _ | refine Only.drew ?_ | refine Only.alloc ?_ _ | refine Only.setCell ?_ (by intro hh; exfalso; simp at hh; try omega) _ | refine Only.trans ?_ (by assumption)))⟩
    rw [Hp.out]
    exact ⟨_, _, _, [], _, [], rfl, (by simp), ⟨by simp, by simp⟩, nil_rd _, o1, nil_rd _⟩
set_option maxHeartbeats 400000 in
theorem implSolCert_rd (v : Value) (l : List Int) (fp : List Nat) (w : World) (h : Rd w v l fp) :
    Calls Try.prog 9 #[v] w fun e w' => ∃ cs fp', e = .returned (.agg cs.toArray) ∧ Rp.rep w' cs (solCert l) fp' ∧ Fresh w.heap.size w' fp' ∧ Only [] w w' := by
  rcases hq : validW 8 l
  · have hp : solCert l = noCert := by unfold solCert; rw [if_neg (by simp [hq])]; rfl
    have Hp := Lib.hid hp
    clear hp
    go_enter Try.func9, Try.ntmps9
    go_wp2_with ((go_at_call 29; (with_reducible refine (implIsWord_rd v l _ _ (Rp.keep h (by with_reducible repeat (first | exact Only.refl _ _ | assumption | refine Only.drewN ?_ _ | refine Only.drew ?_ | refine Only.alloc ?_ _ | refine Only.setCell ?_ (by intro hh; exfalso; simp at hh; try omega) _ | refine Only.trans ?_ (by assumption))))).mono ?_); rintro e w1 ⟨rfl, t1⟩; have y1 := t1.cells_eq w.heap.size (by simp) (by simp); have z1 := t1.frozen_eq w.heap.size (by simp) (by simp); have s1 : w.heap.size < w1.heap.size := (by have := t1.size; simp at this; omega)))
    refine bodyPost_ret (v := .agg #[.int .i64 0, .slice none 0 0, .slice none 0 0, .slice none 0 0]) (by simp [results, Try.results9, go_sem, y1]) rfl ⟨[.int .i64 0, .slice none 0 0, .slice none 0 0, .slice none 0 0], [], rfl, ?_, Fresh.nil _ _, (by with_reducible repeat (first | exact Only.refl _ _ | assumption | refine Only.drewN ?_ _ | refine Only.drew ?_ | refine Only.alloc ?_ _ | refine Only.setCell ?_ (by intro hh; exfalso; simp at hh; try omega) _ | refine Only.trans ?_ (by assumption)))⟩
    rw [Hp.out]; exact noCert_rep _
  · have hp : solCert l = ⟨1, [], [l], []⟩ := by unfold solCert; rw [if_pos hq]
    have Hp := Lib.hid hp
    have hlen := validW_len hq
    clear hp
    go_enter Try.func9, Try.ntmps9
    go_wp2_with (first
      | (go_at_call 29; (with_reducible refine (implIsWord_rd v l _ _ (Rp.keep h (by with_reducible repeat (first | exact Only.refl _ _ | assumption | refine Only.drewN ?_ _ | refine Only.drew ?_ | refine Only.alloc ?_ _ | refine Only.setCell ?_ (by intro hh; exfalso; simp at hh; try omega) _ | refine Only.trans ?_ (by assumption))))).mono ?_); rintro e w1 ⟨rfl, t1⟩; have y1 := t1.cells_eq w.heap.size (by simp) (by simp); have z1 := t1.frozen_eq w.heap.size (by simp) (by simp); have s1 : w.heap.size < w1.heap.size := (by have := t1.size; simp at this; omega))
      | (go_at_call 30; (with_reducible refine (Clone_rd v l _ _ (Rp.keep h (by with_reducible repeat (first | exact Only.refl _ _ | assumption | refine Only.drewN ?_ _ | refine Only.drew ?_ | refine Only.alloc ?_ _ | refine Only.setCell ?_ (by intro hh; exfalso; simp at hh; try omega) _ | refine Only.trans ?_ (by assumption)))) (by omega)).mono ?_); rintro e w2 ⟨v2, fp2, rfl, r2, F2, t2⟩; obtain ⟨A2, C2, _, _, rfl, -⟩ := r2.open_; have y2 := t2.cells_eq w.heap.size s1 (by simp); have z2 := t2.frozen_eq w.heap.size s1 (by simp); have s2 : w.heap.size < w2.heap.size := (by have := t2.size; omega)))
    have T2 := t2.size
    have hR := Rp.only (fp' := [w.heap.size]) (w' := (((w2.setCell ⟨w.heap.size, 0, none⟩ (.int .i64 1)).setCell ⟨w.heap.size, 1, none⟩ (.slice none 0 0)).setCell ⟨w.heap.size, 2, none⟩ (.slice (some ⟨w2.heap.size, 0, none⟩) 1 1)).setCell ⟨w.heap.size, 3, none⟩ (.slice none 0 0)) r2 (by with_reducible repeat (first | exact Only.refl _ _ | assumption | refine Only.drewN ?_ _ | refine Only.drew ?_ | refine Only.alloc ?_ _ | refine Only.setCell ?_ (by intro _; simp) _ | refine Only.trans ?_ (Only.weaken (by assumption) _))) (fun b hb hm => by have := F2.ge b hb; simp at hm; omega)
    have hF := F2.only (fp' := [w.heap.size]) (w' := (((w2.setCell ⟨w.heap.size, 0, none⟩ (.int .i64 1)).setCell ⟨w.heap.size, 1, none⟩ (.slice none 0 0)).setCell ⟨w.heap.size, 2, none⟩ (.slice (some ⟨w2.heap.size, 0, none⟩) 1 1)).setCell ⟨w.heap.size, 3, none⟩ (.slice none 0 0)) (by with_reducible repeat (first | exact Only.refl _ _ | assumption | refine Only.drewN ?_ _ | refine Only.drew ?_ | refine Only.alloc ?_ _ | refine Only.setCell ?_ (by intro _; simp) _ | refine Only.trans ?_ (Only.weaken (by assumption) _))) (fun b hb hm => by have := F2.ge b hb; simp at hm; omega)
    obtain ⟨o1, o2⟩ := one_rd hR 22 w.heap.size (hF.mono (by omega)) (g := w2.heap.size) (by simp [World.setCell]) (by omega)
    refine bodyPost_ret (v := .agg #[.int .i64 1, .slice none 0 0, .slice (some ⟨w2.heap.size, 0, none⟩) 1 1, .slice none 0 0]) (by simp [results, Try.results9, go_sem, y1, y2, s2]) rfl ⟨[.int .i64 1, .slice none 0 0, .slice (some ⟨w2.heap.size, 0, none⟩) 1 1, .slice none 0 0], _, rfl, ?_, o2, (by with_reducible repeat (first | exact Only.refl _ _ | assumption | refine Only.drewN ?_ _ | refine Only.drew ?_ | refine Only.alloc ?_ _ | refine Only.setCell ?_ (by intro hh; exfalso; simp at hh; try omega) _ | refine Only.trans ?_ (by assumption)))⟩
    rw [Hp.out]
    exact ⟨_, _, _, [], _, [], rfl, (by simp), ⟨by simp, by simp⟩, nil_rd _, o1, nil_rd _⟩
end Go.Proofs.Ytolapilacmgliaa
