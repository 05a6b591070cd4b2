/- The laws' own helpers on slices of tables: eq, mark, held, to, sz. Copies of lists and of tables: the reference's and the program's. -/
import Derived.Test.YtlcoejncdbkhcaaGreatRowSolveCertifiedG6
import Derived.StillTailTactics
import Derived.Test.YtlcoejncdbkhcaaGreatRowSolveCertifiedG2
import Derived.Deep.RegionHeld3
import Derived.Deep.DeepCutAuto
namespace Go.Proofs.YtlcoejncdbkhcaaGreat
open Go.RowKit
set_option maxRecDepth 10000

theorem SeqA.at3 {w : World} {a : Option Addr} {cap : Nat} {xs : List Table} {ob : List Nat} {fps : List (List Nat)} (h : SeqA w a cap xs ob fps) (k : Nat) (hk : k < xs.length) :
    ∃ b off v1 v2 v3, a = some ⟨b, off, none⟩ ∧ ob = [b] ∧ w.cell? ⟨b, off + k * 3, none⟩ = some v1 ∧ w.cell? ⟨b, off + k * 3 + 1, none⟩ = some v2 ∧ w.cell? ⟨b, off + k * 3 + 2, none⟩ = some v3 ∧ Rp.rep w [v1, v2, v3] xs[k] (fps[k]'(by rw [h.nf]; exact hk)) := by
  obtain ⟨b, off, cs, ha, hob, hc, hr⟩ := h.at_ k hk
  have hl := Rp.len hr
  match cs, hl with
  | [v1, v2, v3], _ => exact ⟨b, off, v1, v2, v3, ha, hob, hc 0 v1 rfl, hc 1 v2 rfl, hc 2 v3 rfl, hr⟩

set_option maxHeartbeats 400000 in
theorem eqTableS_any (a a' : Option Addr) (cap cap' : Nat) (l l' : List Table) (ob ob' : List Nat) (fps fps' : List (List Nat)) (w : World) (h : SeqA w a cap l ob fps) (h' : SeqA w a' cap' l' ob' fps') :
    Calls Tryz.prog 80 #[.slice a l.length cap, .slice a' l'.length cap'] w fun e w' => e = .returned (.bool (eqV l l')) ∧ Only [] w w' := by
  have hb := h.bound
  have hb' := h'.bound
  by_cases hl : l.length = l'.length
  · have hne : ((l.length : Int) != (l'.length : Int)) = false := by simp [hl]
    have Hl := Lib.hid hl; clear hl
    go_enter Tryz.func80, Tryz.ntmps80
    go_wp2
    go_loopw [5] (fun i wr => ∃ j : Nat, j ≤ l.length ∧ i = .int .i64 j ∧ l.take j = l'.take j ∧ Only [] w wr)
      (fun i _ => l.length - (intOf i).toNat)
    case atStart => exact ⟨0, Nat.zero_le _, rfl, rfl, Only.refl _ _⟩
    case round =>
      obtain ⟨j, hj, rfl, hr, hK⟩ := hrel
      have Hr := Lib.hid hr; clear hr
      by_cases hlt : j < l.length
      · have hlt' : j < l'.length := by have := Hl.out; omega
        obtain ⟨b, off, v1, v2, v3, rfl, -, c1, c2, c3, hv⟩ := h.at3 j hlt
        obtain ⟨b', off', v1', v2', v3', rfl, -, c1', c2', c3', hv'⟩ := h'.at3 j hlt'
        have d1 := hK.cell (by simp) c1
        have d2 := hK.cell (by simp) c2
        have d3 := hK.cell (by simp) c3
        have d1' := hK.cell (by simp) c1'
        have d2' := hK.cell (by simp) c2'
        have d3' := hK.cell (by simp) c3'
        clear c1 c2 c3 c1' c2' c3'
        rcases hq : eqV l[j] l'[j]
        all_goals go_wp2
        all_goals go_still_tail 8, (by kernel_rfl)
        all_goals change wpList _ _ _ _ _ wr.drew
        all_goals go_wp2_with ((go_at_call 57; (with_reducible refine (eqTable_any [v1, v2, v3] [v1', v2', v3'] l[j] l'[j] _ _ _ (Rp.keep hv (by with_reducible repeat (first | exact Only.refl _ _ | assumption | refine Only.drewN ?_ _ | refine Only.drew ?_ | refine Only.alloc ?_ _ | refine Only.setCell ?_ (by intro hh; exfalso; simp at hh; try omega) _ | refine Only.trans ?_ (by assumption)))) (Rp.keep hv' (by with_reducible repeat (first | exact Only.refl _ _ | assumption | refine Only.drewN ?_ _ | refine Only.drew ?_ | refine Only.alloc ?_ _ | refine Only.setCell ?_ (by intro hh; exfalso; simp at hh; try omega) _ | refine Only.trans ?_ (by assumption))))).mono ?_); rintro e w1 ⟨rfl, hk1⟩))
        · go_ret
          exact ⟨ret_bool (eqL_no hlt hlt' hq).symm, (by with_reducible repeat (first | exact Only.refl _ _ | assumption | refine Only.drewN ?_ _ | refine Only.drew ?_ | refine Only.alloc ?_ _ | refine Only.setCell ?_ (by intro hh; exfalso; simp at hh; try omega) _ | refine Only.trans ?_ (by assumption)))⟩
        · go_roundw
          case rel => exact ⟨j + 1, by omega, by go_num, eqL_step hlt hlt' hq Hr.out, (by with_reducible repeat (first | exact Only.refl _ _ | assumption | refine Only.drewN ?_ _ | refine Only.drew ?_ | refine Only.alloc ?_ _ | refine Only.setCell ?_ (by intro hh; exfalso; simp at hh; try omega) _ | refine Only.trans ?_ (by assumption)))⟩
          case measure => simp [intOf]; omega
      · go_wp2
        go_ret
        exact ⟨ret_bool (eqL_yes Hl.out hlt Hr.out).symm, hK⟩
  · have hne : ((l.length : Int) != (l'.length : Int)) = true := by simp; omega
    go_enter Tryz.func80, Tryz.ntmps80
    go_wp2
    go_ret
    exact ⟨ret_bool (eqL_len hne).symm, Only.refl _ _⟩

theorem eqTableS_rd (v v' : Value) (l l' : List Table) (fp fp' : List Nat) (w : World) (h : Rd w v l fp) (h' : Rd w v' l' fp') :
    Calls Tryz.prog 80 #[v, v'] w fun e w' => e = .returned (.bool (eqV l l')) ∧ Only [] w w' := by
  obtain ⟨a, cap, ob, fps, rfl, -, hs⟩ := h.open_
  obtain ⟨a', cap', ob', fps', rfl, -, hs'⟩ := h'.open_
  exact eqTableS_any a a' cap cap' l l' ob ob' fps fps' w hs hs'

set_option maxHeartbeats 1000000 in
theorem heldTableS_any (a : Option Addr) (cap : Nat) (l : List Table) (ob : List Nat) (fps : List (List Nat)) (k : Int) (w : World) (h : SeqA w a cap l ob fps) (h0 : 0 ≤ k) (h1 : k + (cntL l : Nat) ≤ 4611686018427387904) :
    Calls Tryz.prog 84 #[.slice a l.length cap, .int .i64 k] w fun e w' => e = .returned (.int .i64 (heldV k l)) ∧ Drew w w' := by
  have hb := h.bound
  go_enter Tryz.func84, Tryz.ntmps84
  go_wp2
  go_loopw [1, 5] (fun q i wr => ∃ j : Nat, j ≤ l.length ∧ q = .int .i64 (k + (cntL (l.take j) : Nat)) ∧ i = .int .i64 j ∧ l.take j = markL k (l.take j) ∧ Drew w wr)
    (fun _ i _ => l.length - (intOf i).toNat)
  case atStart => exact ⟨0, Nat.zero_le _, by simp [cntL], rfl, rfl, Drew.refl _⟩
  case round =>
    obtain ⟨j, hj, rfl, rfl, hr, n, rfl⟩ := hrel
    have Hr := Lib.hid hr; clear hr
    by_cases hlt : j < l.length
    · obtain ⟨b, off, v1, v2, v3, rfl, -, c1, c2, c3, hv⟩ := h.at3 j hlt
      obtain ⟨_, _, _, f1, f2, f3, hcs, -, r1, r2, r3⟩ := hv
      injection hcs with e1 hcs; injection hcs with e2 hcs; injection hcs with e3 hcs; subst e1; subst e2; subst e3
      have hcnt := cntL_take_succ l j hlt
      have hle := cntL_take_le l (j + 1)
      have hcc : Mk.cnt l[j] = Mk.cnt l[j].tracked + Mk.cnt l[j].patterns + Mk.cnt l[j].distances := rfl
      generalize hK : k + ((cntL (l.take j) : Nat) : Int) = K at *
      have HK := Lib.hid hK
      have hK0 : 0 ≤ K := by omega
      have hb1 : K + (Mk.cnt l[j].tracked : Nat) ≤ 4611686018427387904 := by omega
      have hb2 : K + (Mk.cnt l[j].tracked : Nat) + (Mk.cnt l[j].patterns : Nat) ≤ 4611686018427387904 := by omega
      have hb3 : K + (Mk.cnt l[j].tracked : Nat) + (Mk.cnt l[j].patterns : Nat) + (Mk.cnt l[j].distances : Nat) ≤ 4611686018427387904 := by omega
      have Hcnt := Lib.hid hcnt
      have Hcc := Lib.hid hcc
      have hiff : l[j] = Mk.mark K l[j] ↔ l[j].tracked = Mk.mark K l[j].tracked ∧ l[j].patterns = Mk.mark (K + (Mk.cnt l[j].tracked : Nat)) l[j].patterns ∧ l[j].distances = Mk.mark (K + (Mk.cnt l[j].tracked : Nat) + (Mk.cnt l[j].patterns : Nat)) l[j].distances := by
        rw [Table.eq_iff]; simp [Mk.mark]
      have Hiff := Lib.hid hiff
      clear hcnt hcc hiff hK hcs
      rcases heldV_pos K l[j].tracked with ⟨e1, m1⟩ | ⟨e1, m1⟩
      · have M1 := Lib.hid m1; clear m1
        go_wp2_with ((go_at_call 82; (with_reducible refine (heldInt64S_rd v1 l[j].tracked _ K _ (Rp.keep r1 (by with_reducible repeat (first | exact Only.refl _ _ | assumption | refine Only.drewN ?_ _ | refine Only.drew ?_ | refine Only.alloc ?_ _ | refine Only.setCell ?_ (by intro hh; exfalso; simp at hh; try omega) _ | refine Only.trans ?_ (by assumption)))) hK0 hb1).mono ?_); rintro e w1 ⟨rfl, n1, rfl⟩))
        go_ret
        exact ⟨ret_int (heldV_no (held_not hlt (by rw [HK.out]; exact fun he => M1.out (Hiff.out.1 he).1))).symm, ⟨_, rfl⟩⟩
      have M1 := Lib.hid m1; clear m1
      rcases heldV_pos (K + (Mk.cnt l[j].tracked : Nat)) l[j].patterns with ⟨e2, m2⟩ | ⟨e2, m2⟩
      · have M2 := Lib.hid m2; clear m2
        go_wp2_with (first | (go_at_call 82; (with_reducible refine (heldInt64S_rd v1 l[j].tracked _ K _ (Rp.keep r1 (by with_reducible repeat (first | exact Only.refl _ _ | assumption | refine Only.drewN ?_ _ | refine Only.drew ?_ | refine Only.alloc ?_ _ | refine Only.setCell ?_ (by intro hh; exfalso; simp at hh; try omega) _ | refine Only.trans ?_ (by assumption)))) hK0 hb1).mono ?_); rintro e w1 ⟨rfl, n1, rfl⟩) | (go_at_call 83; (with_reducible refine (heldInt64SS_rd v2 l[j].patterns _ (K + (Mk.cnt l[j].tracked : Nat)) _ (Rp.keep r2 (by with_reducible repeat (first | exact Only.refl _ _ | assumption | refine Only.drewN ?_ _ | refine Only.drew ?_ | refine Only.alloc ?_ _ | refine Only.setCell ?_ (by intro hh; exfalso; simp at hh; try omega) _ | refine Only.trans ?_ (by assumption)))) (by omega) hb2).mono ?_); rintro e w2 ⟨rfl, n2, rfl⟩))
        go_ret
        exact ⟨ret_int (heldV_no (held_not hlt (by rw [HK.out]; exact fun he => M2.out (Hiff.out.1 he).2.1))).symm, ⟨_, rfl⟩⟩
      have M2 := Lib.hid m2; clear m2
      rcases heldV_pos (K + (Mk.cnt l[j].tracked : Nat) + (Mk.cnt l[j].patterns : Nat)) l[j].distances with ⟨e3, m3⟩ | ⟨e3, m3⟩
      all_goals have M3 := Lib.hid m3
      all_goals clear m3
      all_goals go_wp2_with (first | (go_at_call 82; (with_reducible refine (heldInt64S_rd v1 l[j].tracked _ K _ (Rp.keep r1 (by with_reducible repeat (first | exact Only.refl _ _ | assumption | refine Only.drewN ?_ _ | refine Only.drew ?_ | refine Only.alloc ?_ _ | refine Only.setCell ?_ (by intro hh; exfalso; simp at hh; try omega) _ | refine Only.trans ?_ (by assumption)))) hK0 hb1).mono ?_); rintro e w1 ⟨rfl, n1, rfl⟩) | (go_at_call 83; (with_reducible refine (heldInt64SS_rd v2 l[j].patterns _ (K + (Mk.cnt l[j].tracked : Nat)) _ (Rp.keep r2 (by with_reducible repeat (first | exact Only.refl _ _ | assumption | refine Only.drewN ?_ _ | refine Only.drew ?_ | refine Only.alloc ?_ _ | refine Only.setCell ?_ (by intro hh; exfalso; simp at hh; try omega) _ | refine Only.trans ?_ (by assumption)))) (by omega) hb2).mono ?_); rintro e w2 ⟨rfl, n2, rfl⟩) | (go_at_call 82; (with_reducible refine (heldInt64S_rd v3 l[j].distances _ (K + (Mk.cnt l[j].tracked : Nat) + (Mk.cnt l[j].patterns : Nat)) _ (Rp.keep r3 (by with_reducible repeat (first | exact Only.refl _ _ | assumption | refine Only.drewN ?_ _ | refine Only.drew ?_ | refine Only.alloc ?_ _ | refine Only.setCell ?_ (by intro hh; exfalso; simp at hh; try omega) _ | refine Only.trans ?_ (by assumption)))) (by omega) hb3).mono ?_); rintro e w3 ⟨rfl, n3, rfl⟩))
      · go_ret
        exact ⟨ret_int (heldV_no (held_not hlt (by rw [HK.out]; exact fun he => M3.out (Hiff.out.1 he).2.2))).symm, ⟨_, rfl⟩⟩
      · go_roundw
        case rel => exact ⟨j + 1, by omega, by have := Hcnt.out; have := Hcc.out; have := HK.out; go_num, by go_num, held_step hlt Hr.out (by rw [HK.out]; exact Hiff.out.2 ⟨M1.out, M2.out, M3.out⟩), ⟨_, rfl⟩⟩
        case measure => simp [intOf]; omega
    · have Hj : Hid (j = l.length) := (by omega : j = l.length)
      go_wp2
      go_ret
      have hjl := Hj.out
      subst hjl
      refine ⟨ret_int ?_, (Drew.refl _).drewN n⟩
      have hr := Hr.out
      rw [List.take_length] at hr ⊢
      exact (heldV_yes hr).symm
theorem heldTableS_rd (v : Value) (l : List Table) (fp : List Nat) (k : Int) (w : World) (h : Rd w v l fp) (h0 : 0 ≤ k) (h1 : k + (Mk.cnt l : Nat) ≤ 4611686018427387904) :
    Calls Tryz.prog 84 #[v, .int .i64 k] w fun e w' => e = .returned (.int .i64 (heldV k l)) ∧ Only [] w w' := by
  obtain ⟨a, cap, ob, fps, rfl, -, hs⟩ := h.open_
  exact (heldTableS_any a cap l ob fps k w hs h0 h1).mono fun e w' ⟨he, hd⟩ => ⟨he, hd.only _⟩

set_option maxHeartbeats 1000000 in
theorem markTableS_any (a : Option Addr) (cap : Nat) (l : List Table) (ob : List Nat) (fps : List (List Nat)) (k : Int) (w : World) (h : SeqA w a cap l ob fps) (hnd : (ob ++ fps.flatten).Nodup) (ho : Own w (ob ++ fps.flatten)) (h0 : 0 ≤ k) (h1 : k + (cntL l : Nat) ≤ 4611686018427387904) :
    Calls Tryz.prog 81 #[.slice a l.length cap, .int .i64 k] w fun e w' =>
      e = .returned (.int .i64 (k + (cntL l : Nat))) ∧ SeqA w' a cap (markL k l) ob fps ∧ Own w' (ob ++ fps.flatten) ∧ Only (ob ++ fps.flatten) w w' := by
  have hb := h.bound
  have hnf := h.nf
  go_enter Tryz.func81, Tryz.ntmps81
  have Hnf := Lib.hid hnf
  clear hnf
  go_wp2
  go_loopw [1, 5] (fun q i wr => ∃ j : Nat, j ≤ l.length ∧ q = .int .i64 (k + (cntL (l.take j) : Nat)) ∧ i = .int .i64 j ∧ SeqA wr a cap (markL k (l.take j) ++ l.drop j) ob fps ∧ Own wr (ob ++ fps.flatten) ∧ Only (ob ++ fps.flatten) w wr)
    (fun _ i _ => l.length - (intOf i).toNat)
  case atStart => exact ⟨0, Nat.zero_le _, by simp [cntL], rfl, by simpa [markL] using h, ho, Only.refl _ _⟩
  case round =>
    obtain ⟨j, hj, rfl, rfl, hI, hO, hK⟩ := hrel
    by_cases hlt : j < l.length
    · have hjm : (markL k (l.take j) ++ l.drop j).length = l.length := by simp [markL_length]; omega
      have hjf : j < fps.length := by have := Hnf.out; omega
      obtain ⟨b, off, v1, v2, v3, rfl, hob, c1, c2, c3, hv0⟩ := hI.at3 j (by omega)
      have hx : (markL k (l.take j) ++ l.drop j)[j]'(by omega) = l[j] := by
        rw [List.getElem_append_right (by simp [markL_length]; omega)]
        simp [markL_length, Nat.min_eq_left hj]
      have hv : Rp.rep wr [v1, v2, v3] l[j] fps[j] := by rw [hx] at hv0; exact hv0
      have hbn : b ∉ fps[j] := fun hm => (nd_app hnd).2.2.1 b (by simp [hob]) (mem_flatten_get hjf hm)
      have hndj : (fps[j]).Nodup := (List.nodup_iff_pairwise_ne.1 (nd_app hnd).2.1 |> List.pairwise_flatten.1).1 _ (List.getElem_mem _)
      have hOj : Own wr fps[j] := hO.sub (fun b hb => List.mem_append_right _ (mem_flatten_get hjf hb))
      have hbl : b < wr.heap.size := hI.lt b (by simp [hob])
      obtain ⟨_, _, _, f1, f2, f3, hcs, hfp, r1, r2, r3⟩ := hv
      injection hcs with e1 hcs; injection hcs with e2 hcs; injection hcs with e3 hcs; subst e1; subst e2; subst e3
      rw [hfp] at hndj hOj hbn
      obtain ⟨n1, n23, d1, d1'⟩ := nd_app hndj
      obtain ⟨n2, n3, d2, d2'⟩ := nd_app n23
      simp only [List.mem_append, not_or] at d1 d1' hbn
      have o1 := hOj.left; have o2 := hOj.right.left; have o3 := hOj.right.right
      have hcnt := cntL_take_succ l j hlt
      have hle := cntL_take_le l (j + 1)
      have hcc : Mk.cnt l[j] = Mk.cnt l[j].tracked + Mk.cnt l[j].patterns + Mk.cnt l[j].distances := rfl
      generalize hKq : k + ((cntL (l.take j) : Nat) : Int) = K at *
      have HK := Lib.hid hKq
      have hK0 : 0 ≤ K := by omega
      have hb1 : K + (Mk.cnt l[j].tracked : Nat) ≤ 4611686018427387904 := by omega
      have hb2 : K + (Mk.cnt l[j].tracked : Nat) + (Mk.cnt l[j].patterns : Nat) ≤ 4611686018427387904 := by omega
      have hb3 : K + (Mk.cnt l[j].tracked : Nat) + (Mk.cnt l[j].patterns : Nat) + (Mk.cnt l[j].distances : Nat) ≤ 4611686018427387904 := by omega
      have Hcnt := Lib.hid hcnt
      have Hcc := Lib.hid hcc
      have Hs := Lib.hid (markL_set k l j hlt)
      have Hob := Lib.hid hob
      have Hfp := Lib.hid hfp
      clear hcnt hv0 hx hjm hob hcc hKq hcs hfp
      go_wp2_with (first
        | (go_at_call 34; (with_reducible refine (markInt64S_rd v1 l[j].tracked f1 K wr r1 o1 hK0 hb1).mono ?_); rintro e w1 ⟨rfl, s1, p1, t1⟩; have q1 := t1.cells_eq b hbl hbn.1)
        | (go_at_call 42; (with_reducible refine (markInt64SS_rd v2 l[j].patterns f2 (K + (Mk.cnt l[j].tracked : Nat)) w1 (Rp.only r2 t1 (fun x hx => (d1' x (.inl hx)))) n2 (o2.only t1 (fun x hx => (d1' x (.inl hx)))) (by omega) hb2).mono ?_); rintro e w2 ⟨rfl, s2, p2, t2⟩; have q2 := t2.cells_eq b (Nat.lt_of_lt_of_le hbl t1.size) hbn.2.1)
        | (go_at_call 34; (with_reducible refine (markInt64S_rd v3 l[j].distances f3 (K + (Mk.cnt l[j].tracked : Nat) + (Mk.cnt l[j].patterns : Nat)) w2 (Rp.only (Rp.only r3 t1 (fun x hx => (d1' x (.inr hx)))) t2 d2') ((o3.only t1 (fun x hx => (d1' x (.inr hx)))).only t2 d2') (by omega) hb3).mono ?_); rintro e w3 ⟨rfl, s3, p3, t3⟩; have q3 := t3.cells_eq b (Nat.lt_of_lt_of_le hbl (Nat.le_trans t1.size t2.size)) hbn.2.2))
      have T : Only fps[j] wr w3 := by
        rw [Hfp.out]
        exact ((t1.mono (fun x hx _ => by simp [hx])).trans (t2.mono (fun x hx _ => by simp [hx]))).trans (t3.mono (fun x hx _ => by simp [hx]))
      have hrep : Rp.rep w3 [v1, v2, v3] (Mk.mark K l[j]) fps[j] :=
        ⟨v1, v2, v3, f1, f2, f3, rfl, Hfp.out, Rp.only (Rp.only s1 t2 (fun x hx => (d1 x hx).1)) t3 (fun x hx => (d1 x hx).2), Rp.only s2 t3 d2, s3⟩
      have hown : Own w3 fps[j] := by
        rw [Hfp.out]
        exact ((p1.only t2 (fun x hx => (d1 x hx).1)).only t3 (fun x hx => (d1 x hx).2)).append ((p2.only t3 d2).append p3)
      have hI1 := hI.touch (w' := w3) hnd (j := j) (b := b) (off := off) (cs := [v1, v2, v3]) (x' := Mk.mark K l[j]) (by simp [markL_length]; omega) hjf rfl rfl
        (by intro i u hu; match i, hu with
            | 0, hu => simp at hu; subst hu; simpa [Rp.size] using c1
            | 1, hu => simp at hu; subst hu; simpa [Rp.size] using c2
            | 2, hu => simp at hu; subst hu; simpa [Rp.size] using c3) T hrep
      have hs := Hs.out
      rw [HK.out] at hs
      rw [hs] at hI1
      have hK1 : Only (ob ++ fps.flatten) wr w3 := T.mono (fun b hb _ => List.mem_append_right _ (mem_flatten_get hjf hb))
      have hO1 : Own w3 (ob ++ fps.flatten) := by
        intro b hb
        by_cases hm : b ∈ fps[j]
        · exact hown b hm
        · rw [T.block b (hO.lt b hb) hm]; exact hO b hb
      have HI := Lib.hid hI1
      clear hI hI1 hs
      go_roundw
      case rel => exact ⟨j + 1, by omega, by have := Hcnt.out; have := Hcc.out; have := HK.out; go_num, by go_num, HI.out, hO1, hK.trans hK1⟩
      case measure => simp [intOf]; omega
    · have hjl : j = l.length := by omega
      have hI' := hI
      rw [hjl] at hI'
      simp only [List.take_length, List.drop_length, List.append_nil] at hI'
      have Hj := Lib.hid hjl
      clear hI hjl
      go_wp2
      go_ret
      exact ⟨ret_int (by rw [Hj.out, List.take_length]), hI', hO, hK⟩
theorem markTableS_rd (v : Value) (l : List Table) (fp : List Nat) (k : Int) (w : World) (h : Rd w v l fp) (hnd : fp.Nodup) (ho : Own w fp) (h0 : 0 ≤ k) (h1 : k + (Mk.cnt l : Nat) ≤ 4611686018427387904) :
    Calls Tryz.prog 81 #[v, .int .i64 k] w fun e w' => e = .returned (.int .i64 (k + (Mk.cnt l : Nat))) ∧ Rd w' v (Mk.mark k l) fp ∧ Own w' fp ∧ Only fp w w' := by
  obtain ⟨a, cap, ob, fps, rfl, rfl, hs⟩ := h.open_
  refine (markTableS_any a cap l ob fps k w hs hnd ho h0 h1).mono ?_
  rintro e w' ⟨he, hI', ho', hk⟩
  refine ⟨he, ?_, ho', hk⟩
  have := hI'.rd
  rw [markL_length] at this
  exact this

/-- the first elements of a list whose elements take several cells, read one by one -/
structure ReadsC {α : Type} [Rp α] (w : World) (B : Nat) (css : List (List Value)) (xs : List α) (fps : List (List Nat)) : Prop where
  vl : css.length = xs.length
  fl : fps.length = xs.length
  at_ : ∀ k (h1 : k < css.length) (h2 : k < xs.length) (h3 : k < fps.length), Rp.rep w css[k] xs[k] fps[k]
  fresh : Fresh B w fps.flatten
section
variable {α : Type} [Rp α] {w w' : World} {B : Nat} {css : List (List Value)} {xs : List α} {fps : List (List Nat)}
theorem ReadsC.nil (w : World) (B : Nat) : ReadsC w B [] ([] : List α) [] := ⟨rfl, rfl, by simp, Fresh.nil _ _⟩
theorem ReadsC.only {fp : List Nat} (h : ReadsC w B css xs fps) (ho : Only fp w w') (hd : ∀ b ∈ fp, b < B ∨ w.heap.size ≤ b) : ReadsC w' B css xs fps :=
  ⟨h.vl, h.fl, fun k h1 h2 h3 => Rp.only (h.at_ k h1 h2 h3) ho (fun b hb hm => by
      have h4 := h.fresh.ge b (mem_flatten_get h3 hb); have h5 := h.fresh.lt b (mem_flatten_get h3 hb); have := hd b hm; omega),
    h.fresh.only ho (fun b hb hm => by have h4 := h.fresh.ge b hb; have h5 := h.fresh.lt b hb; have := hd b hm; omega)⟩
theorem ReadsC.snoc {cs : List Value} {x : α} {fp : List Nat} (h : ReadsC w B css xs fps) (hv : Rp.rep w cs x fp) (hf : Fresh w'.heap.size w fp) (hB : B ≤ w'.heap.size) (hlt : ∀ b ∈ fps.flatten, b < w'.heap.size) :
    ReadsC w B (css ++ [cs]) (xs ++ [x]) (fps ++ [fp]) := by
  refine ⟨by simp [h.vl], by simp [h.fl], fun k h1 h2 h3 => ?_, ?_⟩
  · by_cases hk : k < xs.length
    · rw [List.getElem_append_left (by rw [h.vl]; exact hk), List.getElem_append_left hk, List.getElem_append_left (by rw [h.fl]; exact hk)]
      exact h.at_ k _ _ _
    · have : k = xs.length := by simp at h2; omega
      subst this
      rw [List.getElem_append_right (by rw [h.vl]; omega), List.getElem_append_right (by omega), List.getElem_append_right (by rw [h.fl]; omega)]
      simpa [h.vl, h.fl] using hv
  · rw [List.flatten_append]
    simp only [List.flatten_cons, List.flatten_nil, List.append_nil]
    exact h.fresh.append hf hB hlt
end
theorem set3 (L : List Value) (n j : Nat) (z a b c : Value) (h : j < n) (hl : L.length = j * 3) :
    (((L ++ List.replicate ((n - j) * 3) z).set (j * 3) a).set (j * 3 + 1) b).set (j * 3 + 2) c = (L ++ [a, b, c]) ++ List.replicate ((n - (j + 1)) * 3) z := by
  have h2 : (n - j) * 3 = (n - (j + 1)) * 3 + 1 + 1 + 1 := by omega
  rw [h2, List.replicate_succ, List.replicate_succ, List.replicate_succ]
  rw [List.set_append_right _ _ (by omega), List.set_append_right _ _ (by omega), List.set_append_right _ _ (by omega)]
  have e0 : j * 3 - L.length = 0 := by omega
  have e1 : j * 3 + 1 - L.length = 1 := by omega
  have e2 : j * 3 + 2 - L.length = 2 := by omega
  rw [e0, e1, e2]
  simp only [List.set, List.append_assoc, List.cons_append, List.nil_append]

theorem Tryz.infoTable : (Tryz.prog.info? 32).map (fun i => (i.zero, i.size, i.bytes)) = some (some (.agg #[.slice none 0 0, .slice none 0 0, .slice none 0 0]), 3, 72) := by kernel_rfl
end Go.Proofs.YtlcoejncdbkhcaaGreat

namespace Go.Proofs.YtlcoejncdbkhcaaGreat
open Go.RowKit
set_option maxRecDepth 10000
set_option maxHeartbeats 1000000 in
theorem copyLists_acc (a : Option Addr) (cap : Nat) (l : List (List Int)) (ob : List Nat) (fps : List (List Nat)) (w : World) (h : SeqA w a cap l ob fps) (hl : l.length ≤ 2097152) (hl2 : ∀ x ∈ l, x.length ≤ 2097152) :
    Calls Tryz.prog 118 #[.slice a l.length cap] w fun e w' => ∃ v fs, e = .returned v ∧ Acc w.heap.size 25 w' v l fs ∧ Fresh w.heap.size w' fs.flatten ∧ Only [] w w' := by
  obtain ⟨i0, hi, hz0, hz1, hz2⟩ := info_parts Tryz.info22
  have hb := h.bound
  go_enter Tryz.func118, Tryz.ntmps118
  go_wp2
  go_loopw [3, 4] (fun o i wr => ∃ (j : Nat) (fs : List (List Nat)), j ≤ l.length ∧ i = .int .i64 j ∧ Acc w.heap.size 25 wr o (l.take j) fs ∧ Fresh w.heap.size wr fs.flatten ∧ Only [] w wr)
    (fun _ i _ => l.length - (intOf i).toNat)
  case atStart => exact ⟨0, [], Nat.zero_le _, rfl, Acc.made w w.heap.size _ rfl (Nat.le_refl _), Fresh.nil _ _, (Only.refl _ _).alloc _⟩
  case round =>
    obtain ⟨j, fs, hj, rfl, hA, hF, hK⟩ := hrel
    by_cases hlt : j < l.length
    · obtain ⟨b, off, v, rfl, -, hc0, hv0⟩ := h.atRow j hlt
      have hc := hK.cell (by simp) hc0
      have hv := Rp.keep hv0 hK
      have hlen := hl2 l[j] (List.getElem_mem _)
      have hsz := hK.size
      have hlj : (l.take j).length + 1 ≤ 1073741824 := by simp; omega
      go_wp2_with (first
        | (go_at_call 111; refine (copyInts_rd v l[j] _ _ hv (by omega)).mono ?_; rintro e w2 ⟨v2, fp2, rfl, hv2, hF2, hK2⟩; have hq := hv2.open_; obtain ⟨a2, c2, _, _, rfl, -⟩ := hq)
        | (at_builtin; refine wpList_pushF rfl _ _ 22 rfl w.heap.size 25 i0 _ 24 Tryz.underlying22 hi hz0 hz1 hz2 rfl (by decide) (by decide) wr _ (l.take j) fs rfl hA hF (hK2.alloc _) hsz w2.heap.size 1 [.slice a2 l[j].length c2] l[j] fp2 rfl (lit_src w2 [.slice a2 l[j].length c2] _ rfl) (by intro u hu; simp at hu; subst hu; rfl) (Rp.keep hv2 ((Only.refl _ _).alloc _)) (hF2.keep ((Only.refl _ _).alloc _)) hlj w ((hK.trans hK2).alloc _) (Nat.le_refl _) ?_; intro v3 w3 hA3 hF3 hK3 _))
      go_roundw
      case rel => exact ⟨j + 1, _, by omega, by go_num, by rw [take_succ_get l j hlt]; exact hA3, hF3, hK3⟩
      case measure => simp [intOf]; omega
    · have hjl : j = l.length := by omega
      rw [hjl, List.take_length] at hA
      have HA := Lib.hid hA
      clear hjl hA
      go_wp2
      go_ret
      exact ⟨_, _, rfl, HA.out, hF, hK⟩
theorem copyLists_any (a : Option Addr) (cap : Nat) (l : List (List Int)) (ob : List Nat) (fps : List (List Nat)) (w : World) (h : SeqA w a cap l ob fps) (hl : l.length ≤ 2097152) (hl2 : ∀ x ∈ l, x.length ≤ 2097152) :
    Calls Tryz.prog 118 #[.slice a l.length cap] w fun e w' => ∃ v fp', e = .returned v ∧ Rd w' v l fp' ∧ Fresh w.heap.size w' fp' ∧ Only [] w w' :=
  (copyLists_acc a cap l ob fps w h hl hl2).mono fun _ _ ⟨v, _, he, hA, hF, hK⟩ => ⟨v, _, he, hA.rd (by decide), hA.fresh hF, hK⟩
theorem copyLists_rd (v : Value) (l : List (List Int)) (fp : List Nat) (w : World) (h : Rd w v l fp) (hl : l.length ≤ 2097152) (hl2 : ∀ x ∈ l, x.length ≤ 2097152) :
    Calls Tryz.prog 118 #[v] w fun e w' => ∃ v fp', e = .returned v ∧ Rd w' v l fp' ∧ Fresh w.heap.size w' fp' ∧ Only [] w w' := by
  obtain ⟨a, cap, ob, fps, rfl, -, hs⟩ := h.open_
  exact copyLists_any a cap l ob fps w hs hl hl2
set_option maxHeartbeats 1000000 in
theorem cloneLists_acc (a : Option Addr) (cap : Nat) (l : List (List Int)) (ob : List Nat) (fps : List (List Nat)) (w : World) (h : SeqA w a cap l ob fps) (hl : l.length ≤ 2097152) (hl2 : ∀ x ∈ l, x.length ≤ 2097152) :
    Calls Tryz.prog 186 #[.slice a l.length cap] w fun e w' => ∃ v fs, e = .returned v ∧ Acc w.heap.size 25 w' v l fs ∧ Fresh w.heap.size w' fs.flatten ∧ Only [] w w' := by
  obtain ⟨i0, hi, hz0, hz1, hz2⟩ := info_parts Tryz.info22
  have hb := h.bound
  go_enter Tryz.func186, Tryz.ntmps186
  go_wp2
  go_loopw [3, 8] (fun o i wr => ∃ (j : Nat) (fs : List (List Nat)), j ≤ l.length ∧ i = .int .i64 j ∧ Acc w.heap.size 25 wr o (l.take j) fs ∧ Fresh w.heap.size wr fs.flatten ∧ Only [] w wr)
    (fun _ i _ => l.length - (intOf i).toNat)
  case atStart => exact ⟨0, [], Nat.zero_le _, rfl, Acc.nil w _ _, Fresh.nil _ _, Only.refl _ _⟩
  case round =>
    obtain ⟨j, fs, hj, rfl, hA, hF, hK⟩ := hrel
    by_cases hlt : j < l.length
    · obtain ⟨b, off, v, rfl, -, hc0, hv0⟩ := h.atRow j hlt
      have hc := hK.cell (by simp) hc0
      have hv := Rp.keep hv0 hK
      have hlen := hl2 l[j] (List.getElem_mem _)
      have hsz := hK.size
      have hlj : (l.take j).length + 1 ≤ 1073741824 := by simp; omega
      go_wp2_with (first
        | (go_at_call 129; refine (Clone_rd v l[j] _ _ hv (by omega)).mono ?_; rintro e w2 ⟨v2, fp2, rfl, hv2, hF2, hK2⟩; have hq := hv2.open_; obtain ⟨a2, c2, _, _, rfl, -⟩ := hq)
        | (at_builtin; refine wpList_pushF rfl _ _ 22 rfl w.heap.size 25 i0 _ 24 Tryz.underlying22 hi hz0 hz1 hz2 rfl (by decide) (by decide) wr _ (l.take j) fs rfl hA hF (hK2.alloc _) hsz w2.heap.size 1 [.slice a2 l[j].length c2] l[j] fp2 rfl (lit_src w2 [.slice a2 l[j].length c2] _ rfl) (by intro u hu; simp at hu; subst hu; rfl) (Rp.keep hv2 ((Only.refl _ _).alloc _)) (hF2.keep ((Only.refl _ _).alloc _)) hlj w ((hK.trans hK2).alloc _) (Nat.le_refl _) ?_; intro v3 w3 hA3 hF3 hK3 _))
      go_roundw
      case rel => exact ⟨j + 1, _, by omega, by go_num, by rw [take_succ_get l j hlt]; exact hA3, hF3, hK3⟩
      case measure => simp [intOf]; omega
    · have hjl : j = l.length := by omega
      rw [hjl, List.take_length] at hA
      have HA := Lib.hid hA
      clear hjl hA
      go_wp2
      go_ret
      exact ⟨_, _, rfl, HA.out, hF, hK⟩
theorem cloneLists_any (a : Option Addr) (cap : Nat) (l : List (List Int)) (ob : List Nat) (fps : List (List Nat)) (w : World) (h : SeqA w a cap l ob fps) (hl : l.length ≤ 2097152) (hl2 : ∀ x ∈ l, x.length ≤ 2097152) :
    Calls Tryz.prog 186 #[.slice a l.length cap] w fun e w' => ∃ v fp', e = .returned v ∧ Rd w' v l fp' ∧ Fresh w.heap.size w' fp' ∧ Only [] w w' :=
  (cloneLists_acc a cap l ob fps w h hl hl2).mono fun _ _ ⟨v, _, he, hA, hF, hK⟩ => ⟨v, _, he, hA.rd (by decide), hA.fresh hF, hK⟩
theorem cloneLists_rd (v : Value) (l : List (List Int)) (fp : List Nat) (w : World) (h : Rd w v l fp) (hl : l.length ≤ 2097152) (hl2 : ∀ x ∈ l, x.length ≤ 2097152) :
    Calls Tryz.prog 186 #[v] w fun e w' => ∃ v fp', e = .returned v ∧ Rd w' v l fp' ∧ Fresh w.heap.size w' fp' ∧ Only [] w w' := by
  obtain ⟨a, cap, ob, fps, rfl, -, hs⟩ := h.open_
  exact cloneLists_any a cap l ob fps w hs hl hl2
set_option maxHeartbeats 1000000 in
theorem copyTables_any (a : Option Addr) (cap : Nat) (l : List Table) (ob : List Nat) (fps : List (List Nat)) (w : World) (h : SeqA w a cap l ob fps) (hsm : Sm.sm l) :
    Calls Tryz.prog 121 #[.slice a l.length cap] w fun e w' => ∃ v fp', e = .returned v ∧ Rd w' v l fp' ∧ Fresh w.heap.size w' fp' ∧ Only [] w w' := by
  obtain ⟨hl, hl2⟩ := hsm
  obtain ⟨i0, hi, hz0, hz1, hz2⟩ := info_parts Tryz.infoTable
  have hb := h.bound
  go_enter Tryz.func121, Tryz.ntmps121
  go_wp2
  go_loopw [3, 4] (fun o i wr => ∃ (j : Nat) (fs : List (List Nat)), j ≤ l.length ∧ i = .int .i64 j ∧ Acc w.heap.size 32 wr o (l.take j) fs ∧ Fresh w.heap.size wr fs.flatten ∧ Only [] w wr)
    (fun _ i _ => l.length - (intOf i).toNat)
  case atStart => exact ⟨0, [], Nat.zero_le _, rfl, Acc.made w w.heap.size _ rfl (Nat.le_refl _), Fresh.nil _ _, (Only.refl _ _).alloc _⟩
  case round =>
    obtain ⟨j, fs, hj, rfl, hA, hF, hK⟩ := hrel
    by_cases hlt : j < l.length
    · obtain ⟨b, off, v1, v2, v3, rfl, -, c1, c2, c3, hv0⟩ := h.at3 j hlt
      have q := hv0
      obtain ⟨_, _, _, g1, g2, g3, hq, -, s1, s2, s3⟩ := q
      injection hq with e1 hq; injection hq with e2 hq; injection hq with e3 hq; subst e1; subst e2; subst e3
      clear hq
      obtain ⟨m1, m2, m3⟩ := hl2 l[j] (List.getElem_mem _)
      have hsz := hK.size
      have hlj : (l.take j).length + 1 ≤ 1073741824 := by simp; omega
      have ml1 := m1.1
      have ml2 : l[j].patterns.length ≤ 2097152 := m2.1
      have mr2 : ∀ x ∈ l[j].patterns, x.length ≤ 2097152 := fun x hx => (m2.2 x hx).1
      have ml3 := m3.1
      obtain ⟨A1, C1, _, _, rfl, -⟩ := s1.open_
      obtain ⟨A2, C2, _, _, rfl, -⟩ := s2.open_
      obtain ⟨A3, C3, _, _, rfl, -⟩ := s3.open_
      have hi1 : (0 : Int) ≤ (j : Int) := by omega
      have hi2 : (j : Int) < (l.length : Int) := by omega
      have d1 := hK.cell (by simp) c1
      have d2 := hK.cell (by simp) c2
      have d3 := hK.cell (by simp) c3
      skip
      go_upto_region 5 with fail
      go_region_held3 (fun w' => Only [] w w' ∧ w'.cell? ⟨b, off + j * 3, none⟩ = some (.slice A1 l[j].tracked.length C1) ∧ w'.cell? ⟨b, off + j * 3 + 1, none⟩ = some (.slice A2 l[j].patterns.length C2) ∧ w'.cell? ⟨b, off + j * 3 + 2, none⟩ = some (.slice A3 l[j].distances.length C3)) ((refine and_of ?_ (fun h__ => ⟨h__.cell (by simp) c1, h__.cell (by simp) c2, h__.cell (by simp) c3⟩); first | assumption | exact hK.drew | exact Only.trans (And.left (by assumption)) (by assumption) | exact Only.alloc (And.left (by assumption)) _)) (first
        | (go_at_call 111; (with_reducible refine (copyInts_rd (.slice A1 l[j].tracked.length C1) l[j].tracked _ _ (Rp.keep s1 (And.left (by assumption))) (by omega)).mono ?_); rintro e x1 ⟨p1, q1, rfl, r1, F1, y1⟩; have hq := r1.open_; obtain ⟨a1, k1, _, _, rfl, -⟩ := hq)
        | (go_at_call 118; (with_reducible refine (copyLists_rd (.slice A2 l[j].patterns.length C2) l[j].patterns _ _ (Rp.keep s2 (And.left (by assumption))) ml2 mr2).mono ?_); rintro e x2 ⟨p2, q2, rfl, r2, F2, y2⟩; have hq := r2.open_; obtain ⟨a2, k2, _, _, rfl, -⟩ := hq)
        | (go_at_call 111; (with_reducible refine (copyInts_rd (.slice A3 l[j].distances.length C3) l[j].distances _ _ (Rp.keep s3 (And.left (by assumption))) (by omega)).mono ?_); rintro e x3 ⟨p3, q3, rfl, r3, F3, y3⟩; have hq := r3.open_; obtain ⟨a3, k3, _, _, rfl, -⟩ := hq; have F23 := (F2.keep y3).append F3 y2.size (fun b hb => F2.lt b hb); have F := (F1.keep (y2.trans y3)).append F23 y1.size (fun b hb => F1.lt b hb))
        | (refine step_pushF rfl _ _ 49 rfl w.heap.size 32 i0 _ 72 Tryz.underlying49 hi hz0 hz1 hz2 rfl (by decide) (by decide) wr _ (l.take j) fs rfl hA hF ((((((Only.refl [] wr).drew).trans y1).trans y2).trans y3).alloc _) hsz x3.heap.size 1 [.slice a1 l[j].tracked.length k1, .slice a2 l[j].patterns.length k2, .slice a3 l[j].distances.length k3] l[j] (q1 ++ (q2 ++ q3)) rfl (lit_src x3 [.slice a1 l[j].tracked.length k1, .slice a2 l[j].patterns.length k2, .slice a3 l[j].distances.length k3] _ rfl) (by intro u hu; simp at hu; rcases hu with rfl | rfl | rfl <;> rfl) ⟨_, _, _, q1, q2, q3, rfl, rfl, Rp.keep r1 ((y2.trans y3).alloc _), Rp.keep r2 (y3.alloc _), Rp.keep r3 ((Only.refl _ _).alloc _)⟩ (F.keep ((Only.refl _ _).alloc _)) hlj w (And.left (by assumption)) (Nat.le_refl _) ?_; intro v3 w3 hA3 hF3 hK3 hW3)
        | fail "no arm")
      go_wp2
      go_roundw
      case rel => exact ⟨j + 1, _, by omega, by go_num, by rw [take_succ_get l j hlt]; exact hA3, hF3, hK3⟩
      case measure => simp [intOf]; omega
    · have hjl : j = l.length := by omega
      rw [hjl, List.take_length] at hA
      have HA := Lib.hid hA
      clear hjl hA
      go_wp2
      go_ret
      exact ⟨_, _, rfl, HA.out.rd (by decide), HA.out.fresh hF, hK⟩
theorem copyTables_rd (v : Value) (l : List Table) (fp : List Nat) (w : World) (h : Rd w v l fp) (hsm : Sm.sm l) :
    Calls Tryz.prog 121 #[v] w fun e w' => ∃ v fp', e = .returned v ∧ Rd w' v l fp' ∧ Fresh w.heap.size w' fp' ∧ Only [] w w' := by
  obtain ⟨a, cap, ob, fps, rfl, -, hs⟩ := h.open_
  exact copyTables_any a cap l ob fps w hs hsm
set_option maxHeartbeats 1000000 in
theorem cloneTables_any (a : Option Addr) (cap : Nat) (l : List Table) (ob : List Nat) (fps : List (List Nat)) (w : World) (h : SeqA w a cap l ob fps) (hsm : Sm.sm l) :
    Calls Tryz.prog 132 #[.slice a l.length cap] w fun e w' => ∃ v fp', e = .returned v ∧ Rd w' v l fp' ∧ Fresh w.heap.size w' fp' ∧ Only [] w w' := by
  obtain ⟨hl, hl2⟩ := hsm
  obtain ⟨i0, hi, hz0, hz1, hz2⟩ := info_parts Tryz.infoTable
  have hb := h.bound
  go_enter Tryz.func132, Tryz.ntmps132
  go_wp2
  go_loopw [3, 8] (fun o i wr => ∃ (j : Nat) (fs : List (List Nat)), j ≤ l.length ∧ i = .int .i64 j ∧ Acc w.heap.size 32 wr o (l.take j) fs ∧ Fresh w.heap.size wr fs.flatten ∧ Only [] w wr)
    (fun _ i _ => l.length - (intOf i).toNat)
  case atStart => exact ⟨0, [], Nat.zero_le _, rfl, Acc.nil w _ _, Fresh.nil _ _, Only.refl _ _⟩
  case round =>
    obtain ⟨j, fs, hj, rfl, hA, hF, hK⟩ := hrel
    by_cases hlt : j < l.length
    · obtain ⟨b, off, v1, v2, v3, rfl, -, c1, c2, c3, hv0⟩ := h.at3 j hlt
      have q := hv0
      obtain ⟨_, _, _, g1, g2, g3, hq, -, s1, s2, s3⟩ := q
      injection hq with e1 hq; injection hq with e2 hq; injection hq with e3 hq; subst e1; subst e2; subst e3
      clear hq
      obtain ⟨m1, m2, m3⟩ := hl2 l[j] (List.getElem_mem _)
      have hsz := hK.size
      have hlj : (l.take j).length + 1 ≤ 1073741824 := by simp; omega
      have ml1 := m1.1
      have ml2 : l[j].patterns.length ≤ 2097152 := m2.1
      have mr2 : ∀ x ∈ l[j].patterns, x.length ≤ 2097152 := fun x hx => (m2.2 x hx).1
      have ml3 := m3.1
      obtain ⟨A1, C1, _, _, rfl, -⟩ := s1.open_
      obtain ⟨A2, C2, _, _, rfl, -⟩ := s2.open_
      obtain ⟨A3, C3, _, _, rfl, -⟩ := s3.open_
      have hi1 : (0 : Int) ≤ (j : Int) := by omega
      have hi2 : (j : Int) < (l.length : Int) := by omega
      have d1 := hK.cell (by simp) c1
      have d2 := hK.cell (by simp) c2
      have d3 := hK.cell (by simp) c3
      have HB := Lib.hid (Blk.new_at (w := wr) (cs := [.slice A1 l[j].tracked.length C1, .slice A2 l[j].patterns.length C2, .slice A3 l[j].distances.length C3]) (t := 32) rfl); have hne := Lib.hid (hA.own_ne (Nat.le_refl _))
      go_upto_region 5 with fail
      go_region_held3 (fun w' => Only [] w w' ∧ Only u3.ownBlock.toList (wr.alloc (.cells #[.slice A1 l[j].tracked.length C1, .slice A2 l[j].patterns.length C2, .slice A3 l[j].distances.length C3] 32)) w' ∧ w'.cell? ⟨wr.heap.size, 0, none⟩ = some (.slice A1 l[j].tracked.length C1) ∧ w'.cell? ⟨wr.heap.size, 1, none⟩ = some (.slice A2 l[j].patterns.length C2) ∧ w'.cell? ⟨wr.heap.size, 2, none⟩ = some (.slice A3 l[j].distances.length C3)) ((refine and_of ?_ (fun h__ => and_of ?_ (fun h2__ => ⟨(Blk.only HB.out h2__ hne.out).cell 0 rfl, (Blk.only HB.out h2__ hne.out).cell 1 rfl, (Blk.only HB.out h2__ hne.out).cell 2 rfl⟩)); (first | assumption | exact (hK.alloc _).drew | exact Only.trans (And.left (by assumption)) (by assumption) | exact Only.alloc (And.left (by assumption)) _); (first | exact (Only.refl _ _).drew | exact Only.keepThen (And.left (And.right (by assumption))) (by assumption) | exact Only.alloc (And.left (And.right (by assumption))) _ | exact Only.trans (And.left (And.right (by assumption))) (by assumption)))) (first
        | (go_at_call 129; (with_reducible refine (Clone_rd (.slice A1 l[j].tracked.length C1) l[j].tracked _ _ (Rp.keep s1 (And.left (by assumption))) (by omega)).mono ?_); rintro e x1 ⟨p1, q1, rfl, r1, F1, y1⟩; have hq := r1.open_; obtain ⟨a1, k1, _, _, rfl, -⟩ := hq)
        | (go_at_call 186; (with_reducible refine (cloneLists_rd (.slice A2 l[j].patterns.length C2) l[j].patterns _ _ (Rp.keep s2 (And.left (by assumption))) ml2 mr2).mono ?_); rintro e x2 ⟨p2, q2, rfl, r2, F2, y2⟩; have hq := r2.open_; obtain ⟨a2, k2, _, _, rfl, -⟩ := hq)
        | (go_at_call 129; (with_reducible refine (Clone_rd (.slice A3 l[j].distances.length C3) l[j].distances _ _ (Rp.keep s3 (And.left (by assumption))) (by omega)).mono ?_); rintro e x3 ⟨p3, q3, rfl, r3, F3, y3⟩; have hq := r3.open_; obtain ⟨a3, k3, _, _, rfl, -⟩ := hq; have F23 := (F2.keep y3).append F3 y2.size (fun b hb => F2.lt b hb); have F := (F1.keep (y2.trans y3)).append F23 y1.size (fun b hb => F1.lt b hb))
        | (refine step_pushF rfl _ _ 49 rfl w.heap.size 32 i0 _ 72 Tryz.underlying49 hi hz0 hz1 hz2 rfl (by decide) (by decide) wr _ (l.take j) fs rfl hA hF (((((((Only.refl [] wr).alloc _).drew).trans y1).trans y2).trans y3).alloc _) hsz x3.heap.size 1 [.slice a1 l[j].tracked.length k1, .slice a2 l[j].patterns.length k2, .slice a3 l[j].distances.length k3] l[j] (q1 ++ (q2 ++ q3)) rfl (lit_src x3 [.slice a1 l[j].tracked.length k1, .slice a2 l[j].patterns.length k2, .slice a3 l[j].distances.length k3] _ rfl) (by intro u hu; simp at hu; rcases hu with rfl | rfl | rfl <;> rfl) ⟨_, _, _, q1, q2, q3, rfl, rfl, Rp.keep r1 ((y2.trans y3).alloc _), Rp.keep r2 (y3.alloc _), Rp.keep r3 ((Only.refl _ _).alloc _)⟩ ((F.mono (by simp)).keep ((Only.refl _ _).alloc _)) hlj w (And.left (by assumption)) (Nat.le_refl _) ?_; intro v3 w3 hA3 hF3 hK3 hW3)
        | fail "no arm")
      go_wp2
      go_roundw
      case rel => exact ⟨j + 1, _, by omega, by go_num, by rw [take_succ_get l j hlt]; exact hA3, hF3, hK3⟩
      case measure => simp [intOf]; omega
    · have hjl : j = l.length := by omega
      rw [hjl, List.take_length] at hA
      have HA := Lib.hid hA
      clear hjl hA
      go_wp2
      go_ret
      exact ⟨_, _, rfl, HA.out.rd (by decide), HA.out.fresh hF, hK⟩
theorem cloneTables_rd (v : Value) (l : List Table) (fp : List Nat) (w : World) (h : Rd w v l fp) (hsm : Sm.sm l) :
    Calls Tryz.prog 132 #[v] w fun e w' => ∃ v fp', e = .returned v ∧ Rd w' v l fp' ∧ Fresh w.heap.size w' fp' ∧ Only [] w w' := by
  obtain ⟨a, cap, ob, fps, rfl, -, hs⟩ := h.open_
  exact cloneTables_any a cap l ob fps w hs hsm
end Go.Proofs.YtlcoejncdbkhcaaGreat
