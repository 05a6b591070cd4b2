/- The laws' own helpers on slices of tables: eq, mark, held, to, sz. -/
import Derived.Test.YtpfmkjcngknecaaLawTable
import Derived.StillTailTactics
namespace Go.Proofs.Ytpfmkjcngknecaa
open Go.RowKit
set_option maxRecDepth 10000

theorem SeqA.at3 {w : World} {a : Option Addr} {cap : Nat} {xs : List Table} {ob : List Nat} {fps : List (List Nat)} (h : SeqA w a cap xs ob fps) (k : Nat) (hk : k < xs.length) :
    ∃ b off v1 v2 v3, a = some ⟨b, off, none⟩ ∧ ob = [b] ∧ w.cell? ⟨b, off + k * 3, none⟩ = some v1 ∧ w.cell? ⟨b, off + k * 3 + 1, none⟩ = some v2 ∧ w.cell? ⟨b, off + k * 3 + 2, none⟩ = some v3 ∧ Rp.rep w [v1, v2, v3] xs[k] (fps[k]'(by rw [h.nf]; exact hk)) := by
  obtain ⟨b, off, cs, ha, hob, hc, hr⟩ := h.at_ k hk
  have hl := Rp.len hr
  match cs, hl with
  | [v1, v2, v3], _ => exact ⟨b, off, v1, v2, v3, ha, hob, hc 0 v1 rfl, hc 1 v2 rfl, hc 2 v3 rfl, hr⟩

set_option maxHeartbeats 400000 in
theorem eqTableS_any (a a' : Option Addr) (cap cap' : Nat) (l l' : List Table) (ob ob' : List Nat) (fps fps' : List (List Nat)) (w : World) (h : SeqA w a cap l ob fps) (h' : SeqA w a' cap' l' ob' fps') :
    Calls Try.prog 25 #[.slice a l.length cap, .slice a' l'.length cap'] w fun e w' => e = .returned (.bool (eqV l l')) ∧ Only [] w w' := by
  have hb := h.bound
  have hb' := h'.bound
  by_cases hl : l.length = l'.length
  · have hne : ((l.length : Int) != (l'.length : Int)) = false := by simp [hl]
    have Hl := Lib.hid hl; clear hl
    go_enter Try.func25, Try.ntmps25
    go_wp2
    go_loopw [5] (fun i wr => ∃ j : Nat, j ≤ l.length ∧ i = .int .i64 j ∧ l.take j = l'.take j ∧ Only [] w wr)
      (fun i _ => l.length - (intOf i).toNat)
    case atStart => exact ⟨0, Nat.zero_le _, rfl, rfl, Only.refl _ _⟩
    case round =>
      obtain ⟨j, hj, rfl, hr, hK⟩ := hrel
      have Hr := Lib.hid hr; clear hr
      by_cases hlt : j < l.length
      · have hlt' : j < l'.length := by have := Hl.out; omega
        obtain ⟨b, off, v1, v2, v3, rfl, -, c1, c2, c3, hv⟩ := h.at3 j hlt
        obtain ⟨b', off', v1', v2', v3', rfl, -, c1', c2', c3', hv'⟩ := h'.at3 j hlt'
        have d1 := hK.cell (by simp) c1
        have d2 := hK.cell (by simp) c2
        have d3 := hK.cell (by simp) c3
        have d1' := hK.cell (by simp) c1'
        have d2' := hK.cell (by simp) c2'
        have d3' := hK.cell (by simp) c3'
        clear c1 c2 c3 c1' c2' c3'
        rcases hq : eqV l[j] l'[j]
        all_goals go_wp2
        all_goals go_still_tail 8, (by kernel_rfl)
        all_goals change wpList _ _ _ _ _ wr.drew
        all_goals go_wp2_with ((go_at_call 61; (with_reducible refine (eqTable_any [v1, v2, v3] [v1', v2', v3'] l[j] l'[j] _ _ _ (Rp.keep hv (by with_reducible repeat (first | exact Only.refl _ _ | assumption | refine Only.drewN ?_ _ | refine Only.drew ?_ | refine Only.alloc ?_ _ | refine Only.setCell ?_ (by intro hh; exfalso; simp at hh; try omega) _ | refine Only.trans ?_ (by assumption)))) (Rp.keep hv' (by with_reducible repeat (first | exact Only.refl _ _ | assumption | refine Only.drewN ?_ _ | refine Only.drew ?_ | refine Only.alloc ?_ _ | refine Only.setCell ?_ (by intro hh; exfalso; simp at hh; try omega) _ | refine Only.trans ?_ (by assumption))))).mono ?_); rintro e w1 ⟨rfl, hk1⟩))
        · go_ret
          exact ⟨ret_bool (eqL_no hlt hlt' hq).symm, (by with_reducible repeat (first | exact Only.refl _ _ | assumption | refine Only.drewN ?_ _ | refine Only.drew ?_ | refine Only.alloc ?_ _ | refine Only.setCell ?_ (by intro hh; exfalso; simp at hh; try omega) _ | refine Only.trans ?_ (by assumption)))⟩
        · go_roundw
          case rel => exact ⟨j + 1, by omega, by go_num, eqL_step hlt hlt' hq Hr.out, (by with_reducible repeat (first | exact Only.refl _ _ | assumption | refine Only.drewN ?_ _ | refine Only.drew ?_ | refine Only.alloc ?_ _ | refine Only.setCell ?_ (by intro hh; exfalso; simp at hh; try omega) _ | refine Only.trans ?_ (by assumption)))⟩
          case measure => simp [intOf]; omega
      · go_wp2
        go_ret
        exact ⟨ret_bool (eqL_yes Hl.out hlt Hr.out).symm, hK⟩
  · have hne : ((l.length : Int) != (l'.length : Int)) = true := by simp; omega
    go_enter Try.func25, Try.ntmps25
    go_wp2
    go_ret
    exact ⟨ret_bool (eqL_len hne).symm, Only.refl _ _⟩

theorem eqTableS_rd (v v' : Value) (l l' : List Table) (fp fp' : List Nat) (w : World) (h : Rd w v l fp) (h' : Rd w v' l' fp') :
    Calls Try.prog 25 #[v, v'] w fun e w' => e = .returned (.bool (eqV l l')) ∧ Only [] w w' := by
  obtain ⟨a, cap, ob, fps, rfl, -, hs⟩ := h.open_
  obtain ⟨a', cap', ob', fps', rfl, -, hs'⟩ := h'.open_
  exact eqTableS_any a a' cap cap' l l' ob ob' fps fps' w hs hs'

set_option maxHeartbeats 1000000 in
theorem heldTableS_any (a : Option Addr) (cap : Nat) (l : List Table) (ob : List Nat) (fps : List (List Nat)) (k : Int) (w : World) (h : SeqA w a cap l ob fps) (h0 : 0 ≤ k) (h1 : k + (cntL l : Nat) ≤ 4611686018427387904) :
    Calls Try.prog 31 #[.slice a l.length cap, .int .i64 k] w fun e w' => e = .returned (.int .i64 (heldV k l)) ∧ Drew w w' := by
  have hb := h.bound
  go_enter Try.func31, Try.ntmps31
  go_wp2
  go_loopw [1, 5] (fun q i wr => ∃ j : Nat, j ≤ l.length ∧ q = .int .i64 (k + (cntL (l.take j) : Nat)) ∧ i = .int .i64 j ∧ l.take j = markL k (l.take j) ∧ Drew w wr)
    (fun _ i _ => l.length - (intOf i).toNat)
  case atStart => exact ⟨0, Nat.zero_le _, by simp [cntL], rfl, rfl, Drew.refl _⟩
  case round =>
    obtain ⟨j, hj, rfl, rfl, hr, n, rfl⟩ := hrel
    have Hr := Lib.hid hr; clear hr
    by_cases hlt : j < l.length
    · obtain ⟨b, off, v1, v2, v3, rfl, -, c1, c2, c3, hv⟩ := h.at3 j hlt
      obtain ⟨_, _, _, f1, f2, f3, hcs, -, r1, r2, r3⟩ := hv
      injection hcs with e1 hcs; injection hcs with e2 hcs; injection hcs with e3 hcs; subst e1; subst e2; subst e3
      have hcnt := cntL_take_succ l j hlt
      have hle := cntL_take_le l (j + 1)
      have hcc : Mk.cnt l[j] = Mk.cnt l[j].tracked + Mk.cnt l[j].patterns + Mk.cnt l[j].distances := rfl
      generalize hK : k + ((cntL (l.take j) : Nat) : Int) = K at *
      have HK := Lib.hid hK
      have hK0 : 0 ≤ K := by omega
      have hb1 : K + (Mk.cnt l[j].tracked : Nat) ≤ 4611686018427387904 := by omega
      have hb2 : K + (Mk.cnt l[j].tracked : Nat) + (Mk.cnt l[j].patterns : Nat) ≤ 4611686018427387904 := by omega
      have hb3 : K + (Mk.cnt l[j].tracked : Nat) + (Mk.cnt l[j].patterns : Nat) + (Mk.cnt l[j].distances : Nat) ≤ 4611686018427387904 := by omega
      have Hcnt := Lib.hid hcnt
      have Hcc := Lib.hid hcc
      have hiff : l[j] = Mk.mark K l[j] ↔ l[j].tracked = Mk.mark K l[j].tracked ∧ l[j].patterns = Mk.mark (K + (Mk.cnt l[j].tracked : Nat)) l[j].patterns ∧ l[j].distances = Mk.mark (K + (Mk.cnt l[j].tracked : Nat) + (Mk.cnt l[j].patterns : Nat)) l[j].distances := by
        rw [Table.eq_iff]; simp [Mk.mark]
      have Hiff := Lib.hid hiff
      clear hcnt hcc hiff hK hcs
      rcases heldV_pos K l[j].tracked with ⟨e1, m1⟩ | ⟨e1, m1⟩
      · have M1 := Lib.hid m1; clear m1
        go_wp2_with ((go_at_call 62; (with_reducible refine (heldInt64S_rd v1 l[j].tracked _ K _ (Rp.keep r1 (by with_reducible repeat (first | exact Only.refl _ _ | assumption | refine Only.drewN ?_ _ | refine Only.drew ?_ | refine Only.alloc ?_ _ | refine Only.setCell ?_ (by intro hh; exfalso; simp at hh; try omega) _ | refine Only.trans ?_ (by assumption)))) hK0 hb1).mono ?_); rintro e w1 ⟨rfl, n1, rfl⟩))
        go_ret
        exact ⟨ret_int (heldV_no (held_not hlt (by rw [HK.out]; exact fun he => M1.out (Hiff.out.1 he).1))).symm, ⟨_, rfl⟩⟩
      have M1 := Lib.hid m1; clear m1
      rcases heldV_pos (K + (Mk.cnt l[j].tracked : Nat)) l[j].patterns with ⟨e2, m2⟩ | ⟨e2, m2⟩
      · have M2 := Lib.hid m2; clear m2
        go_wp2_with (first | (go_at_call 62; (with_reducible refine (heldInt64S_rd v1 l[j].tracked _ K _ (Rp.keep r1 (by with_reducible repeat (first | exact Only.refl _ _ | assumption | refine Only.drewN ?_ _ | refine Only.drew ?_ | refine Only.alloc ?_ _ | refine Only.setCell ?_ (by intro hh; exfalso; simp at hh; try omega) _ | refine Only.trans ?_ (by assumption)))) hK0 hb1).mono ?_); rintro e w1 ⟨rfl, n1, rfl⟩) | (go_at_call 63; (with_reducible refine (heldInt64SS_rd v2 l[j].patterns _ (K + (Mk.cnt l[j].tracked : Nat)) _ (Rp.keep r2 (by with_reducible repeat (first | exact Only.refl _ _ | assumption | refine Only.drewN ?_ _ | refine Only.drew ?_ | refine Only.alloc ?_ _ | refine Only.setCell ?_ (by intro hh; exfalso; simp at hh; try omega) _ | refine Only.trans ?_ (by assumption)))) (by omega) hb2).mono ?_); rintro e w2 ⟨rfl, n2, rfl⟩))
        go_ret
        exact ⟨ret_int (heldV_no (held_not hlt (by rw [HK.out]; exact fun he => M2.out (Hiff.out.1 he).2.1))).symm, ⟨_, rfl⟩⟩
      have M2 := Lib.hid m2; clear m2
      rcases heldV_pos (K + (Mk.cnt l[j].tracked : Nat) + (Mk.cnt l[j].patterns : Nat)) l[j].distances with ⟨e3, m3⟩ | ⟨e3, m3⟩
      all_goals have M3 := Lib.hid m3
      all_goals clear m3
      all_goals go_wp2_with (first | (go_at_call 62; (with_reducible refine (heldInt64S_rd v1 l[j].tracked _ K _ (Rp.keep r1 (by with_reducible repeat (first | exact Only.refl _ _ | assumption | refine Only.drewN ?_ _ | refine Only.drew ?_ | refine Only.alloc ?_ _ | refine Only.setCell ?_ (by intro hh; exfalso; simp at hh; try omega) _ | refine Only.trans ?_ (by assumption)))) hK0 hb1).mono ?_); rintro e w1 ⟨rfl, n1, rfl⟩) | (go_at_call 63; (with_reducible refine (heldInt64SS_rd v2 l[j].patterns _ (K + (Mk.cnt l[j].tracked : Nat)) _ (Rp.keep r2 (by with_reducible repeat (first | exact Only.refl _ _ | assumption | refine Only.drewN ?_ _ | refine Only.drew ?_ | refine Only.alloc ?_ _ | refine Only.setCell ?_ (by intro hh; exfalso; simp at hh; try omega) _ | refine Only.trans ?_ (by assumption)))) (by omega) hb2).mono ?_); rintro e w2 ⟨rfl, n2, rfl⟩) | (go_at_call 62; (with_reducible refine (heldInt64S_rd v3 l[j].distances _ (K + (Mk.cnt l[j].tracked : Nat) + (Mk.cnt l[j].patterns : Nat)) _ (Rp.keep r3 (by with_reducible repeat (first | exact Only.refl _ _ | assumption | refine Only.drewN ?_ _ | refine Only.drew ?_ | refine Only.alloc ?_ _ | refine Only.setCell ?_ (by intro hh; exfalso; simp at hh; try omega) _ | refine Only.trans ?_ (by assumption)))) (by omega) hb3).mono ?_); rintro e w3 ⟨rfl, n3, rfl⟩))
      · go_ret
        exact ⟨ret_int (heldV_no (held_not hlt (by rw [HK.out]; exact fun he => M3.out (Hiff.out.1 he).2.2))).symm, ⟨_, rfl⟩⟩
      · go_roundw
        case rel => exact ⟨j + 1, by omega, by have := Hcnt.out; have := Hcc.out; have := HK.out; go_num, by go_num, held_step hlt Hr.out (by rw [HK.out]; exact Hiff.out.2 ⟨M1.out, M2.out, M3.out⟩), ⟨_, rfl⟩⟩
        case measure => simp [intOf]; omega
    · have Hj : Hid (j = l.length) := (by omega : j = l.length)
      go_wp2
      go_ret
      have hjl := Hj.out
      subst hjl
      refine ⟨ret_int ?_, (Drew.refl _).drewN n⟩
      have hr := Hr.out
      rw [List.take_length] at hr ⊢
      exact (heldV_yes hr).symm
theorem heldTableS_rd (v : Value) (l : List Table) (fp : List Nat) (k : Int) (w : World) (h : Rd w v l fp) (h0 : 0 ≤ k) (h1 : k + (Mk.cnt l : Nat) ≤ 4611686018427387904) :
    Calls Try.prog 31 #[v, .int .i64 k] w fun e w' => e = .returned (.int .i64 (heldV k l)) ∧ Only [] w w' := by
  obtain ⟨a, cap, ob, fps, rfl, -, hs⟩ := h.open_
  exact (heldTableS_any a cap l ob fps k w hs h0 h1).mono fun e w' ⟨he, hd⟩ => ⟨he, hd.only _⟩

set_option maxHeartbeats 1000000 in
theorem markTableS_any (a : Option Addr) (cap : Nat) (l : List Table) (ob : List Nat) (fps : List (List Nat)) (k : Int) (w : World) (h : SeqA w a cap l ob fps) (hnd : (ob ++ fps.flatten).Nodup) (ho : Own w (ob ++ fps.flatten)) (h0 : 0 ≤ k) (h1 : k + (cntL l : Nat) ≤ 4611686018427387904) :
    Calls Try.prog 30 #[.slice a l.length cap, .int .i64 k] w fun e w' =>
      e = .returned (.int .i64 (k + (cntL l : Nat))) ∧ SeqA w' a cap (markL k l) ob fps ∧ Own w' (ob ++ fps.flatten) ∧ Only (ob ++ fps.flatten) w w' := by
  have hb := h.bound
  have hnf := h.nf
  go_enter Try.func30, Try.ntmps30
  have Hnf := Lib.hid hnf
  clear hnf
  go_wp2
  go_loopw [1, 5] (fun q i wr => ∃ j : Nat, j ≤ l.length ∧ q = .int .i64 (k + (cntL (l.take j) : Nat)) ∧ i = .int .i64 j ∧ SeqA wr a cap (markL k (l.take j) ++ l.drop j) ob fps ∧ Own wr (ob ++ fps.flatten) ∧ Only (ob ++ fps.flatten) w wr)
    (fun _ i _ => l.length - (intOf i).toNat)
  case atStart => exact ⟨0, Nat.zero_le _, by simp [cntL], rfl, by simpa [markL] using h, ho, Only.refl _ _⟩
  case round =>
    obtain ⟨j, hj, rfl, rfl, hI, hO, hK⟩ := hrel
    by_cases hlt : j < l.length
    · have hjm : (markL k (l.take j) ++ l.drop j).length = l.length := by simp [markL_length]; omega
      have hjf : j < fps.length := by have := Hnf.out; omega
      obtain ⟨b, off, v1, v2, v3, rfl, hob, c1, c2, c3, hv0⟩ := hI.at3 j (by omega)
      have hx : (markL k (l.take j) ++ l.drop j)[j]'(by omega) = l[j] := by
        rw [List.getElem_append_right (by simp [markL_length]; omega)]
        simp [markL_length, Nat.min_eq_left hj]
      have hv : Rp.rep wr [v1, v2, v3] l[j] fps[j] := by rw [hx] at hv0; exact hv0
      have hbn : b ∉ fps[j] := fun hm => (nd_app hnd).2.2.1 b (by simp [hob]) (mem_flatten_get hjf hm)
      have hndj : (fps[j]).Nodup := (List.nodup_iff_pairwise_ne.1 (nd_app hnd).2.1 |> List.pairwise_flatten.1).1 _ (List.getElem_mem _)
      have hOj : Own wr fps[j] := hO.sub (fun b hb => List.mem_append_right _ (mem_flatten_get hjf hb))
      have hbl : b < wr.heap.size := hI.lt b (by simp [hob])
      obtain ⟨_, _, _, f1, f2, f3, hcs, hfp, r1, r2, r3⟩ := hv
      injection hcs with e1 hcs; injection hcs with e2 hcs; injection hcs with e3 hcs; subst e1; subst e2; subst e3
      rw [hfp] at hndj hOj hbn
      obtain ⟨n1, n23, d1, d1'⟩ := nd_app hndj
      obtain ⟨n2, n3, d2, d2'⟩ := nd_app n23
      simp only [List.mem_append, not_or] at d1 d1' hbn
      have o1 := hOj.left; have o2 := hOj.right.left; have o3 := hOj.right.right
      have hcnt := cntL_take_succ l j hlt
      have hle := cntL_take_le l (j + 1)
      have hcc : Mk.cnt l[j] = Mk.cnt l[j].tracked + Mk.cnt l[j].patterns + Mk.cnt l[j].distances := rfl
      generalize hKq : k + ((cntL (l.take j) : Nat) : Int) = K at *
      have HK := Lib.hid hKq
      have hK0 : 0 ≤ K := by omega
      have hb1 : K + (Mk.cnt l[j].tracked : Nat) ≤ 4611686018427387904 := by omega
      have hb2 : K + (Mk.cnt l[j].tracked : Nat) + (Mk.cnt l[j].patterns : Nat) ≤ 4611686018427387904 := by omega
      have hb3 : K + (Mk.cnt l[j].tracked : Nat) + (Mk.cnt l[j].patterns : Nat) + (Mk.cnt l[j].distances : Nat) ≤ 4611686018427387904 := by omega
      have Hcnt := Lib.hid hcnt
      have Hcc := Lib.hid hcc
      have Hs := Lib.hid (markL_set k l j hlt)
      have Hob := Lib.hid hob
      have Hfp := Lib.hid hfp
      clear hcnt hv0 hx hjm hob hcc hKq hcs hfp
      go_wp2_with (first
        | (go_at_call 37; (with_reducible refine (markInt64S_rd v1 l[j].tracked f1 K wr r1 o1 hK0 hb1).mono ?_); rintro e w1 ⟨rfl, s1, p1, t1⟩; have q1 := t1.cells_eq b hbl hbn.1)
        | (go_at_call 29; (with_reducible refine (markInt64SS_rd v2 l[j].patterns f2 (K + (Mk.cnt l[j].tracked : Nat)) w1 (Rp.only r2 t1 (fun x hx => (d1' x (.inl hx)))) n2 (o2.only t1 (fun x hx => (d1' x (.inl hx)))) (by omega) hb2).mono ?_); rintro e w2 ⟨rfl, s2, p2, t2⟩; have q2 := t2.cells_eq b (Nat.lt_of_lt_of_le hbl t1.size) hbn.2.1)
        | (go_at_call 37; (with_reducible refine (markInt64S_rd v3 l[j].distances f3 (K + (Mk.cnt l[j].tracked : Nat) + (Mk.cnt l[j].patterns : Nat)) w2 (Rp.only (Rp.only r3 t1 (fun x hx => (d1' x (.inr hx)))) t2 d2') ((o3.only t1 (fun x hx => (d1' x (.inr hx)))).only t2 d2') (by omega) hb3).mono ?_); rintro e w3 ⟨rfl, s3, p3, t3⟩; have q3 := t3.cells_eq b (Nat.lt_of_lt_of_le hbl (Nat.le_trans t1.size t2.size)) hbn.2.2))
      have T : Only fps[j] wr w3 := by
        rw [Hfp.out]
        exact ((t1.mono (fun x hx _ => by simp [hx])).trans (t2.mono (fun x hx _ => by simp [hx]))).trans (t3.mono (fun x hx _ => by simp [hx]))
      have hrep : Rp.rep w3 [v1, v2, v3] (Mk.mark K l[j]) fps[j] :=
        ⟨v1, v2, v3, f1, f2, f3, rfl, Hfp.out, Rp.only (Rp.only s1 t2 (fun x hx => (d1 x hx).1)) t3 (fun x hx => (d1 x hx).2), Rp.only s2 t3 d2, s3⟩
      have hown : Own w3 fps[j] := by
        rw [Hfp.out]
        exact ((p1.only t2 (fun x hx => (d1 x hx).1)).only t3 (fun x hx => (d1 x hx).2)).append ((p2.only t3 d2).append p3)
      have hI1 := hI.touch (w' := w3) hnd (j := j) (b := b) (off := off) (cs := [v1, v2, v3]) (x' := Mk.mark K l[j]) (by simp [markL_length]; omega) hjf rfl rfl
        (by intro i u hu; match i, hu with
            | 0, hu => simp at hu; subst hu; simpa [Rp.size] using c1
            | 1, hu => simp at hu; subst hu; simpa [Rp.size] using c2
            | 2, hu => simp at hu; subst hu; simpa [Rp.size] using c3) T hrep
      have hs := Hs.out
      rw [HK.out] at hs
      rw [hs] at hI1
      have hK1 : Only (ob ++ fps.flatten) wr w3 := T.mono (fun b hb _ => List.mem_append_right _ (mem_flatten_get hjf hb))
      have hO1 : Own w3 (ob ++ fps.flatten) := by
        intro b hb
        by_cases hm : b ∈ fps[j]
        · exact hown b hm
        · rw [T.block b (hO.lt b hb) hm]; exact hO b hb
      have HI := Lib.hid hI1
      clear hI hI1 hs
      go_roundw
      case rel => exact ⟨j + 1, by omega, by have := Hcnt.out; have := Hcc.out; have := HK.out; go_num, by go_num, HI.out, hO1, hK.trans hK1⟩
      case measure => simp [intOf]; omega
    · have hjl : j = l.length := by omega
      have hI' := hI
      rw [hjl] at hI'
      simp only [List.take_length, List.drop_length, List.append_nil] at hI'
      have Hj := Lib.hid hjl
      clear hI hjl
      go_wp2
      go_ret
      exact ⟨ret_int (by rw [Hj.out, List.take_length]), hI', hO, hK⟩
theorem markTableS_rd (v : Value) (l : List Table) (fp : List Nat) (k : Int) (w : World) (h : Rd w v l fp) (hnd : fp.Nodup) (ho : Own w fp) (h0 : 0 ≤ k) (h1 : k + (Mk.cnt l : Nat) ≤ 4611686018427387904) :
    Calls Try.prog 30 #[v, .int .i64 k] w fun e w' => e = .returned (.int .i64 (k + (Mk.cnt l : Nat))) ∧ Rd w' v (Mk.mark k l) fp ∧ Own w' fp ∧ Only fp w w' := by
  obtain ⟨a, cap, ob, fps, rfl, rfl, hs⟩ := h.open_
  refine (markTableS_any a cap l ob fps k w hs hnd ho h0 h1).mono ?_
  rintro e w' ⟨he, hI', ho', hk⟩
  refine ⟨he, ?_, ho', hk⟩
  have := hI'.rd
  rw [markL_length] at this
  exact this

/-- the first elements of a list whose elements take several cells, read one by one -/
structure ReadsC {α : Type} [Rp α] (w : World) (B : Nat) (css : List (List Value)) (xs : List α) (fps : List (List Nat)) : Prop where
  vl : css.length = xs.length
  fl : fps.length = xs.length
  at_ : ∀ k (h1 : k < css.length) (h2 : k < xs.length) (h3 : k < fps.length), Rp.rep w css[k] xs[k] fps[k]
  fresh : Fresh B w fps.flatten
section
variable {α : Type} [Rp α] {w w' : World} {B : Nat} {css : List (List Value)} {xs : List α} {fps : List (List Nat)}
theorem ReadsC.nil (w : World) (B : Nat) : ReadsC w B [] ([] : List α) [] := ⟨rfl, rfl, by simp, Fresh.nil _ _⟩
theorem ReadsC.only {fp : List Nat} (h : ReadsC w B css xs fps) (ho : Only fp w w') (hd : ∀ b ∈ fp, b < B ∨ w.heap.size ≤ b) : ReadsC w' B css xs fps :=
  ⟨h.vl, h.fl, fun k h1 h2 h3 => Rp.only (h.at_ k h1 h2 h3) ho (fun b hb hm => by
      have h4 := h.fresh.ge b (mem_flatten_get h3 hb); have h5 := h.fresh.lt b (mem_flatten_get h3 hb); have := hd b hm; omega),
    h.fresh.only ho (fun b hb hm => by have h4 := h.fresh.ge b hb; have h5 := h.fresh.lt b hb; have := hd b hm; omega)⟩
theorem ReadsC.snoc {cs : List Value} {x : α} {fp : List Nat} (h : ReadsC w B css xs fps) (hv : Rp.rep w cs x fp) (hf : Fresh w'.heap.size w fp) (hB : B ≤ w'.heap.size) (hlt : ∀ b ∈ fps.flatten, b < w'.heap.size) :
    ReadsC w B (css ++ [cs]) (xs ++ [x]) (fps ++ [fp]) := by
  refine ⟨by simp [h.vl], by simp [h.fl], fun k h1 h2 h3 => ?_, ?_⟩
  · by_cases hk : k < xs.length
    · rw [List.getElem_append_left (by rw [h.vl]; exact hk), List.getElem_append_left hk, List.getElem_append_left (by rw [h.fl]; exact hk)]
      exact h.at_ k _ _ _
    · have : k = xs.length := by simp at h2; omega
      subst this
      rw [List.getElem_append_right (by rw [h.vl]; omega), List.getElem_append_right (by omega), List.getElem_append_right (by rw [h.fl]; omega)]
      simpa [h.vl, h.fl] using hv
  · rw [List.flatten_append]
    simp only [List.flatten_cons, List.flatten_nil, List.append_nil]
    exact h.fresh.append hf hB hlt
theorem ReadsC.flen (h : ReadsC w B css xs fps) : css.flatten.length = xs.length * Rp.size α := by
  have hcl : ∀ c ∈ css, c.length = Rp.size α := by
    intro c hc
    obtain ⟨k, hk, rfl⟩ := List.getElem_of_mem hc
    exact Rp.len (h.at_ k hk (by have := h.vl; omega) (by have := h.vl; have := h.fl; omega))
  rw [← h.vl]
  clear h
  induction css with
  | nil => simp
  | cons c css ih => rw [List.flatten_cons, List.length_append, hcl c (by simp), ih (fun c' hc' => hcl c' (by simp [hc'])), List.length_cons, Nat.succ_mul]; omega
end
theorem set3 (L : List Value) (n j : Nat) (z a b c : Value) (h : j < n) (hl : L.length = j * 3) :
    (((L ++ List.replicate ((n - j) * 3) z).set (j * 3) a).set (j * 3 + 1) b).set (j * 3 + 2) c = (L ++ [a, b, c]) ++ List.replicate ((n - (j + 1)) * 3) z := by
  have h2 : (n - j) * 3 = (n - (j + 1)) * 3 + 1 + 1 + 1 := by omega
  rw [h2, List.replicate_succ, List.replicate_succ, List.replicate_succ]
  rw [List.set_append_right _ _ (by omega), List.set_append_right _ _ (by omega), List.set_append_right _ _ (by omega)]
  have e0 : j * 3 - L.length = 0 := by omega
  have e1 : j * 3 + 1 - L.length = 1 := by omega
  have e2 : j * 3 + 2 - L.length = 2 := by omega
  rw [e0, e1, e2]
  simp only [List.set, List.append_assoc, List.cons_append, List.nil_append]

