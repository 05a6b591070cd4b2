/- The reference's tables: letters, what lies behind a letter. (Written by mkspectab.py.) -/
import Derived.Test.YtmilmbgnkpkmnaaSpecTab
namespace Go.Proofs.Ytmilmbgnkpkmnaa
open Go.RowKit
set_option maxRecDepth 10000

theorem eqV_dec {α : Type} [DecidableEq α] (a b : α) : eqV a b = decide (a = b) := by
  rw [Bool.eq_iff_iff, eqV_iff, decide_eq_true_iff]
set_option maxHeartbeats 1000000 in
theorem lettersOf_any (cs : List Value) (x : Puzzle) (fp : List Nat) (w : World) (h : Rp.rep w cs x fp) (hl : x.moves.length ≤ 1000) :
    Calls Try.prog 111 #[.agg cs.toArray] w fun e w' => ∃ v fp', e = .returned v ∧ Rd w' v (ltrs x.moves.length) fp' ∧ Fresh w.heap.size w' fp' ∧ Only [] w w' := by
  obtain ⟨v2, rfl, p0, p1, hm⟩ := h
  obtain ⟨A2, C2, ob, fps, rfl, -, hs⟩ := hm.open_
  obtain ⟨i0, hi, hz0, hz1, hz2⟩ := info_parts Try.info2
  have hB := Blk.new_at (w := w) (cs := [.int .i64 x.points, .string x.names, .slice A2 x.moves.length C2]) (t := 26) rfl
  go_enter Try.func111, Try.ntmps111
  go_wp2
  go_loopw [3, 4] (fun o i wr => ∃ j : Nat, j ≤ x.moves.length ∧ i = .int .i64 ((j : Int) + 1) ∧ wr.ownsRow (w.heap.size + 1) 2 1 o (ltrs j).length ((ltrs j).map (Value.int .i64)) ∧ Only [] (w.alloc (.cells #[.int .i64 x.points, .string x.names, .slice A2 x.moves.length C2] 26)) wr)
    (fun _ i _ => x.moves.length + 1 - (intOf i).toNat)
  case atStart => exact ⟨0, Nat.zero_le _, rfl, by have := World.ownsRow_made (base := w.heap.size + 1) (e := 2) (size := 1) (w.alloc (.cells #[.int .i64 x.points, .string x.names, .slice A2 x.moves.length C2] 26)) #[] 0 (by simp) (by unfold maxLen; omega) (by simp); simpa [ltrs] using this, (by with_reducible repeat (first | exact Only.refl _ _ | assumption | refine Only.drewN ?_ _ | refine Only.drew ?_ | refine Only.alloc ?_ _ | refine Only.setCell ?_ (by intro hh; exfalso; simp at hh; try omega) _ | refine Only.trans ?_ (by assumption)))⟩
  case round =>
    obtain ⟨j, hj, rfl, hO, hK⟩ := hrel
    have y2 := (hB.keep hK).cell 2 rfl
    by_cases hlt : j < x.moves.length
    · have hsz := hK.size
      have hlt' : (j : Int) + 1 ≤ (x.moves.length : Int) := by omega
      have hlj : (ltrs j).length ≤ 2000 := by rw [ltrs_len]; omega
      go_wp2_with (at_builtin; refine wpList_app _ rfl _ _ 27 rfl (w.heap.size + 1) 2 i0 _ 1 8 Try.underlying27 hi hz0 hz1 hz2 rfl (by omega) _ (ltrs j).length _ rfl (hO.alloc _) (some ⟨wr.heap.size, 0, none⟩) 2 2 [.int .i64 ((j : Int) + 1), .int .i64 (-((j : Int) + 1))] rfl rfl (lit_srcA wr [.int .i64 ((j : Int) + 1), .int .i64 (-((j : Int) + 1))] _ rfl) (by simp) (by intro u hu; simp at hu; rcases hu with rfl | rfl <;> rfl) (by unfold maxLen; omega) (by omega) (by simp at hsz ⊢; omega) ?_; intro v1 w1 hO1 hg1 hb1)
      go_roundw
      case rel => exact ⟨j + 1, by omega, by go_num, by simpa [ltrs] using hO1, (hK.alloc _).grown hg1 (by intro k hk hk2; have := (hO.lt k hk).1; simp at hk2; omega)⟩
      case measure => simp [intOf]; omega
    · have hjl : j = x.moves.length := by omega
      have hw : ∀ y ∈ ltrs x.moves.length, I64 y := fun y hy => by have := mem_ltrs.1 hy; unfold I64; omega
      subst hjl
      obtain ⟨a', cap', hv, -, hI, hF⟩ := own_ints hO hw
      have HI := Lib.hid hI
      have Hv := Lib.hid hv
      have HF := Lib.hid (Fresh.mono hF (Nat.le_succ _))
      clear hO hv hI hw hF
      have hlt3 : ¬ (x.moves.length : Int) + 1 ≤ (x.moves.length : Int) := by omega
      go_wp2
      go_ret
      refine ⟨_, rfl, _, ?_, HF.out, (by with_reducible repeat (first | exact Only.refl _ _ | assumption | refine Only.drewN ?_ _ | refine Only.drew ?_ | refine Only.alloc ?_ _ | refine Only.setCell ?_ (by intro hh; exfalso; simp at hh; try omega) _ | refine Only.trans ?_ (by assumption)))⟩
      have hr := HI.out.rd
      rw [← Hv.out] at hr; exact hr
set_option maxHeartbeats 1000000 in
theorem specLetters_any (cs : List Value) (x : Puzzle) (fp : List Nat) (w : World) (h : Rp.rep w cs x fp) (hv : validPz x = true) :
    Calls Try.prog 87 #[.agg cs.toArray] w fun e w' => ∃ v fp', e = .returned v ∧ Rd w' v (ltrs x.moves.length) fp' ∧ Fresh w.heap.size w' fp' ∧ Only [] w w' := by
  have h0 := h
  obtain ⟨v2, rfl, p0, p1, hm⟩ := h
  obtain ⟨g1, g2, g3, g4⟩ := validPz_facts hv
  have hB := Blk.new_at (w := w) (cs := [.int .i64 x.points, .string x.names, v2]) (t := 26) rfl
  go_enter Try.func87, Try.ntmps87
  go_wp2_with (first | (go_at_call 49; (with_reducible refine (specIsValidPuzzle_any [.int .i64 x.points, .string x.names, v2] x _ _ (Rp.keep h0 (by with_reducible repeat (first | exact Only.refl _ _ | assumption | refine Only.drewN ?_ _ | refine Only.drew ?_ | refine Only.alloc ?_ _ | refine Only.setCell ?_ (by intro hh; exfalso; simp at hh; try omega) _ | refine Only.trans ?_ (by assumption))))).mono ?_); rintro e w1 ⟨he, t1⟩; rw [hv] at he; subst he; have y0 := (hB.keep t1).cell 0 rfl; have y1 := (hB.keep t1).cell 1 rfl; have y2 := (hB.keep t1).cell 2 rfl) | (go_at_call 111; (with_reducible refine (lettersOf_any [.int .i64 x.points, .string x.names, v2] x _ _ (Rp.keep h0 (by with_reducible repeat (first | exact Only.refl _ _ | assumption | refine Only.drewN ?_ _ | refine Only.drew ?_ | refine Only.alloc ?_ _ | refine Only.setCell ?_ (by intro hh; exfalso; simp at hh; try omega) _ | refine Only.trans ?_ (by assumption)))) (by omega)).mono ?_); rintro e w2 ⟨u2, f2, rfl, r2, F2, t2⟩))
  have hK : Only [] w w1 := (by with_reducible repeat (first | exact Only.refl _ _ | assumption | refine Only.drewN ?_ _ | refine Only.drew ?_ | refine Only.alloc ?_ _ | refine Only.setCell ?_ (by intro hh; exfalso; simp at hh; try omega) _ | refine Only.trans ?_ (by assumption)))
  go_ret
  exact ⟨_, _, rfl, r2, F2.mono hK.size, (by with_reducible repeat (first | exact Only.refl _ _ | assumption | refine Only.drewN ?_ _ | refine Only.drew ?_ | refine Only.alloc ?_ _ | refine Only.setCell ?_ (by intro hh; exfalso; simp at hh; try omega) _ | refine Only.trans ?_ (by assumption)))⟩
set_option maxHeartbeats 2000000 in
theorem applyLetter_any (cs : List Value) (x : Puzzle) (fp : List Nat) (v : Value) (l : List Int) (f2 : List Nat) (lt : Int) (w : World) (h : Rp.rep w cs x fp) (h2 : Rd w v l f2)
    (hv : validPz x = true) (hl : lt ∈ ltrs x.moves.length) (hx : ∀ y ∈ l, 0 ≤ y ∧ y < x.points) (hlen : l.length ≤ 1000) :
    Calls Try.prog 119 #[.agg cs.toArray, v, .int .i64 lt] w fun e w' => ∃ v fp', e = .returned v ∧ Rd w' v (nxt x l lt) fp' ∧ Fresh w.heap.size w' fp' ∧ Only [] w w' := by
  obtain ⟨v2, rfl, p0, p1, hm⟩ := h
  obtain ⟨AG, CG, ob, fps, rfl, -, hs⟩ := hm.open_
  obtain ⟨A2, C2, rfl, I2⟩ := h2.ints
  obtain ⟨g1, g2, g3, g4⟩ := validPz_facts hv
  obtain ⟨i0, hi, hz0, hz1, hz2⟩ := info_parts Try.info2
  obtain ⟨M, hM⟩ : ∃ M, M = mv x.moves lt := ⟨_, rfl⟩
  have hMl : (M.length : Int) = x.points := by rw [hM, (mv_pn (validPz_pn hv) hl).1]; omega
  have Hres := Lib.hid (show nxt x l lt = PM.comp l M by rw [hM]; rfl)
  rcases letter_cases hl with ⟨k, hk, rfl⟩ | ⟨k, hk, rfl⟩
  · rw [mv_pos rfl hk] at hM
    obtain ⟨b, off, u, rfl, hob, hc, hu⟩ := hs.atRow k hk
    rw [← hM] at hu
    obtain ⟨AM, CM, rfl, IM⟩ := hu.ints
    have e0 : max ((k : Int) + 1) (-((k : Int) + 1)) = (k : Int) + 1 := by omega
    have hKw : Only [] w w := Only.refl _ _
    have hcw := ((Only.refl [] w).alloc (.cells #[.int .i64 x.points, .string x.names, .slice (some ⟨b, off, none⟩) x.moves.length CG] 26)).cell (by simp) hc
    clear hM hob hc
    go_enter Try.func119, Try.ntmps119
    go_wp2
    go_loopw [8, 9] (fun o i wr => ∃ (j : Nat) (fs : List (List Nat)), j ≤ l.length ∧ i = .int .i64 j ∧ Acc w.heap.size 2 wr o (PM.comp (l.take j) M) fs ∧ Fresh w.heap.size wr fs.flatten ∧ Only [] w wr)
      (fun _ i _ => l.length - (intOf i).toNat)
    case atStart => exact ⟨0, [], Nat.zero_le _, rfl, Acc.made (w.alloc (.cells #[.int .i64 x.points, .string x.names, .slice (some ⟨b, off, none⟩) x.moves.length CG] 26)) w.heap.size _ (by simp) (by simp), Fresh.nil _ _, (by with_reducible repeat (first | exact Only.refl _ _ | assumption | refine Only.drewN ?_ _ | refine Only.drew ?_ | refine Only.alloc ?_ _ | refine Only.setCell ?_ (by intro hh; exfalso; simp at hh; try omega) _ | refine Only.trans ?_ (by assumption)))⟩
    case round =>
      obtain ⟨j, fs, hj, rfl, hA, hF, hK⟩ := hrel
      have hKz : Only [] w wr := hKw.trans hK
      have hsz := hK.size
      by_cases hlt : j < l.length
      · obtain ⟨b, off, rfl, -, hc0⟩ := I2.at_ j hlt
        obtain ⟨hr0, hr1⟩ := hx l[j] (List.getElem_mem _)
        have hml : l[j].toNat < M.length := by omega
        have hr2 : l[j] < (M.length : Int) := by omega
        obtain ⟨b2, off2, rfl, -, hd0⟩ := IM.at_ l[j].toNat hml
        have hc := hKz.cell (by simp) hc0
        have hd := hK.cell (by simp) hd0
        have hstep : PM.comp (l.take j) M ++ [M[l[j].toNat]] = PM.comp (l.take (j + 1)) M := by
          have e1 : PM.at_ M l[j] = M[l[j].toNat] := by
            have := PM.at_nat M l[j].toNat hml
            rwa [show ((l[j].toNat : Nat) : Int) = l[j] by omega] at this
          rw [take_succ_get l j hlt]
          simp only [PM.comp, List.map_append, List.map_cons, List.map_nil, e1]
        have hlj : (PM.comp (l.take j) M).length + 1 ≤ 1073741824 := by rw [PM.comp_len, List.length_take]; omega
        have HI := Lib.hid (IM.wf _ (List.getElem_mem hml))
        have Hs := Lib.hid hstep
        clear hstep hc0 hd0
        go_wp2_with (at_builtin; refine wpList_pushF rfl _ _ 27 rfl w.heap.size 2 i0 _ 8 Try.underlying27 hi hz0 hz1 hz2 rfl (by decide) (by decide) wr _ (PM.comp (l.take j) M) fs rfl hA hF ((Only.refl _ _).alloc _) hsz wr.heap.size 1 [.int .i64 M[l[j].toNat]] M[l[j].toNat] [] rfl (lit_src wr [.int .i64 M[l[j].toNat]] _ rfl) (by intro u hu; simp at hu; subst hu; rfl) (int_rd _ HI.out) (Fresh.nil _ _) hlj w (hK.alloc _) (Nat.le_refl _) ?_; intro v3 w3 hA3 hF3 hK3 _)
        go_roundw
        case rel => exact ⟨j + 1, _, by omega, by go_num, by rw [← Hs.out]; exact hA3, hF3, hK3⟩
        case measure => simp [intOf]; omega
      · have hjl : j = l.length := by omega
        rw [hjl, List.take_length] at hA
        have HA := Lib.hid hA
        clear hjl hA
        go_wp2
        go_ret
        exact ⟨_, _, rfl, by rw [Hres.out]; exact HA.out.rd (by decide), (HA.out.fresh hF).mono hKw.size, hKz⟩
  · have hg := g4 _ (List.getElem_mem hk)
    rw [mv_neg rfl hk] at hM
    obtain ⟨b, off, u, rfl, hob, hc, hu⟩ := hs.atRow k hk
    have e0 : max (-((k : Int) + 1)) ((k : Int) + 1) = (k : Int) + 1 := by omega
    have HM := Lib.hid hM
    have hcw := ((Only.refl [] w).alloc (.cells #[.int .i64 x.points, .string x.names, .slice (some ⟨b, off, none⟩) x.moves.length CG] 26)).cell (by simp) hc
    clear hM hob hc
    go_enter Try.func119, Try.ntmps119
    go_wp2_with ((go_at_call 125; (with_reducible refine (specInverse_rd u x.moves[k] _ _ (Rp.keep hu (by with_reducible repeat (first | exact Only.refl _ _ | assumption | refine Only.drewN ?_ _ | refine Only.drew ?_ | refine Only.alloc ?_ _ | refine Only.setCell ?_ (by intro hh; exfalso; simp at hh; try omega) _ | refine Only.trans ?_ (by assumption)))) hg.2).mono ?_); rintro e w2 ⟨u2, fm, rfl, r2, F2, t2⟩; rw [← HM.out] at r2; obtain ⟨AM, CM, rfl, IM⟩ := r2.ints))
    have hKw : Only [] w w2 := (by with_reducible repeat (first | exact Only.refl _ _ | assumption | refine Only.drewN ?_ _ | refine Only.drew ?_ | refine Only.alloc ?_ _ | refine Only.setCell ?_ (by intro hh; exfalso; simp at hh; try omega) _ | refine Only.trans ?_ (by assumption)))
    go_loopw [8, 9] (fun o i wr => ∃ (j : Nat) (fs : List (List Nat)), j ≤ l.length ∧ i = .int .i64 j ∧ Acc w2.heap.size 2 wr o (PM.comp (l.take j) M) fs ∧ Fresh w2.heap.size wr fs.flatten ∧ Only [] w2 wr)
      (fun _ i _ => l.length - (intOf i).toNat)
    case atStart => exact ⟨0, [], Nat.zero_le _, rfl, Acc.made w2 w2.heap.size _ rfl (Nat.le_refl _), Fresh.nil _ _, (by with_reducible repeat (first | exact Only.refl _ _ | assumption | refine Only.drewN ?_ _ | refine Only.drew ?_ | refine Only.alloc ?_ _ | refine Only.setCell ?_ (by intro hh; exfalso; simp at hh; try omega) _ | refine Only.trans ?_ (by assumption)))⟩
    case round =>
      obtain ⟨j, fs, hj, rfl, hA, hF, hK⟩ := hrel
      have hKz : Only [] w wr := hKw.trans hK
      have hsz := hK.size
      by_cases hlt : j < l.length
      · obtain ⟨b, off, rfl, -, hc0⟩ := I2.at_ j hlt
        obtain ⟨hr0, hr1⟩ := hx l[j] (List.getElem_mem _)
        have hml : l[j].toNat < M.length := by omega
        have hr2 : l[j] < (M.length : Int) := by omega
        obtain ⟨b2, off2, rfl, -, hd0⟩ := IM.at_ l[j].toNat hml
        have hc := hKz.cell (by simp) hc0
        have hd := hK.cell (by simp) hd0
        have hstep : PM.comp (l.take j) M ++ [M[l[j].toNat]] = PM.comp (l.take (j + 1)) M := by
          have e1 : PM.at_ M l[j] = M[l[j].toNat] := by
            have := PM.at_nat M l[j].toNat hml
            rwa [show ((l[j].toNat : Nat) : Int) = l[j] by omega] at this
          rw [take_succ_get l j hlt]
          simp only [PM.comp, List.map_append, List.map_cons, List.map_nil, e1]
        have hlj : (PM.comp (l.take j) M).length + 1 ≤ 1073741824 := by rw [PM.comp_len, List.length_take]; omega
        have HI := Lib.hid (IM.wf _ (List.getElem_mem hml))
        have Hs := Lib.hid hstep
        clear hstep hc0 hd0
        go_wp2_with (at_builtin; refine wpList_pushF rfl _ _ 27 rfl w2.heap.size 2 i0 _ 8 Try.underlying27 hi hz0 hz1 hz2 rfl (by decide) (by decide) wr _ (PM.comp (l.take j) M) fs rfl hA hF ((Only.refl _ _).alloc _) hsz wr.heap.size 1 [.int .i64 M[l[j].toNat]] M[l[j].toNat] [] rfl (lit_src wr [.int .i64 M[l[j].toNat]] _ rfl) (by intro u hu; simp at hu; subst hu; rfl) (int_rd _ HI.out) (Fresh.nil _ _) hlj w2 (hK.alloc _) (Nat.le_refl _) ?_; intro v3 w3 hA3 hF3 hK3 _)
        go_roundw
        case rel => exact ⟨j + 1, _, by omega, by go_num, by rw [← Hs.out]; exact hA3, hF3, hK3⟩
        case measure => simp [intOf]; omega
      · have hjl : j = l.length := by omega
        rw [hjl, List.take_length] at hA
        have HA := Lib.hid hA
        clear hjl hA
        go_wp2
        go_ret
        exact ⟨_, _, rfl, by rw [Hres.out]; exact HA.out.rd (by decide), (HA.out.fresh hF).mono hKw.size, hKz⟩
end Go.Proofs.Ytmilmbgnkpkmnaa
