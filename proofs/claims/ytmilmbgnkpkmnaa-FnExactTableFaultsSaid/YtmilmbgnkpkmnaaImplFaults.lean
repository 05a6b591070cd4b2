/- The program's faults of a table. (Written by mkadm.py.) -/
import Derived.Test.YtmilmbgnkpkmnaaPrf3
import Derived.Test.YtmilmbgnkpkmnaaImplDesc
import Derived.Test.YtmilmbgnkpkmnaaSpecTab4
namespace Go.Proofs.Ytmilmbgnkpkmnaa
open Go.RowKit
set_option maxRecDepth 10000

theorem fault_at3 {w : World} {a : Option Addr} {cap : Nat} {ys : List Fault} {ob : List Nat} {fps : List (List Nat)} (h : SeqA w a cap ys ob fps) {k : Nat} (hk : k < ys.length) :
    ∃ b off, a = some ⟨b, off, none⟩ ∧ w.cell? ⟨b, off + k * 3, none⟩ = some (.int .i64 ys[k].kind) ∧ w.cell? ⟨b, off + k * 3 + 1, none⟩ = some (.int .i64 ys[k].entry) ∧ w.cell? ⟨b, off + k * 3 + 2, none⟩ = some (.int .i64 ys[k].letter) := by
  obtain ⟨b, off, cs, ha, -, hc, rfl, -, -⟩ := h.at_ k hk
  exact ⟨b, off, ha, hc 0 _ rfl, hc 1 _ rfl, hc 2 _ rfl⟩
theorem AccK.formN {α : Type} [Rp α] {w0 W wx : World} {B : Nat} {e : TypeId} {G : List Nat} {v : Value} {l : List α} (h : AccK w0 B e G W wx v l) : ∃ a n c, n = l.length ∧ v = Value.slice a n c := by
  obtain ⟨a, c, hv⟩ := h.form
  exact ⟨a, _, c, rfl, hv⟩
set_option maxHeartbeats 1000000 in
theorem CloneFaults_rd (b o n cap : Nat) (L : List Fault) (fp : List Nat) (w : World) (h : Rd w (.slice (some ⟨b, o, none⟩) n cap) L fp) (hl : L.length ≤ 1000) :
    Calls Try.prog 102 #[.slice (some ⟨b, o, none⟩) n cap] w fun e w' => ∃ v fp', e = .returned v ∧ Rd w' v L fp' ∧ Fresh w.heap.size w' fp' ∧ Only [] w w' := by
  have hA : AccK w w.heap.size 87 [] w (w.alloc (.cells #[] 87)) (.slice (some ⟨w.heap.size, 0, none⟩) 0 0) ([] : List Fault) :=
    ⟨[], Acc.made w w.heap.size _ rfl (Nat.le_refl _), Fresh.nil _ _, (Only.refl _ _).alloc _, by simp, by simp, by simp⟩
  have hnil := fun W => Lib.run_eql_slice_nil (P := Try.prog) W 63 87 (some ⟨b, o, none⟩) n cap 0 0 Try.underlying63
  go_enter Try.func102, Try.ntmps102
  go_wp2_with (at_builtin; refine wpList_fapp rfl _ _ rfl rfl hA (Only.refl _ _) (Nat.le_refl _) (by simp) _ fp rfl (Rp.keep h ((Only.refl _ _).alloc _)) (by simp; omega) ?_; intro v5 w5 hR5 hO5)
  go_ret
  obtain ⟨fp', hr, hF⟩ := AccK.rd hR5 (by decide)
  exact ⟨_, _, rfl, hr, hF, hR5.only⟩
set_option maxHeartbeats 4000000 in
theorem faults_any (g : Nat) (x : Puzzle) (t : Table) (w : World) (hP : Prf w g x t) (hc : checkT x t = true) :
    Calls Try.prog 75 #[.pointer (some ⟨g, 0, none⟩)] w fun e w' => ∃ v fp', e = .returned v ∧ Rd w' v (tableFaults x t) fp' ∧ Fresh w.heap.size w' fp' ∧ Only [] w w' := by
  have hP0 := hP
  obtain ⟨v0, v1, v2, vl, vm, M, f0, f1, f2, fl, fm, km, hB, r0, r1, r2, rl, rm, hM⟩ := hP
  obtain ⟨A1, C1, ob, fps, rfl, -, hs⟩ := r1.open_
  have d1 := hB.cell 1 rfl
  have b1 := hs.bound
  have hx8 := (validPz_facts (checkT_iff.1 hc).1).2.2.1
  go_enter Try.func75, Try.ntmps75
  go_wp2
  go_loopw [3, 11] (fun o i wr => ∃ j : Nat, j ≤ t.patterns.length ∧ i = .int .i64 j ∧ AccK w w.heap.size 87 [] w wr o (faultsTo x t j) ∧ (faultsTo x t j).length < 40)
    (fun _ i _ => t.patterns.length - (intOf i).toNat)
  case atStart => exact ⟨0, Nat.zero_le _, rfl, ⟨[], Acc.nil w _ _, Fresh.nil _ _, Only.refl _ _, by simp, by simp, by simp⟩, by simp [faultsTo]⟩
  case round =>
    obtain ⟨j, hj, rfl, hR, hl40⟩ := hrel
    have hKW := hR.only
    have hBw := hKW.size
    by_cases hlt : j < t.patterns.length
    · have hel := entF_len x t j
      have hsucc := faultsTo_succ x t j
      have Hsucc := Lib.hid hsucc
      by_cases h40 : 40 ≤ (faultsTo x t (j + 1)).length
      · have hT := Lib.hid (show tableFaults x t = (faultsTo x t (j + 1)).take 40 by unfold tableFaults; rw [hc]; exact faults_enough (by omega) h40)
        have H40 := Lib.hid h40
        clear hsucc h40
        go_wp2_with (first | (go_at_call 70; (with_reducible refine (entryFaults_any g x t j _ (hP0.keep hKW) hc hlt).mono ?_); rintro e w4 ⟨u4, f4, rfl, r4, F4, t4⟩) | (at_builtin; refine wpList_fapp rfl _ _ rfl rfl hR t4 (Nat.le_refl _) hBw u4 f4 rfl r4 (by omega) ?_; intro v5 w5 hR5 hO5; rw [← Hsucc.out] at hR5; obtain ⟨a5, n5, c5, hn5, rfl⟩ := hR5.formN; have hn40 : 40 ≤ n5 := (by rw [hn5]; exact H40.out); obtain ⟨fpx, hrx, hFx⟩ := AccK.rd hR5 (by decide); obtain ⟨hcc, hcm, b9, o9, rfl⟩ := rd_at hrx (by have := H40.out; omega); unfold maxLen at hcm; have hn5c : n5 ≤ c5 := (by rw [hn5]; exact hcc); obtain ⟨fpt, hrt, hst, -⟩ := take_rd hrx 40 H40.out; clear hn5 hcc) | (go_at_call 102; (with_reducible refine (CloneFaults_rd b9 o9 40 c5 _ _ _ hrt (by rw [List.length_take]; omega)).mono ?_); rintro e w6 ⟨u6, f6, rfl, r6, F6, t6⟩))
        go_ret
        exact ⟨_, _, rfl, by rw [hT.out]; exact r6, F6.mono hR5.only.size, hR5.only.trans t6⟩
      · have H40 := Lib.hid h40
        clear hsucc h40
        go_wp2_with (first | (go_at_call 70; (with_reducible refine (entryFaults_any g x t j _ (hP0.keep hKW) hc hlt).mono ?_); rintro e w4 ⟨u4, f4, rfl, r4, F4, t4⟩) | (at_builtin; refine wpList_fapp rfl _ _ rfl rfl hR t4 (Nat.le_refl _) hBw u4 f4 rfl r4 (by omega) ?_; intro v5 w5 hR5 hO5; rw [← Hsucc.out] at hR5; obtain ⟨a5, n5, c5, hn5, rfl⟩ := hR5.formN; have hn40 : n5 < 40 := (by rw [hn5]; have := H40.out; omega); clear hn5))
        go_roundw
        case rel => exact ⟨j + 1, by omega, by go_num, hR5, by have := H40.out; omega⟩
        case measure => simp [intOf]; omega
    · have hjl : j = t.patterns.length := by omega
      have hT := Lib.hid (show tableFaults x t = faultsTo x t j by unfold tableFaults; rw [hc, ← hjl, if_pos rfl, List.take_of_length_le (by omega)])
      clear hjl
      go_wp2
      go_ret
      obtain ⟨fp, hr, hF⟩ := AccK.rd hR (by decide)
      exact ⟨_, _, rfl, by rw [hT.out]; exact hr, hF, hKW⟩
set_option maxHeartbeats 1000000 in
theorem implTableFaults_any (cs ds : List Value) (x : Puzzle) (t : Table) (f1 f2 : List Nat) (w : World) (h : Rp.rep w cs x f1) (h2 : Rp.rep w ds t f2) :
    Calls Try.prog 45 #[.agg cs.toArray, .agg ds.toArray] w fun e w' => ∃ v fp', e = .returned v ∧ Rd w' v (tableFaults x t) fp' ∧ Fresh w.heap.size w' fp' ∧ Only [] w w' := by
  have h0 := h
  have h20 := h2
  obtain ⟨v2, rfl, p0, p1, hm⟩ := h
  obtain ⟨u0, u1, u2, q0, q1, q2, rfl, rfl, r0, r1, r2⟩ := h2
  rcases hc : checkT x t
  · have hf : tableFaults x t = [⟨0, 0, 0⟩] := by unfold tableFaults; rw [hc]; rfl
    have Hf := Lib.hid hf; clear hf
    go_enter Try.func45, Try.ntmps45
    go_wp2_with ((go_at_call 69; (with_reducible refine (newProof_all [.int .i64 x.points, .string x.names, v2] [u0, u1, u2] x t _ _ _ (Rp.keep h0 (by with_reducible repeat (first | exact Only.refl _ _ | assumption | refine Only.drewN ?_ _ | refine Only.drew ?_ | refine Only.alloc ?_ _ | refine Only.setCell ?_ (by intro hh; exfalso; simp at hh; try omega) _ | refine Only.trans ?_ (by assumption)))) (Rp.keep h20 (by with_reducible repeat (first | exact Only.refl _ _ | assumption | refine Only.drewN ?_ _ | refine Only.drew ?_ | refine Only.alloc ?_ _ | refine Only.setCell ?_ (by intro hh; exfalso; simp at hh; try omega) _ | refine Only.trans ?_ (by assumption))))).mono ?_); rintro e w1 ⟨q, he, hq, t1⟩; rw [hc] at he; subst he))
    have hK : Only [] w w1 := (by with_reducible repeat (first | exact Only.refl _ _ | assumption | refine Only.drewN ?_ _ | refine Only.drew ?_ | refine Only.alloc ?_ _ | refine Only.setCell ?_ (by intro hh; exfalso; simp at hh; try omega) _ | refine Only.trans ?_ (by assumption)))
    go_ret
    have hl := fault_lit w1 ⟨0, 0, 0⟩ ⟨(show I64 0 by unfold I64; omega), (show I64 0 by unfold I64; omega), (show I64 0 by unfold I64; omega)⟩ 87 rfl
    exact ⟨_, _, rfl, by rw [Hf.out]; exact hl.1, hl.2.mono hK.size, (by with_reducible repeat (first | exact Only.refl _ _ | assumption | refine Only.drewN ?_ _ | refine Only.drew ?_ | refine Only.alloc ?_ _ | refine Only.setCell ?_ (by intro hh; exfalso; simp at hh; try omega) _ | refine Only.trans ?_ (by assumption)))⟩
  · go_enter Try.func45, Try.ntmps45
    go_wp2_with (first | (go_at_call 69; (with_reducible refine (newProof_all [.int .i64 x.points, .string x.names, v2] [u0, u1, u2] x t _ _ _ (Rp.keep h0 (by with_reducible repeat (first | exact Only.refl _ _ | assumption | refine Only.drewN ?_ _ | refine Only.drew ?_ | refine Only.alloc ?_ _ | refine Only.setCell ?_ (by intro hh; exfalso; simp at hh; try omega) _ | refine Only.trans ?_ (by assumption)))) (Rp.keep h20 (by with_reducible repeat (first | exact Only.refl _ _ | assumption | refine Only.drewN ?_ _ | refine Only.drew ?_ | refine Only.alloc ?_ _ | refine Only.setCell ?_ (by intro hh; exfalso; simp at hh; try omega) _ | refine Only.trans ?_ (by assumption))))).mono ?_); rintro e w1 ⟨q, he, hq, t1⟩; rw [hc] at he; subst he; obtain ⟨g, rfl, hP⟩ := hq hc; have hK1 : Only [] w w1 := (by with_reducible repeat (first | exact Only.refl _ _ | assumption | refine Only.drewN ?_ _ | refine Only.drew ?_ | refine Only.alloc ?_ _ | refine Only.setCell ?_ (by intro hh; exfalso; simp at hh; try omega) _ | refine Only.trans ?_ (by assumption)))) | (go_at_call 75; (with_reducible refine (faults_any g x t _ hP hc).mono ?_); rintro e w2 ⟨u5, f5, rfl, r5, F5, t5⟩))
    go_ret
    exact ⟨_, _, rfl, r5, F5.mono hK1.size, hK1.trans t5⟩
set_option maxHeartbeats 1000000 in
theorem implIsCorrectTable_any (cs ds : List Value) (x : Puzzle) (t : Table) (f1 f2 : List Nat) (w : World) (h : Rp.rep w cs x f1) (h2 : Rp.rep w ds t f2) :
    Calls Try.prog 38 #[.agg cs.toArray, .agg ds.toArray] w fun e w' => e = .returned (.bool (decide ((tableFaults x t).length = 0))) ∧ Only [] w w' := by
  have h0 := h
  have h20 := h2
  obtain ⟨v2, rfl, p0, p1, hm⟩ := h
  obtain ⟨u0, u1, u2, q0, q1, q2, rfl, rfl, r0, r1, r2⟩ := h2
  by_cases hl : (tableFaults x t).length = 0
  · have hd : (((tableFaults x t).length : Int) == 0) = true := by simp [hl]
    have Hl := Lib.hid hl; clear hl
    go_enter Try.func38, Try.ntmps38
    go_wp2_with ((go_at_call 45; (with_reducible refine (implTableFaults_any [.int .i64 x.points, .string x.names, v2] [u0, u1, u2] x t _ _ _ (Rp.keep h0 (by with_reducible repeat (first | exact Only.refl _ _ | assumption | refine Only.drewN ?_ _ | refine Only.drew ?_ | refine Only.alloc ?_ _ | refine Only.setCell ?_ (by intro hh; exfalso; simp at hh; try omega) _ | refine Only.trans ?_ (by assumption)))) (Rp.keep h20 (by with_reducible repeat (first | exact Only.refl _ _ | assumption | refine Only.drewN ?_ _ | refine Only.drew ?_ | refine Only.alloc ?_ _ | refine Only.setCell ?_ (by intro hh; exfalso; simp at hh; try omega) _ | refine Only.trans ?_ (by assumption))))).mono ?_); rintro e w1 ⟨u3, f3, rfl, r3, F3, t3⟩; obtain ⟨A3, C3, _, _, rfl, -⟩ := r3.open_))
    go_ret
    exact ⟨ret_bool (by rw [Hl.out]; rfl), (by with_reducible repeat (first | exact Only.refl _ _ | assumption | refine Only.drewN ?_ _ | refine Only.drew ?_ | refine Only.alloc ?_ _ | refine Only.setCell ?_ (by intro hh; exfalso; simp at hh; try omega) _ | refine Only.trans ?_ (by assumption)))⟩
  · have hd : (((tableFaults x t).length : Int) == 0) = false := by rw [beq_eq_false_iff_ne]; omega
    have Hl := Lib.hid hl; clear hl
    go_enter Try.func38, Try.ntmps38
    go_wp2_with ((go_at_call 45; (with_reducible refine (implTableFaults_any [.int .i64 x.points, .string x.names, v2] [u0, u1, u2] x t _ _ _ (Rp.keep h0 (by with_reducible repeat (first | exact Only.refl _ _ | assumption | refine Only.drewN ?_ _ | refine Only.drew ?_ | refine Only.alloc ?_ _ | refine Only.setCell ?_ (by intro hh; exfalso; simp at hh; try omega) _ | refine Only.trans ?_ (by assumption)))) (Rp.keep h20 (by with_reducible repeat (first | exact Only.refl _ _ | assumption | refine Only.drewN ?_ _ | refine Only.drew ?_ | refine Only.alloc ?_ _ | refine Only.setCell ?_ (by intro hh; exfalso; simp at hh; try omega) _ | refine Only.trans ?_ (by assumption))))).mono ?_); rintro e w1 ⟨u3, f3, rfl, r3, F3, t3⟩; obtain ⟨A3, C3, _, _, rfl, -⟩ := r3.open_))
    go_ret
    exact ⟨ret_bool (by rw [decide_eq_false Hl.out]), (by with_reducible repeat (first | exact Only.refl _ _ | assumption | refine Only.drewN ?_ _ | refine Only.drew ?_ | refine Only.alloc ?_ _ | refine Only.setCell ?_ (by intro hh; exfalso; simp at hh; try omega) _ | refine Only.trans ?_ (by assumption)))⟩
set_option maxHeartbeats 4000000 in
theorem implIsAdmissible_any (cs ds : List Value) (x : Puzzle) (t : Table) (f1 f2 : List Nat) (w : World) (h : Rp.rep w cs x f1) (h2 : Rp.rep w ds t f2) :
    Calls Try.prog 36 #[.agg cs.toArray, .agg ds.toArray] w fun e w' => e = .returned (.bool (admB x t)) ∧ Only [] w w' := by
  have h0 := h
  have h20 := h2
  obtain ⟨v2, rfl, p0, p1, hm⟩ := h
  obtain ⟨u0, u1, u2, q0, q1, q2, rfl, rfl, r0, r1, r2⟩ := h2
  obtain ⟨A1, C1, ob, fps, rfl, -, hs⟩ := r1.open_
  have b1 := hs.bound
  have hB2 := Blk.new_at (w := w.alloc (.cells [.int .i64 x.points, .string x.names, v2].toArray 26)) (g := w.heap.size + 1) (cs := [u0, .slice A1 t.patterns.length C1, u2]) (t := 42) (by simp)
  rcases hc : checkT x t
  · have hf : admB x t = false := by unfold admB; rw [hc]; rfl
    have Hf := Lib.hid hf; clear hf
    go_enter Try.func36, Try.ntmps36
    go_wp2_with ((go_at_call 69; (with_reducible refine (newProof_all [.int .i64 x.points, .string x.names, v2] [u0, .slice A1 t.patterns.length C1, u2] x t _ _ _ (Rp.keep h0 (by with_reducible repeat (first | exact Only.refl _ _ | assumption | refine Only.drewN ?_ _ | refine Only.drew ?_ | refine Only.alloc ?_ _ | refine Only.setCell ?_ (by intro hh; exfalso; simp at hh; try omega) _ | refine Only.trans ?_ (by assumption)))) (Rp.keep h20 (by with_reducible repeat (first | exact Only.refl _ _ | assumption | refine Only.drewN ?_ _ | refine Only.drew ?_ | refine Only.alloc ?_ _ | refine Only.setCell ?_ (by intro hh; exfalso; simp at hh; try omega) _ | refine Only.trans ?_ (by assumption))))).mono ?_); rintro e w1 ⟨q, he, hq, t1⟩; rw [hc] at he; subst he))
    go_ret
    exact ⟨ret_bool Hf.out.symm, (by with_reducible repeat (first | exact Only.refl _ _ | assumption | refine Only.drewN ?_ _ | refine Only.drew ?_ | refine Only.alloc ?_ _ | refine Only.setCell ?_ (by intro hh; exfalso; simp at hh; try omega) _ | refine Only.trans ?_ (by assumption)))⟩
  have HA := Lib.hid (admB_iff hc)
  go_enter Try.func36, Try.ntmps36
  go_wp2_with ((go_at_call 69; (with_reducible refine (newProof_all [.int .i64 x.points, .string x.names, v2] [u0, .slice A1 t.patterns.length C1, u2] x t _ _ _ (Rp.keep h0 (by with_reducible repeat (first | exact Only.refl _ _ | assumption | refine Only.drewN ?_ _ | refine Only.drew ?_ | refine Only.alloc ?_ _ | refine Only.setCell ?_ (by intro hh; exfalso; simp at hh; try omega) _ | refine Only.trans ?_ (by assumption)))) (Rp.keep h20 (by with_reducible repeat (first | exact Only.refl _ _ | assumption | refine Only.drewN ?_ _ | refine Only.drew ?_ | refine Only.alloc ?_ _ | refine Only.setCell ?_ (by intro hh; exfalso; simp at hh; try omega) _ | refine Only.trans ?_ (by assumption))))).mono ?_); rintro e w1 ⟨q, he, hq, t1⟩; rw [hc] at he; subst he; obtain ⟨g, rfl, hP⟩ := hq hc; have hK1 : Only [] w w1 := (by with_reducible repeat (first | exact Only.refl _ _ | assumption | refine Only.drewN ?_ _ | refine Only.drew ?_ | refine Only.alloc ?_ _ | refine Only.setCell ?_ (by intro hh; exfalso; simp at hh; try omega) _ | refine Only.trans ?_ (by assumption))); have z1 := (hB2.keep t1).cell 1 rfl))
  go_loopw [21] (fun i wr => ∃ j : Nat, j ≤ t.patterns.length ∧ i = .int .i64 j ∧ (∀ k, k < j → ∀ f ∈ entF x t k, badK f = false) ∧ Only [] w1 wr)
    (fun i _ => t.patterns.length - (intOf i).toNat)
  case atStart => exact ⟨0, Nat.zero_le _, rfl, by intro k hk; omega, Only.refl _ _⟩
  case round =>
    obtain ⟨j, hj, rfl, hr, hK⟩ := hrel
    have Hr := Lib.hid hr; clear hr
    have hKW : Only [] w wr := hK1.trans hK
    by_cases hlt : j < t.patterns.length
    · go_wp2_with ((go_at_call 70; (with_reducible refine (entryFaults_any g x t j _ (hP.keep hK) hc hlt).mono ?_); rintro e w4 ⟨u4, f4, rfl, r4, F4, t4⟩; obtain ⟨A4, C4, ob4, fps4, rfl, -, hs4⟩ := r4.open_))
      have hb4 := hs4.bound
      have hK4 : Only [] w w4 := hKW.trans t4
      go_loopw [28] (fun i2 w2 => ∃ k : Nat, k ≤ (entF x t j).length ∧ i2 = .int .i64 k ∧ (∀ f ∈ (entF x t j).take k, badK f = false) ∧ Only [] w4 w2)
        (fun i2 _ => (entF x t j).length - (intOf i2).toNat)
      case atStart => exact ⟨0, Nat.zero_le _, rfl, by simp, Only.refl _ _⟩
      case round =>
        obtain ⟨k, hk, rfl, hr2, hK2⟩ := hrel
        have Hr2 := Lib.hid hr2; clear hr2
        have hsz2 := hK2.size
        have hsz4 := hK4.size
        have hsz1 := (hK.trans t4).size
        have hK5 : Only [] w wr := hK4.trans hK2
        by_cases hlt2 : k < (entF x t j).length
        · obtain ⟨b9, o9, rfl, hc9, hd9, he9⟩ := fault_at3 hs4 hlt2
          have hcc := hK2.cell (by simp) hc9
          have hcd := hK2.cell (by simp) hd9
          have hce := hK2.cell (by simp) he9
          have hbk := badK_of (f := (entF x t j)[k])
          have Hbk := Lib.hid hbk
          clear hbk hc9 hd9 he9
          by_cases e1 : (entF x t j)[k].kind = 1
          · have d1 : ((entF x t j)[k].kind == 1) = true := by simp [e1]
            have E1 := Lib.hid e1; clear e1
            go_wp2
            go_ret
            exact ⟨ret_bool (by rw [eq_comm, ← Bool.not_eq_true, HA.out]; intro hall; have := hall j hlt _ (List.getElem_mem hlt2); rw [Hbk.out.2 (.inl E1.out)] at this; cases this), (by with_reducible repeat (first | exact Only.refl _ _ | assumption | refine Only.drewN ?_ _ | refine Only.drew ?_ | refine Only.alloc ?_ _ | refine Only.setCell ?_ (by intro hh; exfalso; simp at hh; try omega) _ | refine Only.trans ?_ (by assumption)))⟩
          have d1 : ((entF x t j)[k].kind == 1) = false := by simp [e1]
          have E1 := Lib.hid e1; clear e1
          by_cases e2 : (entF x t j)[k].kind = 4
          · have d2 : ((entF x t j)[k].kind == 4) = true := by simp [e2]
            have E2 := Lib.hid e2; clear e2
            go_wp2
            go_ret
            exact ⟨ret_bool (by rw [eq_comm, ← Bool.not_eq_true, HA.out]; intro hall; have := hall j hlt _ (List.getElem_mem hlt2); rw [Hbk.out.2 (.inr (.inl E2.out))] at this; cases this), (by with_reducible repeat (first | exact Only.refl _ _ | assumption | refine Only.drewN ?_ _ | refine Only.drew ?_ | refine Only.alloc ?_ _ | refine Only.setCell ?_ (by intro hh; exfalso; simp at hh; try omega) _ | refine Only.trans ?_ (by assumption)))⟩
          have d2 : ((entF x t j)[k].kind == 4) = false := by simp [e2]
          have E2 := Lib.hid e2; clear e2
          by_cases e3 : (entF x t j)[k].kind = 5
          · have d3 : ((entF x t j)[k].kind == 5) = true := by simp [e3]
            have E3 := Lib.hid e3; clear e3
            go_wp2
            go_ret
            exact ⟨ret_bool (by rw [eq_comm, ← Bool.not_eq_true, HA.out]; intro hall; have := hall j hlt _ (List.getElem_mem hlt2); rw [Hbk.out.2 (.inr (.inr E3.out))] at this; cases this), (by with_reducible repeat (first | exact Only.refl _ _ | assumption | refine Only.drewN ?_ _ | refine Only.drew ?_ | refine Only.alloc ?_ _ | refine Only.setCell ?_ (by intro hh; exfalso; simp at hh; try omega) _ | refine Only.trans ?_ (by assumption)))⟩
          have d3 : ((entF x t j)[k].kind == 5) = false := by simp [e3]
          have E3 := Lib.hid e3; clear e3
          go_wp2
          go_roundw
          case rel => exact ⟨k + 1, by omega, by go_num, mem_take_stepF hlt2 Hr2.out (by rw [← Bool.not_eq_true, Hbk.out]; rintro (h9 | h9 | h9); exact E1.out h9; exact E2.out h9; exact E3.out h9), (by with_reducible repeat (first | exact Only.refl _ _ | assumption | refine Only.drewN ?_ _ | refine Only.drew ?_ | refine Only.alloc ?_ _ | refine Only.setCell ?_ (by intro hh; exfalso; simp at hh; try omega) _ | refine Only.trans ?_ (by assumption)))⟩
          case measure => simp [intOf]; omega
        · go_wp2
          go_roundw
          case rel => exact ⟨j + 1, by omega, by go_num, fun k' hk' => by
            by_cases hkj : k' = j
            · subst hkj; have := Hr2.out; rwa [List.take_of_length_le (by omega)] at this
            · exact Hr.out k' (by omega), (hK.trans t4).trans hK2⟩
          case measure => simp [intOf]; omega
    · go_wp2
      go_ret
      exact ⟨ret_bool (by rw [eq_comm, HA.out]; exact fun k hk => Hr.out k (by omega)), (by with_reducible repeat (first | exact Only.refl _ _ | assumption | refine Only.drewN ?_ _ | refine Only.drew ?_ | refine Only.alloc ?_ _ | refine Only.setCell ?_ (by intro hh; exfalso; simp at hh; try omega) _ | refine Only.trans ?_ (by assumption)))⟩
end Go.Proofs.Ytmilmbgnkpkmnaa
