/- The program's faults of a table. (Written by mkadm.py.) The law on the verification of tables (law 10): its walk. -/
import Derived.Test.YtoinaidncncdhaaRowVerificationG11
import Derived.Test.YtoinaidncncdhaaRowVerificationG10
namespace Go.Proofs.Ytoinaidncncdhaa
open Go.RowKit
set_option maxRecDepth 10000

theorem fault_at3 {w : World} {a : Option Addr} {cap : Nat} {ys : List Fault} {ob : List Nat} {fps : List (List Nat)} (h : SeqA w a cap ys ob fps) {k : Nat} (hk : k < ys.length) :
    ∃ b off, a = some ⟨b, off, none⟩ ∧ w.cell? ⟨b, off + k * 3, none⟩ = some (.int .i64 ys[k].kind) ∧ w.cell? ⟨b, off + k * 3 + 1, none⟩ = some (.int .i64 ys[k].entry) ∧ w.cell? ⟨b, off + k * 3 + 2, none⟩ = some (.int .i64 ys[k].letter) := by
  obtain ⟨b, off, cs, ha, -, hc, rfl, -, -⟩ := h.at_ k hk
  exact ⟨b, off, ha, hc 0 _ rfl, hc 1 _ rfl, hc 2 _ rfl⟩
theorem AccK.formN {α : Type} [Rp α] {w0 W wx : World} {B : Nat} {e : TypeId} {G : List Nat} {v : Value} {l : List α} (h : AccK w0 B e G W wx v l) : ∃ a n c, n = l.length ∧ v = Value.slice a n c := by
  obtain ⟨a, c, hv⟩ := h.form
  exact ⟨a, _, c, rfl, hv⟩
set_option maxHeartbeats 1000000 in
theorem CloneFaults_rd (b o n cap : Nat) (L : List Fault) (fp : List Nat) (w : World) (h : Rd w (.slice (some ⟨b, o, none⟩) n cap) L fp) (hl : L.length ≤ 1000) :
    Calls Try.prog 80 #[.slice (some ⟨b, o, none⟩) n cap] w fun e w' => ∃ v fp', e = .returned v ∧ Rd w' v L fp' ∧ Fresh w.heap.size w' fp' ∧ Only [] w w' := by
  have hA : AccK w w.heap.size 73 [] w (w.alloc (.cells #[] 73)) (.slice (some ⟨w.heap.size, 0, none⟩) 0 0) ([] : List Fault) :=
    ⟨[], Acc.made w w.heap.size _ rfl (Nat.le_refl _), Fresh.nil _ _, (Only.refl _ _).alloc _, by simp, by simp, by simp⟩
  have hnil := fun W => Lib.run_eql_slice_nil (P := Try.prog) W 38 73 (some ⟨b, o, none⟩) n cap 0 0 Try.underlying38
  go_enter Try.func80, Try.ntmps80
  go_wp2_with (at_builtin; refine wpList_fapp rfl _ _ rfl rfl hA (Only.refl _ _) (Nat.le_refl _) (by simp) _ fp rfl (Rp.keep h ((Only.refl _ _).alloc _)) (by simp; omega) ?_; intro v5 w5 hR5 hO5)
  go_ret
  obtain ⟨fp', hr, hF⟩ := AccK.rd hR5 (by decide)
  exact ⟨_, _, rfl, hr, hF, hR5.only⟩
set_option maxHeartbeats 4000000 in
theorem faults_any (g : Nat) (x : Puzzle) (t : Table) (w : World) (hP : Prf w g x t) (hc : checkT x t = true) :
    Calls Try.prog 36 #[.pointer (some ⟨g, 0, none⟩)] w fun e w' => ∃ v fp', e = .returned v ∧ Rd w' v (tableFaults x t) fp' ∧ Fresh w.heap.size w' fp' ∧ Only [] w w' := by
  have hP0 := hP
  obtain ⟨v0, v1, v2, vl, vm, M, f0, f1, f2, fl, fm, km, hB, r0, r1, r2, rl, rm, hM⟩ := hP
  obtain ⟨A1, C1, ob, fps, rfl, -, hs⟩ := r1.open_
  have d1 := hB.cell 1 rfl
  have b1 := hs.bound
  have hx8 := (validPz_facts (checkT_iff.1 hc).1).2.2.1
  go_enter Try.func36, Try.ntmps36
  go_wp2
  go_loopw [3, 11] (fun o i wr => ∃ j : Nat, j ≤ t.patterns.length ∧ i = .int .i64 j ∧ AccK w w.heap.size 73 [] w wr o (faultsTo x t j) ∧ (faultsTo x t j).length < 40)
    (fun _ i _ => t.patterns.length - (intOf i).toNat)
  case atStart => exact ⟨0, Nat.zero_le _, rfl, ⟨[], Acc.nil w _ _, Fresh.nil _ _, Only.refl _ _, by simp, by simp, by simp⟩, by simp [faultsTo]⟩
  case round =>
    obtain ⟨j, hj, rfl, hR, hl40⟩ := hrel
    have hKW := hR.only
    have hBw := hKW.size
    by_cases hlt : j < t.patterns.length
    · have hel := entF_len x t j
      have hsucc := faultsTo_succ x t j
      have Hsucc := Lib.hid hsucc
      by_cases h40 : 40 ≤ (faultsTo x t (j + 1)).length
      · have hT := Lib.hid (show tableFaults x t = (faultsTo x t (j + 1)).take 40 by unfold tableFaults; rw [hc]; exact faults_enough (by omega) h40)
        have H40 := Lib.hid h40
        clear hsucc h40
        go_wp2_with (first | (go_at_call 37; (with_reducible refine (entryFaults_any g x t j _ (hP0.keep hKW) hc hlt).mono ?_); rintro e w4 ⟨u4, f4, rfl, r4, F4, t4⟩) | (at_builtin; refine wpList_fapp rfl _ _ rfl rfl hR t4 (Nat.le_refl _) hBw u4 f4 rfl r4 (by omega) ?_; intro v5 w5 hR5 hO5; rw [← Hsucc.out] at hR5; obtain ⟨a5, n5, c5, hn5, rfl⟩ := hR5.formN; have hn40 : 40 ≤ n5 := (by rw [hn5]; exact H40.out); obtain ⟨fpx, hrx, hFx⟩ := AccK.rd hR5 (by decide); obtain ⟨hcc, hcm, b9, o9, rfl⟩ := rd_at hrx (by have := H40.out; omega); unfold maxLen at hcm; have hn5c : n5 ≤ c5 := (by rw [hn5]; exact hcc); obtain ⟨fpt, hrt, hst, -⟩ := take_rd hrx 40 H40.out; clear hn5 hcc) | (go_at_call 80; (with_reducible refine (CloneFaults_rd b9 o9 40 c5 _ _ _ hrt (by rw [List.length_take]; omega)).mono ?_); rintro e w6 ⟨u6, f6, rfl, r6, F6, t6⟩))
        go_ret
        exact ⟨_, _, rfl, by rw [hT.out]; exact r6, F6.mono hR5.only.size, hR5.only.trans t6⟩
      · have H40 := Lib.hid h40
        clear hsucc h40
        go_wp2_with (first | (go_at_call 37; (with_reducible refine (entryFaults_any g x t j _ (hP0.keep hKW) hc hlt).mono ?_); rintro e w4 ⟨u4, f4, rfl, r4, F4, t4⟩) | (at_builtin; refine wpList_fapp rfl _ _ rfl rfl hR t4 (Nat.le_refl _) hBw u4 f4 rfl r4 (by omega) ?_; intro v5 w5 hR5 hO5; rw [← Hsucc.out] at hR5; obtain ⟨a5, n5, c5, hn5, rfl⟩ := hR5.formN; have hn40 : n5 < 40 := (by rw [hn5]; have := H40.out; omega); clear hn5))
        go_roundw
        case rel => exact ⟨j + 1, by omega, by go_num, hR5, by have := H40.out; omega⟩
        case measure => simp [intOf]; omega
    · have hjl : j = t.patterns.length := by omega
      have hT := Lib.hid (show tableFaults x t = faultsTo x t j by unfold tableFaults; rw [hc, ← hjl, if_pos rfl, List.take_of_length_le (by omega)])
      clear hjl
      go_wp2
      go_ret
      obtain ⟨fp, hr, hF⟩ := AccK.rd hR (by decide)
      exact ⟨_, _, rfl, by rw [hT.out]; exact hr, hF, hKW⟩
set_option maxHeartbeats 1000000 in
theorem implTableFaults_any (cs ds : List Value) (x : Puzzle) (t : Table) (f1 f2 : List Nat) (w : World) (h : Rp.rep w cs x f1) (h2 : Rp.rep w ds t f2) :
    Calls Try.prog 13 #[.agg cs.toArray, .agg ds.toArray] w fun e w' => ∃ v fp', e = .returned v ∧ Rd w' v (tableFaults x t) fp' ∧ Fresh w.heap.size w' fp' ∧ Only [] w w' := by
  have h0 := h
  have h20 := h2
  obtain ⟨v2, rfl, p0, p1, hm⟩ := h
  obtain ⟨u0, u1, u2, q0, q1, q2, rfl, rfl, r0, r1, r2⟩ := h2
  rcases hc : checkT x t
  · have hf : tableFaults x t = [⟨0, 0, 0⟩] := by unfold tableFaults; rw [hc]; rfl
    have Hf := Lib.hid hf; clear hf
    go_enter Try.func13, Try.ntmps13
    go_wp2_with ((go_at_call 35; (with_reducible refine (newProof_all [.int .i64 x.points, .string x.names, v2] [u0, u1, u2] x t _ _ _ (Rp.keep h0 (by with_reducible repeat (first | exact Only.refl _ _ | assumption | refine Only.drewN ?_ _ | refine Only.drew ?_ | refine Only.alloc ?_ _ | refine Only.setCell ?_ (by intro hh; exfalso; simp at hh; try omega) _ | refine Only.trans ?_ (by assumption)))) (Rp.keep h20 (by with_reducible repeat (first | exact Only.refl _ _ | assumption | refine Only.drewN ?_ _ | refine Only.drew ?_ | refine Only.alloc ?_ _ | refine Only.setCell ?_ (by intro hh; exfalso; simp at hh; try omega) _ | refine Only.trans ?_ (by assumption))))).mono ?_); rintro e w1 ⟨q, he, hq, t1⟩; rw [hc] at he; subst he))
    have hK : Only [] w w1 := (by with_reducible repeat (first | exact Only.refl _ _ | assumption | refine Only.drewN ?_ _ | refine Only.drew ?_ | refine Only.alloc ?_ _ | refine Only.setCell ?_ (by intro hh; exfalso; simp at hh; try omega) _ | refine Only.trans ?_ (by assumption)))
    go_ret
    have hl := fault_lit w1 ⟨0, 0, 0⟩ ⟨(show I64 0 by unfold I64; omega), (show I64 0 by unfold I64; omega), (show I64 0 by unfold I64; omega)⟩ 73 rfl
    exact ⟨_, _, rfl, by rw [Hf.out]; exact hl.1, hl.2.mono hK.size, (by with_reducible repeat (first | exact Only.refl _ _ | assumption | refine Only.drewN ?_ _ | refine Only.drew ?_ | refine Only.alloc ?_ _ | refine Only.setCell ?_ (by intro hh; exfalso; simp at hh; try omega) _ | refine Only.trans ?_ (by assumption)))⟩
  · go_enter Try.func13, Try.ntmps13
    go_wp2_with (first | (go_at_call 35; (with_reducible refine (newProof_all [.int .i64 x.points, .string x.names, v2] [u0, u1, u2] x t _ _ _ (Rp.keep h0 (by with_reducible repeat (first | exact Only.refl _ _ | assumption | refine Only.drewN ?_ _ | refine Only.drew ?_ | refine Only.alloc ?_ _ | refine Only.setCell ?_ (by intro hh; exfalso; simp at hh; try omega) _ | refine Only.trans ?_ (by assumption)))) (Rp.keep h20 (by with_reducible repeat (first | exact Only.refl _ _ | assumption | refine Only.drewN ?_ _ | refine Only.drew ?_ | refine Only.alloc ?_ _ | refine Only.setCell ?_ (by intro hh; exfalso; simp at hh; try omega) _ | refine Only.trans ?_ (by assumption))))).mono ?_); rintro e w1 ⟨q, he, hq, t1⟩; rw [hc] at he; subst he; obtain ⟨g, rfl, hP⟩ := hq hc; have hK1 : Only [] w w1 := (by with_reducible repeat (first | exact Only.refl _ _ | assumption | refine Only.drewN ?_ _ | refine Only.drew ?_ | refine Only.alloc ?_ _ | refine Only.setCell ?_ (by intro hh; exfalso; simp at hh; try omega) _ | refine Only.trans ?_ (by assumption)))) | (go_at_call 36; (with_reducible refine (faults_any g x t _ hP hc).mono ?_); rintro e w2 ⟨u5, f5, rfl, r5, F5, t5⟩))
    go_ret
    exact ⟨_, _, rfl, r5, F5.mono hK1.size, hK1.trans t5⟩
set_option maxHeartbeats 1000000 in
theorem implIsCorrectTable_any (cs ds : List Value) (x : Puzzle) (t : Table) (f1 f2 : List Nat) (w : World) (h : Rp.rep w cs x f1) (h2 : Rp.rep w ds t f2) :
    Calls Try.prog 12 #[.agg cs.toArray, .agg ds.toArray] w fun e w' => e = .returned (.bool (decide ((tableFaults x t).length = 0))) ∧ Only [] w w' := by
  have h0 := h
  have h20 := h2
  obtain ⟨v2, rfl, p0, p1, hm⟩ := h
  obtain ⟨u0, u1, u2, q0, q1, q2, rfl, rfl, r0, r1, r2⟩ := h2
  by_cases hl : (tableFaults x t).length = 0
  · have hd : (((tableFaults x t).length : Int) == 0) = true := by simp [hl]
    have Hl := Lib.hid hl; clear hl
    go_enter Try.func12, Try.ntmps12
    go_wp2_with ((go_at_call 13; (with_reducible refine (implTableFaults_any [.int .i64 x.points, .string x.names, v2] [u0, u1, u2] x t _ _ _ (Rp.keep h0 (by with_reducible repeat (first | exact Only.refl _ _ | assumption | refine Only.drewN ?_ _ | refine Only.drew ?_ | refine Only.alloc ?_ _ | refine Only.setCell ?_ (by intro hh; exfalso; simp at hh; try omega) _ | refine Only.trans ?_ (by assumption)))) (Rp.keep h20 (by with_reducible repeat (first | exact Only.refl _ _ | assumption | refine Only.drewN ?_ _ | refine Only.drew ?_ | refine Only.alloc ?_ _ | refine Only.setCell ?_ (by intro hh; exfalso; simp at hh; try omega) _ | refine Only.trans ?_ (by assumption))))).mono ?_); rintro e w1 ⟨u3, f3, rfl, r3, F3, t3⟩; obtain ⟨A3, C3, _, _, rfl, -⟩ := r3.open_))
    go_ret
    exact ⟨ret_bool (by rw [Hl.out]; rfl), (by with_reducible repeat (first | exact Only.refl _ _ | assumption | refine Only.drewN ?_ _ | refine Only.drew ?_ | refine Only.alloc ?_ _ | refine Only.setCell ?_ (by intro hh; exfalso; simp at hh; try omega) _ | refine Only.trans ?_ (by assumption)))⟩
  · have hd : (((tableFaults x t).length : Int) == 0) = false := by rw [beq_eq_false_iff_ne]; omega
    have Hl := Lib.hid hl; clear hl
    go_enter Try.func12, Try.ntmps12
    go_wp2_with ((go_at_call 13; (with_reducible refine (implTableFaults_any [.int .i64 x.points, .string x.names, v2] [u0, u1, u2] x t _ _ _ (Rp.keep h0 (by with_reducible repeat (first | exact Only.refl _ _ | assumption | refine Only.drewN ?_ _ | refine Only.drew ?_ | refine Only.alloc ?_ _ | refine Only.setCell ?_ (by intro hh; exfalso; simp at hh; try omega) _ | refine Only.trans ?_ (by assumption)))) (Rp.keep h20 (by with_reducible repeat (first | exact Only.refl _ _ | assumption | refine Only.drewN ?_ _ | refine Only.drew ?_ | refine Only.alloc ?_ _ | refine Only.setCell ?_ (by intro hh; exfalso; simp at hh; try omega) _ | refine Only.trans ?_ (by assumption))))).mono ?_); rintro e w1 ⟨u3, f3, rfl, r3, F3, t3⟩; obtain ⟨A3, C3, _, _, rfl, -⟩ := r3.open_))
    go_ret
    exact ⟨ret_bool (by rw [decide_eq_false Hl.out]), (by with_reducible repeat (first | exact Only.refl _ _ | assumption | refine Only.drewN ?_ _ | refine Only.drew ?_ | refine Only.alloc ?_ _ | refine Only.setCell ?_ (by intro hh; exfalso; simp at hh; try omega) _ | refine Only.trans ?_ (by assumption)))⟩
set_option maxHeartbeats 4000000 in
theorem implIsAdmissible_any (cs ds : List Value) (x : Puzzle) (t : Table) (f1 f2 : List Nat) (w : World) (h : Rp.rep w cs x f1) (h2 : Rp.rep w ds t f2) :
    Calls Try.prog 14 #[.agg cs.toArray, .agg ds.toArray] w fun e w' => e = .returned (.bool (admB x t)) ∧ Only [] w w' := by
  have h0 := h
  have h20 := h2
  obtain ⟨v2, rfl, p0, p1, hm⟩ := h
  obtain ⟨u0, u1, u2, q0, q1, q2, rfl, rfl, r0, r1, r2⟩ := h2
  obtain ⟨A1, C1, ob, fps, rfl, -, hs⟩ := r1.open_
  have b1 := hs.bound
  have hB2 := Blk.new_at (w := w.alloc (.cells [.int .i64 x.points, .string x.names, v2].toArray 29)) (g := w.heap.size + 1) (cs := [u0, .slice A1 t.patterns.length C1, u2]) (t := 33) (by simp)
  rcases hc : checkT x t
  · have hf : admB x t = false := by unfold admB; rw [hc]; rfl
    have Hf := Lib.hid hf; clear hf
    go_enter Try.func14, Try.ntmps14
    go_wp2_with ((go_at_call 35; (with_reducible refine (newProof_all [.int .i64 x.points, .string x.names, v2] [u0, .slice A1 t.patterns.length C1, u2] x t _ _ _ (Rp.keep h0 (by with_reducible repeat (first | exact Only.refl _ _ | assumption | refine Only.drewN ?_ _ | refine Only.drew ?_ | refine Only.alloc ?_ _ | refine Only.setCell ?_ (by intro hh; exfalso; simp at hh; try omega) _ | refine Only.trans ?_ (by assumption)))) (Rp.keep h20 (by with_reducible repeat (first | exact Only.refl _ _ | assumption | refine Only.drewN ?_ _ | refine Only.drew ?_ | refine Only.alloc ?_ _ | refine Only.setCell ?_ (by intro hh; exfalso; simp at hh; try omega) _ | refine Only.trans ?_ (by assumption))))).mono ?_); rintro e w1 ⟨q, he, hq, t1⟩; rw [hc] at he; subst he))
    go_ret
    exact ⟨ret_bool Hf.out.symm, (by with_reducible repeat (first | exact Only.refl _ _ | assumption | refine Only.drewN ?_ _ | refine Only.drew ?_ | refine Only.alloc ?_ _ | refine Only.setCell ?_ (by intro hh; exfalso; simp at hh; try omega) _ | refine Only.trans ?_ (by assumption)))⟩
  have HA := Lib.hid (admB_iff hc)
  go_enter Try.func14, Try.ntmps14
  go_wp2_with ((go_at_call 35; (with_reducible refine (newProof_all [.int .i64 x.points, .string x.names, v2] [u0, .slice A1 t.patterns.length C1, u2] x t _ _ _ (Rp.keep h0 (by with_reducible repeat (first | exact Only.refl _ _ | assumption | refine Only.drewN ?_ _ | refine Only.drew ?_ | refine Only.alloc ?_ _ | refine Only.setCell ?_ (by intro hh; exfalso; simp at hh; try omega) _ | refine Only.trans ?_ (by assumption)))) (Rp.keep h20 (by with_reducible repeat (first | exact Only.refl _ _ | assumption | refine Only.drewN ?_ _ | refine Only.drew ?_ | refine Only.alloc ?_ _ | refine Only.setCell ?_ (by intro hh; exfalso; simp at hh; try omega) _ | refine Only.trans ?_ (by assumption))))).mono ?_); rintro e w1 ⟨q, he, hq, t1⟩; rw [hc] at he; subst he; obtain ⟨g, rfl, hP⟩ := hq hc; have hK1 : Only [] w w1 := (by with_reducible repeat (first | exact Only.refl _ _ | assumption | refine Only.drewN ?_ _ | refine Only.drew ?_ | refine Only.alloc ?_ _ | refine Only.setCell ?_ (by intro hh; exfalso; simp at hh; try omega) _ | refine Only.trans ?_ (by assumption))); have z1 := (hB2.keep t1).cell 1 rfl))
  go_loopw [21] (fun i wr => ∃ j : Nat, j ≤ t.patterns.length ∧ i = .int .i64 j ∧ (∀ k, k < j → ∀ f ∈ entF x t k, badK f = false) ∧ Only [] w1 wr)
    (fun i _ => t.patterns.length - (intOf i).toNat)
  case atStart => exact ⟨0, Nat.zero_le _, rfl, by intro k hk; omega, Only.refl _ _⟩
  case round =>
    obtain ⟨j, hj, rfl, hr, hK⟩ := hrel
    have Hr := Lib.hid hr; clear hr
    have hKW : Only [] w wr := hK1.trans hK
    by_cases hlt : j < t.patterns.length
    · go_wp2_with ((go_at_call 37; (with_reducible refine (entryFaults_any g x t j _ (hP.keep hK) hc hlt).mono ?_); rintro e w4 ⟨u4, f4, rfl, r4, F4, t4⟩; obtain ⟨A4, C4, ob4, fps4, rfl, -, hs4⟩ := r4.open_))
      have hb4 := hs4.bound
      have hK4 : Only [] w w4 := hKW.trans t4
      go_loopw [28] (fun i2 w2 => ∃ k : Nat, k ≤ (entF x t j).length ∧ i2 = .int .i64 k ∧ (∀ f ∈ (entF x t j).take k, badK f = false) ∧ Only [] w4 w2)
        (fun i2 _ => (entF x t j).length - (intOf i2).toNat)
      case atStart => exact ⟨0, Nat.zero_le _, rfl, by simp, Only.refl _ _⟩
      case round =>
        obtain ⟨k, hk, rfl, hr2, hK2⟩ := hrel
        have Hr2 := Lib.hid hr2; clear hr2
        have hsz2 := hK2.size
        have hsz4 := hK4.size
        have hsz1 := (hK.trans t4).size
        have hK5 : Only [] w wr := hK4.trans hK2
        by_cases hlt2 : k < (entF x t j).length
        · obtain ⟨b9, o9, rfl, hc9, hd9, he9⟩ := fault_at3 hs4 hlt2
          have hcc := hK2.cell (by simp) hc9
          have hcd := hK2.cell (by simp) hd9
          have hce := hK2.cell (by simp) he9
          have hbk := badK_of (f := (entF x t j)[k])
          have Hbk := Lib.hid hbk
          clear hbk hc9 hd9 he9
          by_cases e1 : (entF x t j)[k].kind = 1
          · have d1 : ((entF x t j)[k].kind == 1) = true := by simp [e1]
            have E1 := Lib.hid e1; clear e1
            go_wp2
            go_ret
            exact ⟨ret_bool (by rw [eq_comm, ← Bool.not_eq_true, HA.out]; intro hall; have := hall j hlt _ (List.getElem_mem hlt2); rw [Hbk.out.2 (.inl E1.out)] at this; cases this), (by with_reducible repeat (first | exact Only.refl _ _ | assumption | refine Only.drewN ?_ _ | refine Only.drew ?_ | refine Only.alloc ?_ _ | refine Only.setCell ?_ (by intro hh; exfalso; simp at hh; try omega) _ | refine Only.trans ?_ (by assumption)))⟩
          have d1 : ((entF x t j)[k].kind == 1) = false := by simp [e1]
          have E1 := Lib.hid e1; clear e1
          by_cases e2 : (entF x t j)[k].kind = 4
          · have d2 : ((entF x t j)[k].kind == 4) = true := by simp [e2]
            have E2 := Lib.hid e2; clear e2
            go_wp2
            go_ret
            exact ⟨ret_bool (by rw [eq_comm, ← Bool.not_eq_true, HA.out]; intro hall; have := hall j hlt _ (List.getElem_mem hlt2); rw [Hbk.out.2 (.inr (.inl E2.out))] at this; cases this), (by with_reducible repeat (first | exact Only.refl _ _ | assumption | refine Only.drewN ?_ _ | refine Only.drew ?_ | refine Only.alloc ?_ _ | refine Only.setCell ?_ (by intro hh; exfalso; simp at hh; try omega) _ | refine Only.trans ?_ (by assumption)))⟩
          have d2 : ((entF x t j)[k].kind == 4) = false := by simp [e2]
          have E2 := Lib.hid e2; clear e2
          by_cases e3 : (entF x t j)[k].kind = 5
          · have d3 : ((entF x t j)[k].kind == 5) = true := by simp [e3]
            have E3 := Lib.hid e3; clear e3
            go_wp2
            go_ret
            exact ⟨ret_bool (by rw [eq_comm, ← Bool.not_eq_true, HA.out]; intro hall; have := hall j hlt _ (List.getElem_mem hlt2); rw [Hbk.out.2 (.inr (.inr E3.out))] at this; cases this), (by with_reducible repeat (first | exact Only.refl _ _ | assumption | refine Only.drewN ?_ _ | refine Only.drew ?_ | refine Only.alloc ?_ _ | refine Only.setCell ?_ (by intro hh; exfalso; simp at hh; try omega) _ | refine Only.trans ?_ (by assumption)))⟩
          have d3 : ((entF x t j)[k].kind == 5) = false := by simp [e3]
          have E3 := Lib.hid e3; clear e3
          go_wp2
          go_roundw
          case rel => exact ⟨k + 1, by omega, by go_num, mem_take_stepF hlt2 Hr2.out (by rw [← Bool.not_eq_true, Hbk.out]; rintro (h9 | h9 | h9); exact E1.out h9; exact E2.out h9; exact E3.out h9), (by with_reducible repeat (first | exact Only.refl _ _ | assumption | refine Only.drewN ?_ _ | refine Only.drew ?_ | refine Only.alloc ?_ _ | refine Only.setCell ?_ (by intro hh; exfalso; simp at hh; try omega) _ | refine Only.trans ?_ (by assumption)))⟩
          case measure => simp [intOf]; omega
        · go_wp2
          go_roundw
          case rel => exact ⟨j + 1, by omega, by go_num, fun k' hk' => by
            by_cases hkj : k' = j
            · subst hkj; have := Hr2.out; rwa [List.take_of_length_le (by omega)] at this
            · exact Hr.out k' (by omega), (hK.trans t4).trans hK2⟩
          case measure => simp [intOf]; omega
    · go_wp2
      go_ret
      exact ⟨ret_bool (by rw [eq_comm, HA.out]; exact fun k hk => Hr.out k (by omega)), (by with_reducible repeat (first | exact Only.refl _ _ | assumption | refine Only.drewN ?_ _ | refine Only.drew ?_ | refine Only.alloc ?_ _ | refine Only.setCell ?_ (by intro hh; exfalso; simp at hh; try omega) _ | refine Only.trans ?_ (by assumption)))⟩
end Go.Proofs.Ytoinaidncncdhaa

namespace Go.Proofs.Ytoinaidncncdhaa
open Go.RowKit
set_option maxRecDepth 10000
/-- one distance is stored -/
theorem tab_set {w : World} {S1 S2 : Value} {b o C B k n : Nat} {d : Int} {t : Table} {f : List Nat} (h : Rp.rep w [S1, S2, .slice (some ⟨b, o, none⟩) n C] t f) (hF : Fresh B w f) (hk : k < t.distances.length) (hd : I64 d) :
    Rp.rep (w.setCell ⟨b, o + k, none⟩ (.int .i64 d)) [S1, S2, .slice (some ⟨b, o, none⟩) n C] (⟨t.tracked, t.patterns, t.distances.set k d⟩ : Table) f ∧ b ∈ f := by
  obtain ⟨u0, u1, u2, f1, f2, f3, hcs, rfl, s1, s2, s3⟩ := h
  cases hcs
  obtain ⟨a7, c7, hv7, I7⟩ := s3.ints
  injection hv7 with e1 e3 e2
  subst e1
  subst e2
  have e3' : n = t.distances.length := by omega
  subst e3'
  obtain ⟨_, _, he, hf3, -⟩ := I7.at_ 0 (by omega)
  injection he with he; injection he with e1 e2; subst e1; subst e2
  have ho : Only [b] w (w.setCell ⟨b, o + k, none⟩ (.int .i64 d)) := (Only.refl _ _).setCell (by simp) _
  have hnd := hF.nd
  subst hf3
  have h1 : ∀ y ∈ f1, y ∉ [b] := fun y hy hm => by
    simp at hm; subst hm
    exact (List.nodup_append.1 hnd).2.2 y hy y (by simp) rfl
  have h2 : ∀ y ∈ f2, y ∉ [b] := fun y hy hm => by
    simp at hm; subst hm
    exact (List.nodup_append.1 (List.nodup_append.1 hnd).2.1).2.2 y hy y (by simp) rfl
  have hs := (I7.set (j := k) hd).rd
  rw [List.length_set] at hs
  exact ⟨⟨_, _, _, f1, f2, [b], rfl, rfl, Rp.only s1 ho h1, Rp.only s2 ho h2, hs⟩, by simp⟩
set_option maxHeartbeats 4000000 in
theorem FnVerification_any (w : World) (v : Value) (l : List UInt8) (fc : List Nat) (h : Rd w v l fc) :
    Calls Try.prog 3 #[v] w fun e w' => e = .returned (.bool true) ∧ Only [] w w' := by
  by_cases hb : 4096 < l.length
  · have hd : decide (4096 < l.length) = true := by simp [hb]
    go_enter Try.func3, Try.ntmps3
    go_wp2_with ((go_at_call 7; (with_reducible refine (big_any v l fc _ h).mono ?_); rintro e w1 ⟨he, t1⟩; rw [hd] at he; subst he))
    go_ret
    exact ⟨rfl, (by with_reducible repeat (first | exact Only.refl _ _ | assumption | refine Only.drewN ?_ _ | refine Only.drew ?_ | refine Only.alloc ?_ _ | refine Only.setCell ?_ (by intro hh; exfalso; simp at hh; try omega) _ | refine Only.trans ?_ (by assumption)))⟩
  have hd : decide (4096 < l.length) = false := by simp [hb]
  have hl : l.length ≤ 4096 := by omega
  have hfc : ∀ b ∈ fc, b < w.heap.size := fun b hb => Rp.lt h b hb
  go_enter Try.func3, Try.ntmps3
  go_upto_region 5 with (first
    | (go_at_call 7; (with_reducible refine (big_any v l fc _ h).mono ?_); rintro e w1 ⟨he, t1⟩; rw [hd] at he; subst he; have k1 : Only [] w w1 := (by with_reducible repeat (first | exact Only.refl _ _ | assumption | refine Only.drewN ?_ _ | refine Only.drew ?_ | refine Only.alloc ?_ _ | refine Only.setCell ?_ (by intro hh; exfalso; simp at hh; try omega) _ | refine Only.trans ?_ (by assumption))))
    | (go_at_call 8; (with_reducible refine (roll_any v l fc 915 _ (Rp.keep h (by with_reducible repeat (first | exact Only.refl _ _ | assumption | refine Only.drewN ?_ _ | refine Only.drew ?_ | refine Only.alloc ?_ _ | refine Only.setCell ?_ (by intro hh; exfalso; simp at hh; try omega) _ | refine Only.trans ?_ (by assumption)))) hl).mono ?_); rintro e w2 ⟨g, rfl, D2, hg, t2⟩; have k2 : Only [] w w2 := (by with_reducible repeat (first | exact Only.refl _ _ | assumption | refine Only.drewN ?_ _ | refine Only.drew ?_ | refine Only.alloc ?_ _ | refine Only.setCell ?_ (by intro hh; exfalso; simp at hh; try omega) _ | refine Only.trans ?_ (by assumption))))
    | (go_at_call 9; (with_reducible refine (w6Puzzle_any g fc l _ D2 hl).mono ?_); rintro e w3 ⟨cs, x, fp, rfl, rP, hv, p3, p5, m1, m3, FP, D3, K3⟩; obtain ⟨v2, rfl, q0, q1, rM⟩ := rP; obtain ⟨A2, C2, _, _, rfl, -, -⟩ := rM.open_)
    | fail "no arm")
  obtain ⟨W3, hW3⟩ : ∃ W3, W3 = w3.alloc (.cells #[.int .i64 x.points, .string x.names, .slice A2 x.moves.length C2] 29) := ⟨_, rfl⟩
  have hP : Blk W3 w3.heap.size [.int .i64 x.points, .string x.names, .slice A2 x.moves.length C2] := by rw [hW3]; exact Blk.new w3 _ _
  have ka : Only [] w3 W3 := by rw [hW3]; exact (Only.refl _ _).alloc _
  have DW := D3.keep ka
  have rP : Rp.rep W3 [.int .i64 x.points, .string x.names, .slice A2 x.moves.length C2] x fp := Rp.keep ⟨_, rfl, q0, q1, rM⟩ ka
  have hgl := DW.lt
  have hgw : w.heap.size ≤ g := by have := k1.size; omega
  have hK3 : Only [] w W3 := ((k2.weaken [g]).trans (K3.trans (ka.weaken [g]))).mono fun b hb hl => by simp at hb; omega
  have hfcg : ∀ b ∈ fc, b < W3.heap.size := fun b hb => by have := hfc b hb; have := hK3.size; omega
  have hPg : ∀ b ∈ fp, b ∉ [g] := fun b hb hm => by have := FP.ge b hb; have := D2.lt; simp at hm; omega
  have hgp : w3.heap.size ∉ [g] := by simp; have := D3.lt; omega
  have x0 := hP.cell 0 rfl
  have x1 := hP.cell 1 rfl
  have x2 := hP.cell 2 rfl
  have kz : Only [] W3 (W3.alloc (.cells #[.slice none 0 0, .slice none 0 0, .slice none 0 0] 33)) := (Only.refl _ _).alloc _
  have xa0 := kz.cell (by simp) x0
  have xa1 := kz.cell (by simp) x1
  have xa2 := kz.cell (by simp) x2
  have Hc := Lib.hid (fun (W : World) (u : Value) (tr : List Int) (ft : List Nat) (hh : Only [g] W3 W) (hu : Rd W u tr ft) (hT : Trk tr) => specBuildDrawn [.int .i64 x.points, .string x.names, .slice A2 x.moves.length C2] x fp u tr ft W (Rp.only rP hh hPg) hu hv p3 p5 hT)
  have hgn : W3.heap.size ∉ [g] := by simp; omega
  have hz3 := hP.lt
  have hg3 := D3.lt
  have hc3 : ([.slice none 0 0, .slice none 0 0, .slice none 0 0] : List Value).length = 3 := rfl
  rw [← hW3]
  clear hW3
  go_cut [5, 6] (fun s5 s6 wx => VT W3 wx g fc l x s5 s6)
  case first =>
    go_region_law (first
      | (go_simp; go_at_call 11; (with_reducible refine (w6Tracked_any g fc l _ (DW.keep (by with_reducible repeat (first | exact Only.refl _ _ | assumption | refine Only.drewN ?_ _ | refine Only.drew ?_ | refine Only.alloc ?_ _ | refine Only.setCell ?_ (by intro hh; exfalso; simp at hh; try omega) _ | refine Only.trans ?_ (by assumption)))) hl).mono ?_); rintro e w5 ⟨u5, tr, f5, rfl, r5, hT, F5, D5, K5⟩; have hTT : Trk tr := hT; have K5w : Only [g] W3 w5 := Only.trans (by with_reducible repeat (first | exact Only.refl _ _ | refine Only.drew ?_ | refine Only.alloc ?_ _)) K5; have x50 := K5w.cell hgp x0; have x51 := K5w.cell hgp x1; have x52 := K5w.cell hgp x2; have kz5 : Only [] w5 (w5.alloc (.cells #[.slice none 0 0, .slice none 0 0, .slice none 0 0] 33)) := (Only.refl _ _).alloc _; have y50 := kz5.cell (by simp) x50; have y51 := kz5.cell (by simp) x51; have y52 := kz5.cell (by simp) x52)
      | (go_simp; go_at_call 10; (with_reducible refine (Hc.out _ _ tr f5 (Only.keepThen K5w (by with_reducible repeat (first | exact Only.refl _ _ | assumption | refine Only.drewN ?_ _ | refine Only.drew ?_ | refine Only.alloc ?_ _ | refine Only.setCell ?_ (by intro hh; exfalso; simp at hh; try omega) _ | refine Only.trans ?_ (by assumption)))) (Rp.keep r5 (by with_reducible repeat (first | exact Only.refl _ _ | assumption | refine Only.drewN ?_ _ | refine Only.drew ?_ | refine Only.alloc ?_ _ | refine Only.setCell ?_ (by intro hh; exfalso; simp at hh; try omega) _ | refine Only.trans ?_ (by assumption)))) hTT).mono ?_); rintro e w6 ⟨A5, C5, A6, C6, A7, C7, t, f6, he6, hbt, hbu, htr, r6, F6, t6⟩; subst he6; have hTt : Trk t.tracked := (by rw [htr]; exact hTT); clear htr hbt; have hz5 := K5.size; have hz6 := t6.size; (try simp at hz5); (try simp at hz6); first
        | (have Z := (((Blk.new W3 [.slice none 0 0, .slice none 0 0, .slice none 0 0] 33).keep ((Only.refl [] _).drew)).only K5 hgn).keep t6; have hgf : W3.heap.size ∉ f6 := (fun hm => by have := F6.ge _ hm; omega); have FF := F6.mono (B' := W3.heap.size) (by (try simp); omega); have g0 := Z.cell 0 rfl; have g1 := Z.cell 1 rfl; have g2 := Z.cell 2 rfl; have p0 := Z.frozen 0; have p1 := Z.frozen 1; have p2 := Z.frozen 2)
        | (have Z := (Blk.new w5 [.slice none 0 0, .slice none 0 0, .slice none 0 0] 33).keep t6; have hgf : w5.heap.size ∉ f6 := (fun hm => by have := F6.ge _ hm; (try simp at this); omega); have FF := F6.mono (B' := W3.heap.size) (by (try simp); omega); have g0 := Z.cell 0 rfl; have g1 := Z.cell 1 rfl; have g2 := Z.cell 2 rfl; have p0 := Z.frozen 0; have p1 := Z.frozen 1; have p2 := Z.frozen 2)
        | (have Z := Blk.new w6 [.slice none 0 0, .slice none 0 0, .slice none 0 0] 33; have hgf : w6.heap.size ∉ f6 := (fun hm => by have := F6.lt _ hm; omega); have rra := Rp.keep r6 ((Only.refl [] w6).alloc (.cells #[.slice none 0 0, .slice none 0 0, .slice none 0 0] 33)); have FF := F6.mono (B' := W3.heap.size) (by (try simp); omega); have g0 := Z.cell 0 rfl; have g1 := Z.cell 1 rfl; have g2 := Z.cell 2 rfl; have p0 := Z.frozen 0; have p1 := Z.frozen 1; have p2 := Z.frozen 2; have FFa := FF.keep ((Only.refl [] w6).alloc (.cells #[.slice none 0 0, .slice none 0 0, .slice none 0 0] 33))))
      | fail "no arm")
    all_goals go_wp2_with fail
    all_goals go_meet
    all_goals have K56 : Only [] w5 w6 := (by with_reducible repeat (first | exact Only.refl _ _ | assumption | refine Only.drew ?_ | refine Only.alloc ?_ _ | refine Only.trans ?_ (by assumption)))
    all_goals have KK6 : Only [g] W3 w6 := Only.keepThen K5w K56
    all_goals have D6 := D5.keep K56
    all_goals first
      | with_reducible exact VT.of2 KK6 r6 FF rfl hbu hTt D6
      | with_reducible exact VT.of Z hc3 (KK6.alloc _) rra FFa hgf (by omega) hbu hTt (D6.keep ((Only.refl [] w6).alloc _)) hgl hfcg
      | with_reducible exact VT.of Z hc3 KK6 r6 FF hgf (by omega) hbu hTt D6 hgl hfcg
  case rest =>
    obtain ⟨W4, hnew⟩ : ∃ W, W = wc := ⟨_, rfl⟩
    subst hnew
    obtain ⟨gb, t, A5, A6, A7, C5, C6, C7, f, hWg, rfl, rfl, hT, rT, FT, hgf, hbu, hTt, D4, K4⟩ := hcut
    have rT0 := rT
    obtain ⟨u0, u1, u2, f1, f2, f3, hcs, hfe, s1, s2, s3⟩ := rT0
    cases hcs
    obtain ⟨a7, c7, hv7, I7⟩ := s3.ints
    injection hv7 with e1 _ e2
    subst e1
    subst e2
    have hln0 := hbu.len
    have hpos0 := hbu.pos
    obtain ⟨b7, o7, rfl, hf3, -⟩ := I7.at_ 0 (by omega)
    have hb7f : b7 ∈ f := by rw [hfe, hf3]; simp
    have Hfe := Lib.hid hfe
    have Hf3 := Lib.hid hf3
    have Hln0 := Lib.hid hln0
    clear hfe hf3 hln0 hpos0
    have kP : Blk W4 w3.heap.size [.int .i64 x.points, .string x.names, .slice A2 x.moves.length C2] := hP.only K4 hgp
    have rP4 : Rp.rep W4 [.int .i64 x.points, .string x.names, .slice A2 x.moves.length C2] x fp := Rp.only rP K4 hPg
    have hnf := hbu.nofaults
    have hadm : admB x t = true := hbu.good.adm hbu.check
    have hln := hbu.len
    have hpos := hbu.pos
    have hsml := hbu.small p5 hTt
    have z0 := kP.cell 0 rfl
    have z1 := kP.cell 1 rfl
    have z2 := kP.cell 2 rfl
    have y0 := hT.cell 0 rfl
    have y1 := hT.cell 1 rfl
    have y2 := hT.cell 2 rfl
    have Hnf := Lib.hid hnf
    have Hadm := Lib.hid hadm
    have Hln := Lib.hid hln
    clear hnf hadm hln xa0 xa1 xa2 x0 x1 x2
    have HcI := Lib.hid (fun (W : World) (hh : Only [] W4 W) => implIsCorrectTable_any [.int .i64 x.points, .string x.names, .slice A2 x.moves.length C2] [.slice A5 t.tracked.length C5, .slice A6 t.patterns.length C6, .slice (some ⟨b7, o7, none⟩) t.distances.length C7] x t fp f W (Rp.keep rP4 hh) (Rp.keep rT hh))
    have HcF := Lib.hid (fun (W : World) (hh : Only [] W4 W) => implTableFaults_any [.int .i64 x.points, .string x.names, .slice A2 x.moves.length C2] [.slice A5 t.tracked.length C5, .slice A6 t.patterns.length C6, .slice (some ⟨b7, o7, none⟩) t.distances.length C7] x t fp f W (Rp.keep rP4 hh) (Rp.keep rT hh))
    have HcA := Lib.hid (fun (W : World) (hh : Only [] W4 W) => implIsAdmissible_any [.int .i64 x.points, .string x.names, .slice A2 x.moves.length C2] [.slice A5 t.tracked.length C5, .slice A6 t.patterns.length C6, .slice (some ⟨b7, o7, none⟩) t.distances.length C7] x t fp f W (Rp.keep rP4 hh) (Rp.keep rT hh))
    go_upto_region 8 with (first
      | (go_at_call 12; (with_reducible refine (HcI.out _ (by with_reducible repeat (first | exact Only.refl _ _ | assumption | refine Only.drewN ?_ _ | refine Only.drew ?_ | refine Only.alloc ?_ _ | refine Only.setCell ?_ (by intro hh; exfalso; simp at hh; try omega) _ | refine Only.trans ?_ (by assumption)))).mono ?_); rintro e w6 ⟨he, t6⟩; rw [Hnf.out] at he; subst he; have z60 := t6.cell (by simp) z0; have z61 := t6.cell (by simp) z1; have z62 := t6.cell (by simp) z2; have y60 := t6.cell (by simp) y0; have y61 := t6.cell (by simp) y1; have y62 := t6.cell (by simp) y2)
      | (go_at_call 13; (with_reducible refine (HcF.out _ (by with_reducible repeat (first | exact Only.refl _ _ | assumption | refine Only.drewN ?_ _ | refine Only.drew ?_ | refine Only.alloc ?_ _ | refine Only.setCell ?_ (by intro hh; exfalso; simp at hh; try omega) _ | refine Only.trans ?_ (by assumption)))).mono ?_); rintro e w7 ⟨u7, f7, rfl, r7, F7, t7⟩; rw [Hnf.out] at r7; obtain ⟨A9, C9, _, _, rfl, -⟩ := r7.open_; have z70 := t7.cell (by simp) z60; have z71 := t7.cell (by simp) z61; have z72 := t7.cell (by simp) z62; have y70 := t7.cell (by simp) y60; have y71 := t7.cell (by simp) y61; have y72 := t7.cell (by simp) y62)
      | (go_at_call 14; (with_reducible refine (HcA.out _ (by with_reducible repeat (first | exact Only.refl _ _ | assumption | refine Only.drewN ?_ _ | refine Only.drew ?_ | refine Only.alloc ?_ _ | refine Only.setCell ?_ (by intro hh; exfalso; simp at hh; try omega) _ | refine Only.trans ?_ (by assumption)))).mono ?_); rintro e w8 ⟨he, t8⟩; rw [Hadm.out] at he; subst he)
      | fail "no arm")
    have K8 : Only [] W4 w8 := (by with_reducible repeat (first | exact Only.refl _ _ | assumption | refine Only.drewN ?_ _ | refine Only.drew ?_ | refine Only.alloc ?_ _ | refine Only.setCell ?_ (by intro hh; exfalso; simp at hh; try omega) _ | refine Only.trans ?_ (by assumption)))
    have hd1 : (1 : Int) ≤ (t.distances.length : Int) := by have := Hln.out; omega
    have hd2 : (t.distances.length : Int) ≤ 1000000 := by have := Hln.out; omega
    have y82 := K8.cell (by simp) y2
    go_upto_region 9 with ((go_at_call 15; (with_reducible refine (below_any g fc l t.distances.length _ (D4.keep (by with_reducible repeat (first | exact Only.refl _ _ | assumption | refine Only.drewN ?_ _ | refine Only.drew ?_ | refine Only.alloc ?_ _ | refine Only.setCell ?_ (by intro hh; exfalso; simp at hh; try omega) _ | refine Only.trans ?_ (by assumption)))) hd1 hd2 hl).mono ?_); rintro e w9 ⟨r, rfl, q1, q2, D9, K9⟩))
    obtain ⟨k, rfl⟩ := Int.eq_ofNat_of_zero_le q1
    have hk : k < t.distances.length := by omega
    clear q1 q2 z60 z61 z62 y60 y61 y62 z70 z71 z72 y70 y71 y72 y82 z0 z1 z2 y0 y1 y2
    have K9w : Only [g] W4 w9 := Only.trans (K8.weaken [g]) K9
    have hgbg : gb ∉ [g] := by simp; omega
    have hfg : ∀ b ∈ f, b ∉ [g] := fun b hb hm => by have := FT.ge b hb; simp at hm; omega
    have hb7g : b7 ∉ [g] := hfg b7 hb7f
    have hb7w : W3.heap.size ≤ b7 := FT.ge b7 hb7f
    have rT9 := Rp.only rT K9w hfg
    have FT9 := FT.only K9w hfg
    have kP9 := kP.only K9w hgp
    have hT9 := hT.only K9w hgbg
    have rP9 := Rp.only rP4 K9w hPg
    have y92 := hT9.cell 2 rfl
    obtain ⟨d0, hd0⟩ : ∃ d0, d0 = t.distances[k] := ⟨_, rfl⟩
    obtain ⟨b8, o8, he8, -, hc9⟩ := (I7.only K9w (fun b hb => hfg b (by rw [Hfe.out]; exact List.mem_append_right _ (List.mem_append_right _ hb)))).at_ k hk
    injection he8 with he8
    injection he8 with e1 e2
    subst e1
    subst e2
    rw [← hd0] at hc9
    have hd0g : t.distances.getD k 0 = d0 := by rw [hd0, List.getD_eq_getElem?_getD, List.getElem?_eq_getElem hk]; rfl
    have hdr := hbu.dep k (by have := Hln.out; omega)
    rw [hd0g] at hdr
    have hd0a : 0 ≤ d0 := hdr.1
    have hd0b : d0 ≤ 25 := by have := hdr.2.1; have := Hln.out; omega
    have hw1 : IntKind.i64.wrap (d0 + 1) = d0 + 1 := by rw [IntKind.wrap_i64]; omega
    have Hd0g := Lib.hid hd0g
    clear hd0 hd0g hdr
    have hkl : (k : Int) < (t.distances.length : Int) := by omega
    have hk0 : (0 : Int) ≤ (k : Int) := by omega
    go_cut [] (fun wx => ∃ d', d' ≠ t.distances.getD k 0 ∧ Rp.rep wx [.slice A5 t.tracked.length C5, .slice A6 t.patterns.length C6, .slice (some ⟨b7, o7, none⟩) t.distances.length C7] (⟨t.tracked, t.patterns, t.distances.set k d'⟩ : Table) f ∧ Dice wx g fc l ∧ Only [g, b7] w9 wx)
    case first =>
      go_region_law (first
        | (go_simp; go_at_call 15; (with_reducible refine (below_any g fc l 3 _ (D9.keep (by with_reducible repeat (first | exact Only.refl _ _ | assumption | refine Only.drewN ?_ _ | refine Only.drew ?_ | refine Only.alloc ?_ _ | refine Only.setCell ?_ (by intro hh; exfalso; simp at hh; try omega) _ | refine Only.trans ?_ (by assumption)))) (by omega) (by omega) hl).mono ?_); rintro e wA ⟨r2, rfl, p1, p2, DA, KA⟩; have KAw : Only [g] w9 wA := Only.trans (by with_reducible repeat (first | exact Only.refl _ _ | refine Only.drew ?_)) KA; have yA := KAw.cell hgbg y92; have hcA := KAw.cell (p := ⟨b7, o7 + k, none⟩) hb7g hc9; have FA := FT9.only KAw hfg; have fzA : wA.frozen? ⟨b7, o7 + k, none⟩ = false := FA.own.frozen hb7f; have hw2 : IntKind.i64.wrap (d0 + 1 + r2) = d0 + 1 + r2 := (by rw [IntKind.wrap_i64]; omega))
        | fail "no arm")
      all_goals go_wp2_with fail
      all_goals go_meet
      all_goals have hsb : Only [b7] wA (wA.setCell ⟨b7, o7 + k, none⟩ (.int .i64 (d0 + 1 + r2))) := (Only.refl _ _).setCell (by simp) _
      all_goals exact ⟨d0 + 1 + r2, by rw [Hd0g.out]; omega, (tab_set (Rp.only rT9 KAw hfg) FA hk (by unfold I64; omega)).1, DA.only hsb (by simp; omega) (fun b hb hm => by have := hfcg b hb; simp at hm; omega), (KAw.mono (fun b hb _ => by simp at hb; simp [hb])).then_ hsb (fun b hb _ => by simp at hb; simp [hb])⟩
    case rest =>
      obtain ⟨W5, hnew⟩ : ∃ W, W = wc := ⟨_, rfl⟩
      subst hnew
      obtain ⟨d', hdn, rT5, D5, K5⟩ := hcut
      have hbad := hbu.changed hk hdn
      have HB := Lib.hid (show decide ((tableFaults x ⟨t.tracked, t.patterns, t.distances.set k d'⟩).length = 0) = false from decide_eq_false hbad)
      clear hbad hdn
      have hgpb : w3.heap.size ∉ [g, b7] := by simp; omega
      have hgbb : gb ∉ [g, b7] := by
        simp only [List.mem_cons, List.not_mem_nil, or_false]
        rintro (hm | hm)
        · omega
        · subst hm; exact hgf hb7f
      have hPb : ∀ b ∈ fp, b ∉ [g, b7] := fun b hb hm => by
        have h1 := hPg b hb
        have h2 := Rp.lt rP b hb
        simp at hm h1; omega
      have kP5 := kP9.only K5 hgpb
      have hT5 := hT9.only K5 hgbb
      have rP5 := Rp.only rP9 K5 hPb
      have m0 := kP5.cell 0 rfl
      have m1' := kP5.cell 1 rfl
      have m2 := kP5.cell 2 rfl
      have n0 := hT5.cell 0 rfl
      have n1 := hT5.cell 1 rfl
      have n2 := hT5.cell 2 rfl
      obtain ⟨_, _, _, g1, g2, g3, hcs5, -, s51, -, -⟩ := id rT5
      cases hcs5
      have HcB := Lib.hid (fun (W : World) (hh : Only [] W5 W) => implIsCorrectTable_any [.int .i64 x.points, .string x.names, .slice A2 x.moves.length C2] [.slice A5 t.tracked.length C5, .slice A6 t.patterns.length C6, .slice (some ⟨b7, o7, none⟩) t.distances.length C7] x ⟨t.tracked, t.patterns, t.distances.set k d'⟩ fp f W (Rp.keep rP5 hh) (Rp.keep rT5 hh))
      have HcT := Lib.hid (fun (W : World) (hh : Only [] W5 W) => specBuildDrawn [.int .i64 x.points, .string x.names, .slice A2 x.moves.length C2] x fp (.slice A5 t.tracked.length C5) t.tracked g1 W (Rp.keep rP5 hh) (Rp.keep s51 hh) hv p3 p5 hTt)
      have hKW5 : Only [] w W5 := ((hK3.then_ K4 (fun b hb hl => by simp at hb; omega)).then_ K9w (fun b hb hl => by simp at hb; omega)).then_ K5 (fun b hb hl => by have := hK3.size; simp at hb; omega)
      go_upto_region 13 with (first
        | (go_at_call 12; (with_reducible refine (HcB.out _ (by with_reducible repeat (first | exact Only.refl _ _ | assumption | refine Only.drewN ?_ _ | refine Only.drew ?_ | refine Only.alloc ?_ _ | refine Only.setCell ?_ (by intro hh; exfalso; simp at hh; try omega) _ | refine Only.trans ?_ (by assumption)))).mono ?_); rintro e wB ⟨he, tB⟩; rw [HB.out] at he; subst he; have m20 := tB.cell (by simp) m0; have m21 := tB.cell (by simp) m1'; have m22 := tB.cell (by simp) m2; have n20 := tB.cell (by simp) n0)
        | (go_at_call 10; (with_reducible refine (HcT.out _ (by with_reducible repeat (first | exact Only.refl _ _ | assumption | refine Only.drewN ?_ _ | refine Only.drew ?_ | refine Only.alloc ?_ _ | refine Only.setCell ?_ (by intro hh; exfalso; simp at hh; try omega) _ | refine Only.trans ?_ (by assumption)))).mono ?_); rintro e wC ⟨B5, E5, B6, E6, B7, E7, t', f', he, hbt', hbu', htr', rU, FU, tC⟩; subst he; clear hbt' htr')
        | fail "no arm")
      have KC : Only [] W5 wC := (by with_reducible repeat (first | exact Only.refl _ _ | assumption | refine Only.drewN ?_ _ | refine Only.drew ?_ | refine Only.alloc ?_ _ | refine Only.setCell ?_ (by intro hh; exfalso; simp at hh; try omega) _ | refine Only.trans ?_ (by assumption)))
      have hpos' := hbu'.pos
      have hln' := hbu'.len
      have hll' := hbu'.ll
      have Hln' := Lib.hid hln'
      clear hln'
      have kU : Only [] wC (wC.alloc (.cells #[.slice B5 t'.tracked.length E5, .slice B6 t'.patterns.length E6, .slice B7 t'.distances.length E7] 33)) := (Only.refl _ _).alloc _
      by_cases h1 : t'.patterns.length = 1
      · have hwn : IntKind.i64.wrap ((t'.patterns.length : Int) - 1) = 0 := by rw [IntKind.wrap_i64]; omega
        have H1 := Lib.hid h1
        clear h1
        go_wp2
        go_ret
        exact ⟨rfl, (hKW5.trans KC).trans kU⟩
      · obtain ⟨n, hn⟩ : ∃ n : Nat, n = t'.patterns.length - 1 := ⟨_, rfl⟩
        have hwn : IntKind.i64.wrap ((t'.patterns.length : Int) - 1) = (n : Int) := by rw [IntKind.wrap_i64]; omega
        have hn1 : 1 ≤ n := by omega
        have hlk := hbu'.lacks (by omega)
        rw [← hn] at hlk
        have HL := Lib.hid (show decide ((tableFaults x ⟨t'.tracked, t'.patterns.take n, t'.distances.take n⟩).length = 0) = false from decide_eq_false hlk)
        have hnz : ((n : Int) == 0) = false := by simp; omega
        have Hn := Lib.hid hn
        clear hlk hn h1
        obtain ⟨_, _, _, y1, y2, y3, hcs6, -, v1, v2, v3⟩ := id rU
        cases hcs6
        obtain ⟨aq, cq, oq, fq, hv2, hfq, S6⟩ := v2.open_
        injection hv2 with e1 _ e2
        subst e1
        subst e2
        obtain ⟨ar, cr, hv3, I8⟩ := v3.ints
        injection hv3 with e1 _ e2
        subst e1
        subst e2
        have hc6 : n ≤ E6 := by have := S6.len; have := Hn.out; omega
        have hc7 : n ≤ E7 := by have := I8.len; have := Hn.out; have := Hln'.out; omega
        have hlt6 : (t'.patterns.take n).length = n := by rw [List.length_take]; have := Hn.out; omega
        have hlt7 : (t'.distances.take n).length = n := by rw [List.length_take]; have := Hn.out; have := Hln'.out; omega
        have q6 := (S6.takeF n).rd
        rw [hlt6] at q6
        have q7 := (I8.take n).rd
        rw [hlt7] at q7
        clear hlt6 hlt7
        have HU : Blk (wC.alloc (.cells #[.slice B5 t'.tracked.length E5, .slice B6 t'.patterns.length E6, .slice B7 t'.distances.length E7] 33)) wC.heap.size [.slice B5 t'.tracked.length E5, .slice B6 t'.patterns.length E6, .slice B7 t'.distances.length E7] := Blk.new wC _ _
        have K6 := KC.trans kU
        have kP6 := kP5.keep K6
        obtain ⟨W6, hW6⟩ : ∃ W6, W6 = wC.alloc (.cells #[.slice B5 t'.tracked.length E5, .slice B6 t'.patterns.length E6, .slice B7 t'.distances.length E7] 33) := ⟨_, rfl⟩
        rw [← hW6] at HU K6 kP6 kU
        have hgu : ∀ z : Nat, z < W5.heap.size → z ∉ [wC.heap.size] := fun z hz hm => by have := KC.size; simp at hm; omega
        have hP5l := kP5.lt
        have a1 := HU.cell 1 rfl
        have b1 := HU.frozen 1
        have k7 : Only [wC.heap.size] W6 (W6.setCell ⟨wC.heap.size, 1, none⟩ (.slice B6 n E6)) := (Only.refl _ _).setCell (by simp) _
        have U1 := HU.set 1 (.slice B6 n E6)
        simp only [List.set] at U1
        have a2 := U1.cell 2 rfl
        have b2 := U1.frozen 2
        have k8 : Only [wC.heap.size] (W6.setCell ⟨wC.heap.size, 1, none⟩ (.slice B6 n E6)) ((W6.setCell ⟨wC.heap.size, 1, none⟩ (.slice B6 n E6)).setCell ⟨wC.heap.size, 2, none⟩ (.slice B7 n E7)) := (Only.refl _ _).setCell (by simp) _
        have U2 := U1.set 2 (.slice B7 n E7)
        simp only [List.set] at U2
        have a3 := U2.cell 0 rfl
        have a4 := U2.cell 1 rfl
        have a5 := U2.cell 2 rfl
        have k68 := k7.trans k8
        have kP8 := kP6.only k68 (hgu _ hP5l)
        have a6 := kP8.cell 0 rfl
        have a7 := kP8.cell 1 rfl
        have a8 := kP8.cell 2 rfl
        have rP8 := Rp.only (Rp.keep rP5 K6) k68 (fun b hb => hgu b (Rp.lt rP5 b hb))
        have hnu : ∀ {α : Type} [Rp α] {c : List Value} {y : α} {z : List Nat}, Rp.rep wC c y z → Rp.rep ((W6.setCell ⟨wC.heap.size, 1, none⟩ (.slice B6 n E6)).setCell ⟨wC.heap.size, 2, none⟩ (.slice B7 n E7)) c y z := fun hr => Rp.only (Rp.keep hr kU) k68 (fun b hb hm => by have := Rp.lt hr b hb; simp at hm; omega)
        have rU8 : Rp.rep ((W6.setCell ⟨wC.heap.size, 1, none⟩ (.slice B6 n E6)).setCell ⟨wC.heap.size, 2, none⟩ (.slice B7 n E7)) [.slice B5 t'.tracked.length E5, .slice B6 n E6, .slice B7 n E7] (⟨t'.tracked, t'.patterns.take n, t'.distances.take n⟩ : Table) _ := ⟨_, _, _, _, _, _, rfl, rfl, hnu v1, hnu q6, hnu q7⟩
        have HcE := Lib.hid (fun (W : World) (hh : Only [] ((W6.setCell ⟨wC.heap.size, 1, none⟩ (.slice B6 n E6)).setCell ⟨wC.heap.size, 2, none⟩ (.slice B7 n E7)) W) => implIsCorrectTable_any [.int .i64 x.points, .string x.names, .slice A2 x.moves.length C2] [.slice B5 t'.tracked.length E5, .slice B6 n E6, .slice B7 n E7] x ⟨t'.tracked, t'.patterns.take n, t'.distances.take n⟩ fp _ W (Rp.keep rP8 hh) (Rp.keep rU8 hh))
        have kEnd : Only [] w ((W6.setCell ⟨wC.heap.size, 1, none⟩ (.slice B6 n E6)).setCell ⟨wC.heap.size, 2, none⟩ (.slice B7 n E7)) := (hKW5.trans K6).then_ k68 (fun b hb hl => by have := hKW5.size; have := KC.size; simp at hb; omega)
        rw [← hW6]
        clear hW6
        have hn0 : (0 : Int) ≤ (n : Int) := by omega
        go_wp2_with (first
          | (go_at_call 12; (with_reducible refine (HcE.out _ (by with_reducible repeat (first | exact Only.refl _ _ | assumption | refine Only.drewN ?_ _ | refine Only.drew ?_ | refine Only.alloc ?_ _ | refine Only.setCell ?_ (by intro hh; exfalso; simp at hh; try omega) _ | refine Only.trans ?_ (by assumption)))).mono ?_); rintro e wE ⟨he, tE⟩; rw [HL.out] at he; subst he; have kE2 : Only [] ((W6.setCell ⟨wC.heap.size, 1, none⟩ (.slice B6 n E6)).setCell ⟨wC.heap.size, 2, none⟩ (.slice B7 n E7)) wE := (by with_reducible repeat (first | exact Only.refl _ _ | assumption | refine Only.drewN ?_ _ | refine Only.drew ?_ | refine Only.alloc ?_ _ | refine Only.setCell ?_ (by intro hh; exfalso; simp at hh; try omega) _ | refine Only.trans ?_ (by assumption))))
          | fail "no arm")
        go_ret
        exact ⟨rfl, kEnd.trans kE2⟩
end Go.Proofs.Ytoinaidncncdhaa
