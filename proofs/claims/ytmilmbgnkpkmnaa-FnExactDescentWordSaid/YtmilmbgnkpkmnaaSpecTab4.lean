/- The reference's table functions: faults, admissible tables, descents. (Written by mkspectab4.py.) -/
import Derived.Test.YtmilmbgnkpkmnaaFault2
namespace Go.Proofs.Ytmilmbgnkpkmnaa
open Go.RowKit
set_option maxRecDepth 10000

theorem fault_lit (w : World) (f : Fault) (hf : I64 f.kind ∧ I64 f.entry ∧ I64 f.letter) (e : TypeId) {g : Nat} (hg : g = w.heap.size) :
    Rd (w.alloc (.cells #[.int .i64 f.kind, .int .i64 f.entry, .int .i64 f.letter] e)) (.slice (some ⟨g, 0, none⟩) 1 1) [f] [g] ∧ Fresh w.heap.size (w.alloc (.cells #[.int .i64 f.kind, .int .i64 f.entry, .int .i64 f.letter] e)) [g] := by
  subst hg
  have hgg : (w.alloc (.cells #[.int .i64 f.kind, .int .i64 f.entry, .int .i64 f.letter] e)).heap[w.heap.size]? = some (.cells #[.int .i64 f.kind, .int .i64 f.entry, .int .i64 f.letter] e (0, 0)) := heap_alloc_new w _
  refine ⟨⟨_, 1, [w.heap.size], [[]], rfl, by simp, ⟨by simp, by simp [maxLen], rfl, fun k hk => ?_, by simp, by simp⟩⟩, by simp, by simp, fun b hb => ?_⟩
  · have : k = 0 := by simpa using hk
    subst this
    refine ⟨w.heap.size, 0, [.int .i64 f.kind, .int .i64 f.entry, .int .i64 f.letter], rfl, rfl, fun j u hu => ?_, rfl, hf, rfl⟩
    rw [cell_of_row _ _ _ _ _ _ hgg]
    simpa using hu
  · simp at hb; subst hb; exact ⟨_, _, hgg⟩
theorem AccK.holdOld {α : Type} [Rp α] {w0 W wx wy : World} {B : Nat} {e : TypeId} {G : List Nat} {v : Value} {l : List α} (h : AccK w0 B e G W wx v l) (ho : Only [] wx wy) {G' : List Nat} (hlt : ∀ b ∈ G', b < B) (hB : B ≤ wx.heap.size) : AccK w0 B e (G ++ G') wy wy v l := by
  obtain ⟨fs, a, b, c, d, f, g⟩ := h
  refine ⟨fs, a.keep ho, b.keep ho, c.trans ho, fun _ _ => rfl, fun x hx => ?_, fun x hx hm => ?_⟩
  · rcases List.mem_append.1 hx with hx | hx
    · exact Nat.lt_of_lt_of_le (f x hx) ho.size
    · exact Nat.lt_of_lt_of_le (Nat.lt_of_lt_of_le (hlt x hx) hB) ho.size
  · rcases List.mem_append.1 hx with hx | hx
    · exact g x hx hm
    · have := (a.ownlt x (by simpa using hm)).1
      have := hlt x hx; omega
theorem AccK.drop {α : Type} [Rp α] {w0 W wx : World} {B : Nat} {e : TypeId} {G G' : List Nat} {v : Value} {l : List α} (h : AccK w0 B e G W wx v l) (hs : ∀ b ∈ G', b ∈ G) : AccK w0 B e G' W wx v l := by
  obtain ⟨fs, a, b, c, d, f, g⟩ := h
  exact ⟨fs, a, b, c, fun x hx => d x (hs x hx), fun x hx => f x (hs x hx), fun x hx => g x (hs x hx)⟩
theorem AccK.blk {α : Type} [Rp α] {w0 W wx : World} {B : Nat} {e : TypeId} {G : List Nat} {v : Value} {l : List α} (h : AccK w0 B e G W wx v l) {g : Nat} {cs : List Value} (hb : Blk W g cs) (hg : g ∈ G) : Blk wx g cs := by
  obtain ⟨fs, _, _, _, d, _⟩ := h
  obtain ⟨t, ht⟩ := hb
  exact ⟨t, by rw [d g hg]; exact ht⟩
theorem rd_at {α : Type} [Rp α] {w : World} {a : Option Addr} {n cap : Nat} {xs : List α} {fp : List Nat} (h : Rd w (.slice a n cap) xs fp) (h0 : 0 < xs.length) : xs.length ≤ cap ∧ cap ≤ maxLen ∧ ∃ b off, a = some ⟨b, off, none⟩ := by
  obtain ⟨a', cap', ob, fps, hv, -, hs⟩ := h.open_
  injection hv with h1 h2 h3
  subst h1; subst h3
  obtain ⟨b, off, _, ha, _⟩ := hs.at_ 0 h0
  exact ⟨hs.len, hs.cap, b, off, ha⟩
theorem tableFaults_len (x : Puzzle) (t : Table) : (tableFaults x t).length ≤ 40 := by
  unfold tableFaults
  split
  · rw [List.length_take]; omega
  · simp
set_option maxHeartbeats 4000000 in
theorem specTableFaults_any (cs ds : List Value) (x : Puzzle) (t : Table) (f1 f2 : List Nat) (w : World) (h : Rp.rep w cs x f1) (h2 : Rp.rep w ds t f2) :
    Calls Try.prog 44 #[.agg cs.toArray, .agg ds.toArray] w fun e w' => ∃ v fp', e = .returned v ∧ Rd w' v (tableFaults x t) fp' ∧ Fresh w.heap.size w' fp' ∧ Only [] w w' := by
  have h0 := h
  have h20 := h2
  obtain ⟨v2, rfl, p0, p1, hm⟩ := h
  obtain ⟨u0, u1, u2, q0, q1, q2, rfl, rfl, r0, r1, r2⟩ := h2
  obtain ⟨A0, C0, rfl, I0⟩ := r0.ints
  obtain ⟨A1, C1, ob, fps, rfl, -, hs⟩ := r1.open_
  obtain ⟨A2, C2, rfl, I2⟩ := r2.ints
  have b1 := hs.bound
  have hB2 := Blk.new_at (w := w.alloc (.cells [.int .i64 x.points, .string x.names, v2].toArray 26)) (g := w.heap.size + 1) (cs := [.slice A0 t.tracked.length C0, .slice A1 t.patterns.length C1, .slice A2 t.distances.length C2]) (t := 42) (by simp)
  have hB1 := Blk.keep (Blk.new_at (w := w) (cs := [.int .i64 x.points, .string x.names, v2]) (t := 26) rfl) ((Only.refl [] _).alloc (.cells [.slice A0 t.tracked.length C0, .slice A1 t.patterns.length C1, .slice A2 t.distances.length C2].toArray 42))
  rcases hc : checkT x t
  · have hf : tableFaults x t = [⟨0, 0, 0⟩] := by unfold tableFaults; rw [hc]; rfl
    have Hf := Lib.hid hf; clear hf
    go_enter Try.func44, Try.ntmps44
    go_wp2_with ((go_at_call 58; (with_reducible refine (l30Checkable_any [.int .i64 x.points, .string x.names, v2] [.slice A0 t.tracked.length C0, .slice A1 t.patterns.length C1, .slice A2 t.distances.length C2] x t _ _ _ (Rp.keep h0 (by with_reducible repeat (first | exact Only.refl _ _ | assumption | refine Only.drewN ?_ _ | refine Only.drew ?_ | refine Only.alloc ?_ _ | refine Only.setCell ?_ (by intro hh; exfalso; simp at hh; try omega) _ | refine Only.trans ?_ (by assumption)))) (Rp.keep h20 (by with_reducible repeat (first | exact Only.refl _ _ | assumption | refine Only.drewN ?_ _ | refine Only.drew ?_ | refine Only.alloc ?_ _ | refine Only.setCell ?_ (by intro hh; exfalso; simp at hh; try omega) _ | refine Only.trans ?_ (by assumption))))).mono ?_); rintro e w1 ⟨he, t1⟩; rw [hc] at he; subst he))
    have hK : Only [] w w1 := (by with_reducible repeat (first | exact Only.refl _ _ | assumption | refine Only.drewN ?_ _ | refine Only.drew ?_ | refine Only.alloc ?_ _ | refine Only.setCell ?_ (by intro hh; exfalso; simp at hh; try omega) _ | refine Only.trans ?_ (by assumption)))
    go_ret
    have hl := fault_lit w1 ⟨0, 0, 0⟩ ⟨(show I64 0 by unfold I64; omega), (show I64 0 by unfold I64; omega), (show I64 0 by unfold I64; omega)⟩ 87 rfl
    exact ⟨_, _, rfl, by rw [Hf.out]; exact hl.1, hl.2.mono hK.size, (by with_reducible repeat (first | exact Only.refl _ _ | assumption | refine Only.drewN ?_ _ | refine Only.drew ?_ | refine Only.alloc ?_ _ | refine Only.setCell ?_ (by intro hh; exfalso; simp at hh; try omega) _ | refine Only.trans ?_ (by assumption)))⟩
  have hx8 := (validPz_facts (checkT_iff.1 hc).1).2.2.1
  have hwn := (wfT_iff.1 (checkT_iff.1 hc).2.1).2.1.2
  go_enter Try.func44, Try.ntmps44
  go_wp2_with ((go_at_call 58; (with_reducible refine (l30Checkable_any [.int .i64 x.points, .string x.names, v2] [.slice A0 t.tracked.length C0, .slice A1 t.patterns.length C1, .slice A2 t.distances.length C2] x t _ _ _ (Rp.keep h0 (by with_reducible repeat (first | exact Only.refl _ _ | assumption | refine Only.drewN ?_ _ | refine Only.drew ?_ | refine Only.alloc ?_ _ | refine Only.setCell ?_ (by intro hh; exfalso; simp at hh; try omega) _ | refine Only.trans ?_ (by assumption)))) (Rp.keep h20 (by with_reducible repeat (first | exact Only.refl _ _ | assumption | refine Only.drewN ?_ _ | refine Only.drew ?_ | refine Only.alloc ?_ _ | refine Only.setCell ?_ (by intro hh; exfalso; simp at hh; try omega) _ | refine Only.trans ?_ (by assumption))))).mono ?_); rintro e w1 ⟨he, t1⟩; rw [hc] at he; subst he; have c1 := hB1.keep t1; have c2 := hB2.keep t1; have hKw : Only [] w w1 := (by with_reducible repeat (first | exact Only.refl _ _ | assumption | refine Only.drewN ?_ _ | refine Only.drew ?_ | refine Only.alloc ?_ _ | refine Only.setCell ?_ (by intro hh; exfalso; simp at hh; try omega) _ | refine Only.trans ?_ (by assumption)))))
  have hR0 : AccK w (w1.heap.size) 87 [w.heap.size, w.heap.size + 1] w1 (w1.alloc (.cells #[] 87)) (.slice (some ⟨w1.heap.size, 0, none⟩) 0 0) ([] : List Fault) :=
    ⟨[], Acc.made _ _ _ rfl (Nat.le_refl _), Fresh.nil _ _, hKw.alloc _, fun b hb => ((Only.refl [] w1).alloc _).block b (by have := c1.lt; have := c2.lt; simp at hb; omega) (by simp), fun b hb => by have := c1.lt; have := c2.lt; simp at hb ⊢; omega, fun b hb hm => by have := c1.lt; have := c2.lt; simp [Value.ownBlock] at hb hm; omega⟩
  have hBK : w.heap.size ≤ w1.heap.size := hKw.size
  go_loopw [5, 6] (fun o i wr => ∃ j : Nat, j ≤ t.patterns.length ∧ i = .int .i64 j ∧ AccK w w1.heap.size 87 [w.heap.size, w.heap.size + 1] w1 wr o (faultsTo x t j) ∧ (faultsTo x t j).length ≤ 60 ∧ w1.heap.size ≤ wr.heap.size)
    (fun _ i _ => t.patterns.length - (intOf i).toNat)
  case atStart => exact ⟨0, Nat.zero_le _, rfl, hR0, by simp [faultsTo], by simp⟩
  case round =>
    clear hR0
    obtain ⟨j, hj, rfl, hR, hl60, hBw⟩ := hrel
    have y0 := hR.cell (c1.cell 0 rfl) (by simp)
    have y1 := hR.cell (c1.cell 1 rfl) (by simp)
    have y2 := hR.cell (c1.cell 2 rfl) (by simp)
    have z0 := hR.cell (c2.cell 0 rfl) (by simp)
    have z1 := hR.cell (c2.cell 1 rfl) (by simp)
    have z2 := hR.cell (c2.cell 2 rfl) (by simp)
    have hKW := hR.only
    obtain ⟨ao, co, ho⟩ := hR.form
    subst ho
    by_cases hlt : j < t.patterns.length
    · by_cases h40 : (faultsTo x t j).length < 40
      · have hel := entF_len x t j
        have hsucc := faultsTo_succ x t j
        have Hsucc := Lib.hid hsucc
        clear hsucc
        go_wp2_with (first | (go_at_call 68; (with_reducible refine (l30Entry_any [.int .i64 x.points, .string x.names, v2] [.slice A0 t.tracked.length C0, .slice A1 t.patterns.length C1, .slice A2 t.distances.length C2] x t j _ _ _ (Rp.keep h0 hKW) (Rp.keep h20 hKW) hc hlt).mono ?_); rintro e w4 ⟨u4, f4, rfl, r4, F4, t4⟩) | (at_builtin; refine wpList_fapp rfl _ _ rfl rfl hR t4 hBK hBw u4 f4 rfl r4 (by omega) ?_; intro v5 w5 hR5 hO5))
        go_roundw
        case rel => exact ⟨j + 1, by omega, by go_num, by rw [Hsucc.out]; exact hR5, by rw [Hsucc.out, List.length_append]; omega, Nat.le_trans hBw (Nat.le_trans t4.size hO5.size)⟩
        case measure => simp [intOf]; omega
      · have hT := Lib.hid (show tableFaults x t = (faultsTo x t j).take 40 by unfold tableFaults; rw [hc]; exact faults_enough hj (by omega))
        by_cases hgt : 40 < (faultsTo x t j).length
        · obtain ⟨fpx, hrx, -⟩ := AccK.rd hR (by decide)
          obtain ⟨hco, hcm, b9, o9, rfl⟩ := rd_at hrx (by omega)
          clear hrx
          unfold maxLen at hcm
          go_wp2
          go_ret
          obtain ⟨fp, hr, hF⟩ := AccK.rd hR (by decide)
          obtain ⟨fp', hr', hs', hn'⟩ := take_rd hr 40 (by omega)
          exact ⟨_, _, rfl, by rw [hT.out]; exact hr', ⟨hn' hF.nd, fun b hb => Nat.le_trans hBK (hF.ge b (hs' b hb)), hF.own.sub hs'⟩, hKW⟩
        · have htl : (faultsTo x t j).take 40 = faultsTo x t j := List.take_of_length_le (by omega)
          have Htl := Lib.hid htl
          clear htl
          go_wp2
          go_ret
          obtain ⟨fp, hr, hF⟩ := AccK.rd hR (by decide)
          exact ⟨_, _, rfl, by rw [hT.out, Htl.out]; exact hr, hF.mono hBK, hKW⟩
    · have hjl : j = t.patterns.length := by omega
      have hT := Lib.hid (show tableFaults x t = (faultsTo x t j).take 40 by unfold tableFaults; rw [hc, hjl]; rfl)
      clear hjl
      by_cases hgt : 40 < (faultsTo x t j).length
      · obtain ⟨fpx, hrx, -⟩ := AccK.rd hR (by decide)
        obtain ⟨hco, hcm, b9, o9, rfl⟩ := rd_at hrx (by omega)
        clear hrx
        unfold maxLen at hcm
        go_wp2
        go_ret
        obtain ⟨fp, hr, hF⟩ := AccK.rd hR (by decide)
        obtain ⟨fp', hr', hs', hn'⟩ := take_rd hr 40 (by omega)
        exact ⟨_, _, rfl, by rw [hT.out]; exact hr', ⟨hn' hF.nd, fun b hb => Nat.le_trans hBK (hF.ge b (hs' b hb)), hF.own.sub hs'⟩, hKW⟩
      · have htl : (faultsTo x t j).take 40 = faultsTo x t j := List.take_of_length_le (by omega)
        have Htl := Lib.hid htl
        clear htl
        go_wp2
        go_ret
        obtain ⟨fp, hr, hF⟩ := AccK.rd hR (by decide)
        exact ⟨_, _, rfl, by rw [hT.out, Htl.out]; exact hr, hF.mono hBK, hKW⟩
set_option maxHeartbeats 1000000 in
theorem specIsCorrectTable_any (cs ds : List Value) (x : Puzzle) (t : Table) (f1 f2 : List Nat) (w : World) (h : Rp.rep w cs x f1) (h2 : Rp.rep w ds t f2) :
    Calls Try.prog 37 #[.agg cs.toArray, .agg ds.toArray] w fun e w' => e = .returned (.bool (decide ((tableFaults x t).length = 0))) ∧ Only [] w w' := by
  have h0 := h
  have h20 := h2
  obtain ⟨v2, rfl, p0, p1, hm⟩ := h
  obtain ⟨u0, u1, u2, q0, q1, q2, rfl, rfl, r0, r1, r2⟩ := h2
  obtain ⟨A0, C0, rfl, I0⟩ := r0.ints
  obtain ⟨A1, C1, ob, fps, rfl, -, hs⟩ := r1.open_
  obtain ⟨A2, C2, rfl, I2⟩ := r2.ints
  have b1 := hs.bound
  have hB2 := Blk.new_at (w := w.alloc (.cells [.int .i64 x.points, .string x.names, v2].toArray 26)) (g := w.heap.size + 1) (cs := [.slice A0 t.tracked.length C0, .slice A1 t.patterns.length C1, .slice A2 t.distances.length C2]) (t := 42) (by simp)
  have hB1 := Blk.keep (Blk.new_at (w := w) (cs := [.int .i64 x.points, .string x.names, v2]) (t := 26) rfl) ((Only.refl [] _).alloc (.cells [.slice A0 t.tracked.length C0, .slice A1 t.patterns.length C1, .slice A2 t.distances.length C2].toArray 42))
  have hq := (Rp.len h0); clear hq
  by_cases hl : (tableFaults x t).length = 0
  · have hd : (((tableFaults x t).length : Int) == 0) = true := by simp [hl]
    have Hl := Lib.hid hl; clear hl
    go_enter Try.func37, Try.ntmps37
    go_wp2_with ((go_at_call 44; (with_reducible refine (specTableFaults_any [.int .i64 x.points, .string x.names, v2] [.slice A0 t.tracked.length C0, .slice A1 t.patterns.length C1, .slice A2 t.distances.length C2] x t _ _ _ (Rp.keep h0 (by with_reducible repeat (first | exact Only.refl _ _ | assumption | refine Only.drewN ?_ _ | refine Only.drew ?_ | refine Only.alloc ?_ _ | refine Only.setCell ?_ (by intro hh; exfalso; simp at hh; try omega) _ | refine Only.trans ?_ (by assumption)))) (Rp.keep h20 (by with_reducible repeat (first | exact Only.refl _ _ | assumption | refine Only.drewN ?_ _ | refine Only.drew ?_ | refine Only.alloc ?_ _ | refine Only.setCell ?_ (by intro hh; exfalso; simp at hh; try omega) _ | refine Only.trans ?_ (by assumption))))).mono ?_); rintro e w1 ⟨u3, f3, rfl, r3, F3, t3⟩; obtain ⟨A3, C3, _, _, rfl, -⟩ := r3.open_))
    go_ret
    exact ⟨ret_bool (by rw [Hl.out]; rfl), (by with_reducible repeat (first | exact Only.refl _ _ | assumption | refine Only.drewN ?_ _ | refine Only.drew ?_ | refine Only.alloc ?_ _ | refine Only.setCell ?_ (by intro hh; exfalso; simp at hh; try omega) _ | refine Only.trans ?_ (by assumption)))⟩
  · have hd : (((tableFaults x t).length : Int) == 0) = false := by rw [beq_eq_false_iff_ne]; omega
    have Hl := Lib.hid hl; clear hl
    go_enter Try.func37, Try.ntmps37
    go_wp2_with ((go_at_call 44; (with_reducible refine (specTableFaults_any [.int .i64 x.points, .string x.names, v2] [.slice A0 t.tracked.length C0, .slice A1 t.patterns.length C1, .slice A2 t.distances.length C2] x t _ _ _ (Rp.keep h0 (by with_reducible repeat (first | exact Only.refl _ _ | assumption | refine Only.drewN ?_ _ | refine Only.drew ?_ | refine Only.alloc ?_ _ | refine Only.setCell ?_ (by intro hh; exfalso; simp at hh; try omega) _ | refine Only.trans ?_ (by assumption)))) (Rp.keep h20 (by with_reducible repeat (first | exact Only.refl _ _ | assumption | refine Only.drewN ?_ _ | refine Only.drew ?_ | refine Only.alloc ?_ _ | refine Only.setCell ?_ (by intro hh; exfalso; simp at hh; try omega) _ | refine Only.trans ?_ (by assumption))))).mono ?_); rintro e w1 ⟨u3, f3, rfl, r3, F3, t3⟩; obtain ⟨A3, C3, _, _, rfl, -⟩ := r3.open_))
    go_ret
    exact ⟨ret_bool (by rw [decide_eq_false Hl.out]), (by with_reducible repeat (first | exact Only.refl _ _ | assumption | refine Only.drewN ?_ _ | refine Only.drew ?_ | refine Only.alloc ?_ _ | refine Only.setCell ?_ (by intro hh; exfalso; simp at hh; try omega) _ | refine Only.trans ?_ (by assumption)))⟩
theorem fault_at {w : World} {a : Option Addr} {cap : Nat} {ys : List Fault} {ob : List Nat} {fps : List (List Nat)} (h : SeqA w a cap ys ob fps) {k : Nat} (hk : k < ys.length) :
    ∃ b off, a = some ⟨b, off, none⟩ ∧ w.cell? ⟨b, off + k * 3, none⟩ = some (.int .i64 ys[k].kind) := by
  obtain ⟨b, off, cs, ha, -, hc, rfl, -, -⟩ := h.at_ k hk
  exact ⟨b, off, ha, hc 0 _ rfl⟩
theorem mem_take_stepF {α : Type} {l : List α} {j : Nat} (h : j < l.length) {P : α → Prop} (h1 : ∀ x ∈ l.take j, P x) (h2 : P l[j]) : ∀ x ∈ l.take (j + 1), P x := by
  rw [take_succ_get l j h]
  intro x hx
  rcases List.mem_append.1 hx with hx | hx
  · exact h1 x hx
  · simp at hx; subst hx; exact h2
theorem admB_iff {x : Puzzle} {t : Table} (hc : checkT x t = true) : admB x t = true ↔ ∀ i, i < t.patterns.length → ∀ f ∈ entF x t i, badK f = false := by
  unfold admB
  rw [hc, Bool.true_and, List.all_eq_true]
  simp
theorem badK_of {f : Fault} : badK f = true ↔ f.kind = 1 ∨ f.kind = 4 ∨ f.kind = 5 := by simp [badK]
set_option maxHeartbeats 4000000 in
theorem specIsAdmissible_any (cs ds : List Value) (x : Puzzle) (t : Table) (f1 f2 : List Nat) (w : World) (h : Rp.rep w cs x f1) (h2 : Rp.rep w ds t f2) :
    Calls Try.prog 35 #[.agg cs.toArray, .agg ds.toArray] w fun e w' => e = .returned (.bool (admB x t)) ∧ Only [] w w' := by
  have h0 := h
  have h20 := h2
  obtain ⟨v2, rfl, p0, p1, hm⟩ := h
  obtain ⟨u0, u1, u2, q0, q1, q2, rfl, rfl, r0, r1, r2⟩ := h2
  obtain ⟨A0, C0, rfl, I0⟩ := r0.ints
  obtain ⟨A1, C1, ob, fps, rfl, -, hs⟩ := r1.open_
  obtain ⟨A2, C2, rfl, I2⟩ := r2.ints
  have b1 := hs.bound
  have hB2 := Blk.new_at (w := w.alloc (.cells [.int .i64 x.points, .string x.names, v2].toArray 26)) (g := w.heap.size + 1) (cs := [.slice A0 t.tracked.length C0, .slice A1 t.patterns.length C1, .slice A2 t.distances.length C2]) (t := 42) (by simp)
  have hB1 := Blk.keep (Blk.new_at (w := w) (cs := [.int .i64 x.points, .string x.names, v2]) (t := 26) rfl) ((Only.refl [] _).alloc (.cells [.slice A0 t.tracked.length C0, .slice A1 t.patterns.length C1, .slice A2 t.distances.length C2].toArray 42))
  rcases hc : checkT x t
  · have hf : admB x t = false := by unfold admB; rw [hc]; rfl
    have Hf := Lib.hid hf; clear hf
    go_enter Try.func35, Try.ntmps35
    go_wp2_with ((go_at_call 58; (with_reducible refine (l30Checkable_any [.int .i64 x.points, .string x.names, v2] [.slice A0 t.tracked.length C0, .slice A1 t.patterns.length C1, .slice A2 t.distances.length C2] x t _ _ _ (Rp.keep h0 (by with_reducible repeat (first | exact Only.refl _ _ | assumption | refine Only.drewN ?_ _ | refine Only.drew ?_ | refine Only.alloc ?_ _ | refine Only.setCell ?_ (by intro hh; exfalso; simp at hh; try omega) _ | refine Only.trans ?_ (by assumption)))) (Rp.keep h20 (by with_reducible repeat (first | exact Only.refl _ _ | assumption | refine Only.drewN ?_ _ | refine Only.drew ?_ | refine Only.alloc ?_ _ | refine Only.setCell ?_ (by intro hh; exfalso; simp at hh; try omega) _ | refine Only.trans ?_ (by assumption))))).mono ?_); rintro e w1 ⟨he, t1⟩; rw [hc] at he; subst he))
    go_ret
    exact ⟨ret_bool Hf.out.symm, (by with_reducible repeat (first | exact Only.refl _ _ | assumption | refine Only.drewN ?_ _ | refine Only.drew ?_ | refine Only.alloc ?_ _ | refine Only.setCell ?_ (by intro hh; exfalso; simp at hh; try omega) _ | refine Only.trans ?_ (by assumption)))⟩
  have HA := Lib.hid (admB_iff hc)
  go_enter Try.func35, Try.ntmps35
  go_wp2_with ((go_at_call 58; (with_reducible refine (l30Checkable_any [.int .i64 x.points, .string x.names, v2] [.slice A0 t.tracked.length C0, .slice A1 t.patterns.length C1, .slice A2 t.distances.length C2] x t _ _ _ (Rp.keep h0 (by with_reducible repeat (first | exact Only.refl _ _ | assumption | refine Only.drewN ?_ _ | refine Only.drew ?_ | refine Only.alloc ?_ _ | refine Only.setCell ?_ (by intro hh; exfalso; simp at hh; try omega) _ | refine Only.trans ?_ (by assumption)))) (Rp.keep h20 (by with_reducible repeat (first | exact Only.refl _ _ | assumption | refine Only.drewN ?_ _ | refine Only.drew ?_ | refine Only.alloc ?_ _ | refine Only.setCell ?_ (by intro hh; exfalso; simp at hh; try omega) _ | refine Only.trans ?_ (by assumption))))).mono ?_); rintro e w1 ⟨he, t1⟩; rw [hc] at he; subst he; have c1 := hB1.keep t1; have c2 := hB2.keep t1; have hKw : Only [] w w1 := (by with_reducible repeat (first | exact Only.refl _ _ | assumption | refine Only.drewN ?_ _ | refine Only.drew ?_ | refine Only.alloc ?_ _ | refine Only.setCell ?_ (by intro hh; exfalso; simp at hh; try omega) _ | refine Only.trans ?_ (by assumption)))))
  go_loopw [5] (fun i wr => ∃ j : Nat, j ≤ t.patterns.length ∧ i = .int .i64 j ∧ (∀ k, k < j → ∀ f ∈ entF x t k, badK f = false) ∧ Only [] w1 wr)
    (fun i _ => t.patterns.length - (intOf i).toNat)
  case atStart => exact ⟨0, Nat.zero_le _, rfl, by intro k hk; omega, Only.refl _ _⟩
  case round =>
    obtain ⟨j, hj, rfl, hr, hK⟩ := hrel
    have Hr := Lib.hid hr; clear hr
    have y0 := (c1.keep hK).cell 0 rfl
    have y1 := (c1.keep hK).cell 1 rfl
    have y2 := (c1.keep hK).cell 2 rfl
    have z0 := (c2.keep hK).cell 0 rfl
    have z1 := (c2.keep hK).cell 1 rfl
    have z2 := (c2.keep hK).cell 2 rfl
    have hKW : Only [] w wr := hKw.trans hK
    by_cases hlt : j < t.patterns.length
    · go_wp2_with ((go_at_call 68; (with_reducible refine (l30Entry_any [.int .i64 x.points, .string x.names, v2] [.slice A0 t.tracked.length C0, .slice A1 t.patterns.length C1, .slice A2 t.distances.length C2] x t j _ _ _ (Rp.keep h0 hKW) (Rp.keep h20 hKW) hc hlt).mono ?_); rintro e w4 ⟨u4, f4, rfl, r4, F4, t4⟩))
      obtain ⟨A4, C4, ob4, fps4, rfl, -, hs4⟩ := r4.open_
      have hb4 := hs4.bound
      go_loopw [7] (fun i2 w2 => ∃ k : Nat, k ≤ (entF x t j).length ∧ i2 = .int .i64 k ∧ (∀ f ∈ (entF x t j).take k, badK f = false) ∧ Only [] w4 w2)
        (fun i2 _ => (entF x t j).length - (intOf i2).toNat)
      case atStart => exact ⟨0, Nat.zero_le _, rfl, by simp, Only.refl _ _⟩
      case round =>
        obtain ⟨k, hk, rfl, hr2, hK2⟩ := hrel
        have Hr2 := Lib.hid hr2; clear hr2
        by_cases hlt2 : k < (entF x t j).length
        · obtain ⟨b9, o9, rfl, hc9⟩ := fault_at hs4 hlt2
          have hcc := hK2.cell (by simp) hc9
          have hbk := badK_of (f := (entF x t j)[k])
          have Hbk := Lib.hid hbk
          clear hbk hc9
          by_cases e1 : (entF x t j)[k].kind = 1
          · have d1 : ((entF x t j)[k].kind == 1) = true := by simp [e1]
            have E1 := Lib.hid e1; clear e1
            go_wp2
            go_ret
            exact ⟨ret_bool (by rw [eq_comm, ← Bool.not_eq_true, HA.out]; intro hall; have := hall j hlt _ (List.getElem_mem hlt2); rw [Hbk.out.2 (.inl E1.out)] at this; cases this), (by with_reducible repeat (first | exact Only.refl _ _ | assumption | refine Only.drewN ?_ _ | refine Only.drew ?_ | refine Only.alloc ?_ _ | refine Only.setCell ?_ (by intro hh; exfalso; simp at hh; try omega) _ | refine Only.trans ?_ (by assumption)))⟩
          have d1 : ((entF x t j)[k].kind == 1) = false := by simp [e1]
          have E1 := Lib.hid e1; clear e1
          by_cases e2 : (entF x t j)[k].kind = 4
          · have d2 : ((entF x t j)[k].kind == 4) = true := by simp [e2]
            have E2 := Lib.hid e2; clear e2
            go_wp2
            go_ret
            exact ⟨ret_bool (by rw [eq_comm, ← Bool.not_eq_true, HA.out]; intro hall; have := hall j hlt _ (List.getElem_mem hlt2); rw [Hbk.out.2 (.inr (.inl E2.out))] at this; cases this), (by with_reducible repeat (first | exact Only.refl _ _ | assumption | refine Only.drewN ?_ _ | refine Only.drew ?_ | refine Only.alloc ?_ _ | refine Only.setCell ?_ (by intro hh; exfalso; simp at hh; try omega) _ | refine Only.trans ?_ (by assumption)))⟩
          have d2 : ((entF x t j)[k].kind == 4) = false := by simp [e2]
          have E2 := Lib.hid e2; clear e2
          by_cases e3 : (entF x t j)[k].kind = 5
          · have d3 : ((entF x t j)[k].kind == 5) = true := by simp [e3]
            have E3 := Lib.hid e3; clear e3
            go_wp2
            go_ret
            exact ⟨ret_bool (by rw [eq_comm, ← Bool.not_eq_true, HA.out]; intro hall; have := hall j hlt _ (List.getElem_mem hlt2); rw [Hbk.out.2 (.inr (.inr E3.out))] at this; cases this), (by with_reducible repeat (first | exact Only.refl _ _ | assumption | refine Only.drewN ?_ _ | refine Only.drew ?_ | refine Only.alloc ?_ _ | refine Only.setCell ?_ (by intro hh; exfalso; simp at hh; try omega) _ | refine Only.trans ?_ (by assumption)))⟩
          have d3 : ((entF x t j)[k].kind == 5) = false := by simp [e3]
          have E3 := Lib.hid e3; clear e3
          go_wp2
          go_roundw
          case rel => exact ⟨k + 1, by omega, by go_num, mem_take_stepF hlt2 Hr2.out (by rw [← Bool.not_eq_true, Hbk.out]; rintro (h9 | h9 | h9); exact E1.out h9; exact E2.out h9; exact E3.out h9), (by with_reducible repeat (first | exact Only.refl _ _ | assumption | refine Only.drewN ?_ _ | refine Only.drew ?_ | refine Only.alloc ?_ _ | refine Only.setCell ?_ (by intro hh; exfalso; simp at hh; try omega) _ | refine Only.trans ?_ (by assumption)))⟩
          case measure => simp [intOf]; omega
        · go_wp2
          go_roundw
          case rel => exact ⟨j + 1, by omega, by go_num, fun k' hk' => by
            by_cases hkj : k' = j
            · subst hkj; have := Hr2.out; rwa [List.take_of_length_le (by omega)] at this
            · exact Hr.out k' (by omega), (by with_reducible repeat (first | exact Only.refl _ _ | assumption | refine Only.drewN ?_ _ | refine Only.drew ?_ | refine Only.alloc ?_ _ | refine Only.setCell ?_ (by intro hh; exfalso; simp at hh; try omega) _ | refine Only.trans ?_ (by assumption)))⟩
          case measure => simp [intOf]; omega
    · go_wp2
      go_ret
      exact ⟨ret_bool (by rw [eq_comm, HA.out]; exact fun k hk => Hr.out k (by omega)), (by with_reducible repeat (first | exact Only.refl _ _ | assumption | refine Only.drewN ?_ _ | refine Only.drew ?_ | refine Only.alloc ?_ _ | refine Only.setCell ?_ (by intro hh; exfalso; simp at hh; try omega) _ | refine Only.trans ?_ (by assumption)))⟩
end Go.Proofs.Ytmilmbgnkpkmnaa
