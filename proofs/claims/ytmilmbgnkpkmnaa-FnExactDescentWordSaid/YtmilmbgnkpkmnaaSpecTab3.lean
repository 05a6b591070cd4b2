/- The reference's tables: where a letter leads, the first letter of a descent. -/
import Derived.Test.YtmilmbgnkpkmnaaSpecTab2
namespace Go.Proofs.Ytmilmbgnkpkmnaa
open Go.RowKit
set_option maxRecDepth 10000

theorem patB_rng {n : Int} {k : Nat} {l : List Int} (h : patB n k l = true) : ∀ y ∈ l, 0 ≤ y ∧ y < n := (patB_iff.1 h).2.1
theorem inc_len_le {n : Int} {l : List Int} (h : trackB n l = true) : (l.length : Int) ≤ n := by
  obtain ⟨h0, h1⟩ := trackB_iff.1 h
  rcases h1.len with h2 | h2 <;> omega
theorem foldl_take_succ {α β : Type} (f : β → α → β) (b : β) (l : List α) (j : Nat) (h : j < l.length) : (l.take (j + 1)).foldl f b = f ((l.take j).foldl f b) l[j] := by
  rw [take_succ_get l j h, List.foldl_append]; rfl
theorem foldl_pat {x : Puzzle} {k : Nat} (hv : validPz x = true) : ∀ (wl : List Int) (l : List Int), patB x.points k l = true → (∀ a ∈ wl, a ∈ ltrs x.moves.length) → patB x.points k (wl.foldl (nxt x) l) = true
  | [], l, h, _ => h
  | a :: wl, l, h, hw => foldl_pat hv wl _ (nxt_pat hv h (hw a (by simp))) fun b hb => hw b (by simp [hb])
theorem validW_ltrs {n : Nat} (hn : n ≤ 8) {wl : List Int} : validW n wl = true ↔ wl.length ≤ 200 ∧ ∀ a ∈ wl, a ∈ ltrs n := by
  unfold validW
  rw [Bool.and_eq_true, decide_eq_true_iff, List.all_eq_true]
  have : ∀ a, okLetter n a = true ↔ a ∈ ltrs n := by
    intro a; rw [okLetter_iff, mem_ltrs]; omega
  simp only [this]
set_option maxHeartbeats 2000000 in
theorem applyLetters_any (cs : List Value) (x : Puzzle) (fp : List Nat) (v u : Value) (l wl : List Int) (f2 f3 : List Nat) (k : Nat) (w : World) (h : Rp.rep w cs x fp) (h2 : Rd w v l f2) (h3 : Rd w u wl f3)
    (hv : validPz x = true) (hl : ∀ a ∈ wl, a ∈ ltrs x.moves.length) (hx : patB x.points k l = true) (hk : k ≤ 1000) (hwl : wl.length ≤ 200) :
    Calls Try.prog 101 #[.agg cs.toArray, v, u] w fun e w' => ∃ v fp', e = .returned v ∧ Rd w' v (wl.foldl (nxt x) l) fp' ∧ Fresh w.heap.size w' fp' ∧ Only [] w w' := by
  have h0 := h
  obtain ⟨v2, rfl, p0, p1, hm⟩ := h
  obtain ⟨A3, C3, rfl, I3⟩ := h3.ints
  have hlk := (patB_iff.1 hx).1
  have Hlk := Lib.hid hlk; clear hlk
  have hB := Blk.new_at (w := w) (cs := [.int .i64 x.points, .string x.names, v2]) (t := 26) rfl
  go_enter Try.func101, Try.ntmps101
  go_wp2_with ((go_at_call 93; (with_reducible refine (copyInts_rd v l _ _ (Rp.keep h2 (by with_reducible repeat (first | exact Only.refl _ _ | assumption | refine Only.drewN ?_ _ | refine Only.drew ?_ | refine Only.alloc ?_ _ | refine Only.setCell ?_ (by intro hh; exfalso; simp at hh; try omega) _ | refine Only.trans ?_ (by assumption)))) (by have := Hlk.out; omega)).mono ?_); rintro e w1 ⟨u1, f1, rfl, r1, F1, t1⟩))
  have hB1 := hB.keep t1
  have hKw : Only [] w w1 := (by with_reducible repeat (first | exact Only.refl _ _ | assumption | refine Only.drewN ?_ _ | refine Only.drew ?_ | refine Only.alloc ?_ _ | refine Only.setCell ?_ (by intro hh; exfalso; simp at hh; try omega) _ | refine Only.trans ?_ (by assumption)))
  have F1' := F1.mono (B' := w.heap.size) (by simp)
  clear hB F1
  go_loopw [7, 8] (fun o i wr => ∃ (j : Nat) (fo : List Nat), j ≤ wl.length ∧ i = .int .i64 j ∧ Rd wr o ((wl.take j).foldl (nxt x) l) fo ∧ Fresh w.heap.size wr fo ∧ Only [] w1 wr)
    (fun _ i _ => wl.length - (intOf i).toNat)
  case atStart => exact ⟨0, _, Nat.zero_le _, rfl, r1, F1', Only.refl _ _⟩
  case round =>
    obtain ⟨j, fo, hj, rfl, hr, hF, hK⟩ := hrel
    have y0 := (hB1.keep hK).cell 0 rfl
    have y1 := (hB1.keep hK).cell 1 rfl
    have y2 := (hB1.keep hK).cell 2 rfl
    have hKz : Only [] w wr := hKw.trans hK
    by_cases hlt : j < wl.length
    · obtain ⟨b, off, rfl, -, hc0⟩ := I3.at_ j hlt
      have hc := hKz.cell (by simp) hc0
      have hp := foldl_pat (k := k) hv (wl.take j) l hx (fun a ha => hl a (List.mem_of_mem_take ha))
      have hla := hl wl[j] (List.getElem_mem _)
      have Hlen := Lib.hid (patB_iff.1 hp).1
      have hs := foldl_take_succ (nxt x) l wl j hlt
      have Hs := Lib.hid hs
      generalize hcur : (wl.take j).foldl (nxt x) l = cur at *
      have Hcur := Lib.hid hcur
      clear hcur hs hc0
      go_wp2
      go_region_held3 (fun w' => Only [] wr w' ∧ w'.cell? ⟨w.heap.size, 0, none⟩ = some (.int .i64 x.points) ∧ w'.cell? ⟨w.heap.size, 1, none⟩ = some (.string x.names) ∧ w'.cell? ⟨w.heap.size, 2, none⟩ = some (v2) ∧ w'.cell? ⟨b, off + j, none⟩ = some (.int .i64 wl[j])) (((refine and_of ?_ (fun h__ => ⟨h__.cell (by simp) y0, h__.cell (by simp) y1, h__.cell (by simp) y2, h__.cell (by simp) hc⟩)); first | exact (Only.refl _ _).drew | exact Only.trans (And.left (by assumption)) (by assumption))) (first | (go_at_call 119; (with_reducible refine (applyLetter_any [.int .i64 x.points, .string x.names, v2] x _ _ cur _ wl[j] _ (Rp.keep h0 (hKz.trans (And.left (by assumption)))) (Rp.keep hr (And.left (by assumption))) hv hla (patB_rng hp) (by have := Hlen.out; omega)).mono ?_); rintro e w4 ⟨u4, f4, rfl, r4, F4, t4⟩; have F4' := F4.mono (hKz.trans (And.left (by assumption))).size) | fail "no arm")
      go_wp2
      go_roundw
      case rel => exact ⟨j + 1, _, by omega, by go_num, by rw [Hs.out]; exact r4, F4', (by with_reducible repeat (first | exact Only.refl _ _ | assumption | refine Only.drewN ?_ _ | refine Only.drew ?_ | refine Only.alloc ?_ _ | refine Only.setCell ?_ (by intro hh; exfalso; simp at hh; try omega) _ | refine Only.trans ?_ (by assumption)))⟩
      case measure => simp [intOf]; omega
    · have hjl : j = wl.length := by omega
      rw [hjl, List.take_length] at hr
      have HR := Lib.hid hr
      clear hjl hr
      go_wp2
      go_ret
      exact ⟨_, _, rfl, HR.out, hF, (by with_reducible repeat (first | exact Only.refl _ _ | assumption | refine Only.drewN ?_ _ | refine Only.drew ?_ | refine Only.alloc ?_ _ | refine Only.setCell ?_ (by intro hh; exfalso; simp at hh; try omega) _ | refine Only.trans ?_ (by assumption)))⟩
theorem specIsValidWord_rd (g : Int) (v : Value) (l : List Int) (fp : List Nat) (w : World) (h : Rd w v l fp) (g0 : 0 ≤ g) (g1 : g ≤ 4611686018427387904) :
    Calls Try.prog 100 #[.int .i64 g, v] w fun e w' => e = .returned (.bool (validW g l)) ∧ Drew w w' := by
  go_enter Try.func100, Try.ntmps100
  go_wp2_with ((go_at_call 118; (with_reducible refine (isWordOf_rd g v l _ _ h g0 g1).mono ?_); rintro e w1 ⟨rfl, n1, rfl⟩))
  go_ret
  exact ⟨rfl, ⟨_, rfl⟩⟩
set_option maxHeartbeats 1000000 in
theorem specPatternAfter_any (cs : List Value) (x : Puzzle) (fp : List Nat) (v u s : Value) (l p wl : List Int) (f2 f3 f4 : List Nat) (w : World) (h : Rp.rep w cs x fp) (h2 : Rd w v l f2) (h3 : Rd w u p f3) (h4 : Rd w s wl f4)
    (hv : validPz x = true) (ht : trackB x.points l = true) (hp : patB x.points l.length p = true) (hl : ∀ a ∈ wl, a ∈ ltrs x.moves.length) (hwl : wl.length ≤ 200) :
    Calls Try.prog 72 #[.agg cs.toArray, v, u, s] w fun e w' => ∃ v fp', e = .returned (.tuple #[v, .bool true]) ∧ Rd w' v (wl.foldl (nxt x) p) fp' ∧ Fresh w.heap.size w' fp' ∧ Only [] w w' := by
  have h0 := h
  obtain ⟨v2, rfl, p0, p1, hm⟩ := h
  obtain ⟨g1, g2, g3, g4⟩ := validPz_facts hv
  obtain ⟨AG, CG, ob, fps, rfl, -, hs⟩ := hm.open_
  have hB := Blk.new_at (w := w) (cs := [.int .i64 x.points, .string x.names, .slice AG x.moves.length CG]) (t := 26) rfl
  have hvw : validW x.moves.length wl = true := (validW_ltrs g3).2 ⟨hwl, hl⟩
  have hll := inc_len_le ht
  go_enter Try.func72, Try.ntmps72
  go_wp2_with (first | (go_at_call 86; (with_reducible refine (specIsPattern_any [.int .i64 x.points, .string x.names, .slice AG x.moves.length CG] x _ _ _ l p _ _ _ (Rp.keep h0 (by with_reducible repeat (first | exact Only.refl _ _ | assumption | refine Only.drewN ?_ _ | refine Only.drew ?_ | refine Only.alloc ?_ _ | refine Only.setCell ?_ (by intro hh; exfalso; simp at hh; try omega) _ | refine Only.trans ?_ (by assumption)))) (Rp.keep h2 (by with_reducible repeat (first | exact Only.refl _ _ | assumption | refine Only.drewN ?_ _ | refine Only.drew ?_ | refine Only.alloc ?_ _ | refine Only.setCell ?_ (by intro hh; exfalso; simp at hh; try omega) _ | refine Only.trans ?_ (by assumption)))) (Rp.keep h3 (by with_reducible repeat (first | exact Only.refl _ _ | assumption | refine Only.drewN ?_ _ | refine Only.drew ?_ | refine Only.alloc ?_ _ | refine Only.setCell ?_ (by intro hh; exfalso; simp at hh; try omega) _ | refine Only.trans ?_ (by assumption))))).mono ?_); rintro e w1 ⟨he, t1⟩; rw [hv, ht, hp] at he; subst he; have y0 := (hB.keep t1).cell 0 rfl; have y1 := (hB.keep t1).cell 1 rfl; have y2 := (hB.keep t1).cell 2 rfl) | (go_at_call 100; (with_reducible refine (specIsValidWord_rd x.moves.length s wl _ _ (Rp.keep h4 (by with_reducible repeat (first | exact Only.refl _ _ | assumption | refine Only.drewN ?_ _ | refine Only.drew ?_ | refine Only.alloc ?_ _ | refine Only.setCell ?_ (by intro hh; exfalso; simp at hh; try omega) _ | refine Only.trans ?_ (by assumption)))) (by omega) (by omega)).mono ?_); rintro e w2 ⟨he, m2, rfl⟩; rw [hvw] at he; subst he) | (go_at_call 101; (with_reducible refine (applyLetters_any [.int .i64 x.points, .string x.names, .slice AG x.moves.length CG] x _ _ _ p wl _ _ l.length _ (Rp.keep h0 (by with_reducible repeat (first | exact Only.refl _ _ | assumption | refine Only.drewN ?_ _ | refine Only.drew ?_ | refine Only.alloc ?_ _ | refine Only.setCell ?_ (by intro hh; exfalso; simp at hh; try omega) _ | refine Only.trans ?_ (by assumption)))) (Rp.keep h3 (by with_reducible repeat (first | exact Only.refl _ _ | assumption | refine Only.drewN ?_ _ | refine Only.drew ?_ | refine Only.alloc ?_ _ | refine Only.setCell ?_ (by intro hh; exfalso; simp at hh; try omega) _ | refine Only.trans ?_ (by assumption)))) (Rp.keep h4 (by with_reducible repeat (first | exact Only.refl _ _ | assumption | refine Only.drewN ?_ _ | refine Only.drew ?_ | refine Only.alloc ?_ _ | refine Only.setCell ?_ (by intro hh; exfalso; simp at hh; try omega) _ | refine Only.trans ?_ (by assumption)))) hv hl hp (by omega) hwl).mono ?_); rintro e w3 ⟨u3, f3', rfl, r3, F3, t3⟩; obtain ⟨A3, C3, rfl, -⟩ := r3.ints))
  have hK : Only [] w w1 := (by with_reducible repeat (first | exact Only.refl _ _ | assumption | refine Only.drewN ?_ _ | refine Only.drew ?_ | refine Only.alloc ?_ _ | refine Only.setCell ?_ (by intro hh; exfalso; simp at hh; try omega) _ | refine Only.trans ?_ (by assumption)))
  refine bodyPost_ret (v := .tuple #[.slice A3 (wl.foldl (nxt x) p).length C3, .bool true]) (by simp [results, Try.results72, go_sem]) rfl ⟨_, _, rfl, r3, F3.mono hK.size, (by with_reducible repeat (first | exact Only.refl _ _ | assumption | refine Only.drewN ?_ _ | refine Only.drew ?_ | refine Only.alloc ?_ _ | refine Only.setCell ?_ (by intro hh; exfalso; simp at hh; try omega) _ | refine Only.trans ?_ (by assumption)))⟩
set_option maxHeartbeats 1000000 in
theorem indexOfList_rd (v u : Value) (l : List (List Int)) (p : List Int) (f1 f2 : List Nat) (w : World) (h : Rd w v l f1) (h2 : Rd w u p f2) :
    Calls Try.prog 59 #[v, u] w fun e w' => e = .returned (.int .i64 (idxL l p)) ∧ Drew w w' := by
  obtain ⟨a, cap, ob, fps, rfl, -, hs⟩ := h.open_
  have hb := hs.bound
  go_enter Try.func59, Try.ntmps59
  go_wp2
  go_loopw [5] (fun i wr => ∃ j : Nat, j ≤ l.length ∧ i = .int .i64 j ∧ (∀ q ∈ l.take j, decide (q = p) = false) ∧ Drew w wr)
    (fun i _ => l.length - (intOf i).toNat)
  case atStart => exact ⟨0, Nat.zero_le _, rfl, by simp, Drew.refl _⟩
  case round =>
    obtain ⟨j, hj, rfl, hr, k, rfl⟩ := hrel
    have Hr := Lib.hid hr; clear hr
    by_cases hlt : j < l.length
    · obtain ⟨b, off, s, rfl, -, hc, hv⟩ := hs.atRow j hlt
      have hdec := eqV_dec l[j] p
      rcases hx : eqV l[j] p
      all_goals rw [hx] at hdec
      all_goals have Hdec := Lib.hid hdec
      all_goals clear hdec
      all_goals go_wp2_with ((go_at_call 71; (with_reducible refine (equalInts_rd s u l[j] p _ _ _ (Rp.keep hv (by with_reducible repeat (first | exact Only.refl _ _ | assumption | refine Only.drewN ?_ _ | refine Only.drew ?_ | refine Only.alloc ?_ _ | refine Only.setCell ?_ (by intro hh; exfalso; simp at hh; try omega) _ | refine Only.trans ?_ (by assumption)))) (Rp.keep h2 (by with_reducible repeat (first | exact Only.refl _ _ | assumption | refine Only.drewN ?_ _ | refine Only.drew ?_ | refine Only.alloc ?_ _ | refine Only.setCell ?_ (by intro hh; exfalso; simp at hh; try omega) _ | refine Only.trans ?_ (by assumption))))).mono ?_); rintro e w1 ⟨he, m1, rfl⟩; rw [hx] at he; subst he))
      · go_roundw
        case rel => exact ⟨j + 1, by omega, by go_num, mem_take_stepR hlt Hr.out Hdec.out.symm, ⟨_, rfl⟩⟩
        case measure => simp [intOf]; omega
      · go_ret
        exact ⟨ret_int (idxF_some hlt Hr.out Hdec.out.symm).symm, ⟨_, rfl⟩⟩
    · go_wp2
      go_ret
      exact ⟨ret_int (idxF_none (by have := Hr.out; rwa [List.take_of_length_le (by omega)] at this)).symm, ⟨_, rfl⟩⟩
set_option maxHeartbeats 1000000 in
theorem l30Next_any (cs ds : List Value) (x : Puzzle) (t : Table) (u : Value) (p : List Int) (lt : Int) (f1 f2 f3 : List Nat) (w : World) (h : Rp.rep w cs x f1) (h2 : Rp.rep w ds t f2) (h3 : Rd w u p f3)
    (hc : checkT x t = true) (hp : patB x.points t.tracked.length p = true) (hl : lt ∈ ltrs x.moves.length) :
    Calls Try.prog 88 #[.agg cs.toArray, .agg ds.toArray, u, .int .i64 lt] w fun e w' => e = .returned (.int .i64 (nextI x t p lt)) ∧ Only [] w w' := by
  have h0 := h
  obtain ⟨hv, hw, ht, hps⟩ := checkT_iff.1 hc
  obtain ⟨v2, rfl, p0, p1, hm⟩ := h
  obtain ⟨u0, u1, u2, q0, q1, q2, rfl, rfl, r0, r1, r2⟩ := h2
  have hB2 := Blk.new_at (w := w.alloc (.cells #[.int .i64 x.points, .string x.names, v2] 26)) (g := w.heap.size + 1) (cs := [u0, u1, u2]) (t := 42) (by simp)
  have hI : I64 lt := by have := mem_ltrs.1 hl; have := (validPz_facts hv).2.2.1; unfold I64; omega
  have HI := Lib.hid hI; clear hI
  go_enter Try.func88, Try.ntmps88
  go_wp2_with (first | (go_at_call 72; (with_reducible refine (specPatternAfter_any [.int .i64 x.points, .string x.names, v2] x _ _ _ _ t.tracked p [lt] _ _ _ _ (Rp.keep h0 (by with_reducible repeat (first | exact Only.refl _ _ | assumption | refine Only.drewN ?_ _ | refine Only.drew ?_ | refine Only.alloc ?_ _ | refine Only.setCell ?_ (by intro hh; exfalso; simp at hh; try omega) _ | refine Only.trans ?_ (by assumption)))) (Rp.keep r0 (by with_reducible repeat (first | exact Only.refl _ _ | assumption | refine Only.drewN ?_ _ | refine Only.drew ?_ | refine Only.alloc ?_ _ | refine Only.setCell ?_ (by intro hh; exfalso; simp at hh; try omega) _ | refine Only.trans ?_ (by assumption)))) (Rp.keep h3 (by with_reducible repeat (first | exact Only.refl _ _ | assumption | refine Only.drewN ?_ _ | refine Only.drew ?_ | refine Only.alloc ?_ _ | refine Only.setCell ?_ (by intro hh; exfalso; simp at hh; try omega) _ | refine Only.trans ?_ (by assumption)))) (one_rd (int_rd _ HI.out) _ 0 (Fresh.nil _ _) (by simp) (Nat.zero_le _)).1 hv ht hp (by intro a ha; simp at ha; subst ha; exact hl) (by simp)).mono ?_); rintro e w1 ⟨u3, f3', rfl, r3, F3, t3⟩; replace r3 : Rd w1 u3 (nxt x p lt) f3' := r3; obtain ⟨A3, C3, rfl, -⟩ := r3.ints; have z1 := (hB2.keep (((Only.refl [] _).alloc _).trans t3)).cell 1 rfl) | (go_at_call 59; (with_reducible refine (indexOfList_rd u1 _ t.patterns (nxt x p lt) _ _ _ (Rp.keep r1 (by with_reducible repeat (first | exact Only.refl _ _ | assumption | refine Only.drewN ?_ _ | refine Only.drew ?_ | refine Only.alloc ?_ _ | refine Only.setCell ?_ (by intro hh; exfalso; simp at hh; try omega) _ | refine Only.trans ?_ (by assumption)))) r3).mono ?_); rintro e w2 ⟨rfl, m2, rfl⟩))
  go_ret
  exact ⟨rfl, (by with_reducible repeat (first | exact Only.refl _ _ | assumption | refine Only.drewN ?_ _ | refine Only.drew ?_ | refine Only.alloc ?_ _ | refine Only.setCell ?_ (by intro hh; exfalso; simp at hh; try omega) _ | refine Only.trans ?_ (by assumption)))⟩
theorem descL_some {x : Puzzle} {t : Table} {p : List Int} {d : Int} {j : Nat} (hj : j < (ltrs x.moves.length).length) (h : ∀ a ∈ (ltrs x.moves.length).take j, leads x t p d a = false) (hp : leads x t p d (ltrs x.moves.length)[j] = true) :
    descL x t p d = (ltrs x.moves.length)[j] := by
  unfold descL
  rw [List.find?_eq_some_iff_getElem.2 ⟨hp, j, hj, rfl, fun i hi => by
    have := h (ltrs x.moves.length)[i] (List.mem_take_iff_getElem.2 ⟨i, by omega, rfl⟩)
    simp [this]⟩]
  rfl
theorem descL_none {x : Puzzle} {t : Table} {p : List Int} {d : Int} (h : ∀ a ∈ ltrs x.moves.length, leads x t p d a = false) : descL x t p d = 0 := by
  unfold descL
  rw [List.find?_eq_none.2 (fun a ha => by simp [h a ha])]
  rfl
theorem nextI_lt (x : Puzzle) (t : Table) (p : List Int) (l : Int) : -1 ≤ nextI x t p l ∧ nextI x t p l < t.patterns.length := idxL_lt
theorem leads_iff {x : Puzzle} {t : Table} {p : List Int} {d l : Int} : leads x t p d l = true ↔ 0 ≤ nextI x t p l ∧ t.distances.getD (nextI x t p l).toNat 0 = d := by simp [leads]
theorem getD_of {l : List Int} {i : Nat} (h : i < l.length) : l.getD i 0 = l[i] := by rw [List.getD_eq_getElem?_getD, List.getElem?_eq_getElem h]; rfl
set_option maxHeartbeats 2000000 in
theorem l30Descent_any (cs ds : List Value) (x : Puzzle) (t : Table) (u : Value) (p : List Int) (d : Int) (f1 f2 f3 : List Nat) (w : World) (h : Rp.rep w cs x f1) (h2 : Rp.rep w ds t f2) (h3 : Rd w u p f3)
    (hc : checkT x t = true) (hp : patB x.points t.tracked.length p = true) :
    Calls Try.prog 60 #[.agg cs.toArray, .agg ds.toArray, u, .int .i64 d] w fun e w' => e = .returned (.int .i64 (descL x t p d)) ∧ Only [] w w' := by
  have h0 := h
  have h20 := h2
  obtain ⟨hv, hw, ht, hps⟩ := checkT_iff.1 hc
  obtain ⟨w1', w2', w3', w4', w5'⟩ := wfT_iff.1 hw
  obtain ⟨v2, rfl, p0, p1, hm⟩ := h
  obtain ⟨u0, u1, u2, q0, q1, q2, rfl, rfl, r0, r1, r2⟩ := h2
  obtain ⟨A2, C2, rfl, I2⟩ := r2.ints
  have hB2 := Blk.new_at (w := w.alloc (.cells #[.int .i64 x.points, .string x.names, v2] 26)) (g := w.heap.size + 1) (cs := [u0, u1, .slice A2 t.distances.length C2]) (t := 42) (by simp)
  have hB1 := Blk.keep (Blk.new_at (w := w) (cs := [.int .i64 x.points, .string x.names, v2]) (t := 26) rfl) ((Only.refl [] _).alloc (.cells #[u0, u1, .slice A2 t.distances.length C2] 42))
  have W4 := Lib.hid w3'
  clear w2' w3'
  go_enter Try.func60, Try.ntmps60
  go_wp2_with ((go_at_call 87; (with_reducible refine (specLetters_any [.int .i64 x.points, .string x.names, v2] x _ _ (Rp.keep h0 (by with_reducible repeat (first | exact Only.refl _ _ | assumption | refine Only.drewN ?_ _ | refine Only.drew ?_ | refine Only.alloc ?_ _ | refine Only.setCell ?_ (by intro hh; exfalso; simp at hh; try omega) _ | refine Only.trans ?_ (by assumption)))) hv).mono ?_); rintro e w1 ⟨u3, f3', rfl, r3, F3, t3⟩))
  obtain ⟨A3, C3, rfl, I3⟩ := r3.ints
  have hKw : Only [] w w1 := (by with_reducible repeat (first | exact Only.refl _ _ | assumption | refine Only.drewN ?_ _ | refine Only.drew ?_ | refine Only.alloc ?_ _ | refine Only.setCell ?_ (by intro hh; exfalso; simp at hh; try omega) _ | refine Only.trans ?_ (by assumption)))
  have c1 := hB1.keep t3
  have c2 := hB2.keep t3
  have hb3 := I3.bound
  clear hB1 hB2 F3
  go_loopw [10] (fun i wr => ∃ j : Nat, j ≤ (ltrs x.moves.length).length ∧ i = .int .i64 j ∧ (∀ a ∈ (ltrs x.moves.length).take j, leads x t p d a = false) ∧ Only [] w1 wr)
    (fun i _ => (ltrs x.moves.length).length - (intOf i).toNat)
  case atStart => exact ⟨0, Nat.zero_le _, rfl, by simp, Only.refl _ _⟩
  case round =>
    obtain ⟨j, hj, rfl, hr, hK⟩ := hrel
    have Hr := Lib.hid hr; clear hr
    have y0 := (c1.keep hK).cell 0 rfl
    have y1 := (c1.keep hK).cell 1 rfl
    have y2 := (c1.keep hK).cell 2 rfl
    have z0 := (c2.keep hK).cell 0 rfl
    have z1 := (c2.keep hK).cell 1 rfl
    have z2 := (c2.keep hK).cell 2 rfl
    have hKz : Only [] w wr := hKw.trans hK
    by_cases hlt : j < (ltrs x.moves.length).length
    · obtain ⟨b, off, rfl, -, hc0⟩ := I3.at_ j hlt
      have hcl := hK.cell (by simp) hc0
      have hla := List.getElem_mem hlt
      obtain ⟨hn0, hn1⟩ := nextI_lt x t p (ltrs x.moves.length)[j]
      have HL := Lib.hid (leads_iff (x := x) (t := t) (p := p) (d := d) (l := (ltrs x.moves.length)[j]))
      have hset := mem_take_step hlt (P := fun a => leads x t p d a = false) Hr.out
      have hend := descL_some hlt Hr.out
      have Hset := Lib.hid hset
      have Hend := Lib.hid hend
      clear hset hend hc0
      obtain ⟨n, hn⟩ : ∃ n, n = nextI x t p (ltrs x.moves.length)[j] := ⟨_, rfl⟩
      rw [← hn] at hn0 hn1
      have HN := Lib.hid hn
      clear hn
      by_cases hneg : 0 ≤ n
      · have hd := getD_of (l := t.distances) (i := n.toNat) (by have := W4.out; omega)
        have hlen : n < (t.distances.length : Int) := by have := W4.out; omega
        obtain ⟨b2, off2, rfl, -, hd0⟩ := I2.at_ n.toNat (by omega)
        have hdd := hKz.cell (by simp) hd0
        have Hd := Lib.hid hd
        clear hd hd0
        by_cases hq : t.distances[n.toNat] = d
        · have hqq : (t.distances[n.toNat] == d) = true := by simp [hq]
          have Hq := Lib.hid hq
          clear hq
          go_wp2
          go_region_held3 (fun w' => Only [] wr w' ∧ w'.cell? ⟨w.heap.size, 0, none⟩ = some (.int .i64 x.points) ∧ w'.cell? ⟨w.heap.size, 1, none⟩ = some (.string x.names) ∧ w'.cell? ⟨w.heap.size, 2, none⟩ = some (v2) ∧ w'.cell? ⟨w.heap.size + 1, 0, none⟩ = some (u0) ∧ w'.cell? ⟨w.heap.size + 1, 1, none⟩ = some (u1) ∧ w'.cell? ⟨w.heap.size + 1, 2, none⟩ = some (.slice (some ⟨b2, off2, none⟩) t.distances.length C2) ∧ w'.cell? ⟨b, off + j, none⟩ = some (.int .i64 (ltrs x.moves.length)[j]) ∧ w'.cell? ⟨b2, off2 + n.toNat, none⟩ = some (.int .i64 t.distances[n.toNat])) (((refine and_of ?_ (fun h__ => ⟨h__.cell (by simp) y0, h__.cell (by simp) y1, h__.cell (by simp) y2, h__.cell (by simp) z0, h__.cell (by simp) z1, h__.cell (by simp) z2, h__.cell (by simp) hcl, h__.cell (by simp) hdd⟩)); first | exact (Only.refl _ _).drew | exact Only.trans (And.left (by assumption)) (by assumption))) (first | (go_at_call 88; (with_reducible refine (l30Next_any [.int .i64 x.points, .string x.names, v2] [u0, u1, .slice (some ⟨b2, off2, none⟩) t.distances.length C2] x t _ p (ltrs x.moves.length)[j] _ _ _ _ (Rp.keep h0 (hKz.trans (And.left (by assumption)))) (Rp.keep h20 (hKz.trans (And.left (by assumption)))) (Rp.keep h3 (hKz.trans (And.left (by assumption)))) hc hp hla).mono ?_); rintro e w4 ⟨he, t4⟩; rw [← HN.out] at he; subst he) | fail "no arm")
          go_wp2
          go_ret
          exact ⟨ret_int (Hend.out (HL.out.2 ⟨by rw [← HN.out]; exact hneg, by rw [← HN.out, Hd.out, Hq.out]⟩)).symm, (by with_reducible repeat (first | exact Only.refl _ _ | assumption | refine Only.drewN ?_ _ | refine Only.drew ?_ | refine Only.alloc ?_ _ | refine Only.setCell ?_ (by intro hh; exfalso; simp at hh; try omega) _ | refine Only.trans ?_ (by assumption)))⟩
        · have hqq : (t.distances[n.toNat] == d) = false := by simpa using hq
          have Hq := Lib.hid hq
          clear hq
          go_wp2
          go_region_held3 (fun w' => Only [] wr w' ∧ w'.cell? ⟨w.heap.size, 0, none⟩ = some (.int .i64 x.points) ∧ w'.cell? ⟨w.heap.size, 1, none⟩ = some (.string x.names) ∧ w'.cell? ⟨w.heap.size, 2, none⟩ = some (v2) ∧ w'.cell? ⟨w.heap.size + 1, 0, none⟩ = some (u0) ∧ w'.cell? ⟨w.heap.size + 1, 1, none⟩ = some (u1) ∧ w'.cell? ⟨w.heap.size + 1, 2, none⟩ = some (.slice (some ⟨b2, off2, none⟩) t.distances.length C2) ∧ w'.cell? ⟨b, off + j, none⟩ = some (.int .i64 (ltrs x.moves.length)[j]) ∧ w'.cell? ⟨b2, off2 + n.toNat, none⟩ = some (.int .i64 t.distances[n.toNat])) (((refine and_of ?_ (fun h__ => ⟨h__.cell (by simp) y0, h__.cell (by simp) y1, h__.cell (by simp) y2, h__.cell (by simp) z0, h__.cell (by simp) z1, h__.cell (by simp) z2, h__.cell (by simp) hcl, h__.cell (by simp) hdd⟩)); first | exact (Only.refl _ _).drew | exact Only.trans (And.left (by assumption)) (by assumption))) (first | (go_at_call 88; (with_reducible refine (l30Next_any [.int .i64 x.points, .string x.names, v2] [u0, u1, .slice (some ⟨b2, off2, none⟩) t.distances.length C2] x t _ p (ltrs x.moves.length)[j] _ _ _ _ (Rp.keep h0 (hKz.trans (And.left (by assumption)))) (Rp.keep h20 (hKz.trans (And.left (by assumption)))) (Rp.keep h3 (hKz.trans (And.left (by assumption)))) hc hp hla).mono ?_); rintro e w4 ⟨he, t4⟩; rw [← HN.out] at he; subst he) | fail "no arm")
          go_wp2
          go_roundw
          case rel => exact ⟨j + 1, by omega, by go_num, Hset.out (by rw [← Bool.not_eq_true, HL.out]; rintro ⟨-, h9⟩; rw [← HN.out, Hd.out] at h9; exact Hq.out h9), (by with_reducible repeat (first | exact Only.refl _ _ | assumption | refine Only.drewN ?_ _ | refine Only.drew ?_ | refine Only.alloc ?_ _ | refine Only.setCell ?_ (by intro hh; exfalso; simp at hh; try omega) _ | refine Only.trans ?_ (by assumption)))⟩
          case measure => simp [intOf]; omega
      · go_wp2
        go_region_held3 (fun w' => Only [] wr w' ∧ w'.cell? ⟨w.heap.size, 0, none⟩ = some (.int .i64 x.points) ∧ w'.cell? ⟨w.heap.size, 1, none⟩ = some (.string x.names) ∧ w'.cell? ⟨w.heap.size, 2, none⟩ = some (v2) ∧ w'.cell? ⟨w.heap.size + 1, 0, none⟩ = some (u0) ∧ w'.cell? ⟨w.heap.size + 1, 1, none⟩ = some (u1) ∧ w'.cell? ⟨w.heap.size + 1, 2, none⟩ = some (.slice A2 t.distances.length C2) ∧ w'.cell? ⟨b, off + j, none⟩ = some (.int .i64 (ltrs x.moves.length)[j])) (((refine and_of ?_ (fun h__ => ⟨h__.cell (by simp) y0, h__.cell (by simp) y1, h__.cell (by simp) y2, h__.cell (by simp) z0, h__.cell (by simp) z1, h__.cell (by simp) z2, h__.cell (by simp) hcl⟩)); first | exact (Only.refl _ _).drew | exact Only.trans (And.left (by assumption)) (by assumption))) (first | (go_at_call 88; (with_reducible refine (l30Next_any [.int .i64 x.points, .string x.names, v2] [u0, u1, .slice A2 t.distances.length C2] x t _ p (ltrs x.moves.length)[j] _ _ _ _ (Rp.keep h0 (hKz.trans (And.left (by assumption)))) (Rp.keep h20 (hKz.trans (And.left (by assumption)))) (Rp.keep h3 (hKz.trans (And.left (by assumption)))) hc hp hla).mono ?_); rintro e w4 ⟨he, t4⟩; rw [← HN.out] at he; subst he) | fail "no arm")
        go_wp2
        go_roundw
        case rel => exact ⟨j + 1, by omega, by go_num, Hset.out (by rw [← Bool.not_eq_true, HL.out]; rintro ⟨h9, -⟩; rw [← HN.out] at h9; omega), (by with_reducible repeat (first | exact Only.refl _ _ | assumption | refine Only.drewN ?_ _ | refine Only.drew ?_ | refine Only.alloc ?_ _ | refine Only.setCell ?_ (by intro hh; exfalso; simp at hh; try omega) _ | refine Only.trans ?_ (by assumption)))⟩
        case measure => simp [intOf]; omega
    · go_wp2
      go_ret
      exact ⟨ret_int (descL_none (by have := Hr.out; rwa [List.take_of_length_le (by omega)] at this)).symm, (by with_reducible repeat (first | exact Only.refl _ _ | assumption | refine Only.drewN ?_ _ | refine Only.drew ?_ | refine Only.alloc ?_ _ | refine Only.setCell ?_ (by intro hh; exfalso; simp at hh; try omega) _ | refine Only.trans ?_ (by assumption)))⟩
end Go.Proofs.Ytmilmbgnkpkmnaa
