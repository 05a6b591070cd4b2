/- The reference's tables: where a letter leads, the first letter of a descent. Fill jobs, the reference: an expansion (under way). Fill jobs, the reference: one step. (Printed by mkfillspec5.py.) Fill jobs in plain words: where the reference's replay of a job stops. -/
import Derived.Test.YtkhdmiemfpelcaaGreatRowCrashFillG9
import Derived.Test.YtkhdmiemfpelcaaGreatRowCrashFillG12
import Derived.Test.YtkhdmiemfpelcaaGreatRowCrashFillG13
import Derived.Test.YtkhdmiemfpelcaaGreatRowCrashFillG10
import Derived.Test.YtkhdmiemfpelcaaGreatRowCrashFillG11
import Derived.Deep.DeepCutAuto
namespace Go.Proofs.YtkhdmiemfpelcaaGreat
open Go.RowKit
set_option maxRecDepth 10000

theorem patB_rng {n : Int} {k : Nat} {l : List Int} (h : patB n k l = true) : ∀ y ∈ l, 0 ≤ y ∧ y < n := (patB_iff.1 h).2.1
theorem inc_len_le {n : Int} {l : List Int} (h : trackB n l = true) : (l.length : Int) ≤ n := by
  obtain ⟨h0, h1⟩ := trackB_iff.1 h
  rcases h1.len with h2 | h2 <;> omega
theorem foldl_take_succ {α β : Type} (f : β → α → β) (b : β) (l : List α) (j : Nat) (h : j < l.length) : (l.take (j + 1)).foldl f b = f ((l.take j).foldl f b) l[j] := by
  rw [take_succ_get l j h, List.foldl_append]; rfl
theorem foldl_pat {x : Puzzle} {k : Nat} (hv : validPz x = true) : ∀ (wl : List Int) (l : List Int), patB x.points k l = true → (∀ a ∈ wl, a ∈ ltrs x.moves.length) → patB x.points k (wl.foldl (nxt x) l) = true
  | [], l, h, _ => h
  | a :: wl, l, h, hw => foldl_pat hv wl _ (nxt_pat hv h (hw a (by simp))) fun b hb => hw b (by simp [hb])
theorem validW_ltrsI {n : Nat} (hn : n ≤ 8) {wl : List Int} : validW n wl = true ↔ wl.length ≤ 200 ∧ ∀ a ∈ wl, a ∈ ltrs n := by
  unfold validW
  rw [Bool.and_eq_true, decide_eq_true_iff, List.all_eq_true]
  have : ∀ a, okLetter n a = true ↔ a ∈ ltrs n := by
    intro a; rw [okLetter_iff, mem_ltrs]; omega
  simp only [this]
set_option maxHeartbeats 2000000 in
theorem applyLetters_any (cs : List Value) (x : Puzzle) (fp : List Nat) (v u : Value) (l wl : List Int) (f2 f3 : List Nat) (k : Nat) (w : World) (h : Rp.rep w cs x fp) (h2 : Rd w v l f2) (h3 : Rd w u wl f3)
    (hv : validPz x = true) (hl : ∀ a ∈ wl, a ∈ ltrs x.moves.length) (hx : patB x.points k l = true) (hk : k ≤ 1000) (hwl : wl.length ≤ 200) :
    Calls Tryz.prog 73 #[.agg cs.toArray, v, u] w fun e w' => ∃ v fp', e = .returned v ∧ Rd w' v (wl.foldl (nxt x) l) fp' ∧ Fresh w.heap.size w' fp' ∧ Only [] w w' := by
  have h0 := h
  obtain ⟨v2, rfl, p0, p1, hm⟩ := h
  obtain ⟨A3, C3, rfl, I3⟩ := h3.ints
  have hlk := (patB_iff.1 hx).1
  have Hlk := Lib.hid hlk; clear hlk
  have hB := Blk.new_at (w := w) (cs := [.int .i64 x.points, .string x.names, v2]) (t := 37) rfl
  go_enter Tryz.func73, Tryz.ntmps73
  go_wp2_with ((go_at_call 36; (with_reducible refine (copyInts_rd v l _ _ (Rp.keep h2 (by with_reducible repeat (first | exact Only.refl _ _ | assumption | refine Only.drewN ?_ _ | refine Only.drew ?_ | refine Only.alloc ?_ _ | refine Only.setCell ?_ (by intro hh; exfalso; simp at hh; try omega) _ | refine Only.trans ?_ (by assumption)))) (by have := Hlk.out; omega)).mono ?_); rintro e w1 ⟨u1, f1, rfl, r1, F1, t1⟩))
  have hB1 := hB.keep t1
  have hKw : Only [] w w1 := (by with_reducible repeat (first | exact Only.refl _ _ | assumption | refine Only.drewN ?_ _ | refine Only.drew ?_ | refine Only.alloc ?_ _ | refine Only.setCell ?_ (by intro hh; exfalso; simp at hh; try omega) _ | refine Only.trans ?_ (by assumption)))
  have F1' := F1.mono (B' := w.heap.size) (by simp)
  clear hB F1
  go_loopw [7, 8] (fun o i wr => ∃ (j : Nat) (fo : List Nat), j ≤ wl.length ∧ i = .int .i64 j ∧ Rd wr o ((wl.take j).foldl (nxt x) l) fo ∧ Fresh w.heap.size wr fo ∧ Only [] w1 wr)
    (fun _ i _ => wl.length - (intOf i).toNat)
  case atStart => exact ⟨0, _, Nat.zero_le _, rfl, r1, F1', Only.refl _ _⟩
  case round =>
    obtain ⟨j, fo, hj, rfl, hr, hF, hK⟩ := hrel
    have y0 := (hB1.keep hK).cell 0 rfl
    have y1 := (hB1.keep hK).cell 1 rfl
    have y2 := (hB1.keep hK).cell 2 rfl
    have hKz : Only [] w wr := hKw.trans hK
    by_cases hlt : j < wl.length
    · obtain ⟨b, off, rfl, -, hc0⟩ := I3.at_ j hlt
      have hc := hKz.cell (by simp) hc0
      have hp := foldl_pat (k := k) hv (wl.take j) l hx (fun a ha => hl a (List.mem_of_mem_take ha))
      have hla := hl wl[j] (List.getElem_mem _)
      have Hlen := Lib.hid (patB_iff.1 hp).1
      have hs := foldl_take_succ (nxt x) l wl j hlt
      have Hs := Lib.hid hs
      generalize hcur : (wl.take j).foldl (nxt x) l = cur at *
      have Hcur := Lib.hid hcur
      clear hcur hs hc0
      go_wp2
      go_region_held3 (fun w' => Only [] wr w' ∧ w'.cell? ⟨w.heap.size, 0, none⟩ = some (.int .i64 x.points) ∧ w'.cell? ⟨w.heap.size, 1, none⟩ = some (.string x.names) ∧ w'.cell? ⟨w.heap.size, 2, none⟩ = some (v2) ∧ w'.cell? ⟨b, off + j, none⟩ = some (.int .i64 wl[j])) (((refine and_of ?_ (fun h__ => ⟨h__.cell (by simp) y0, h__.cell (by simp) y1, h__.cell (by simp) y2, h__.cell (by simp) hc⟩)); first | exact (Only.refl _ _).drew | exact ((Only.refl _ _).drewN _).drew | exact Only.trans (And.left (by assumption)) (by assumption) | exact Only.alloc (And.left (by assumption)) _ | assumption)) (first | (go_at_call 89; (with_reducible refine (applyLetter_any [.int .i64 x.points, .string x.names, v2] x _ _ cur _ wl[j] _ (Rp.keep h0 (hKz.trans (And.left (by assumption)))) (Rp.keep hr (And.left (by assumption))) hv hla (patB_rng hp) (by have := Hlen.out; omega)).mono ?_); rintro e w4 ⟨u4, f4, rfl, r4, F4, t4⟩; have F4' := F4.mono (hKz.trans (And.left (by assumption))).size) | fail "no arm")
      go_wp2
      go_roundw
      case rel => exact ⟨j + 1, _, by omega, by go_num, by rw [Hs.out]; exact r4, F4', (by with_reducible repeat (first | exact Only.refl _ _ | assumption | refine Only.drewN ?_ _ | refine Only.drew ?_ | refine Only.alloc ?_ _ | refine Only.setCell ?_ (by intro hh; exfalso; simp at hh; try omega) _ | refine Only.trans ?_ (by assumption)))⟩
      case measure => simp [intOf]; omega
    · have hjl : j = wl.length := by omega
      rw [hjl, List.take_length] at hr
      have HR := Lib.hid hr
      clear hjl hr
      go_wp2
      go_ret
      exact ⟨_, _, rfl, HR.out, hF, (by with_reducible repeat (first | exact Only.refl _ _ | assumption | refine Only.drewN ?_ _ | refine Only.drew ?_ | refine Only.alloc ?_ _ | refine Only.setCell ?_ (by intro hh; exfalso; simp at hh; try omega) _ | refine Only.trans ?_ (by assumption)))⟩
theorem specIsValidWord_rd (g : Int) (v : Value) (l : List Int) (fp : List Nat) (w : World) (h : Rd w v l fp) (g0 : 0 ≤ g) (g1 : g ≤ 4611686018427387904) :
    Calls Tryz.prog 72 #[.int .i64 g, v] w fun e w' => e = .returned (.bool (validW g l)) ∧ Drew w w' := by
  go_enter Tryz.func72, Tryz.ntmps72
  go_wp2_with ((go_at_call 88; (with_reducible refine (isWordOf_rd g v l _ _ h g0 g1).mono ?_); rintro e w1 ⟨rfl, n1, rfl⟩))
  go_ret
  exact ⟨rfl, ⟨_, rfl⟩⟩
set_option maxHeartbeats 1000000 in
theorem specPatternAfter_any (cs : List Value) (x : Puzzle) (fp : List Nat) (v u s : Value) (l p wl : List Int) (f2 f3 f4 : List Nat) (w : World) (h : Rp.rep w cs x fp) (h2 : Rd w v l f2) (h3 : Rd w u p f3) (h4 : Rd w s wl f4)
    (hv : validPz x = true) (ht : trackB x.points l = true) (hp : patB x.points l.length p = true) (hl : ∀ a ∈ wl, a ∈ ltrs x.moves.length) (hwl : wl.length ≤ 200) :
    Calls Tryz.prog 50 #[.agg cs.toArray, v, u, s] w fun e w' => ∃ v fp', e = .returned (.tuple #[v, .bool true]) ∧ Rd w' v (wl.foldl (nxt x) p) fp' ∧ Fresh w.heap.size w' fp' ∧ Only [] w w' := by
  have h0 := h
  obtain ⟨v2, rfl, p0, p1, hm⟩ := h
  obtain ⟨g1, g2, g3, g4⟩ := validPz_facts hv
  obtain ⟨AG, CG, ob, fps, rfl, -, hs⟩ := hm.open_
  have hB := Blk.new_at (w := w) (cs := [.int .i64 x.points, .string x.names, .slice AG x.moves.length CG]) (t := 37) rfl
  have hvw : validW x.moves.length wl = true := (validW_ltrsI g3).2 ⟨hwl, hl⟩
  have hll := inc_len_le ht
  go_enter Tryz.func50, Tryz.ntmps50
  go_wp2_with (first | (go_at_call 71; (with_reducible refine (specIsPattern_any [.int .i64 x.points, .string x.names, .slice AG x.moves.length CG] x _ _ _ l p _ _ _ (Rp.keep h0 (by with_reducible repeat (first | exact Only.refl _ _ | assumption | refine Only.drewN ?_ _ | refine Only.drew ?_ | refine Only.alloc ?_ _ | refine Only.setCell ?_ (by intro hh; exfalso; simp at hh; try omega) _ | refine Only.trans ?_ (by assumption)))) (Rp.keep h2 (by with_reducible repeat (first | exact Only.refl _ _ | assumption | refine Only.drewN ?_ _ | refine Only.drew ?_ | refine Only.alloc ?_ _ | refine Only.setCell ?_ (by intro hh; exfalso; simp at hh; try omega) _ | refine Only.trans ?_ (by assumption)))) (Rp.keep h3 (by with_reducible repeat (first | exact Only.refl _ _ | assumption | refine Only.drewN ?_ _ | refine Only.drew ?_ | refine Only.alloc ?_ _ | refine Only.setCell ?_ (by intro hh; exfalso; simp at hh; try omega) _ | refine Only.trans ?_ (by assumption))))).mono ?_); rintro e w1 ⟨he, t1⟩; rw [hv, ht, hp] at he; subst he; have y0 := (hB.keep t1).cell 0 rfl; have y1 := (hB.keep t1).cell 1 rfl; have y2 := (hB.keep t1).cell 2 rfl) | (go_at_call 72; (with_reducible refine (specIsValidWord_rd x.moves.length s wl _ _ (Rp.keep h4 (by with_reducible repeat (first | exact Only.refl _ _ | assumption | refine Only.drewN ?_ _ | refine Only.drew ?_ | refine Only.alloc ?_ _ | refine Only.setCell ?_ (by intro hh; exfalso; simp at hh; try omega) _ | refine Only.trans ?_ (by assumption)))) (by omega) (by omega)).mono ?_); rintro e w2 ⟨he, m2, rfl⟩; rw [hvw] at he; subst he) | (go_at_call 73; (with_reducible refine (applyLetters_any [.int .i64 x.points, .string x.names, .slice AG x.moves.length CG] x _ _ _ p wl _ _ l.length _ (Rp.keep h0 (by with_reducible repeat (first | exact Only.refl _ _ | assumption | refine Only.drewN ?_ _ | refine Only.drew ?_ | refine Only.alloc ?_ _ | refine Only.setCell ?_ (by intro hh; exfalso; simp at hh; try omega) _ | refine Only.trans ?_ (by assumption)))) (Rp.keep h3 (by with_reducible repeat (first | exact Only.refl _ _ | assumption | refine Only.drewN ?_ _ | refine Only.drew ?_ | refine Only.alloc ?_ _ | refine Only.setCell ?_ (by intro hh; exfalso; simp at hh; try omega) _ | refine Only.trans ?_ (by assumption)))) (Rp.keep h4 (by with_reducible repeat (first | exact Only.refl _ _ | assumption | refine Only.drewN ?_ _ | refine Only.drew ?_ | refine Only.alloc ?_ _ | refine Only.setCell ?_ (by intro hh; exfalso; simp at hh; try omega) _ | refine Only.trans ?_ (by assumption)))) hv hl hp (by omega) hwl).mono ?_); rintro e w3 ⟨u3, f3', rfl, r3, F3, t3⟩; obtain ⟨A3, C3, rfl, -⟩ := r3.ints))
  have hK : Only [] w w1 := (by with_reducible repeat (first | exact Only.refl _ _ | assumption | refine Only.drewN ?_ _ | refine Only.drew ?_ | refine Only.alloc ?_ _ | refine Only.setCell ?_ (by intro hh; exfalso; simp at hh; try omega) _ | refine Only.trans ?_ (by assumption)))
  refine bodyPost_ret (v := .tuple #[.slice A3 (wl.foldl (nxt x) p).length C3, .bool true]) (by simp [results, Tryz.results50, go_sem]) rfl ⟨_, _, rfl, r3, F3.mono hK.size, (by with_reducible repeat (first | exact Only.refl _ _ | assumption | refine Only.drewN ?_ _ | refine Only.drew ?_ | refine Only.alloc ?_ _ | refine Only.setCell ?_ (by intro hh; exfalso; simp at hh; try omega) _ | refine Only.trans ?_ (by assumption)))⟩
set_option maxHeartbeats 1000000 in
theorem indexOfList_rd (v u : Value) (l : List (List Int)) (p : List Int) (f1 f2 : List Nat) (w : World) (h : Rd w v l f1) (h2 : Rd w u p f2) :
    Calls Tryz.prog 51 #[v, u] w fun e w' => e = .returned (.int .i64 (idxL l p)) ∧ Drew w w' := by
  obtain ⟨a, cap, ob, fps, rfl, -, hs⟩ := h.open_
  have hb := hs.bound
  go_enter Tryz.func51, Tryz.ntmps51
  go_wp2
  go_loopw [5] (fun i wr => ∃ j : Nat, j ≤ l.length ∧ i = .int .i64 j ∧ (∀ q ∈ l.take j, decide (q = p) = false) ∧ Drew w wr)
    (fun i _ => l.length - (intOf i).toNat)
  case atStart => exact ⟨0, Nat.zero_le _, rfl, by simp, Drew.refl _⟩
  case round =>
    obtain ⟨j, hj, rfl, hr, k, rfl⟩ := hrel
    have Hr := Lib.hid hr; clear hr
    by_cases hlt : j < l.length
    · obtain ⟨b, off, s, rfl, -, hc, hv⟩ := hs.atRow j hlt
      have hdec := eqV_dec l[j] p
      rcases hx : eqV l[j] p
      all_goals rw [hx] at hdec
      all_goals have Hdec := Lib.hid hdec
      all_goals clear hdec
      all_goals go_wp2_with ((go_at_call 74; (with_reducible refine (equalInts_rd s u l[j] p _ _ _ (Rp.keep hv (by with_reducible repeat (first | exact Only.refl _ _ | assumption | refine Only.drewN ?_ _ | refine Only.drew ?_ | refine Only.alloc ?_ _ | refine Only.setCell ?_ (by intro hh; exfalso; simp at hh; try omega) _ | refine Only.trans ?_ (by assumption)))) (Rp.keep h2 (by with_reducible repeat (first | exact Only.refl _ _ | assumption | refine Only.drewN ?_ _ | refine Only.drew ?_ | refine Only.alloc ?_ _ | refine Only.setCell ?_ (by intro hh; exfalso; simp at hh; try omega) _ | refine Only.trans ?_ (by assumption))))).mono ?_); rintro e w1 ⟨he, m1, rfl⟩; rw [hx] at he; subst he))
      · go_roundw
        case rel => exact ⟨j + 1, by omega, by go_num, mem_take_stepR hlt Hr.out Hdec.out.symm, ⟨_, rfl⟩⟩
        case measure => simp [intOf]; omega
      · go_ret
        exact ⟨ret_int (idxF_some hlt Hr.out Hdec.out.symm).symm, ⟨_, rfl⟩⟩
    · go_wp2
      go_ret
      exact ⟨ret_int (idxF_none (by have := Hr.out; rwa [List.take_of_length_le (by omega)] at this)).symm, ⟨_, rfl⟩⟩

end Go.Proofs.YtkhdmiemfpelcaaGreat

namespace Go.Proofs.YtkhdmiemfpelcaaGreat
open Go.RowKit
set_option maxRecDepth 10000

theorem addL_take (x : Puzzle) (ps : List (List Int)) (q : List Int) (ls : List Int) (j : Nat) (h : j < ls.length) : addL x ps q (ls.take (j + 1)) [] = (if nxt x q ls[j] ∈ ps ++ addL x ps q (ls.take j) [] then addL x ps q (ls.take j) [] else addL x ps q (ls.take j) [] ++ [nxt x q ls[j]]) := by
  have key : ∀ (l1 : List Int) (l : Int) (a : List (List Int)), addL x ps q (l1 ++ [l]) a = (if nxt x q l ∈ ps ++ addL x ps q l1 a then addL x ps q l1 a else addL x ps q l1 a ++ [nxt x q l]) := by
    intro l1
    induction l1 with
    | nil => intro l a; simp [addL]
    | cons y l1 ih => intro l a; simp only [List.cons_append, addL]; exact ih l _
  rw [take_succ_get ls j h]
  exact key _ _ _
theorem IntsA.drop_ {w : World} {b off cap : Nat} {l : List Int} {fp : List Nat} (h : IntsA w (some ⟨b, off, none⟩) cap l fp) {k : Nat} (hk : k ≤ l.length) : IntsA w (some ⟨b, off + k, none⟩) (cap - k) (l.drop k) fp := by
  have hl := h.len
  have hc := h.cap
  refine ⟨by rw [List.length_drop]; omega, by omega, fun x hx => h.wf x (List.mem_of_mem_drop hx), fun i hi => ?_, h.lt, h.one⟩
  rw [List.length_drop] at hi
  obtain ⟨b', off', ha, hf, hcell⟩ := h.at_ (k + i) (by omega)
  injection ha with ha; injection ha with e1 e2; subst e1; subst e2
  refine ⟨b, off + k, rfl, hf, ?_⟩
  rw [Nat.add_assoc, List.getElem_drop]
  exact hcell
theorem idxL_ge {l : List (List Int)} {p : List Int} (h : p ∈ l) : 0 ≤ idxL l p := by
  unfold idxL idxF
  cases hf : l.findIdx? (fun q => decide (q = p)) with
  | none => rw [List.findIdx?_eq_none_iff] at hf; have := hf p h; simp at this
  | some k => simp
theorem idxL_neg {l : List (List Int)} {p : List Int} (h : p ∉ l) : idxL l p < 0 := by
  rcases Int.lt_or_le (idxL l p) 0 with h1 | h1
  · exact h1
  · exact absurd (idxL_mem h1).1 h
/-- a job that can be expanded -/
structure CanF (x : Puzzle) (j : FillJob) (n : Nat) : Prop where
  vp : validPz x = true
  tr : trackB x.points j.table.tracked = true
  nx : j.next = n
  lt : n < j.table.patterns.length
  ln : j.table.distances.length = j.table.patterns.length
  le : j.table.patterns.length ≤ 3000
  ps : ∀ q ∈ j.table.patterns, patB x.points j.table.tracked.length q = true
  ds : ∀ d ∈ j.table.distances, 0 ≤ d ∧ d ≤ 3000
  lg : j.log.size ≤ 2000000
theorem CanF.mid {x : Puzzle} {j : FillJob} {n : Nat} (h : CanF x j n) : midT j.table := by
  have h1 := (trackB_iff.1 h.tr).2.len
  have h2 := (validPz_facts h.vp).2.1
  have h3 := h.le
  have h4 := h.ln
  refine ⟨by omega, by omega, fun y hy => ?_, by omega⟩
  have := (patB_iff.1 (h.ps y hy)).1
  omega

set_option maxHeartbeats 4000000 in
theorem expand28_raw (cs : List Value) (x : Puzzle) (fp : List Nat) (c1 c2 c3 : Value) (tr : List Int) (ps : List (List Int)) (ds : List Int) (n : Nat) (lg : ByteArray) (sy : Int) (g1 g2 g3 : List Nat) (w : World) (h : Rp.rep w cs x fp)
    (k1 : Rd w c1 tr g1) (k2 : Rd w c2 ps g2) (k3 : Rd w c3 ds g3) (hsy : I64 sy) (hc : CanF x ⟨⟨tr, ps, ds⟩, (n : Int), lg, sy⟩ n) :
    Calls Tryz.prog 33 #[.agg cs.toArray, .agg #[c1, c2, c3, .int .i64 n, .string lg, .int .i64 sy]] w fun e w' => ∃ cs' fp', e = .returned (.agg cs'.toArray) ∧ Rp.rep w' cs' (expandF x ⟨⟨tr, ps, ds⟩, (n : Int), lg, sy⟩) fp' ∧ Fresh w.heap.size w' fp' ∧ Only [] w w' := by
  have hh := h
  obtain ⟨v2, rfl, p0, p1, h2⟩ := h
  obtain ⟨A0, C0, _, _, rfl, -, -⟩ := h2.open_
  have hlt : n < ps.length := hc.lt
  have hle : ps.length ≤ 3000 := hc.le
  have Hln := Lib.hid (show ds.length = ps.length from hc.ln)
  have hlg : lg.size ≤ 2000000 := hc.lg
  have hrep : Rp.rep w [c1, c2, c3, .int .i64 n, .string lg, .int .i64 sy] (⟨⟨tr, ps, ds⟩, (n : Int), lg, sy⟩ : FillJob) (g1 ++ (g2 ++ g3)) :=
    ⟨[c1, c2, c3], rfl, by unfold I64; show -9223372036854775808 ≤ (n : Int) ∧ (n : Int) ≤ 9223372036854775807; omega, by show lg.size ≤ maxLen; unfold maxLen; omega, hsy, ⟨_, _, _, _, _, _, rfl, rfl, k1, k2, k3⟩⟩
  obtain ⟨A1, C1, _, _, rfl, -⟩ := k1.open_
  obtain ⟨A2, C2, ob, fps, rfl, -, S2⟩ := k2.open_
  obtain ⟨A3, C3, rfl, I3⟩ := k3.ints
  obtain ⟨b, off, u, rfl, -, hrow, hu⟩ := S2.atRow n hlt
  obtain ⟨A4, C4, rfl, I4⟩ := hu.ints
  have hM : midT (⟨tr, ps, ds⟩ : Table) := hc.mid
  have HC := Lib.hid hc; clear hc
  have hn1 : (0 : Int) ≤ (n : Int) := by omega
  have hn2 : (n : Int) < (ps.length : Int) := by omega
  have k0 : Only [] w (((w.alloc (.cells #[.int .i64 x.points, .string x.names, .slice A0 x.moves.length C0] 37)).alloc (.cells #[.slice A1 tr.length C1, .slice (some ⟨b, off, none⟩) ps.length C2, .slice A3 ds.length C3, .int .i64 n, .string lg, .int .i64 sy] 34)).alloc (.cells #[.slice none 0 0, .slice none 0 0, .slice none 0 0, .int .i64 0, .string ⟨#[]⟩, .int .i64 0] 34)) := (((Only.refl _ _).alloc _).alloc _).alloc _
  obtain ⟨W0, hW0⟩ : ∃ W0, W0 = (((w.alloc (.cells #[.int .i64 x.points, .string x.names, .slice A0 x.moves.length C0] 37)).alloc (.cells #[.slice A1 tr.length C1, .slice (some ⟨b, off, none⟩) ps.length C2, .slice A3 ds.length C3, .int .i64 n, .string lg, .int .i64 sy] 34)).alloc (.cells #[.slice none 0 0, .slice none 0 0, .slice none 0 0, .int .i64 0, .string ⟨#[]⟩, .int .i64 0] 34)) := ⟨_, rfl⟩
  have B0 : Blk W0 w.heap.size [.int .i64 x.points, .string x.names, .slice A0 x.moves.length C0] := by rw [hW0]; exact Blk.keep (Blk.keep (Blk.new_at rfl) ((Only.refl _ _).alloc _)) ((Only.refl _ _).alloc _)
  have B1 : Blk W0 (w.heap.size + 1) [.slice A1 tr.length C1, .slice (some ⟨b, off, none⟩) ps.length C2, .slice A3 ds.length C3, .int .i64 n, .string lg, .int .i64 sy] := by rw [hW0]; exact Blk.keep (Blk.new_at (by simp)) ((Only.refl _ _).alloc _)
  have B2 : Blk W0 (w.heap.size + 2) [.slice none 0 0, .slice none 0 0, .slice none 0 0, .int .i64 0, .string ⟨#[]⟩, .int .i64 0] := by rw [hW0]; exact Blk.new_at (by simp)
  have hz0 : W0.heap.size = w.heap.size + 3 := by rw [hW0]; simp
  rw [← hW0] at k0
  have HW := Lib.hid hW0; clear hW0
  have hB0 := Lib.hid B0; have hB1 := Lib.hid B1; have hB2 := Lib.hid B2
  clear B0 B1 B2
  go_enter Tryz.func33, Tryz.ntmps33
  go_wp2_with fail
  rw [← HW.out]
  with_reducible refine (copyFillA_any [.slice A1 tr.length C1, .slice (some ⟨b, off, none⟩) ps.length C2, .slice A3 ds.length C3, .int .i64 n, .string lg, .int .i64 sy] (⟨⟨tr, ps, ds⟩, (n : Int), lg, sy⟩ : FillJob) _ _ (Rp.keep hrep k0) hM).mono ?_
  rintro e w1 ⟨o1, o2, o3, f1, fs, rfl, hT, t1⟩
  obtain ⟨D1, E1, _, _, rfl, -⟩ := hT.tk.open_
  obtain ⟨D2, E2, rfl⟩ := hT.pt.form
  obtain ⟨D3, E3, rfl⟩ := hT.dt.form
  have t1s := t1.size
  have B0 := (hB0.out.keep t1).keep ((Only.refl [] w1).alloc (.cells #[.slice D1 tr.length E1, .slice D2 ps.length E2, .slice D3 ds.length E3, .int .i64 n, .string lg, .int .i64 sy] 34))
  have B1 := (hB1.out.keep t1).keep ((Only.refl [] w1).alloc (.cells #[.slice D1 tr.length E1, .slice D2 ps.length E2, .slice D3 ds.length E3, .int .i64 n, .string lg, .int .i64 sy] 34))
  have c10 := B1.cell 0 rfl
  have c11 := B1.cell 1 rfl
  have c13 := B1.cell 3 rfl
  have c00 := B0.cell 0 rfl
  have c01 := B0.cell 1 rfl
  have c02 := B0.cell 2 rfl
  have hrow1 := ((k0.trans t1).trans ((Only.refl [] w1).alloc (.cells #[.slice D1 tr.length E1, .slice D2 ps.length E2, .slice D3 ds.length E3, .int .i64 n, .string lg, .int .i64 sy] 34))).cell (by simp) hrow
  go_wp2_with fail
  have ka1 : Only [] w1 (w1.alloc (.cells #[.slice D1 tr.length E1, .slice D2 ps.length E2, .slice D3 ds.length E3, .int .i64 n, .string lg, .int .i64 sy] 34)) := (Only.refl _ _).alloc _
  have K1 : Only [] w w1 := k0.trans t1
  with_reducible refine (specLetters_any [.int .i64 x.points, .string x.names, .slice A0 x.moves.length C0] x _ _ (Rp.keep hh (K1.trans ka1)) HC.out.vp).mono ?_
  rintro e w2 ⟨u7, f7, rfl, r7, F7, t7⟩
  obtain ⟨ls, hls⟩ : ∃ ls, ls = ltrs x.moves.length := ⟨_, rfl⟩
  rw [← hls] at r7
  have hll : ls.length ≤ 1000 := by rw [hls, ltrs_len]; have := (validPz_facts HC.out.vp).2.2.1; omega
  have hlm : ∀ a ∈ ls, a ∈ ltrs x.moves.length := fun a ha => by rw [← hls]; exact ha
  obtain ⟨A7, C7, rfl, I7⟩ := r7.ints
  have Hls := Lib.hid hls
  have Hlm := Lib.hid hlm
  clear hls hlm
  have q0 : patB x.points tr.length ps[n] = true := HC.out.ps _ (List.getElem_mem hlt)
  obtain ⟨q, hq⟩ : ∃ q, q = ps[n] := ⟨_, rfl⟩
  rw [← hq] at q0 hrow hrow1 hu I4 ⊢
  have Hq := Lib.hid hq
  have Hq0 := Lib.hid q0
  clear hq q0
  have hnd : n < ds.length := by have := Hln.out; omega
  obtain ⟨d0, hd0⟩ : ∃ d0, d0 = ds[n] := ⟨_, rfl⟩
  have hd0r : 0 ≤ d0 ∧ d0 ≤ 3000 := by rw [hd0]; exact HC.out.ds _ (List.getElem_mem hnd)
  obtain ⟨b3, o3, rfl, -, hdc⟩ := I3.at_ n hnd
  rw [← hd0] at hdc
  have Hd0 := Lib.hid hd0
  have hd0a := hd0r.1
  have hd0b := hd0r.2
  have hwd : IntKind.i64.wrap (d0 + 1) = d0 + 1 := by rw [IntKind.wrap_i64]; omega
  clear hd0 hd0r
  obtain ⟨W, hW⟩ : ∃ W, W = w2.alloc (.cells #[] 25) := ⟨_, rfl⟩
  have kW2 : Only [] w2 W := by rw [hW]; exact (Only.refl _ _).alloc _
  have k1W : Only [] w1 W := (ka1.trans t7).trans kW2
  have BO : Blk W w1.heap.size [.slice D1 tr.length E1, .slice D2 ps.length E2, .slice D3 ds.length E3, .int .i64 n, .string lg, .int .i64 sy] := (Blk.keep (Blk.keep (Blk.new w1 [.slice D1 tr.length E1, .slice D2 ps.length E2, .slice D3 ds.length E3, .int .i64 n, .string lg, .int .i64 sy] 34) t7) kW2)
  have hz7 := t7.size
  simp at hz7
  have hAW : Acc w.heap.size 25 W (.slice (some ⟨w2.heap.size, 0, none⟩) 0 0) ([] : List (List Int)) [] := by rw [hW]; exact Acc.made _ _ _ rfl (by have := K1.size; omega)
  have KW : Only [] w W := K1.trans k1W
  have BW0 := (hB0.out.keep t1).keep k1W
  have BW1 := (hB1.out.keep t1).keep k1W
  have BW2 := (hB2.out.keep t1).keep k1W
  have RW7 := Rp.keep r7 kW2
  have RW1 := Rp.keep hT.tk k1W
  obtain ⟨ex, hex⟩ : ∃ ex, ex = [w.heap.size, w.heap.size + 1, w.heap.size + 2] ++ (f1 ++ f7) := ⟨_, rfl⟩
  have hx0 : w.heap.size ∈ ex := by rw [hex]; simp
  have hx1 : w.heap.size + 1 ∈ ex := by rw [hex]; simp
  have hx2 : w.heap.size + 2 ∈ ex := by rw [hex]; simp
  have hxf1 : ∀ b ∈ f1, b ∈ ex := fun b hb => by rw [hex]; exact List.mem_append_right _ (List.mem_append_left _ hb)
  have hxf7 : ∀ b ∈ f7, b ∈ ex := fun b hb => by rw [hex]; exact List.mem_append_right _ (List.mem_append_right _ hb)
  have hfr := hT.fr
  have F1 := hfr.left
  have hK1s := t1.size
  have hexp : ∀ b ∈ ex, b < W.heap.size ∧ b ≠ w1.heap.size ∧ b ≠ w2.heap.size ∧ b ∉ (Value.slice D2 ps.length E2).ownBlock.toList ∧ b ∉ (Value.slice D3 ds.length E3).ownBlock.toList := fun b hb => by
    have hWs : W.heap.size = w2.heap.size + 1 := by rw [hW]; simp
    have l2 : ∀ b ∈ (Value.slice D2 ps.length E2).ownBlock.toList, W0.heap.size ≤ b ∧ b < w1.heap.size := fun b hb => hT.pt.ownlt b (by simpa using hb)
    have l3 : ∀ b ∈ (Value.slice D3 ds.length E3).ownBlock.toList, W0.heap.size ≤ b ∧ b < w1.heap.size := fun b hb => hT.dt.ownlt b (by simpa using hb)
    rw [hex] at hb
    rcases List.mem_append.1 hb with hb | hb
    · have hb3 : b ≤ w.heap.size + 2 := by simp at hb; omega
      exact ⟨by omega, by omega, by omega, fun hm => by have := l2 b hm; omega, fun hm => by have := l3 b hm; omega⟩
    · rcases List.mem_append.1 hb with hb | hb
      · have := F1.lt b hb
        refine ⟨by omega, by omega, by omega, fun hm => ?_, fun hm => ?_⟩
        · exact (List.nodup_append.1 hfr.nd).2.2 b hb b (List.mem_append_left _ (List.mem_append_left _ hm)) rfl
        · exact (List.nodup_append.1 hfr.nd).2.2 b hb b (List.mem_append_right _ hm) rfl
      · have h1 := F7.ge b hb
        have h2 := F7.lt b hb
        simp at h1
        exact ⟨by omega, by omega, by omega, fun hm => by have := l2 b hm; omega, fun hm => by have := l3 b hm; omega⟩
  have X0 : XX w w1.heap.size (.slice D1 tr.length E1) (.int .i64 n) (.string lg) (.int .i64 sy) ps ds [] W (.slice D2 ps.length E2) (.slice D3 ds.length E3) (.slice (some ⟨w2.heap.size, 0, none⟩) 0 0) fs [] ex W :=
    XX.start hT (by omega) K1 k1W BO (Nat.le_refl _) hAW (by omega) hexp
  have hf1fs : ∀ b ∈ f1, b ∉ fs.flatten := fun b hb hm => (List.nodup_append.1 hfr.nd).2.2 b hb b (List.mem_append_left _ (List.mem_append_right _ hm)) rfl
  have hf1l : ∀ b ∈ f1, b < W.heap.size := fun b hb => (hexp b (hxf1 b hb)).1
  have hf1g : ∀ b ∈ f1, w.heap.size + 3 ≤ b := fun b hb => by have := F1.ge b hb; omega
  obtain ⟨fx, hfx⟩ : ∃ fx, fx = (w.heap.size + 2) :: f1 := ⟨_, rfl⟩
  have hxfx : ∀ b ∈ fx, b ∈ ex := fun b hb => by
    rw [hfx] at hb
    rcases List.mem_cons.1 hb with rfl | hb
    · exact hx2
    · exact hxf1 b hb
  have hfxfs : ∀ b ∈ fx, b ∉ fs.flatten := fun b hb hm => by
    rw [hfx] at hb
    rcases List.mem_cons.1 hb with rfl | hb
    · have := hfr.right.left.right.ge _ hm; omega
    · exact hf1fs b hb hm
  have Hfx := Lib.hid hfx
  clear hfx
  have F1W := (F1.keep k1W).mono (show w.heap.size ≤ W0.heap.size by omega)
  clear hex hexp hT hAW BO hfr F1 F7 t7 ka1 I7
  obtain ⟨iL, hiL, hL0, hL1, hL2⟩ := info_parts Tryz.info22
  obtain ⟨iI, hiI, hzI0, hzI1, hzI2⟩ := info_parts Tryz.info2
  have HWW := Lib.hid hW
  clear hW
  go_wp2_with fail
  rw [← HWW.out]
  go_loopw [8, 9] (fun o i wr => ∃ (j : Nat) (L2 a : List (List Int)) (L3 : List Int) (u2 u3 : Value) (gs fa : List (List Nat)), j ≤ ls.length ∧ i = .int .i64 j ∧ a = addL x ps q (ls.take j) [] ∧ L2 = ps ++ a ∧ L3 = ds ++ List.replicate a.length (d0 + 1) ∧ (∀ b ∈ fx, b ∉ gs.flatten) ∧ XX w w1.heap.size (.slice D1 tr.length E1) (.int .i64 n) (.string lg) (.int .i64 sy) L2 L3 a wr u2 u3 o gs fa ex W)
    (fun _ i _ => ls.length - (intOf i).toNat)
  case atStart => exact ⟨0, ps, [], ds, _, _, fs, [], Nat.zero_le _, rfl, by simp [addL], by simp, by simp, hfxfs, X0⟩
  case round =>
    obtain ⟨W2, hnew⟩ : ∃ W, W = wr := ⟨_, rfl⟩
    subst hnew
    obtain ⟨j, L2, a, L3, u2, u3, gs, fa, hj, rfl, ha, hL2, hL3, hgf, hX⟩ := hrel
    have hal : a.length ≤ 1000 := by
      have h1 := (addL_pre x ps q (ls.take j) []).2
      rw [ha]
      simp only [List.length_nil, List.length_take] at h1
      omega
    have hl2 : L2.length ≤ 4000 := by rw [hL2, List.length_append]; omega
    have hl3 : L3.length ≤ 4000 := by rw [hL3, List.length_append, List.length_replicate]; have := Hln.out; omega
    have Ha := Lib.hid ha
    have HL2 := Lib.hid hL2
    have HL3 := Lib.hid hL3
    clear ha hL2 hL3 X0
    have hBW : w.heap.size ≤ W2.heap.size := hX.on.size
    obtain ⟨P2, Q2, rfl⟩ := hX.pt.form
    obtain ⟨P3, Q3, rfl⟩ := hX.dt.form
    obtain ⟨P8, Q8, rfl⟩ := hX.ad.form
    have y0 := hX.blk_ex hx0 BW0
    have y1 := hX.blk_ex hx1 BW1
    by_cases hlj : j < ls.length
    · have RW7' : Rd W2 (.slice A7 ls.length C7) ls f7 := hX.held RW7 hxf7
      obtain ⟨a7, c7, he7, I7⟩ := RW7'.ints
      injection he7 with e1 _ e2
      subst e1
      subst e2
      obtain ⟨b7, o7, rfl, -, -⟩ := I7.at_ j hlj
      have hcap := I7.len
      have hcj : ¬ C7 = j := by omega
      have hjc : (j : Int) + 1 ≤ (C7 : Int) := by omega
      have hj0 : (0 : Int) ≤ (j : Int) := by omega
      have hj1 : (j : Int) ≤ (C7 : Int) := by omega
      have hj2 : (j : Int) ≤ (j : Int) + 1 := by omega
      have hj3 : (0 : Int) ≤ (j : Int) + 1 := by omega
      have hj4 : (j : Int) < (ls.length : Int) := by omega
      have hwj : IntKind.i64.wrap ((j : Int) + 1) = (j : Int) + 1 := by rw [IntKind.wrap_i64]; omega
      have I1 := (I7.drop_ (k := j) (by omega)).take 1
      have e1 : (ls.drop j).take 1 = [ls[j]] := by rw [List.drop_eq_getElem_cons hlj]; rfl
      rw [e1] at I1
      have R1 := I1.rd
      have hlmj := Hlm.out ls[j] (List.getElem_mem hlj)
      have HcP := Lib.hid (fun (V : World) (hV : Only [] W2 V) => specPatternAfter_any [.int .i64 x.points, .string x.names, .slice A0 x.moves.length C0] x fp (.slice A1 tr.length C1) (.slice A4 q.length C4) (.slice (some ⟨b7, o7 + j, none⟩) 1 (C7 - j)) tr q [ls[j]] _ _ _ V (Rp.keep hh (hX.on.trans hV)) (Rp.keep k1 (hX.on.trans hV)) (Rp.keep I4.rd (hX.on.trans hV)) (Rp.keep R1 hV) HC.out.vp HC.out.tr Hq0.out (by intro z hz; simp at hz; subst hz; exact hlmj) (by simp))
      obtain ⟨y, hy⟩ : ∃ y, y = nxt x q ls[j] := ⟨_, rfl⟩
      have Hy := Lib.hid hy
      have Hyp := Lib.hid (show patB x.points tr.length y = true by rw [hy]; exact nxt_pat HC.out.vp Hq0.out hlmj)
      clear hy hlmj e1 I1 R1
      have x00 := y0.cell 0 rfl
      have x01 := y0.cell 1 rfl
      have x02 := y0.cell 2 rfl
      have x10 := y1.cell 0 rfl
      go_upto_region 8 with fail
      go_region_held3 (fun w' => Only [] W2 w' ∧ w'.cell? ⟨w.heap.size, 0, none⟩ = some (Value.int .i64 x.points) ∧ w'.cell? ⟨w.heap.size, 1, none⟩ = some (Value.string x.names) ∧ w'.cell? ⟨w.heap.size, 2, none⟩ = some (.slice A0 x.moves.length C0) ∧ w'.cell? ⟨w.heap.size + 1, 0, none⟩ = some (.slice A1 tr.length C1)) ((refine and_of ?_ (fun h__ => ⟨h__.cell (by simp) x00, h__.cell (by simp) x01, h__.cell (by simp) x02, h__.cell (by simp) x10⟩); first | with_reducible exact (Only.refl _ _).drew | with_reducible exact Only.keepThen (And.left (by assumption)) (by assumption))) (first
        | (go_at_call 50; (with_reducible refine (HcP.out _ (And.left (by assumption))).mono ?_); rintro e w3 ⟨uy, fy, rfl, ry, Fy, t3⟩; have ry' : Rd w3 uy y fy := (by rw [Hy.out]; exact ry); obtain ⟨Ay, Cy, rfl, Iy⟩ := ry'.ints; clear ry)
        | fail "no arm")
      have KA : Only [] W2 w3 := ((Only.refl [] _).drew).trans t3
      have hfy : ∀ b ∈ fy, W2.heap.size ≤ b ∧ b < w3.heap.size := fun b hb => ⟨by have := Fy.ge b hb; simpa using this, Fy.lt b hb⟩
      have X3 := hX.hold KA hfy
      have z1 := X3.blk.cell 1 rfl
      have hat := addL_take x ps q ls j hlj
      rw [← Hy.out, ← Ha.out, ← HL2.out] at hat
      by_cases hm : y ∈ L2
      · rw [if_pos hm] at hat
        have Hat := Lib.hid hat
        have hge := idxL_ge hm
        have hnl : ¬ (idxL L2 y < 0) := by omega
        clear hat hm
        go_wp2_with (first
          | (go_at_call 51; (with_reducible refine (indexOfList_rd (.slice P2 L2.length Q2) (.slice Ay y.length Cy) L2 y _ _ _ (X3.pt.rd (by decide)) Iy.rd).mono ?_); rintro e w4 ⟨rfl, n4, rfl⟩)
          | fail "no arm")
        go_roundw
        case rel => exact ⟨j + 1, L2, a, L3, _, _, gs, fa, by omega, by go_num, Hat.out.symm, HL2.out, HL3.out, hgf, (hX.keep KA).keep ((Only.refl [] _).drewN _)⟩
        case measure => simp [intOf]; omega
      · rw [if_neg hm] at hat
        have Hat := Lib.hid hat
        have hnl : idxL L2 y < 0 := idxL_neg hm
        clear hat hm
        have hap4 : ∀ b ∈ fy, (Value.slice P2 L2.length Q2).ownBlock ≠ some b := fun b hb he => (X3.ro b (List.mem_append_right _ (List.mem_append_right _ hb))).2 _ (List.mem_of_getElem? (i := 1) rfl) (by rw [he]; simp)
        have hap8 : ∀ b ∈ fy, b ∉ gs.flatten := fun b hb hm => by have := hX.pt.lt b hm; have := (hfy b hb).1; omega
        have hf9 : ∀ b ∈ fy, b ∈ ex ++ fy ∧ b ∉ gs.flatten := fun b hb => ⟨List.mem_append_right _ hb, hap8 b hb⟩
        have hlq : L2.length + 1 ≤ 1073741824 := by omega
        have hlr : L3.length + 1 ≤ 1073741824 := by omega
        have hla : a.length + 1 ≤ 1073741824 := by omega
        have Fy3 : Fresh w.heap.size w3 fy := Fy.mono (by simp; omega)
        have hgfy : ∀ b ∈ fx, b ∉ (gs ++ [fy]).flatten := fun b hb hm => by
          rw [List.flatten_append] at hm
          rcases List.mem_append.1 hm with hm | hm
          · exact hgf b hb hm
          · have h1 := (hX.ro b (List.mem_append_right _ (hxfx b hb))).1
            have h2 := (hfy b (by simpa using hm)).1
            omega
        have y13 := y1.keep KA
        have hdrop : ∀ b ∈ ex, w3.heap[b]? = W.heap[b]? := fun b hb => (KA.block b (hX.ro b (List.mem_append_right _ hb)).1 (by simp)).trans (hX.kp b hb)
        have HX3 := Lib.hid X3
        have Hgfy := Lib.hid hgfy
        have Hry := Lib.hid Iy.rd
        clear X3 hX hgf hgfy Iy Fy t3
        go_upto_region 11 with (first
          | (go_at_call 51; (with_reducible refine (indexOfList_rd (.slice P2 L2.length Q2) (.slice Ay y.length Cy) L2 y _ _ _ (HX3.out.pt.rd (by decide)) Hry.out).mono ?_); rintro e w4 ⟨rfl, t4⟩; have k4 : Only [] w3 w4 := (let ⟨n, hn⟩ := t4; hn ▸ (Only.refl [] w3).drewN n); clear t4; have X4 := HX3.out.keep k4; have z41 := X4.blk.cell 1 rfl; have kl4 : Only [] w4 (w4.alloc (.cells #[.slice Ay y.length Cy] 25)) := (Only.refl _ _).alloc _; have X4a := X4.keep kl4; have z41a := X4a.blk.cell 1 rfl; have ry4 := Rp.keep (Rp.keep Hry.out k4) kl4; have F4a := (Fy3.keep k4).keep kl4; have hB4 : w.heap.size ≤ w4.heap.size := X4.on.size; have A4p := X4.pt; have HX4a := Lib.hid X4a; clear X4 X4a)
          | (at_builtin; refine wpList_push2w rfl _ _ 22 rfl w.heap.size 25 iL _ 24 Tryz.underlying22 hiL hL0 hL1 hL2 rfl (by decide) (by decide) w4 (.slice P2 L2.length Q2) L2 gs rfl A4p kl4 hB4 w4.heap.size 1 [.slice Ay y.length Cy] y fy rfl (lit_src w4 [.slice Ay y.length Cy] _ rfl) (by intro u hu; simp at hu; subst hu; rfl) ry4 hap4 hlq ?_; intro v9 w9 hA9 hO9 hP9 hQ9 hN9; obtain ⟨a9, n9, c9, rfl⟩ : ∃ a n c, v9 = Value.slice a n c := (let ⟨a, c, hh⟩ := hA9.form; ⟨a, _, c, hh⟩); have B9 := HX4a.out.blk.only hO9 (fun hm => HX4a.out.fam.disj 0 1 (by decide) rfl rfl _ (by simp) hm); have z9 := B9.cell 1 rfl; have p9 := B9.frozen 1; have X5 := HX4a.out.push2 hA9 hO9 hN9 hf9 F4a)
          | fail "no arm")
        obtain ⟨W5, hW5⟩ : ∃ W5, W5 = w9.setCell ⟨w1.heap.size, 1, none⟩ (.slice a9 n9 c9) := ⟨_, rfl⟩
        rw [← hW5] at X5
        rw [← hW5]
        have y15 := X5.blk_ex (List.mem_append_left _ hx1) y13
        have d5 := X5.on.cell (p := ⟨b3, o3 + n, none⟩) (by simp) hdc
        have kl5 : Only [] W5 (W5.alloc (.cells #[.int .i64 (d0 + 1)] 2)) := (Only.refl _ _).alloc _
        have e2 := X5.blk.cell 2 rfl
        have e2a := kl5.cell (by simp) e2
        have j2 := y15.cell 2 rfl
        have j3 := y15.cell 3 rfl
        have hB5 : w.heap.size ≤ W5.heap.size := X5.on.size
        have HId := Lib.hid (show I64 (d0 + 1) by unfold I64; omega)
        have HX5 := Lib.hid X5
        have hnd1 : (n : Int) < (ds.length : Int) := by omega
        clear hW5 X5 B9 z9 p9 z41 z41a hA9 hO9 hP9 hQ9 hN9 ry4 A4p y15
        go_cut [] (fun wx => ∃ u3', XX w w1.heap.size (.slice D1 tr.length E1) (.int .i64 n) (.string lg) (.int .i64 sy) (L2 ++ [y]) (L3 ++ [d0 + 1]) a wx (.slice a9 n9 c9) u3' (.slice P8 a.length Q8) (gs ++ [fy]) fa (ex ++ fy) w3)
        case first =>
          go_region_law (first
            | (refine step_pushI rfl _ _ 25 rfl w.heap.size 2 iI _ Tryz.underlying25 hiI hzI0 hzI1 hzI2 rfl W5 (.slice P3 L3.length Q3) L3 rfl HX5.out.dt (by with_reducible repeat (first | exact Only.refl _ _ | assumption | refine Only.drewN ?_ _ | refine Only.drew ?_ | refine Only.alloc ?_ _ | refine Only.setCell ?_ (by intro hh; exfalso; simp at hh; try omega) _ | refine Only.trans ?_ (by assumption))) hB5 _ 1 (d0 + 1) rfl (lit1 W5 _ _ rfl) HId.out hlr ?_; intro v10 w10 hA10 hO10 hN10; obtain ⟨a10, n10, c10, rfl⟩ : ∃ a n c, v10 = Value.slice a n c := (let ⟨a, c, hh⟩ := hA10.form; ⟨a, _, c, hh⟩); have EA := (HX5.out.keep kl5).keep ((Only.refl [] _).drew); have B10 := EA.blk.only hO10 (fun hm => EA.fam.disj 0 2 (by decide) rfl rfl _ (by simp) hm); have e4 := B10.cell 2 rfl; have p4 := B10.frozen 2)
            | fail "no arm")
          all_goals go_wp2_with fail
          all_goals go_meet
          all_goals exact ⟨_, EA.push3 hA10 hO10 hN10⟩
        case rest =>
          obtain ⟨W6, hnew⟩ : ∃ W, W = wc := ⟨_, rfl⟩
          subst hnew
          obtain ⟨u3', X6⟩ := hcut
          have kl6 : Only [] W6 (W6.alloc (.cells #[.slice Ay y.length Cy] 25)) := (Only.refl _ _).alloc _
          have ry6 : Rd (W6.alloc (.cells #[.slice Ay y.length Cy] 25)) (.slice Ay y.length Cy) y fy := Rp.keep (X6.held Hry.out (fun b hb => List.mem_append_right _ hb)) kl6
          have hB6 : w.heap.size ≤ W6.heap.size := X6.on.size
          have hap6 : ∀ b ∈ fy, (Value.slice P8 a.length Q8).ownBlock ≠ some b := fun b hb he => (X6.ro b (List.mem_append_right _ (List.mem_append_right _ hb))).2 _ (List.mem_of_getElem? (i := 3) rfl) (by rw [he]; simp)
          have A6 := X6.ad
          have HX6a := Lib.hid (X6.keep kl6)
          clear X6 d5 e2 e2a j2 j3
          go_wp2_with (first
            | (at_builtin; refine wpList_push2w rfl _ _ 22 rfl w.heap.size 25 iL _ 24 Tryz.underlying22 hiL hL0 hL1 hL2 rfl (by decide) (by decide) W6 (.slice P8 a.length Q8) a fa rfl A6 kl6 hB6 W6.heap.size 1 [.slice Ay y.length Cy] y fy rfl (lit_src W6 [.slice Ay y.length Cy] _ rfl) (by intro u hu; simp at hu; subst hu; rfl) ry6 hap6 hla ?_; intro v11 w11 hA11 hO11 hP11 hQ11 hN11)
            | fail "no arm")
          have X7 := (HX6a.out.pushA hA11 hO11 hN11 (fun b hb => List.mem_append_right _ hb)).drop hdrop
          go_roundw
          case rel => exact ⟨j + 1, L2 ++ [y], a ++ [y], L3 ++ [d0 + 1], _, _, gs ++ [fy], fa ++ [fy], by omega, by go_num, Hat.out.symm, by rw [HL2.out, List.append_assoc], by rw [HL3.out, List.append_assoc, List.length_append, List.length_singleton, List.replicate_succ'], Hgfy.out, X7⟩
          case measure => simp [intOf]; omega
    · obtain rfl : j = ls.length := by omega
      have hat := Ha.out
      rw [List.take_length] at hat
      have hrow28 : ∀ z ∈ a, z.length ≤ 100 := fun z hz => by
        rw [hat] at hz
        have h1 := addL_pat HC.out.vp Hq0.out ls [] Hlm.out (by simp) z hz
        have h2 := (patB_iff.1 h1).1
        have h3 := (trackB_iff.1 HC.out.tr).2.len
        have h4 := (validPz_facts HC.out.vp).2.1
        simp only at h3
        omega
      obtain ⟨rec, hrec⟩ : ∃ rec, rec = recB (n : Int) a := ⟨_, rfl⟩
      have hrs : rec.size ≤ 200000 := by
        rw [hrec]
        unfold recB recL
        rw [kB_size]
        have := flatten_len hrow28
        simp only [List.length_append, List.length_cons, List.length_nil]
        omega
      have hrm : rec.size ≤ maxLen := by unfold maxLen; omega
      have hcs := csum_rng rec
      obtain ⟨ck, hck⟩ : ∃ ck, ck = csum rec := ⟨_, rfl⟩
      rw [← hck] at hcs
      obtain ⟨c4, hc4⟩ : ∃ c4, c4 = nbB ck 4 := ⟨_, rfl⟩
      have hc4s : c4.size = 4 := by rw [hc4]; unfold nbB; rw [kB_size, nbL_len]
      have Hat := Lib.hid hat
      have Hrec := Lib.hid hrec
      have Hck := Lib.hid hck
      have Hc4 := Lib.hid hc4
      have HXe := Lib.hid hX
      have j3 := y1.cell 3 rfl
      have hn0 : (n : Int) ≤ 1000000 := by omega
      clear hat hrec hck hc4
      go_upto_region 14 with (first
        | (go_at_call 52; (with_reducible refine (l28Record_any (n : Int) (.slice P8 a.length Q8) a _ _ ((HXe.out.keep (by with_reducible repeat (first | exact Only.refl _ _ | assumption | refine Only.drewN ?_ _ | refine Only.drew ?_ | refine Only.alloc ?_ _ | refine Only.setCell ?_ (by intro hh; exfalso; simp at hh; try omega) _ | refine Only.trans ?_ (by assumption)))).ad.rd (by decide)) hn1 hn0 (by omega) hrow28).mono ?_); rintro e w3 ⟨he, t3⟩; rw [← Hrec.out] at he; subst he)
        | fail "no arm")
      have K3 : Only [] W2 w3 := (by with_reducible repeat (first | exact Only.refl _ _ | assumption | refine Only.drewN ?_ _ | refine Only.drew ?_ | refine Only.alloc ?_ _ | refine Only.setCell ?_ (by intro hh; exfalso; simp at hh; try omega) _ | refine Only.trans ?_ (by assumption)))
      have X3 := hX.keep K3
      have BO3 := X3.blk
      have b4 := BO3.cell 4 rfl
      have p4 := BO3.frozen 4
      have hs1 : ¬ (9223372036854775807 < lg.size + rec.size) := by omega
      have hs2 : ¬ (9223372036854775807 < (lg ++ rec).size + c4.size) := by rw [ByteArray.size_append]; omega
      have hs3 : ¬ (9223372036854775807 < lg.size + rec.size + c4.size) := by omega
      have Hc4s := Lib.hid hc4s
      clear hc4s
      go_cut [] (fun wx => Only [w1.heap.size] w3 wx ∧ Blk wx w1.heap.size [.slice D1 tr.length E1, .slice P2 L2.length Q2, .slice P3 L3.length Q3, .int .i64 n, .string ((lg ++ rec) ++ c4), .int .i64 sy])
      case first =>
        go_region_law (first
          | (go_simp; go_at_call 54; (with_reducible refine (specChecksum_any rec _ hrm).mono ?_); rintro e w4 ⟨he, t4⟩; rw [← Hck.out] at he; subst he; have k4 : Only [] w3 w4 := Only.trans (by with_reducible repeat (first | exact Only.refl _ _ | refine Only.drew ?_)) (let ⟨n, hn⟩ := t4; hn ▸ (Only.refl [] _).drewN n); have b44 := k4.cell (by simp) b4)
          | (go_simp; go_at_call 53; (with_reducible refine (l29Uint32_any ck _ hcs.1 hcs.2).mono ?_); rintro e w5 ⟨he, t5⟩; rw [← Hc4.out] at he; subst he; have k5 : Only [] w3 w5 := k4.trans (Only.trans (by with_reducible repeat (first | exact Only.refl _ _ | refine Only.drew ?_)) t5); have b45 := k5.cell (by simp) b4; have B5 := BO3.keep k5; have p45 := B5.frozen 4)
          | fail "no arm")
        all_goals go_wp2_with fail
        all_goals go_meet
        all_goals exact ⟨(k5.weaken _).setCell (by simp) _, B5.set 4 _⟩
      case rest =>
        obtain ⟨W4, hnew⟩ : ∃ W, W = wc := ⟨_, rfl⟩
        subst hnew
        obtain ⟨K4, BO4⟩ := hcut
        have hz1 : w.heap.size + 3 ≤ w1.heap.size := by omega
        have y14 := (y1.keep K3).only K4 (by simp; omega)
        have j34 := y14.cell 3 rfl
        have o34 := BO4.cell 3 rfl
        have f34 := BO4.frozen 3
        have hwn1 : IntKind.i64.wrap ((n : Int) + 1) = (n : Int) + 1 := by rw [IntKind.wrap_i64]; omega
        have B5 := BO4.set 3 (.int .i64 ((n : Int) + 1))
        simp only [List.set] at B5
        have k5 : Only [w1.heap.size] W4 (W4.setCell ⟨w1.heap.size, 3, none⟩ (.int .i64 ((n : Int) + 1))) := (Only.refl _ _).setCell (by simp) _
        have YR := (((HXe.out.blk_ex hx2 BW2).keep K3).only K4 (by simp; omega)).only k5 (by simp; omega)
        have a0 := B5.cell 0 rfl
        have a1 := B5.cell 1 rfl
        have a2 := B5.cell 2 rfl
        have a3 := B5.cell 3 rfl
        have a4 := B5.cell 4 rfl
        have a5 := B5.cell 5 rfl
        have g0 := YR.cell 0 rfl
        have q0 := YR.frozen 0
        have g1 := YR.cell 1 rfl
        have q1 := YR.frozen 1
        have g2 := YR.cell 2 rfl
        have q2 := YR.frozen 2
        have g3 := YR.cell 3 rfl
        have q3 := YR.frozen 3
        have g4 := YR.cell 4 rfl
        have q4 := YR.frozen 4
        have g5 := YR.cell 5 rfl
        have q5 := YR.frozen 5
        go_upto_region 16 with fail
        obtain ⟨W5, hW5⟩ : ∃ W5, W5 = W4.setCell ⟨w1.heap.size, 3, none⟩ (.int .i64 ((n : Int) + 1)) := ⟨_, rfl⟩
        rw [← hW5] at a0 a1 a2 a3 a4 a5 g0 q0 g1 q1 g2 q2 g3 q3 g4 q4 g5 q5 YR k5 B5
        rw [← hW5]
        clear hW5
        have Yf := ((((((YR.set 0 (.slice D1 tr.length E1)).set 1 (.slice P2 L2.length Q2)).set 2 (.slice P3 L3.length Q3)).set 3 (.int .i64 ((n : Int) + 1))).set 4 (.string ((lg ++ rec) ++ c4))).set 5 (.int .i64 sy))
        have kf : Only [w.heap.size + 2] W5 ((((((W5.setCell ⟨w.heap.size + 2, 0, none⟩ (.slice D1 tr.length E1)).setCell ⟨w.heap.size + 2, 1, none⟩ (.slice P2 L2.length Q2)).setCell ⟨w.heap.size + 2, 2, none⟩ (.slice P3 L3.length Q3)).setCell ⟨w.heap.size + 2, 3, none⟩ (.int .i64 ((n : Int) + 1))).setCell ⟨w.heap.size + 2, 4, none⟩ (.string ((lg ++ rec) ++ c4))).setCell ⟨w.heap.size + 2, 5, none⟩ (.int .i64 sy)) := (((((((Only.refl _ _).setCell (by simp) _).setCell (by simp) _).setCell (by simp) _).setCell (by simp) _).setCell (by simp) _).setCell (by simp) _)
        have XE := HXe.out
        have hT0 := XE.ta (XE.held RW1 hxf1) ⟨F1W.nd, F1W.ge, F1W.own.frame (fun b hb => XE.kp b (hxf1 b hb))⟩ (fun b hb => ⟨hxf1 b hb, hgf b (by rw [Hfx.out]; exact List.mem_cons_of_mem _ hb)⟩)
        have hfp : ∀ b ∈ (f1 ++ (((Value.slice P2 L2.length Q2).ownBlock.toList ++ gs.flatten) ++ (Value.slice P3 L3.length Q3).ownBlock.toList)), b ≠ w1.heap.size ∧ b ≠ w.heap.size + 2 := fun b hb => by
          have h2x := (XE.ro _ (List.mem_append_right _ hx2)).2
          rcases List.mem_append.1 hb with hb | hb
          · refine ⟨fun e => ?_, fun e => by have := hf1g b hb; omega⟩
            subst e
            exact (XE.ro _ (List.mem_append_right _ (hxf1 _ hb))).2 [w1.heap.size] (List.mem_of_getElem? (i := 0) rfl) (by simp)
          · rcases List.mem_append.1 hb with hb | hb
            · rcases List.mem_append.1 hb with hb | hb
              · refine ⟨fun e => ?_, fun e => ?_⟩
                · subst e; exact XE.fam.disj 0 1 (by decide) rfl rfl _ (by simp) hb
                · subst e; exact h2x _ (List.mem_of_getElem? (i := 1) rfl) hb
              · refine ⟨fun e => ?_, fun e => ?_⟩
                · subst e; exact (XE.ro _ (List.mem_append_left _ (List.mem_append_left _ hb))).2 [w1.heap.size] (List.mem_of_getElem? (i := 0) rfl) (by simp)
                · subst e; exact hgf _ (by rw [Hfx.out]; simp) hb
            · refine ⟨fun e => ?_, fun e => ?_⟩
              · subst e; exact XE.fam.disj 0 2 (by decide) rfl rfl _ (by simp) hb
              · subst e; exact h2x _ (List.mem_of_getElem? (i := 2) rfl) hb
        have hfg : ∀ b ∈ (f1 ++ (((Value.slice P2 L2.length Q2).ownBlock.toList ++ gs.flatten) ++ (Value.slice P3 L3.length Q3).ownBlock.toList)), b ∉ [w1.heap.size] := fun b hb hm => (hfp b hb).1 (by simpa using hm)
        have hfg2 : ∀ b ∈ (f1 ++ (((Value.slice P2 L2.length Q2).ownBlock.toList ++ gs.flatten) ++ (Value.slice P3 L3.length Q3).ownBlock.toList)), b ∉ [w.heap.size + 2] := fun b hb hm => (hfp b hb).2 (by simpa using hm)
        have r5 := Rp.only (Rp.only (Rp.keep hT0.rd K3) K4 hfg) k5 hfg
        have F5 := ((hT0.fr.keep K3).only K4 hfg).only k5 hfg
        have KO : Only [] w W5 := ((XE.on.trans K3).then_ K4 (fun b hb hl => by simp at hb; omega)).then_ k5 (fun b hb hl => by simp at hb; omega)
        have he : expandF x ⟨⟨tr, ps, ds⟩, (n : Int), lg, sy⟩ = ⟨⟨tr, L2, L3⟩, (n : Int) + 1, (lg ++ rec) ++ c4, sy⟩ := by
          have hnew : newF x ⟨⟨tr, ps, ds⟩, (n : Int), lg, sy⟩ = a := by
            unfold newF
            simp only [Int.toNat_natCast]
            rw [getD_get hlt, ← Hq.out, ← Hls.out, Hat.out]
          unfold expandF
          rw [hnew]
          simp only [Int.toNat_natCast]
          rw [getD_get hnd, ← Hd0.out, ← HL2.out, ← HL3.out]
          unfold recF
          rw [← Hrec.out, ← Hck.out, ← Hc4.out, ByteArray.append_assoc]
        have HE := Lib.hid he
        have hI2 : I64 ((n : Int) + 1) := by unfold I64; omega
        have hsz : ((lg ++ rec) ++ c4).size ≤ maxLen := by rw [ByteArray.size_append, ByteArray.size_append, Hc4s.out]; unfold maxLen; omega
        clear he hfp XE hX
        go_wp2_with fail
        obtain ⟨wf, hwf⟩ : ∃ wf, wf = ((((((W5.setCell ⟨w.heap.size + 2, 0, none⟩ (.slice D1 tr.length E1)).setCell ⟨w.heap.size + 2, 1, none⟩ (.slice P2 L2.length Q2)).setCell ⟨w.heap.size + 2, 2, none⟩ (.slice P3 L3.length Q3)).setCell ⟨w.heap.size + 2, 3, none⟩ (.int .i64 ((n : Int) + 1))).setCell ⟨w.heap.size + 2, 4, none⟩ (.string ((lg ++ rec) ++ c4))).setCell ⟨w.heap.size + 2, 5, none⟩ (.int .i64 sy)) := ⟨_, rfl⟩
        rw [← hwf] at Yf kf ⊢
        simp only [List.set] at Yf
        clear hwf g0 q0 g1 q1 g2 q2 g3 q3 g4 q4 g5 q5
        have z0 := Yf.cell 0 rfl
        have z1 := Yf.cell 1 rfl
        have z2 := Yf.cell 2 rfl
        have z3 := Yf.cell 3 rfl
        have z4 := Yf.cell 4 rfl
        have z5 := Yf.cell 5 rfl
        refine bodyPost_ret (v := .agg #[.slice D1 tr.length E1, .slice P2 L2.length Q2, .slice P3 L3.length Q3, .int .i64 ((n : Int) + 1), .string ((lg ++ rec) ++ c4), .int .i64 sy]) (by simp [results, Tryz.results33, go_sem, z0, z1, z2, z3, z4, z5]) rfl ⟨[.slice D1 tr.length E1, .slice P2 L2.length Q2, .slice P3 L3.length Q3, .int .i64 ((n : Int) + 1), .string ((lg ++ rec) ++ c4), .int .i64 sy], _, rfl, by rw [HE.out]; exact Rp.only ⟨_, rfl, hI2, hsz, hsy, r5⟩ kf hfg2, F5.only kf hfg2, KO.then_ kf (by simp)⟩
end Go.Proofs.YtkhdmiemfpelcaaGreat

namespace Go.Proofs.YtkhdmiemfpelcaaGreat
open Go.RowKit
set_option maxRecDepth 10000

def stepF (x : Puzzle) (j : FillJob) : FillJob × Bool :=
  if j.next = j.table.patterns.length then (j, false) else if 60000 < (expandF x j).log.size then (j, false) else (expandF x j, true)
theorem stepF_done {x : Puzzle} {j : FillJob} (h : j.next = j.table.patterns.length) : stepF x j = (j, false) := by unfold stepF; rw [if_pos h]
theorem stepF_long {x : Puzzle} {j : FillJob} (h : j.next ≠ j.table.patterns.length) (h2 : 60000 < (expandF x j).log.size) : stepF x j = (j, false) := by unfold stepF; rw [if_neg h, if_pos h2]
theorem stepF_go {x : Puzzle} {j : FillJob} (h : j.next ≠ j.table.patterns.length) (h2 : ¬ 60000 < (expandF x j).log.size) : stepF x j = (expandF x j, true) := by unfold stepF; rw [if_neg h, if_neg h2]
/-- a job that may be stepped -/
structure GoF (x : Puzzle) (j : FillJob) (n : Nat) : Prop where
  vp : validPz x = true
  tr : trackB x.points j.table.tracked = true
  nx : j.next = n
  lt : n ≤ j.table.patterns.length
  ln : j.table.distances.length = j.table.patterns.length
  le : j.table.patterns.length ≤ 3000
  ps : ∀ q ∈ j.table.patterns, patB x.points j.table.tracked.length q = true
  ds : ∀ d ∈ j.table.distances, 0 ≤ d ∧ d ≤ 3000
  lg : j.log.size ≤ 2000000
theorem GoF.can {x : Puzzle} {j : FillJob} {n : Nat} (h : GoF x j n) (hl : n < j.table.patterns.length) : CanF x j n := ⟨h.vp, h.tr, h.nx, hl, h.ln, h.le, h.ps, h.ds, h.lg⟩

set_option maxHeartbeats 4000000 in
theorem step28_raw (cs : List Value) (x : Puzzle) (fp : List Nat) (c1 c2 c3 : Value) (tr : List Int) (ps : List (List Int)) (ds : List Int) (n : Nat) (lg : ByteArray) (sy : Int) (g1 g2 g3 : List Nat) (w : World) (h : Rp.rep w cs x fp)
    (k1 : Rd w c1 tr g1) (k2 : Rd w c2 ps g2) (k3 : Rd w c3 ds g3) (hsy : I64 sy) (hc : GoF x ⟨⟨tr, ps, ds⟩, (n : Int), lg, sy⟩ n) :
    Calls Tryz.prog 35 #[.agg cs.toArray, .agg #[c1, c2, c3, .int .i64 n, .string lg, .int .i64 sy]] w fun e w' => ∃ cs' fp', e = .returned (.tuple #[.agg (List.toArray cs'), .bool (stepF x ⟨⟨tr, ps, ds⟩, (n : Int), lg, sy⟩).2]) ∧ Rp.rep w' cs' (stepF x ⟨⟨tr, ps, ds⟩, (n : Int), lg, sy⟩).1 fp' ∧ (fp' = g1 ++ (g2 ++ g3) ∨ Fresh w.heap.size w' fp') ∧ Only [] w w' := by
  have hh := h
  obtain ⟨v2, rfl, p0, p1, h2⟩ := h
  obtain ⟨A0, C0, _, _, rfl, -, -⟩ := h2.open_
  have hlt : n ≤ ps.length := hc.lt
  have hle : ps.length ≤ 3000 := hc.le
  have hlg : lg.size ≤ 2000000 := hc.lg
  have hrep : Rp.rep w [c1, c2, c3, .int .i64 n, .string lg, .int .i64 sy] (⟨⟨tr, ps, ds⟩, (n : Int), lg, sy⟩ : FillJob) (g1 ++ (g2 ++ g3)) :=
    ⟨[c1, c2, c3], rfl, by unfold I64; show -9223372036854775808 ≤ (n : Int) ∧ (n : Int) ≤ 9223372036854775807; omega, by show lg.size ≤ maxLen; unfold maxLen; omega, hsy, ⟨_, _, _, _, _, _, rfl, rfl, k1, k2, k3⟩⟩
  have hk1 := k1; have hk2 := k2; have hk3 := k3
  obtain ⟨A1, C1, _, _, rfl, -⟩ := k1.open_
  obtain ⟨A2, C2, _, _, rfl, -⟩ := k2.open_
  obtain ⟨A3, C3, _, _, rfl, -⟩ := k3.open_
  have HC := Lib.hid hc; clear hc
  obtain ⟨st, hst⟩ : ∃ st, st = stepF x ⟨⟨tr, ps, ds⟩, (n : Int), lg, sy⟩ := ⟨_, rfl⟩
  rw [← hst]
  have HS := Lib.hid hst; clear hst
  have k0 : Only [] w (((w.alloc (.cells #[.int .i64 x.points, .string x.names, .slice A0 x.moves.length C0] 37)).alloc (.cells #[.slice A1 tr.length C1, .slice A2 ps.length C2, .slice A3 ds.length C3, .int .i64 n, .string lg, .int .i64 sy] 34)).alloc (.cells #[.slice none 0 0, .slice none 0 0, .slice none 0 0, .int .i64 0, .string ⟨#[]⟩, .int .i64 0] 34)) := (((Only.refl _ _).alloc _).alloc _).alloc _
  have B1 : Blk (((w.alloc (.cells #[.int .i64 x.points, .string x.names, .slice A0 x.moves.length C0] 37)).alloc (.cells #[.slice A1 tr.length C1, .slice A2 ps.length C2, .slice A3 ds.length C3, .int .i64 n, .string lg, .int .i64 sy] 34)).alloc (.cells #[.slice none 0 0, .slice none 0 0, .slice none 0 0, .int .i64 0, .string ⟨#[]⟩, .int .i64 0] 34)) (w.heap.size + 1) [.slice A1 tr.length C1, .slice A2 ps.length C2, .slice A3 ds.length C3, .int .i64 n, .string lg, .int .i64 sy] := Blk.keep (Blk.new_at (by simp)) ((Only.refl _ _).alloc _)
  have B2 : Blk (((w.alloc (.cells #[.int .i64 x.points, .string x.names, .slice A0 x.moves.length C0] 37)).alloc (.cells #[.slice A1 tr.length C1, .slice A2 ps.length C2, .slice A3 ds.length C3, .int .i64 n, .string lg, .int .i64 sy] 34)).alloc (.cells #[.slice none 0 0, .slice none 0 0, .slice none 0 0, .int .i64 0, .string ⟨#[]⟩, .int .i64 0] 34)) (w.heap.size + 2) [.slice none 0 0, .slice none 0 0, .slice none 0 0, .int .i64 0, .string ⟨#[]⟩, .int .i64 0] := Blk.new_at (by simp)
  by_cases hd : n = ps.length
  · have hb : ((n : Int) == (ps.length : Int)) = true := by simp [hd]
    have he := HS.out.trans (stepF_done (x := x) (j := ⟨⟨tr, ps, ds⟩, (n : Int), lg, sy⟩) (by show (n : Int) = (ps.length : Int); omega))
    have HE := Lib.hid he; clear he
    have HD := Lib.hid hd; clear hd
    go_enter Tryz.func35, Tryz.ntmps35
    go_wp2_with fail
    refine bodyPost_ret (v := .tuple #[.agg #[.slice A1 tr.length C1, .slice A2 ps.length C2, .slice A3 ds.length C3, .int .i64 n, .string lg, .int .i64 sy], .bool false]) (by simp [results, Tryz.results35, go_sem]) rfl ⟨[.slice A1 tr.length C1, .slice A2 ps.length C2, .slice A3 ds.length C3, .int .i64 n, .string lg, .int .i64 sy], _, by rw [HE.out], by rw [HE.out]; exact Rp.keep hrep (by with_reducible repeat (first | exact Only.refl _ _ | assumption | refine Only.drewN ?_ _ | refine Only.drew ?_ | refine Only.alloc ?_ _ | refine Only.setCell ?_ (by intro hh; exfalso; simp at hh; try omega) _ | refine Only.trans ?_ (by assumption))), .inl rfl, (by with_reducible repeat (first | exact Only.refl _ _ | assumption | refine Only.drewN ?_ _ | refine Only.drew ?_ | refine Only.alloc ?_ _ | refine Only.setCell ?_ (by intro hh; exfalso; simp at hh; try omega) _ | refine Only.trans ?_ (by assumption)))⟩
  have hb : ((n : Int) == (ps.length : Int)) = false := by simp; omega
  have hd1 := Lib.hid hd; clear hd
  obtain ⟨W0, hW0⟩ : ∃ W0, W0 = (((w.alloc (.cells #[.int .i64 x.points, .string x.names, .slice A0 x.moves.length C0] 37)).alloc (.cells #[.slice A1 tr.length C1, .slice A2 ps.length C2, .slice A3 ds.length C3, .int .i64 n, .string lg, .int .i64 sy] 34)).alloc (.cells #[.slice none 0 0, .slice none 0 0, .slice none 0 0, .int .i64 0, .string ⟨#[]⟩, .int .i64 0] 34)) := ⟨_, rfl⟩
  rw [← hW0] at k0 B1 B2
  have hz0 : W0.heap.size = w.heap.size + 3 := by rw [hW0]; simp
  have HW := Lib.hid hW0; clear hW0
  have hB1 := Lib.hid B1; have hB2 := Lib.hid B2
  clear B1 B2
  go_enter Tryz.func35, Tryz.ntmps35
  go_wp2_with fail
  rw [← HW.out]
  with_reducible refine (expand28_raw [.int .i64 x.points, .string x.names, .slice A0 x.moves.length C0] x _ (.slice A1 tr.length C1) (.slice A2 ps.length C2) (.slice A3 ds.length C3) tr ps ds n lg sy _ _ _ _ (Rp.keep hh k0) (Rp.keep hk1 k0) (Rp.keep hk2 k0) (Rp.keep hk3 k0) hsy (HC.out.can (by have := hd1.out; show n < ps.length; omega))).mono ?_
  rintro e w1 ⟨cs1, f1, rfl, r1, F1, t1⟩
  obtain ⟨jx, hjx⟩ : ∃ jx, jx = expandF x ⟨⟨tr, ps, ds⟩, (n : Int), lg, sy⟩ := ⟨_, rfl⟩
  rw [← hjx] at r1
  have r1' := r1
  obtain ⟨d0, rfl, q1, q2, q3, r2⟩ := r1'
  obtain ⟨e1, e2, e3, _, _, _, rfl, -, kk1, kk2, kk3⟩ := r2
  obtain ⟨D1, E1, _, _, rfl, -⟩ := kk1.open_
  obtain ⟨D2, E2, _, _, rfl, -⟩ := kk2.open_
  obtain ⟨D3, E3, _, _, rfl, -⟩ := kk3.open_
  have HJ := Lib.hid hjx; clear hjx kk1 kk2 kk3
  have t1s := t1.size
  have ka : Only [] w1 (w1.alloc (.cells #[.slice D1 jx.table.tracked.length E1, .slice D2 jx.table.patterns.length E2, .slice D3 jx.table.distances.length E3, .int .i64 jx.next, .string jx.log, .int .i64 jx.synced] 34)) := (Only.refl _ _).alloc _
  have Y1 := (hB1.out.keep t1).keep ka
  have YZ := (hB2.out.keep t1).keep ka
  have m0 := Y1.cell 0 rfl
  have l0 := Y1.frozen 0
  have m1 := Y1.cell 1 rfl
  have l1 := Y1.frozen 1
  have m2 := Y1.cell 2 rfl
  have l2 := Y1.frozen 2
  have m3 := Y1.cell 3 rfl
  have l3 := Y1.frozen 3
  have m4 := Y1.cell 4 rfl
  have l4 := Y1.frozen 4
  have m5 := Y1.cell 5 rfl
  have l5 := Y1.frozen 5
  have g0 := YZ.cell 0 rfl
  have q0 := YZ.frozen 0
  have g1 := YZ.cell 1 rfl
  have q1 := YZ.frozen 1
  have g2 := YZ.cell 2 rfl
  have q2 := YZ.frozen 2
  have g3 := YZ.cell 3 rfl
  have q3 := YZ.frozen 3
  have g4 := YZ.cell 4 rfl
  have q4 := YZ.frozen 4
  have g5 := YZ.cell 5 rfl
  have q5 := YZ.frozen 5
  have K1 : Only [] w (w1.alloc (.cells #[.slice D1 jx.table.tracked.length E1, .slice D2 jx.table.patterns.length E2, .slice D3 jx.table.distances.length E3, .int .i64 jx.next, .string jx.log, .int .i64 jx.synced] 34)) := (k0.trans t1).trans ka
  by_cases hl : 60000 < jx.log.size
  · have he := HS.out.trans (stepF_long (x := x) (j := ⟨⟨tr, ps, ds⟩, (n : Int), lg, sy⟩) (by have := hd1.out; show (n : Int) ≠ (ps.length : Int); omega) (by rw [← HJ.out]; exact hl))
    have HE := Lib.hid he; clear he
    have Yf := ((((((YZ.set 0 (.slice A1 tr.length C1)).set 1 (.slice A2 ps.length C2)).set 2 (.slice A3 ds.length C3)).set 3 (.int .i64 n)).set 4 (.string lg)).set 5 (.int .i64 sy))
    have kf : Only [w.heap.size + 2] (w1.alloc (.cells #[.slice D1 jx.table.tracked.length E1, .slice D2 jx.table.patterns.length E2, .slice D3 jx.table.distances.length E3, .int .i64 jx.next, .string jx.log, .int .i64 jx.synced] 34)) (((((((w1.alloc (.cells #[.slice D1 jx.table.tracked.length E1, .slice D2 jx.table.patterns.length E2, .slice D3 jx.table.distances.length E3, .int .i64 jx.next, .string jx.log, .int .i64 jx.synced] 34)).setCell ⟨w.heap.size + 2, 0, none⟩ (.slice A1 tr.length C1)).setCell ⟨w.heap.size + 2, 1, none⟩ (.slice A2 ps.length C2)).setCell ⟨w.heap.size + 2, 2, none⟩ (.slice A3 ds.length C3)).setCell ⟨w.heap.size + 2, 3, none⟩ (.int .i64 n)).setCell ⟨w.heap.size + 2, 4, none⟩ (.string lg)).setCell ⟨w.heap.size + 2, 5, none⟩ (.int .i64 sy)) := (((((((Only.refl _ _).setCell (by simp) _).setCell (by simp) _).setCell (by simp) _).setCell (by simp) _).setCell (by simp) _).setCell (by simp) _)
    go_wp2_with fail
    obtain ⟨wf, hwf⟩ : ∃ wf, wf = (((((((w1.alloc (.cells #[.slice D1 jx.table.tracked.length E1, .slice D2 jx.table.patterns.length E2, .slice D3 jx.table.distances.length E3, .int .i64 jx.next, .string jx.log, .int .i64 jx.synced] 34)).setCell ⟨w.heap.size + 2, 0, none⟩ (.slice A1 tr.length C1)).setCell ⟨w.heap.size + 2, 1, none⟩ (.slice A2 ps.length C2)).setCell ⟨w.heap.size + 2, 2, none⟩ (.slice A3 ds.length C3)).setCell ⟨w.heap.size + 2, 3, none⟩ (.int .i64 n)).setCell ⟨w.heap.size + 2, 4, none⟩ (.string lg)).setCell ⟨w.heap.size + 2, 5, none⟩ (.int .i64 sy)) := ⟨_, rfl⟩
    rw [← hwf] at Yf kf ⊢
    simp only [List.set] at Yf
    clear hwf g0 q0 g1 q1 g2 q2 g3 q3 g4 q4 g5 q5
    have z0 := Yf.cell 0 rfl
    have z1 := Yf.cell 1 rfl
    have z2 := Yf.cell 2 rfl
    have z3 := Yf.cell 3 rfl
    have z4 := Yf.cell 4 rfl
    have z5 := Yf.cell 5 rfl
    refine bodyPost_ret (v := .tuple #[.agg #[.slice A1 tr.length C1, .slice A2 ps.length C2, .slice A3 ds.length C3, .int .i64 n, .string lg, .int .i64 sy], .bool false]) (by simp [results, Tryz.results35, go_sem, z0, z1, z2, z3, z4, z5]) rfl ⟨[.slice A1 tr.length C1, .slice A2 ps.length C2, .slice A3 ds.length C3, .int .i64 n, .string lg, .int .i64 sy], g1 ++ (g2 ++ g3), by rw [HE.out], by rw [HE.out]; exact Rp.only (Rp.keep hrep K1) kf (fun b hb hm => by have := Rp.lt hrep b hb; simp at hm; omega), .inl rfl, K1.then_ kf (by simp)⟩
  · have he := HS.out.trans (stepF_go (x := x) (j := ⟨⟨tr, ps, ds⟩, (n : Int), lg, sy⟩) (by have := hd1.out; show (n : Int) ≠ (ps.length : Int); omega) (by rw [← HJ.out]; exact hl))
    have HE := Lib.hid he; clear he
    have Yf := ((((((YZ.set 0 (.slice D1 jx.table.tracked.length E1)).set 1 (.slice D2 jx.table.patterns.length E2)).set 2 (.slice D3 jx.table.distances.length E3)).set 3 (.int .i64 jx.next)).set 4 (.string jx.log)).set 5 (.int .i64 jx.synced))
    have kf : Only [w.heap.size + 2] (w1.alloc (.cells #[.slice D1 jx.table.tracked.length E1, .slice D2 jx.table.patterns.length E2, .slice D3 jx.table.distances.length E3, .int .i64 jx.next, .string jx.log, .int .i64 jx.synced] 34)) (((((((w1.alloc (.cells #[.slice D1 jx.table.tracked.length E1, .slice D2 jx.table.patterns.length E2, .slice D3 jx.table.distances.length E3, .int .i64 jx.next, .string jx.log, .int .i64 jx.synced] 34)).setCell ⟨w.heap.size + 2, 0, none⟩ (.slice D1 jx.table.tracked.length E1)).setCell ⟨w.heap.size + 2, 1, none⟩ (.slice D2 jx.table.patterns.length E2)).setCell ⟨w.heap.size + 2, 2, none⟩ (.slice D3 jx.table.distances.length E3)).setCell ⟨w.heap.size + 2, 3, none⟩ (.int .i64 jx.next)).setCell ⟨w.heap.size + 2, 4, none⟩ (.string jx.log)).setCell ⟨w.heap.size + 2, 5, none⟩ (.int .i64 jx.synced)) := (((((((Only.refl _ _).setCell (by simp) _).setCell (by simp) _).setCell (by simp) _).setCell (by simp) _).setCell (by simp) _).setCell (by simp) _)
    go_wp2_with fail
    obtain ⟨wf, hwf⟩ : ∃ wf, wf = (((((((w1.alloc (.cells #[.slice D1 jx.table.tracked.length E1, .slice D2 jx.table.patterns.length E2, .slice D3 jx.table.distances.length E3, .int .i64 jx.next, .string jx.log, .int .i64 jx.synced] 34)).setCell ⟨w.heap.size + 2, 0, none⟩ (.slice D1 jx.table.tracked.length E1)).setCell ⟨w.heap.size + 2, 1, none⟩ (.slice D2 jx.table.patterns.length E2)).setCell ⟨w.heap.size + 2, 2, none⟩ (.slice D3 jx.table.distances.length E3)).setCell ⟨w.heap.size + 2, 3, none⟩ (.int .i64 jx.next)).setCell ⟨w.heap.size + 2, 4, none⟩ (.string jx.log)).setCell ⟨w.heap.size + 2, 5, none⟩ (.int .i64 jx.synced)) := ⟨_, rfl⟩
    rw [← hwf] at Yf kf ⊢
    simp only [List.set] at Yf
    clear hwf g0 q0 g1 q1 g2 q2 g3 q3 g4 q4 g5 q5
    have z0 := Yf.cell 0 rfl
    have z1 := Yf.cell 1 rfl
    have z2 := Yf.cell 2 rfl
    have z3 := Yf.cell 3 rfl
    have z4 := Yf.cell 4 rfl
    have z5 := Yf.cell 5 rfl
    refine bodyPost_ret (v := .tuple #[.agg #[.slice D1 jx.table.tracked.length E1, .slice D2 jx.table.patterns.length E2, .slice D3 jx.table.distances.length E3, .int .i64 jx.next, .string jx.log, .int .i64 jx.synced], .bool true]) (by simp [results, Tryz.results35, go_sem, z0, z1, z2, z3, z4, z5]) rfl ⟨[.slice D1 jx.table.tracked.length E1, .slice D2 jx.table.patterns.length E2, .slice D3 jx.table.distances.length E3, .int .i64 jx.next, .string jx.log, .int .i64 jx.synced], f1, by rw [HE.out], by rw [HE.out, ← HJ.out]; exact Rp.only (Rp.keep r1 ka) kf (fun b hb hm => by have := F1.ge b hb; simp at hm this; omega), .inr ((F1.keep ka).mono (by omega) |>.only kf (fun b hb hm => by have := F1.ge b hb; simp at hm this; omega)), K1.then_ kf (by simp)⟩

end Go.Proofs.YtkhdmiemfpelcaaGreat

namespace Go.Proofs.YtkhdmiemfpelcaaGreat
open Go.RowKit
set_option maxRecDepth 10000

theorem validF_iff {x : Puzzle} {j : FillJob} : validF x j = true ↔ ∃ n, valF x j n := by
  unfold validF
  exact @decide_eq_true_iff _ (Classical.propDecidable _)
theorem atF_log_lt (x : Puzzle) (tr : List Int) (n : Nat) : (atF x tr n).log.size < (atF x tr (n + 1)).log.size := by
  show _ < ((atF x tr n).log ++ recF _ _).size
  rw [ByteArray.size_append, recF_size]; omega
theorem atF_log_mono (x : Puzzle) (tr : List Int) {n m : Nat} (h : n < m) : (atF x tr n).log.size < (atF x tr m).log.size := by
  induction m with
  | zero => omega
  | succ m ih =>
    have h1 := atF_log_lt x tr m
    rcases Nat.lt_or_ge n m with h2 | h2
    · have := ih h2; omega
    · have : n = m := by omega
      rw [this]; exact h1
/-- the replay goes on behind n expansions -/
def goesF (x : Puzzle) (j : FillJob) (n : Nat) : Prop := (n : Int) < j.next ∧ n < (atF x j.table.tracked n).table.patterns.length ∧ (atF x j.table.tracked n).log.size < j.log.size
theorem valF_stop {x : Puzzle} {j : FillJob} {n : Nat} (hb : (bTab x j.table.tracked).isSome = true) (hl : j.log.size ≤ 60000) (hs : 0 ≤ j.synced ∧ j.synced ≤ j.log.size)
    (hg : ∀ m, m < n → goesF x j m) (hn : ¬ goesF x j n) : (∃ k, valF x j k) ↔ sameF (atF x j.table.tracked n) j := by
  have hok : okF x j.table.tracked n := fun m hm => (hg m hm).2.1
  refine ⟨fun ⟨k, hv⟩ => ?_, fun h => ⟨n, hb, hl, hs, hok, h⟩⟩
  obtain ⟨-, -, -, hk, he⟩ := hv
  have hnx := ((atF_good hb k hk).1).nx
  have e1 : j.next = k := by rw [← he.1, hnx]
  have hle : n ≤ k := by
    rcases Nat.eq_zero_or_pos n with h0 | h0
    · omega
    · have := (hg (n - 1) (by omega)).1; omega
  rcases Nat.lt_or_ge n k with hlt | hge
  · exact absurd ⟨by omega, hk n hlt, by rw [← he.2.1]; exact atF_log_mono x _ hlt⟩ hn
  · have : n = k := by omega
    rw [this]; exact he
theorem validF_stop {x : Puzzle} {j : FillJob} {n : Nat} (hb : (bTab x j.table.tracked).isSome = true) (hl : j.log.size ≤ 60000) (hs : 0 ≤ j.synced ∧ j.synced ≤ j.log.size)
    (hg : ∀ m, m < n → goesF x j m) (hn : ¬ goesF x j n) : validF x j = sameB (atF x j.table.tracked n) j := by
  rw [Bool.eq_iff_iff, sameB_iff, ← valF_stop hb hl hs hg hn, validF_iff]
theorem validF_no {x : Puzzle} {j : FillJob} (h : ¬ ((bTab x j.table.tracked).isSome = true ∧ j.log.size ≤ 60000 ∧ 0 ≤ j.synced ∧ j.synced ≤ j.log.size)) : validF x j = false := by
  rw [← Bool.not_eq_true, validF_iff]
  rintro ⟨n, h1, h2, h3, -⟩
  exact h ⟨h1, h2, h3.1, h3.2⟩
/-- a valid job is one of the jobs on the way, but for what is synced -/
theorem validF_at {x : Puzzle} {j : FillJob} (h : validF x j = true) : ∃ n : Nat, (bTab x j.table.tracked).isSome = true ∧ okF x j.table.tracked n ∧ j = { atF x j.table.tracked n with synced := j.synced } ∧ j.log.size ≤ 60000 ∧ 0 ≤ j.synced ∧ j.synced ≤ j.log.size := by
  rw [validF_iff] at h
  obtain ⟨n, h1, h2, h3, h4, h5⟩ := h
  refine ⟨n, h1, h4, ?_, h2, h3.1, h3.2⟩
  obtain ⟨e1, e2, e3⟩ := h5
  rw [FillJob.eq_iff]
  exact ⟨e3.symm, e1.symm, e2.symm, rfl⟩
end Go.Proofs.YtkhdmiemfpelcaaGreat
