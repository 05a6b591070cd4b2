/- The program's proof of a table: what a table is checked with. (Written by mkprf.py.) The program's proof of a table: where a letter leads, the faults of an entry. (Written by mkprf2.py.) The reference's tables: where a letter leads, the first letter of a descent. The reference's faults of an entry. (Written by mkspecent.py.) -/
import Derived.Test.YtpkplmnpepkdaaaRowVerifiedTablesG6
import Derived.Test.YtpkplmnpepkdaaaRowVerifiedTablesG1
import Derived.Test.YtpkplmnpepkdaaaRowVerifiedTablesG2
import Derived.Test.YtpkplmnpepkdaaaRowVerifiedTablesG7
import Derived.Test.YtpkplmnpepkdaaaRowVerifiedTablesG4
import Derived.Deep.RegionHeld3
import Derived.Deep.DeepCutAuto
import Derived.Deep.AppendLies
import Derived.Deep.RegionLaw
import Derived.Test.YtpkplmnpepkdaaaRowVerifiedTablesG5
namespace Go.Proofs.Ytpkplmnpepkdaaa
open Go.RowKit
set_option maxRecDepth 10000

theorem Mp.mono {w : World} {M k k' : Nat} {g : ByteArray → Option Int} (h : Mp w M k g) (hk : k ≤ k') : Mp w M k' g := by
  obtain ⟨D, h1, h2⟩ := h
  exact ⟨D, h1.mono hk, h2⟩
theorem step_push2 {P : Program} {α : Type} [Rp α] {ops : Array Oper} {o : Oper} {a : Act} {w : World} {Q : Exit → Act → World → Prop} {K : Act → World → Prop} {E : Prop} (hgd : o.guard = none) (s x : Operand) (t : TypeId)
    (ho : o.op = .call { callee := .builtin .append, args := #[s, x], argTypes := #[t, t] })
    (B : Nat) (e : TypeId) (i : TypeInfo) (z : Value) (bytes : Nat) (ht : P.underlying t = some (.slice e)) (hi : P.info? e = some i) (hz : i.zero = some z)
    (hsize : i.size = Rp.size α) (hby : i.bytes = bytes) (hzs : z.cells.size = Rp.size α) (hsz : 0 < Rp.size α) (hbb : bytes ≤ 65536)
    (w0 : World) (v : Value) (l : List α) (fs : List (List Nat)) (hs : a.eval s = v) (hA : Acc B e w0 v l fs) (hK0 : Only [] w0 w) (hB : B ≤ w0.heap.size)
    (g c : Nat) (cs : List Value) (y : α) (fp : List Nat) (hx : a.eval x = .slice (some ⟨g, 0, none⟩) 1 c) (hsrc : ∀ j u, cs[j]? = some u → w.cell? ⟨g, j, none⟩ = some u) (hcs : ∀ u ∈ cs, u.oneCell' = true)
    (hy : Rp.rep w cs y fp) (hap : ∀ b ∈ fp, v.ownBlock ≠ some b) (hlen : l.length + 1 ≤ 1073741824)
    (h : ∀ v' w', Acc B e w' v' (l ++ [y]) (fs ++ [fp]) → Only v.ownBlock.toList w w' → (v'.ownBlock = v.ownBlock ∨ v'.ownBlock = some w.heap.size) → K (a.put o.dst v') w') : if Region.wanted o (yielded ops a.tmps) = true then Oper.wp P o a w K Q else E := by
  rw [if_pos (by simp [Region.wanted, hgd])]
  exact wp_push2 s x t ho B e i z bytes ht hi hz hsize hby hzs hsz hbb w0 v l fs hs hA hK0 hB g c cs y fp hx hsrc hcs hy hap hlen fun v' w' h1 h2 _ _ h5 => h v' w' h1 h2 h5
/-- block g is the proof of a table -/
def Prf (w : World) (g : Nat) (x : Puzzle) (t : Table) : Prop :=
  ∃ v0 v1 v2 vl vm M f0 f1 f2 fl fm k, Blk w g [v0, v1, v2, vl, vm, .map (some M)] ∧ Rd w v0 t.tracked f0 ∧ Rd w v1 t.patterns f1 ∧ Rd w v2 t.distances f2 ∧ Rd w vl (ltrs x.moves.length) fl ∧
    Rd w vm ((ltrs x.moves.length).map (mv x.moves)) fm ∧ Mp w M k (firstG t.patterns)
theorem Prf.keep {w w' : World} {g : Nat} {x : Puzzle} {t : Table} (h : Prf w g x t) (ho : Only [] w w') : Prf w' g x t := by
  obtain ⟨v0, v1, v2, vl, vm, M, f0, f1, f2, fl, fm, k, hb, h0, h1, h2, h3, h4, h5⟩ := h
  exact ⟨v0, v1, v2, vl, vm, M, f0, f1, f2, fl, fm, k, hb.keep ho, Rp.keep h0 ho, Rp.keep h1 ho, Rp.keep h2 ho, Rp.keep h3 ho, Rp.keep h4 ho, h5.keep ho⟩
/-- the proof as it is begun: letters, an empty map -/
def NP0 (Wb wx : World) (v : Value) (S : List Value) (n : Nat) : Prop :=
  ∃ g M vl fl, v = .pointer (some ⟨g, 0, none⟩) ∧ Blk wx g (S ++ [vl, .slice none 0 0, .map (some M)]) ∧ Mp wx M 0 (fun _ => none) ∧ Rd wx vl (ltrs n) fl ∧ (∀ b ∈ fl, Wb.heap.size ≤ b) ∧ M ∉ fl ∧ g ∉ fl ∧ g ≠ M ∧ Wb.heap.size ≤ g ∧ Wb.heap.size ≤ M ∧ Only [] Wb wx
set_option maxHeartbeats 4000000 in
theorem newProof_bad (cs ds : List Value) (x : Puzzle) (t : Table) (f1 f2 : List Nat) (w : World) (h : Rp.rep w cs x f1) (h2 : Rp.rep w ds t f2) (hc : ¬ (validPz x = true ∧ wfT t = true ∧ trackB x.points t.tracked = true)) :
    Calls Try.prog 25 #[.agg cs.toArray, .agg ds.toArray] w fun e w' => e = .returned (.tuple #[.pointer none, .bool false]) ∧ Only [] w w' := by
  have h0 := h
  have h20 := h2
  obtain ⟨v2, rfl, p0, p1, hm⟩ := h
  obtain ⟨AG, CG, obg, fpg, rfl, hfpg, hsg⟩ := hm.open_
  obtain ⟨u0, u1, u2, q0, q1, q2, rfl, rfl, r0, r1, r2⟩ := h2
  obtain ⟨A0, C0, rfl, I0⟩ := r0.ints
  obtain ⟨A1, C1, ob, fps, rfl, -, hs⟩ := r1.open_
  obtain ⟨A2, C2, rfl, I2⟩ := r2.ints
  have bG := hsg.bound
  have b0 := I0.bound
  have b1 := hs.bound
  have hB2 := Blk.new_at (w := w.alloc (.cells [.int .i64 x.points, .string x.names, .slice AG x.moves.length CG].toArray 26)) (g := w.heap.size + 1) (cs := [.slice A0 t.tracked.length C0, .slice A1 t.patterns.length C1, .slice A2 t.distances.length C2]) (t := 29) (by simp)
  have hB1 := Blk.keep (Blk.new_at (w := w) (cs := [.int .i64 x.points, .string x.names, .slice AG x.moves.length CG]) (t := 26) rfl) ((Only.refl [] _).alloc (.cells [.slice A0 t.tracked.length C0, .slice A1 t.patterns.length C1, .slice A2 t.distances.length C2].toArray 29))
  rcases hv : validPz x
  · go_enter Try.func25, Try.ntmps25
    go_wp2_with ((go_at_call 36; (with_reducible refine (implIsValidPuzzle_any [.int .i64 x.points, .string x.names, .slice AG x.moves.length CG] x _ _ (Rp.keep h0 (by with_reducible repeat (first | exact Only.refl _ _ | assumption | refine Only.drewN ?_ _ | refine Only.drew ?_ | refine Only.alloc ?_ _ | refine Only.setCell ?_ (by intro hh; exfalso; simp at hh; try omega) _ | refine Only.trans ?_ (by assumption))))).mono ?_); rintro e w1 ⟨he, t1⟩; rw [hv] at he; subst he; have c1 := hB1.keep t1; have c2 := hB2.keep t1; have y0 := c1.cell 0 rfl; have z0 := c2.cell 0 rfl; have z1 := c2.cell 1 rfl; have z2 := c2.cell 2 rfl))
    refine bodyPost_ret (v := .tuple #[.pointer none, .bool false]) (by simp [results, Try.results25, go_sem]) rfl ⟨rfl, (by with_reducible repeat (first | exact Only.refl _ _ | assumption | refine Only.drewN ?_ _ | refine Only.drew ?_ | refine Only.alloc ?_ _ | refine Only.setCell ?_ (by intro hh; exfalso; simp at hh; try omega) _ | refine Only.trans ?_ (by assumption)))⟩
  obtain ⟨g1, g2, g3, g4⟩ := validPz_facts hv
  rcases hw : wfT t
  · go_enter Try.func25, Try.ntmps25
    go_wp2_with (first | (go_at_call 36; (with_reducible refine (implIsValidPuzzle_any [.int .i64 x.points, .string x.names, .slice AG x.moves.length CG] x _ _ (Rp.keep h0 (by with_reducible repeat (first | exact Only.refl _ _ | assumption | refine Only.drewN ?_ _ | refine Only.drew ?_ | refine Only.alloc ?_ _ | refine Only.setCell ?_ (by intro hh; exfalso; simp at hh; try omega) _ | refine Only.trans ?_ (by assumption))))).mono ?_); rintro e w1 ⟨he, t1⟩; rw [hv] at he; subst he; have c1 := hB1.keep t1; have c2 := hB2.keep t1; have y0 := c1.cell 0 rfl; have z0 := c2.cell 0 rfl; have z1 := c2.cell 1 rfl; have z2 := c2.cell 2 rfl) | (go_at_call 37; (with_reducible refine (implWfTable_any [.slice A0 t.tracked.length C0, .slice A1 t.patterns.length C1, .slice A2 t.distances.length C2] t _ _ (Rp.keep h20 (by with_reducible repeat (first | exact Only.refl _ _ | assumption | refine Only.drewN ?_ _ | refine Only.drew ?_ | refine Only.alloc ?_ _ | refine Only.setCell ?_ (by intro hh; exfalso; simp at hh; try omega) _ | refine Only.trans ?_ (by assumption))))).mono ?_); rintro e w2 ⟨he, t2⟩; rw [hw] at he; subst he; have y0' := (c1.keep t2).cell 0 rfl; have z0' := (c2.keep t2).cell 0 rfl))
    refine bodyPost_ret (v := .tuple #[.pointer none, .bool false]) (by simp [results, Try.results25, go_sem]) rfl ⟨rfl, (by with_reducible repeat (first | exact Only.refl _ _ | assumption | refine Only.drewN ?_ _ | refine Only.drew ?_ | refine Only.alloc ?_ _ | refine Only.setCell ?_ (by intro hh; exfalso; simp at hh; try omega) _ | refine Only.trans ?_ (by assumption)))⟩
  rcases ht : trackB x.points t.tracked
  · go_enter Try.func25, Try.ntmps25
    go_wp2_with (first | (go_at_call 36; (with_reducible refine (implIsValidPuzzle_any [.int .i64 x.points, .string x.names, .slice AG x.moves.length CG] x _ _ (Rp.keep h0 (by with_reducible repeat (first | exact Only.refl _ _ | assumption | refine Only.drewN ?_ _ | refine Only.drew ?_ | refine Only.alloc ?_ _ | refine Only.setCell ?_ (by intro hh; exfalso; simp at hh; try omega) _ | refine Only.trans ?_ (by assumption))))).mono ?_); rintro e w1 ⟨he, t1⟩; rw [hv] at he; subst he; have c1 := hB1.keep t1; have c2 := hB2.keep t1; have y0 := c1.cell 0 rfl; have z0 := c2.cell 0 rfl; have z1 := c2.cell 1 rfl; have z2 := c2.cell 2 rfl) | (go_at_call 37; (with_reducible refine (implWfTable_any [.slice A0 t.tracked.length C0, .slice A1 t.patterns.length C1, .slice A2 t.distances.length C2] t _ _ (Rp.keep h20 (by with_reducible repeat (first | exact Only.refl _ _ | assumption | refine Only.drewN ?_ _ | refine Only.drew ?_ | refine Only.alloc ?_ _ | refine Only.setCell ?_ (by intro hh; exfalso; simp at hh; try omega) _ | refine Only.trans ?_ (by assumption))))).mono ?_); rintro e w2 ⟨he, t2⟩; rw [hw] at he; subst he; have y0' := (c1.keep t2).cell 0 rfl; have z0' := (c2.keep t2).cell 0 rfl) | (go_at_call 38; (with_reducible refine (isTracked_rd x.points _ t.tracked _ _ (Rp.keep r0 (by with_reducible repeat (first | exact Only.refl _ _ | assumption | refine Only.drewN ?_ _ | refine Only.drew ?_ | refine Only.alloc ?_ _ | refine Only.setCell ?_ (by intro hh; exfalso; simp at hh; try omega) _ | refine Only.trans ?_ (by assumption)))) (by omega) (by omega)).mono ?_); rintro e w3 ⟨he, m3, rfl⟩; rw [ht] at he; subst he))
    refine bodyPost_ret (v := .tuple #[.pointer none, .bool false]) (by simp [results, Try.results25, go_sem]) rfl ⟨rfl, (by with_reducible repeat (first | exact Only.refl _ _ | assumption | refine Only.drewN ?_ _ | refine Only.drew ?_ | refine Only.alloc ?_ _ | refine Only.setCell ?_ (by intro hh; exfalso; simp at hh; try omega) _ | refine Only.trans ?_ (by assumption)))⟩
  exact absurd ⟨hv, hw, ht⟩ hc
set_option maxHeartbeats 8000000 in
theorem newProof_any (cs ds : List Value) (x : Puzzle) (t : Table) (f1 f2 : List Nat) (w : World) (h : Rp.rep w cs x f1) (h2 : Rp.rep w ds t f2) (hv : validPz x = true) (hw : wfT t = true) (ht : trackB x.points t.tracked = true) :
    Calls Try.prog 25 #[.agg cs.toArray, .agg ds.toArray] w fun e w' => ∃ q, e = .returned (.tuple #[.pointer q, .bool (checkT x t)]) ∧ (checkT x t = true → ∃ g, q = some ⟨g, 0, none⟩ ∧ Prf w' g x t) ∧ Only [] w w' := by
  have h0 := h
  have h20 := h2
  obtain ⟨v2, rfl, p0, p1, hm⟩ := h
  obtain ⟨AG, CG, obg, fpg, rfl, hfpg, hsg⟩ := hm.open_
  obtain ⟨u0, u1, u2, q0, q1, q2, rfl, rfl, r0, r1, r2⟩ := h2
  obtain ⟨A0, C0, rfl, I0⟩ := r0.ints
  obtain ⟨A1, C1, ob, fps, rfl, -, hs⟩ := r1.open_
  obtain ⟨A2, C2, rfl, I2⟩ := r2.ints
  have bG := hsg.bound
  have b0 := I0.bound
  have b1 := hs.bound
  have hB2 := Blk.new_at (w := w.alloc (.cells [.int .i64 x.points, .string x.names, .slice AG x.moves.length CG].toArray 26)) (g := w.heap.size + 1) (cs := [.slice A0 t.tracked.length C0, .slice A1 t.patterns.length C1, .slice A2 t.distances.length C2]) (t := 29) (by simp)
  have hB1 := Blk.keep (Blk.new_at (w := w) (cs := [.int .i64 x.points, .string x.names, .slice AG x.moves.length CG]) (t := 26) rfl) ((Only.refl [] _).alloc (.cells [.slice A0 t.tracked.length C0, .slice A1 t.patterns.length C1, .slice A2 t.distances.length C2].toArray 29))
  obtain ⟨g1, g2, g3, g4⟩ := validPz_facts hv
  have hwf := wfT_iff.1 hw
  have hn3 := hwf.2.1.2
  have hck : checkT x t = t.patterns.all (patB x.points t.tracked.length) := by unfold checkT; rw [hv, hw, ht]; rfl
  have Hck := Lib.hid hck
  have HWF := Lib.hid hwf
  clear hck hwf
  go_enter Try.func25, Try.ntmps25
  go_upto_region 3 with (first | (go_at_call 36; (with_reducible refine (implIsValidPuzzle_any [.int .i64 x.points, .string x.names, .slice AG x.moves.length CG] x _ _ (Rp.keep h0 (by with_reducible repeat (first | exact Only.refl _ _ | assumption | refine Only.drewN ?_ _ | refine Only.drew ?_ | refine Only.alloc ?_ _ | refine Only.setCell ?_ (by intro hh; exfalso; simp at hh; try omega) _ | refine Only.trans ?_ (by assumption))))).mono ?_); rintro e w1 ⟨he, t1⟩; rw [hv] at he; subst he; have c1 := hB1.keep t1; have c2 := hB2.keep t1; have y0 := c1.cell 0 rfl; have z0 := c2.cell 0 rfl; have z1 := c2.cell 1 rfl; have z2 := c2.cell 2 rfl) | (go_at_call 37; (with_reducible refine (implWfTable_any [.slice A0 t.tracked.length C0, .slice A1 t.patterns.length C1, .slice A2 t.distances.length C2] t _ _ (Rp.keep h20 (by with_reducible repeat (first | exact Only.refl _ _ | assumption | refine Only.drewN ?_ _ | refine Only.drew ?_ | refine Only.alloc ?_ _ | refine Only.setCell ?_ (by intro hh; exfalso; simp at hh; try omega) _ | refine Only.trans ?_ (by assumption))))).mono ?_); rintro e w2 ⟨he, t2⟩; rw [hw] at he; subst he; have y0' := (c1.keep t2).cell 0 rfl; have z0' := (c2.keep t2).cell 0 rfl) | (go_at_call 38; (with_reducible refine (isTracked_rd x.points _ t.tracked _ _ (Rp.keep r0 (by with_reducible repeat (first | exact Only.refl _ _ | assumption | refine Only.drewN ?_ _ | refine Only.drew ?_ | refine Only.alloc ?_ _ | refine Only.setCell ?_ (by intro hh; exfalso; simp at hh; try omega) _ | refine Only.trans ?_ (by assumption)))) (by omega) (by omega)).mono ?_); rintro e w3 ⟨he, m3, rfl⟩; rw [ht] at he; subst he))
  have hKw : Only [] w (w2.drewN m3) := (by with_reducible repeat (first | exact Only.refl _ _ | assumption | refine Only.drewN ?_ _ | refine Only.drew ?_ | refine Only.alloc ?_ _ | refine Only.setCell ?_ (by intro hh; exfalso; simp at hh; try omega) _ | refine Only.trans ?_ (by assumption)))
  have c1' := (c1.keep t2).keep (Only.ofDrewN w2 m3 [])
  have c2' := (c2.keep t2).keep (Only.ofDrewN w2 m3 [])
  clear y0 z0 z1 z2 y0' z0' c1 c2 hB1 hB2
  generalize w2.drewN m3 = Wb at *
  have hmm := @run_makeMap Try.prog
  go_cut [6] (fun s6 wx => NP0 Wb wx s6 [.slice A0 t.tracked.length C0, .slice A1 t.patterns.length C1, .slice A2 t.distances.length C2] x.moves.length)
  case first =>
    have y0 := c1'.cell 0 rfl
    have y1 := c1'.cell 1 rfl
    have y2 := c1'.cell 2 rfl
    have z0 := c2'.cell 0 rfl
    have z1 := c2'.cell 1 rfl
    have z2 := c2'.cell 2 rfl
    go_region_held3 (fun w' => Only [] Wb w' ∧ w'.cell? ⟨w.heap.size, 2, none⟩ = some (.slice AG x.moves.length CG) ∧ w'.cell? ⟨w.heap.size + 1, 0, none⟩ = some (.slice A0 t.tracked.length C0) ∧ w'.cell? ⟨w.heap.size + 1, 1, none⟩ = some (.slice A1 t.patterns.length C1) ∧ w'.cell? ⟨w.heap.size + 1, 2, none⟩ = some (.slice A2 t.distances.length C2)) (((refine and_of ?_ (fun h__ => ⟨h__.cell (by simp) y2, h__.cell (by simp) z0, h__.cell (by simp) z1, h__.cell (by simp) z2⟩)); first | exact (Only.refl _ _).drew | exact ((Only.refl _ _).drewN _).drew | exact Only.trans (And.left (by assumption)) (by assumption) | exact Only.alloc (And.left (by assumption)) _ | assumption)) (first | (go_at_call 39; (with_reducible refine (letters_any x.moves.length _ (by omega)).mono ?_); rintro e w5 ⟨u5, fl, rfl, r5, F5, t5⟩; obtain ⟨A3, C3, rfl, -⟩ := r5.ints) | fail "no arm")
    · go_wp2_with fail
      go_meet
      have hw5 : Only [] Wb w5 := (Only.refl [] Wb).drew.trans t5
      have hs5 := hw5.size
      exact ⟨w5.heap.size + 1, w5.heap.size, _, fl, rfl, Blk.new_at (w := w5.alloc (.map #[] 0)) (by simp), (Mp.made w5 rfl).keep ((Only.refl _ _).alloc _), Rp.keep r5 (by with_reducible repeat (first | exact Only.refl _ _ | assumption | refine Only.drewN ?_ _ | refine Only.drew ?_ | refine Only.alloc ?_ _ | refine Only.setCell ?_ (by intro hh; exfalso; simp at hh; try omega) _ | refine Only.trans ?_ (by assumption))), F5.ge, fun hm => by have := F5.lt _ hm; omega, fun hm => by have := F5.lt _ hm; omega, by omega, by omega, by omega, (by with_reducible repeat (first | exact Only.refl _ _ | assumption | refine Only.drewN ?_ _ | refine Only.drew ?_ | refine Only.alloc ?_ _ | refine Only.setCell ?_ (by intro hh; exfalso; simp at hh; try omega) _ | refine Only.trans ?_ (by assumption)))⟩
    · go_wp2_with fail
      go_meet
      have hw5 : Only [] (Wb.alloc (.map #[] 0)) w5 := (Only.refl [] (Wb.alloc (.map #[] 0))).drew.trans t5
      have hs5 := hw5.size
      have hsa : (Wb.alloc (.map #[] 0)).heap.size = Wb.heap.size + 1 := by simp
      have hFge : ∀ b ∈ fl, Wb.heap.size + 1 ≤ b := fun b hb => by have := F5.ge b hb; simp at this; omega
      exact ⟨w5.heap.size, Wb.heap.size, _, fl, rfl, Blk.new_at (w := w5) rfl, ((Mp.made Wb rfl).keep hw5).keep ((Only.refl _ _).alloc _), Rp.keep r5 (by with_reducible repeat (first | exact Only.refl _ _ | assumption | refine Only.drewN ?_ _ | refine Only.drew ?_ | refine Only.alloc ?_ _ | refine Only.setCell ?_ (by intro hh; exfalso; simp at hh; try omega) _ | refine Only.trans ?_ (by assumption))), fun b hb => by have := hFge b hb; omega, fun hm => by have := hFge _ hm; omega, fun hm => by have := F5.lt _ hm; omega, by omega, by omega, by omega, (by with_reducible repeat (first | exact Only.refl _ _ | assumption | refine Only.drewN ?_ _ | refine Only.drew ?_ | refine Only.alloc ?_ _ | refine Only.setCell ?_ (by intro hh; exfalso; simp at hh; try omega) _ | refine Only.trans ?_ (by assumption)))⟩
  case rest =>
  obtain ⟨g, M, vl, fl, rfl, D6, hMp0, rL, hfl, hMfl, hgfl, hgM, hgW, hMW, hK1⟩ := hcut
  obtain ⟨W1, hnew⟩ : ∃ W, W = wc := ⟨_, rfl⟩
  subst hnew
  have hWlt := c2'.lt
  have e1 := c1'.keep hK1
  have e2 := c2'.keep hK1
  have hKw1 : Only [] w W1 := hKw.trans hK1
  have hwM0 : w.heap.size ∉ [M] := by simp; omega
  have hwM1 : w.heap.size + 1 ∉ [M] := by simp; omega
  have hgMn : g ∉ [M] := by simpa using hgM
  have hMw : ∀ wr, Only [M] W1 wr → Only [] w wr := fun wr hK => hKw1.then_ hK (fun b hb hl => by simp at hb; omega)
  have HMw := Lib.hid hMw
  have y0 := e2.cell 1 rfl
  clear c1' c2' hMw
  go_wp2
  go_loopw [40] (fun i wr => ∃ j : Nat, j ≤ t.patterns.length ∧ i = .int .i64 j ∧ (∀ p ∈ t.patterns.take j, patB x.points t.tracked.length p = true) ∧ Mp wr M j (firstG (t.patterns.take j)) ∧ Only [M] W1 wr)
    (fun i _ => t.patterns.length - (intOf i).toNat)
  case atStart => exact ⟨0, Nat.zero_le _, rfl, by simp, hMp0, Only.refl _ _⟩
  case round =>
    clear y0
    obtain ⟨j, hj, rfl, hr, hMp, hK⟩ := hrel
    have Hr := Lib.hid hr; clear hr
    have hKW := HMw.out wr hK
    have y0 := (e1.only hK hwM0).cell 0 rfl
    have y1 := (e1.only hK hwM0).cell 1 rfl
    have y2 := (e1.only hK hwM0).cell 2 rfl
    have z0 := (e2.only hK hwM1).cell 0 rfl
    have d5 := (D6.only hK hgMn).cell 5 rfl
    by_cases hlt : j < t.patterns.length
    · obtain ⟨b, off, u, rfl, -, hc0, hu0⟩ := hs.atRow j hlt
      have hc := hKW.cell (by simp) hc0
      have hu := Rp.keep hu0 hKW
      have hpl := (patB_iff.1 (HWF.out.2.2.2.1 _ (List.getElem_mem hlt))).1
      have htl := inc_len_le2 HWF.out.1
      have hkl : t.patterns[j].length ≤ 1000 := by omega
      have hks : (kB t.patterns[j]).size ≤ maxLen := by rw [kB_size]; unfold maxLen; omega
      have Hks := Lib.hid hks
      clear hc0 hu0 hpl hks
      rcases c3 : patB x.points t.tracked.length t.patterns[j]
      · have hbad : checkT x t = false := by
          rw [Hck.out, List.all_eq_false]; exact ⟨t.patterns[j], List.getElem_mem hlt, by simp [c3]⟩
        have Hbad := Lib.hid hbad; clear hbad
        go_wp2_with ((go_at_call 40; (with_reducible refine (isPattern_rd x.points t.tracked.length u t.patterns[j] _ _ hu (by omega) (by omega) b0).mono ?_); rintro e w4 ⟨he, m4, rfl⟩; rw [c3] at he; subst he))
        refine bodyPost_ret (v := .tuple #[.pointer none, .bool false]) (by simp [results, Try.results25, go_sem]) rfl ⟨none, by rw [Hbad.out], fun hh => (by rw [Hbad.out] at hh; cases hh), (by with_reducible repeat (first | exact Only.refl _ _ | assumption | refine Only.drewN ?_ _ | refine Only.drew ?_ | refine Only.alloc ?_ _ | refine Only.setCell ?_ (by intro hh; exfalso; simp at hh; try omega) _ | refine Only.trans ?_ (by assumption)))⟩
      · have hsn := fun s => firstG_snoc (t.patterns.take j) t.patterns[j] s
        rw [← take_succ_get t.patterns j hlt] at hsn
        have hjl : (t.patterns.take j).length = j := by rw [List.length_take]; omega
        have hset := mem_take_stepR' hlt (P := fun p => patB x.points t.tracked.length p = true) Hr.out c3
        have Hset := Lib.hid hset
        have hIj : I64 (j : Int) := by unfold I64; omega
        have HIj := Lib.hid hIj
        clear hset hIj
        rcases hfi : firstG (t.patterns.take j) (kB t.patterns[j]) with _ | n
        · have hnext : ∀ s, (if s = kB t.patterns[j] then some (j : Int) else firstG (t.patterns.take j) s) = firstG (t.patterns.take (j + 1)) s := by
            intro s
            rw [hsn s]
            by_cases he : s = kB t.patterns[j]
            · subst he; rw [hfi, hjl]
            · rw [if_neg he]; cases firstG (t.patterns.take j) s <;> simp [he]
          have Hnext := Lib.hid hnext
          have Hfi := Lib.hid hfi
          clear hnext hsn hfi hjl
          go_wp2_with ((go_at_call 40; (with_reducible refine (isPattern_rd x.points t.tracked.length u t.patterns[j] _ _ hu (by omega) (by omega) b0).mono ?_); rintro e w4 ⟨he, k4⟩; rw [c3] at he; subst he; have hk4 := Drew.only k4 []; have d5' := hk4.cell (by simp) d5; have hu4 := Rp.keep hu hk4; have hMp4 := hMp.keep hk4; have hK4 := hK.keepThen hk4))
          go_region_held3 (fun w' => Only [] w4 w' ∧ w'.cell? ⟨g, 5, none⟩ = some (.map (some M))) (((refine and_of ?_ (fun h__ => h__.cell (by simp) d5')); first | exact (Only.refl _ _).drew | exact ((Only.refl _ _).drewN _).drew | exact Only.trans (And.left (by assumption)) (by assumption) | exact Only.alloc (And.left (by assumption)) _ | assumption)) (first | (go_at_call 41; (with_reducible refine (stateKey_rd u t.patterns[j] _ _ (Rp.keep hu4 (And.left (by assumption))) hkl).mono ?_); rintro e w5 ⟨rfl, t5⟩; have hO5 := Only.trans (And.left (by assumption)) t5; have d55 := t5.cell (by simp) (And.right (by assumption)); have hMp5 := hMp4.keep hO5; have hrun5 := hMp5.run_no Hks.out Hfi.out) | fail "no arm")
          go_wp2
          go_region_held3 (fun w' => Only [M] w5 w' ∧ w'.cell? ⟨g, 5, none⟩ = some (.map (some M))) ((refine and_of ?_ (fun h__ => h__.cell hgMn d55); first | exact (Only.refl _ _).drew | exact Only.keepThen (And.left (by assumption)) (by assumption) | exact Only.trans (And.left (by assumption)) (by assumption) | assumption)) (first | (go_at_call 41; (with_reducible refine (stateKey_rd u t.patterns[j] _ _ (Rp.keep hu4 (hO5.trans (by with_reducible repeat (first | exact Only.refl _ _ | assumption | refine Only.drewN ?_ _ | refine Only.drew ?_ | refine Only.alloc ?_ _ | refine Only.setCell ?_ (by intro hh; exfalso; simp at hh; try omega) _ | refine Only.trans ?_ (by assumption))))) hkl).mono ?_); rintro e w6 ⟨rfl, t6⟩; have hMp6 := hMp5.keep (Only.trans ((Only.refl _ _).drew) t6); obtain ⟨w7, hrun7, hM7, hO7⟩ := hMp6.run_put Hks.out HIj.out (by unfold maxLen; omega)) | fail "no arm")
          go_wp2
          go_roundw
          case rel => exact ⟨j + 1, by omega, by go_num, Hset.out, hM7.congr Hnext.out, ((hK4.keepThen hO5).keepThen (Only.trans ((Only.refl _ _).drew) t6)).trans hO7⟩
          case measure => simp [intOf]; omega
        · have hnext : ∀ s, firstG (t.patterns.take j) s = firstG (t.patterns.take (j + 1)) s := by
            intro s
            rw [hsn s]
            by_cases he : s = kB t.patterns[j]
            · subst he; rw [hfi]
            · cases firstG (t.patterns.take j) s <;> simp [he]
          have Hnext := Lib.hid hnext
          have Hfi := Lib.hid hfi
          clear hnext hsn hfi hjl
          go_wp2_with ((go_at_call 40; (with_reducible refine (isPattern_rd x.points t.tracked.length u t.patterns[j] _ _ hu (by omega) (by omega) b0).mono ?_); rintro e w4 ⟨he, k4⟩; rw [c3] at he; subst he; have hk4 := Drew.only k4 []; have d5' := hk4.cell (by simp) d5; have hu4 := Rp.keep hu hk4; have hMp4 := hMp.keep hk4; have hK4 := hK.keepThen hk4))
          go_region_held3 (fun w' => Only [] w4 w' ∧ w'.cell? ⟨g, 5, none⟩ = some (.map (some M))) (((refine and_of ?_ (fun h__ => h__.cell (by simp) d5')); first | exact (Only.refl _ _).drew | exact ((Only.refl _ _).drewN _).drew | exact Only.trans (And.left (by assumption)) (by assumption) | exact Only.alloc (And.left (by assumption)) _ | assumption)) (first | (go_at_call 41; (with_reducible refine (stateKey_rd u t.patterns[j] _ _ (Rp.keep hu4 (And.left (by assumption))) hkl).mono ?_); rintro e w5 ⟨rfl, t5⟩; have hO5 := Only.trans (And.left (by assumption)) t5; have hMp5 := hMp4.keep hO5; have hrun5 := hMp5.run_yes Hks.out Hfi.out) | fail "no arm")
          go_wp2
          go_roundw
          case rel => exact ⟨j + 1, by omega, by go_num, Hset.out, (hMp5.congr Hnext.out).mono (Nat.le_succ _), hK4.keepThen hO5⟩
          case measure => simp [intOf]; omega
    · have hjl : j = t.patterns.length := by omega
      rw [hjl, List.take_length] at hMp
      have hall : checkT x t = true := by
        rw [Hck.out, List.all_eq_true]; have := Hr.out; rwa [List.take_of_length_le (by omega)] at this
      have Hall := Lib.hid hall
      have D6' := D6.only hK hgMn
      have e1' := e1.only hK hwM0
      have rL' : Rd wr vl (ltrs x.moves.length) fl := Rp.only rL hK (fun b hb hm => hMfl (by simp at hm; rwa [← hm]))
      have hfl' := hfl
      obtain ⟨A3, C3, rfl, I3⟩ := rL'.ints
      have d3 := D6'.cell 3 rfl
      have HMP := Lib.hid hMp
      have hb3 := I3.bound
      have hll : (ltrs x.moves.length).length ≤ 16 := by rw [ltrs_len]; omega
      have hgwr : g < wr.heap.size := D6'.lt
      have hMwr : M < wr.heap.size := hMp.lt
      have hgw : w.heap.size ≠ g := by omega
      obtain ⟨i0, hi, hz0, hz1, hz2⟩ := info_parts Try.info22
      have hgens : ∀ y ∈ x.moves, PM.IsP y ∧ y.length ≤ 1000 := fun y hy => by have := g4 y hy; exact ⟨(permB_iff.1 this.2).2, by omega⟩
      have Hgens := Lib.hid hgens
      clear hjl hall hMp hgens y0 y1 y2 z0 d5
      obtain ⟨W2, hnew2⟩ : ∃ W, W = wr := ⟨_, rfl⟩
      subst hnew2
      go_wp2
      go_loopw [78] (fun i w2 => ∃ (k : Nat) (fs : List (List Nat)) (o : Value), k ≤ (ltrs x.moves.length).length ∧ i = .int .i64 k ∧ Blk w2 g ([.slice A0 t.tracked.length C0, .slice A1 t.patterns.length C1, .slice A2 t.distances.length C2] ++ [.slice A3 (ltrs x.moves.length).length C3, o, .map (some M)]) ∧ Acc W2.heap.size 27 w2 o (((ltrs x.moves.length).take k).map (mv x.moves)) fs ∧ (∀ b ∈ fs.flatten, b ≠ g) ∧ Only [g] W2 w2)
        (fun i _ => (ltrs x.moves.length).length - (intOf i).toNat)
      case atStart => exact ⟨0, [], .slice none 0 0, Nat.zero_le _, rfl, D6', Acc.nil W2 _ _, by simp, Only.refl _ _⟩
      case round =>
        clear d3
        obtain ⟨k, fs, o, hk, rfl, hB, hA, hfs, hK2⟩ := hrel
        have hKW2 : Only [] w wr := hKW.then_ hK2 (fun b hb hl => by simp at hb; omega)
        have d4 := hB.cell 4 rfl
        have y2 := (e1'.only hK2 (by simp; omega)).cell 2 rfl
        by_cases hlt2 : k < (ltrs x.moves.length).length
        · obtain ⟨bl, ol, rfl, hflb, hcl0⟩ := I3.at_ k hlt2
          have hblg : bl ≠ g := fun e => hgfl (by rw [hflb, e]; simp)
          have hcl := hK2.cell (by simpa using hblg) hcl0
          have hla := List.getElem_mem hlt2
          have hstep : ((ltrs x.moves.length).take k).map (mv x.moves) ++ [mv x.moves (ltrs x.moves.length)[k]] = ((ltrs x.moves.length).take (k + 1)).map (mv x.moves) := by rw [take_succ_get _ k hlt2]; simp only [List.map_append, List.map_cons, List.map_nil]
          have hlj : (((ltrs x.moves.length).take k).map (mv x.moves)).length + 1 ≤ 1073741824 := by rw [List.length_map, List.length_take]; omega
          have hfz := Blk.frozen hB 4
          have Hstep := Lib.hid hstep
          have Hlj := Lib.hid hlj
          have HB := Lib.hid hB
          have hBw := hK2.size
          clear hstep hlj hcl0 hB hflb
          go_upto_region 16 with fail
          have hgown : g ∉ o.ownBlock.toList := fun hm9 => by have := (hA.ownlt g (by simpa using hm9)).1; omega
          have hwW2 := hKW.size
          go_region_law (first | (go_simp; go_at_call 42; (with_reducible refine (letterOf_rd _ x.moves (ltrs x.moves.length)[k] _ _ (Rp.keep hm (hKW2.trans (by with_reducible repeat (first | exact Only.refl _ _ | assumption | refine Only.drewN ?_ _ | refine Only.drew ?_ | refine Only.alloc ?_ _ | refine Only.setCell ?_ (by intro hh; exfalso; simp at hh; try omega) _ | refine Only.trans ?_ (by assumption))))) Hgens.out hla (by omega)).mono ?_); rintro e w8 ⟨u8, f8, rfl, r8, hf8, t8⟩; obtain ⟨A8, C8, rfl, -⟩ := r8.ints; have d48 := t8.cell (by simp) d4; have d48a := ((Only.refl [] w8).alloc (.cells #[.slice A8 (mv x.moves (ltrs x.moves.length)[k]).length C8] 27)).cell (by simp) d48; have hap8 : ∀ b ∈ f8, b < w.heap.size ∨ wr.heap.size ≤ b := (fun b hb => by rcases hf8 b hb with h9 | h9; exact .inl (Rp.lt hm _ h9); right; simpa using h9)) | (refine step_push2 rfl _ _ 24 rfl W2.heap.size 27 i0 _ 24 Try.underlying24 hi hz0 hz1 hz2 rfl (by decide) (by decide) wr o (((ltrs x.moves.length).take k).map (mv x.moves)) fs rfl hA (by with_reducible repeat (first | exact Only.refl _ _ | assumption | refine Only.drewN ?_ _ | refine Only.drew ?_ | refine Only.alloc ?_ _ | refine Only.setCell ?_ (by intro hh; exfalso; simp at hh; try omega) _ | refine Only.trans ?_ (by assumption))) hBw _ 1 [.slice A8 (mv x.moves (ltrs x.moves.length)[k]).length C8] (mv x.moves (ltrs x.moves.length)[k]) f8 rfl (lit_src w8 [.slice A8 (mv x.moves (ltrs x.moves.length)[k]).length C8] _ rfl) (by intro u hu; simp at hu; subst hu; rfl) (Rp.keep r8 ((Only.refl _ _).alloc _)) (fun b hb hv9 => by have h9 := hA.ownlt b hv9; have := hap8 b hb; omega) Hlj.out ?_; intro v9 w9 hA9 hO9 hb9; obtain ⟨a9, n9, c9, rfl⟩ : ∃ a n c, v9 = Value.slice a n c := (let ⟨a, c, hh⟩ := hA9.form; ⟨a, _, c, hh⟩); have B8 := HB.out.keep (Only.trans ((Only.refl _ _).drew) t8); have B9 := (B8.keep ((Only.refl _ _).alloc (.cells #[.slice A8 (mv x.moves (ltrs x.moves.length)[k]).length C8] 27))).only hO9 hgown; have d49 := B9.cell 4 rfl; have z49 := Blk.frozen B9 4) | fail "no arm")
          all_goals go_wp2
          all_goals have hne : ∀ b ∈ (fs ++ [f8]).flatten, b ≠ g := (fun b hb => by
            rw [List.flatten_append] at hb
            simp only [List.flatten_cons, List.flatten_nil, List.append_nil] at hb
            rcases List.mem_append.1 hb with hb | hb
            · exact hfs b hb
            · have := hap8 b hb; have := hKw.size; omega)
          all_goals have hs8 : wr.heap.size ≤ w8.heap.size := (Only.trans ((Only.refl [] wr).drew) t8).size
          all_goals refine ⟨⟨k + 1, fs ++ [f8], .slice a9 n9 c9, by omega, by go_num, B9.set 4 _, ?_, hne, ?_⟩, by simp [intOf]; omega⟩
          all_goals first
            | (rw [← Hstep.out]; exact hA9.only ((Only.refl [g] _).setCell (by intro _; simp) _) (fun b hb => by simpa using hne b hb) (fun q hq => by
                rcases hb9 with h9 | h9
                · rw [h9] at hq; intro hm9; simp at hm9; subst hm9; exact hgown (by simp [hq])
                · rw [h9] at hq; injection hq with hq; simp at hq ⊢; omega))
            | exact (((hK2.keepThen (Only.trans ((Only.refl [] wr).drew) t8)).keepThen ((Only.refl _ _).alloc _)).then_ hO9 (fun b hb hl => by have h9 : o.ownBlock = some b := (by simpa using hb); have := (hA.ownlt b h9).1; omega)).setCell (by intro _; simp) _
        · have hkl : k = (ltrs x.moves.length).length := by omega
          rw [hkl, List.take_length] at hA
          have hP : Prf wr g x t := ⟨_, _, _, _, o, M, _, _, _, fl, _, _, hB, Rp.keep r0 hKW2, Rp.keep r1 hKW2, Rp.keep r2 hKW2, Rp.only rL' hK2 (fun b hb hm9 => hgfl (by simp at hm9; rwa [← hm9])), hA.rd (by decide), HMP.out.only hK2 (by simpa using fun e => hgM e.symm)⟩
          have HP := Lib.hid hP
          clear hkl hP hA hB
          go_wp2
          refine bodyPost_ret (v := .tuple #[.pointer (some ⟨g, 0, none⟩), .bool true]) (by simp [results, Try.results25, go_sem]) rfl ⟨some ⟨g, 0, none⟩, by rw [Hall.out], fun _ => ⟨g, rfl, HP.out⟩, hKW2⟩
end Go.Proofs.Ytpkplmnpepkdaaa


namespace Go.Proofs.Ytpkplmnpepkdaaa
open Go.RowKit
set_option maxRecDepth 10000

theorem nextI_first {x : Puzzle} {t : Table} {p : List Int} {l : Int} (hc : checkT x t = true) (hp : patB x.points t.tracked.length p = true) (hl : l ∈ ltrs x.moves.length) :
    firstG t.patterns (kB (nxt x p l)) = if 0 ≤ nextI x t p l then some (nextI x t p l) else none := by
  obtain ⟨hv, hw, ht, hps⟩ := checkT_iff.1 hc
  obtain ⟨g1, g2, g3, g4⟩ := validPz_facts hv
  exact firstG_idx (fun q hq => patB_byt (hps q hq) (by omega)) (patB_byt (nxt_pat hv hp hl) (by omega))
/-- the distance behind a letter, and whether there is one -/
def toI (t : Table) (n : Int) : Int := if 0 ≤ n then atD t n else 0
def toB (n : Int) : Bool := decide (0 ≤ n)
theorem toI_no {t : Table} {n : Int} (h : n < 0) : toI t n = 0 := by unfold toI; rw [if_neg (by omega)]
theorem toI_yes {t : Table} {n : Int} (h : 0 ≤ n) : toI t n = atD t n := by unfold toI; rw [if_pos h]
theorem toB_no {n : Int} (h : n < 0) : toB n = false := decide_eq_false (by omega)
theorem toB_yes {n : Int} (h : 0 ≤ n) : toB n = true := decide_eq_true h
set_option maxHeartbeats 4000000 in
theorem to_any (g : Nat) (x : Puzzle) (t : Table) (v : Value) (p : List Int) (fp : List Nat) (k : Nat) (w : World) (hP : Prf w g x t) (h : Rd w v p fp) (hc : checkT x t = true) (hp : patB x.points t.tracked.length p = true) (hk : k < (ltrs x.moves.length).length) :
    Calls Try.prog 64 #[.pointer (some ⟨g, 0, none⟩), v, .int .i64 k] w fun e w' => e = .returned (.tuple #[.int .i64 (toI t (nextI x t p (ltrs x.moves.length)[k])), .bool (toB (nextI x t p (ltrs x.moves.length)[k]))]) ∧ Only [] w w' := by
  obtain ⟨hv, hw, ht, hps⟩ := checkT_iff.1 hc
  have hwf := wfT_iff.1 hw
  obtain ⟨g1, g2, g3, g4⟩ := validPz_facts hv
  have hla := List.getElem_mem hk
  have hfirst := nextI_first hc hp hla
  obtain ⟨hn0, hn1⟩ := (show -1 ≤ nextI x t p (ltrs x.moves.length)[k] ∧ nextI x t p (ltrs x.moves.length)[k] < t.patterns.length from idxL_lt)
  have hpn := mv_pn (validPz_pn hv) hla
  obtain ⟨hpl, hpr, -⟩ := patB_iff.1 hp
  have htl := inc_len_le2 ht
  have hnx : nxt x p (ltrs x.moves.length)[k] = PM.comp p (mv x.moves (ltrs x.moves.length)[k]) := rfl
  rw [hnx] at hfirst
  obtain ⟨n, hn⟩ : ∃ n, n = nextI x t p (ltrs x.moves.length)[k] := ⟨_, rfl⟩
  rw [← hn] at hfirst hn0 hn1 ⊢
  obtain ⟨v0, v1, v2, vl, vm, M, f0, f1, f2, fl, fm, km, hB, r0, r1, r2, rl, rm, hM⟩ := hP
  obtain ⟨Am, Cm, obm, fpm, rfl, -, hsm⟩ := rm.open_
  obtain ⟨A2, C2, rfl, I2⟩ := r2.ints
  have hkm : k < ((ltrs x.moves.length).map (mv x.moves)).length := by rw [List.length_map]; exact hk
  obtain ⟨bm, om, um, rfl, -, hcm, hum⟩ := hsm.atRow k hkm
  rw [List.getElem_map] at hum
  have d5 := hB.cell 5 rfl
  have d4 := hB.cell 4 rfl
  have d2 := hB.cell 2 rfl
  have hk1 : (0 : Int) ≤ (k : Int) := by omega
  have hk2 : (k : Int) < (((ltrs x.moves.length).map (mv x.moves)).length : Int) := by omega
  have hk3 : (k : Int) < ((ltrs x.moves.length).length : Int) := by omega
  have hrg : ∀ y ∈ p, 0 ≤ y ∧ y < ((mv x.moves (ltrs x.moves.length)[k]).length : Int) := fun y hy => by have := hpr y hy; have := hpn.1; omega
  have Hrg := Lib.hid hrg
  have hpl2 : p.length ≤ 1000 := by omega
  have hcl : (PM.comp p (mv x.moves (ltrs x.moves.length)[k])).length ≤ 1000 := by rw [PM.comp_len]; exact hpl2
  have hks : (kB (PM.comp p (mv x.moves (ltrs x.moves.length)[k]))).size ≤ maxLen := by rw [kB_size]; unfold maxLen; omega
  have Hcl := Lib.hid hcl
  have Hks := Lib.hid hks
  clear hn hnx hrg hcl hks hpl htl hwf hpn
  by_cases hneg : n < 0
  · rw [if_neg (by omega)] at hfirst
    have Hf := Lib.hid hfirst
    have hres := toB_no hneg
    have Hres := Lib.hid hres
    have Hneg := Lib.hid hneg
    clear hfirst hres hn0 hn1 hneg
    go_enter Try.func64, Try.ntmps64
    go_wp2
    go_region_held3 (fun w' => Only [] w w' ∧ w'.cell? ⟨g, 5, none⟩ = some (.map (some M)) ∧ w'.cell? ⟨g, 4, none⟩ = some (.slice (some ⟨bm, om, none⟩) ((ltrs x.moves.length).map (mv x.moves)).length Cm) ∧ w'.cell? ⟨bm, om + k, none⟩ = some (um)) (((refine and_of ?_ (fun h__ => ⟨h__.cell (by simp) d5, h__.cell (by simp) d4, h__.cell (by simp) hcm⟩)); first | exact (Only.refl _ _).drew | exact ((Only.refl _ _).drewN _).drew | exact Only.trans (And.left (by assumption)) (by assumption) | exact Only.alloc (And.left (by assumption)) _ | assumption)) (first | (go_at_call 82; (with_reducible refine (picked_rd um v (mv x.moves (ltrs x.moves.length)[k]) p _ _ _ (Rp.keep hum (And.left (by assumption))) (Rp.keep h (And.left (by assumption))) Hrg.out hpl2).mono ?_); rintro e w5 ⟨u5, f5, rfl, r5, F5, t5⟩; have hO5 := Only.trans (And.left (by assumption)) t5; have hM5 := hM.keep hO5) | (go_at_call 41; (with_reducible refine (stateKey_rd u5 (PM.comp p (mv x.moves (ltrs x.moves.length)[k])) _ _ r5 Hcl.out).mono ?_); rintro e w6 ⟨rfl, t6⟩; have hO6 := hO5.trans t6; have hrun6 := (hM.keep hO6).run_no Hks.out Hf.out) | fail "no arm")
    go_wp2
    refine bodyPost_ret (v := .tuple #[.int .i64 0, .bool false]) (by simp [results, Try.results64, go_sem]) rfl ⟨by rw [Hres.out, toI_no Hneg.out], (by with_reducible repeat (first | exact Only.refl _ _ | assumption | refine Only.drewN ?_ _ | refine Only.drew ?_ | refine Only.alloc ?_ _ | refine Only.setCell ?_ (by intro hh; exfalso; simp at hh; try omega) _ | refine Only.trans ?_ (by assumption)))⟩
  · rw [if_pos (by omega)] at hfirst
    have Hf := Lib.hid hfirst
    have hres := toB_yes (n := n) (by omega)
    have Hres := Lib.hid hres
    have hdl : t.distances.length = t.patterns.length := (wfT_iff.1 hw).2.2.1
    have hnl : n.toNat < t.distances.length := by omega
    have hnl' : n < (t.distances.length : Int) := by omega
    have hn0' : 0 ≤ n := by omega
    have hat := atD_of (t := t) (j := n) (i := n.toNat) (by omega) hnl
    have Hat := Lib.hid hat
    obtain ⟨b2, o2, rfl, -, hdd⟩ := I2.at_ n.toNat hnl
    clear hfirst hres hat hn0 hn1 hneg hdl
    go_enter Try.func64, Try.ntmps64
    go_wp2
    go_region_held3 (fun w' => Only [] w w' ∧ w'.cell? ⟨g, 5, none⟩ = some (.map (some M)) ∧ w'.cell? ⟨g, 4, none⟩ = some (.slice (some ⟨bm, om, none⟩) ((ltrs x.moves.length).map (mv x.moves)).length Cm) ∧ w'.cell? ⟨bm, om + k, none⟩ = some (um)) (((refine and_of ?_ (fun h__ => ⟨h__.cell (by simp) d5, h__.cell (by simp) d4, h__.cell (by simp) hcm⟩)); first | exact (Only.refl _ _).drew | exact ((Only.refl _ _).drewN _).drew | exact Only.trans (And.left (by assumption)) (by assumption) | exact Only.alloc (And.left (by assumption)) _ | assumption)) (first | (go_at_call 82; (with_reducible refine (picked_rd um v (mv x.moves (ltrs x.moves.length)[k]) p _ _ _ (Rp.keep hum (And.left (by assumption))) (Rp.keep h (And.left (by assumption))) Hrg.out hpl2).mono ?_); rintro e w5 ⟨u5, f5, rfl, r5, F5, t5⟩; have hO5 := Only.trans (And.left (by assumption)) t5; have hM5 := hM.keep hO5) | (go_at_call 41; (with_reducible refine (stateKey_rd u5 (PM.comp p (mv x.moves (ltrs x.moves.length)[k])) _ _ r5 Hcl.out).mono ?_); rintro e w6 ⟨rfl, t6⟩; have hO6 := hO5.trans t6; have hrun6 := (hM.keep hO6).run_yes Hks.out Hf.out; have d26 := hO6.cell (by simp) d2; have hdd6 := hO6.cell (by simp) hdd) | fail "no arm")
    go_wp2
    refine bodyPost_ret (v := .tuple #[.int .i64 t.distances[n.toNat], .bool true]) (by simp [results, Try.results64, go_sem]) rfl ⟨by rw [Hres.out, toI_yes hn0', Hat.out], (by with_reducible repeat (first | exact Only.refl _ _ | assumption | refine Only.drewN ?_ _ | refine Only.drew ?_ | refine Only.alloc ?_ _ | refine Only.setCell ?_ (by intro hh; exfalso; simp at hh; try omega) _ | refine Only.trans ?_ (by assumption)))⟩
end Go.Proofs.Ytpkplmnpepkdaaa

namespace Go.Proofs.Ytpkplmnpepkdaaa
open Go.RowKit
set_option maxRecDepth 10000

theorem patB_rng {n : Int} {k : Nat} {l : List Int} (h : patB n k l = true) : ∀ y ∈ l, 0 ≤ y ∧ y < n := (patB_iff.1 h).2.1
theorem inc_len_le {n : Int} {l : List Int} (h : trackB n l = true) : (l.length : Int) ≤ n := by
  obtain ⟨h0, h1⟩ := trackB_iff.1 h
  rcases h1.len with h2 | h2 <;> omega
theorem foldl_take_succ {α β : Type} (f : β → α → β) (b : β) (l : List α) (j : Nat) (h : j < l.length) : (l.take (j + 1)).foldl f b = f ((l.take j).foldl f b) l[j] := by
  rw [take_succ_get l j h, List.foldl_append]; rfl
theorem foldl_pat {x : Puzzle} {k : Nat} (hv : validPz x = true) : ∀ (wl : List Int) (l : List Int), patB x.points k l = true → (∀ a ∈ wl, a ∈ ltrs x.moves.length) → patB x.points k (wl.foldl (nxt x) l) = true
  | [], l, h, _ => h
  | a :: wl, l, h, hw => foldl_pat hv wl _ (nxt_pat hv h (hw a (by simp))) fun b hb => hw b (by simp [hb])
theorem validW_ltrsI {n : Nat} (hn : n ≤ 8) {wl : List Int} : validW n wl = true ↔ wl.length ≤ 200 ∧ ∀ a ∈ wl, a ∈ ltrs n := by
  unfold validW
  rw [Bool.and_eq_true, decide_eq_true_iff, List.all_eq_true]
  have : ∀ a, okLetter n a = true ↔ a ∈ ltrs n := by
    intro a; rw [okLetter_iff, mem_ltrs]; omega
  simp only [this]
set_option maxHeartbeats 2000000 in
theorem applyLetters_any (cs : List Value) (x : Puzzle) (fp : List Nat) (v u : Value) (l wl : List Int) (f2 f3 : List Nat) (k : Nat) (w : World) (h : Rp.rep w cs x fp) (h2 : Rd w v l f2) (h3 : Rd w u wl f3)
    (hv : validPz x = true) (hl : ∀ a ∈ wl, a ∈ ltrs x.moves.length) (hx : patB x.points k l = true) (hk : k ≤ 1000) (hwl : wl.length ≤ 200) :
    Calls Try.prog 89 #[.agg cs.toArray, v, u] w fun e w' => ∃ v fp', e = .returned v ∧ Rd w' v (wl.foldl (nxt x) l) fp' ∧ Fresh w.heap.size w' fp' ∧ Only [] w w' := by
  have h0 := h
  obtain ⟨v2, rfl, p0, p1, hm⟩ := h
  obtain ⟨A3, C3, rfl, I3⟩ := h3.ints
  have hlk := (patB_iff.1 hx).1
  have Hlk := Lib.hid hlk; clear hlk
  have hB := Blk.new_at (w := w) (cs := [.int .i64 x.points, .string x.names, v2]) (t := 26) rfl
  go_enter Try.func89, Try.ntmps89
  go_wp2_with ((go_at_call 15; (with_reducible refine (copyInts_rd v l _ _ (Rp.keep h2 (by with_reducible repeat (first | exact Only.refl _ _ | assumption | refine Only.drewN ?_ _ | refine Only.drew ?_ | refine Only.alloc ?_ _ | refine Only.setCell ?_ (by intro hh; exfalso; simp at hh; try omega) _ | refine Only.trans ?_ (by assumption)))) (by have := Hlk.out; omega)).mono ?_); rintro e w1 ⟨u1, f1, rfl, r1, F1, t1⟩))
  have hB1 := hB.keep t1
  have hKw : Only [] w w1 := (by with_reducible repeat (first | exact Only.refl _ _ | assumption | refine Only.drewN ?_ _ | refine Only.drew ?_ | refine Only.alloc ?_ _ | refine Only.setCell ?_ (by intro hh; exfalso; simp at hh; try omega) _ | refine Only.trans ?_ (by assumption)))
  have F1' := F1.mono (B' := w.heap.size) (by simp)
  clear hB F1
  go_loopw [7, 8] (fun o i wr => ∃ (j : Nat) (fo : List Nat), j ≤ wl.length ∧ i = .int .i64 j ∧ Rd wr o ((wl.take j).foldl (nxt x) l) fo ∧ Fresh w.heap.size wr fo ∧ Only [] w1 wr)
    (fun _ i _ => wl.length - (intOf i).toNat)
  case atStart => exact ⟨0, _, Nat.zero_le _, rfl, r1, F1', Only.refl _ _⟩
  case round =>
    obtain ⟨j, fo, hj, rfl, hr, hF, hK⟩ := hrel
    have y0 := (hB1.keep hK).cell 0 rfl
    have y1 := (hB1.keep hK).cell 1 rfl
    have y2 := (hB1.keep hK).cell 2 rfl
    have hKz : Only [] w wr := hKw.trans hK
    by_cases hlt : j < wl.length
    · obtain ⟨b, off, rfl, -, hc0⟩ := I3.at_ j hlt
      have hc := hKz.cell (by simp) hc0
      have hp := foldl_pat (k := k) hv (wl.take j) l hx (fun a ha => hl a (List.mem_of_mem_take ha))
      have hla := hl wl[j] (List.getElem_mem _)
      have Hlen := Lib.hid (patB_iff.1 hp).1
      have hs := foldl_take_succ (nxt x) l wl j hlt
      have Hs := Lib.hid hs
      generalize hcur : (wl.take j).foldl (nxt x) l = cur at *
      have Hcur := Lib.hid hcur
      clear hcur hs hc0
      go_wp2
      go_region_held3 (fun w' => Only [] wr w' ∧ w'.cell? ⟨w.heap.size, 0, none⟩ = some (.int .i64 x.points) ∧ w'.cell? ⟨w.heap.size, 1, none⟩ = some (.string x.names) ∧ w'.cell? ⟨w.heap.size, 2, none⟩ = some (v2) ∧ w'.cell? ⟨b, off + j, none⟩ = some (.int .i64 wl[j])) (((refine and_of ?_ (fun h__ => ⟨h__.cell (by simp) y0, h__.cell (by simp) y1, h__.cell (by simp) y2, h__.cell (by simp) hc⟩)); first | exact (Only.refl _ _).drew | exact ((Only.refl _ _).drewN _).drew | exact Only.trans (And.left (by assumption)) (by assumption) | exact Only.alloc (And.left (by assumption)) _ | assumption)) (first | (go_at_call 48; (with_reducible refine (applyLetter_any [.int .i64 x.points, .string x.names, v2] x _ _ cur _ wl[j] _ (Rp.keep h0 (hKz.trans (And.left (by assumption)))) (Rp.keep hr (And.left (by assumption))) hv hla (patB_rng hp) (by have := Hlen.out; omega)).mono ?_); rintro e w4 ⟨u4, f4, rfl, r4, F4, t4⟩; have F4' := F4.mono (hKz.trans (And.left (by assumption))).size) | fail "no arm")
      go_wp2
      go_roundw
      case rel => exact ⟨j + 1, _, by omega, by go_num, by rw [Hs.out]; exact r4, F4', (by with_reducible repeat (first | exact Only.refl _ _ | assumption | refine Only.drewN ?_ _ | refine Only.drew ?_ | refine Only.alloc ?_ _ | refine Only.setCell ?_ (by intro hh; exfalso; simp at hh; try omega) _ | refine Only.trans ?_ (by assumption)))⟩
      case measure => simp [intOf]; omega
    · have hjl : j = wl.length := by omega
      rw [hjl, List.take_length] at hr
      have HR := Lib.hid hr
      clear hjl hr
      go_wp2
      go_ret
      exact ⟨_, _, rfl, HR.out, hF, (by with_reducible repeat (first | exact Only.refl _ _ | assumption | refine Only.drewN ?_ _ | refine Only.drew ?_ | refine Only.alloc ?_ _ | refine Only.setCell ?_ (by intro hh; exfalso; simp at hh; try omega) _ | refine Only.trans ?_ (by assumption)))⟩
theorem specIsValidWord_rd (g : Int) (v : Value) (l : List Int) (fp : List Nat) (w : World) (h : Rd w v l fp) (g0 : 0 ≤ g) (g1 : g ≤ 4611686018427387904) :
    Calls Try.prog 88 #[.int .i64 g, v] w fun e w' => e = .returned (.bool (validW g l)) ∧ Drew w w' := by
  go_enter Try.func88, Try.ntmps88
  go_wp2_with ((go_at_call 91; (with_reducible refine (isWordOf_rd g v l _ _ h g0 g1).mono ?_); rintro e w1 ⟨rfl, n1, rfl⟩))
  go_ret
  exact ⟨rfl, ⟨_, rfl⟩⟩
set_option maxHeartbeats 1000000 in
theorem specPatternAfter_any (cs : List Value) (x : Puzzle) (fp : List Nat) (v u s : Value) (l p wl : List Int) (f2 f3 f4 : List Nat) (w : World) (h : Rp.rep w cs x fp) (h2 : Rd w v l f2) (h3 : Rd w u p f3) (h4 : Rd w s wl f4)
    (hv : validPz x = true) (ht : trackB x.points l = true) (hp : patB x.points l.length p = true) (hl : ∀ a ∈ wl, a ∈ ltrs x.moves.length) (hwl : wl.length ≤ 200) :
    Calls Try.prog 72 #[.agg cs.toArray, v, u, s] w fun e w' => ∃ v fp', e = .returned (.tuple #[v, .bool true]) ∧ Rd w' v (wl.foldl (nxt x) p) fp' ∧ Fresh w.heap.size w' fp' ∧ Only [] w w' := by
  have h0 := h
  obtain ⟨v2, rfl, p0, p1, hm⟩ := h
  obtain ⟨g1, g2, g3, g4⟩ := validPz_facts hv
  obtain ⟨AG, CG, ob, fps, rfl, -, hs⟩ := hm.open_
  have hB := Blk.new_at (w := w) (cs := [.int .i64 x.points, .string x.names, .slice AG x.moves.length CG]) (t := 26) rfl
  have hvw : validW x.moves.length wl = true := (validW_ltrsI g3).2 ⟨hwl, hl⟩
  have hll := inc_len_le ht
  go_enter Try.func72, Try.ntmps72
  go_wp2_with (first | (go_at_call 87; (with_reducible refine (specIsPattern_any [.int .i64 x.points, .string x.names, .slice AG x.moves.length CG] x _ _ _ l p _ _ _ (Rp.keep h0 (by with_reducible repeat (first | exact Only.refl _ _ | assumption | refine Only.drewN ?_ _ | refine Only.drew ?_ | refine Only.alloc ?_ _ | refine Only.setCell ?_ (by intro hh; exfalso; simp at hh; try omega) _ | refine Only.trans ?_ (by assumption)))) (Rp.keep h2 (by with_reducible repeat (first | exact Only.refl _ _ | assumption | refine Only.drewN ?_ _ | refine Only.drew ?_ | refine Only.alloc ?_ _ | refine Only.setCell ?_ (by intro hh; exfalso; simp at hh; try omega) _ | refine Only.trans ?_ (by assumption)))) (Rp.keep h3 (by with_reducible repeat (first | exact Only.refl _ _ | assumption | refine Only.drewN ?_ _ | refine Only.drew ?_ | refine Only.alloc ?_ _ | refine Only.setCell ?_ (by intro hh; exfalso; simp at hh; try omega) _ | refine Only.trans ?_ (by assumption))))).mono ?_); rintro e w1 ⟨he, t1⟩; rw [hv, ht, hp] at he; subst he; have y0 := (hB.keep t1).cell 0 rfl; have y1 := (hB.keep t1).cell 1 rfl; have y2 := (hB.keep t1).cell 2 rfl) | (go_at_call 88; (with_reducible refine (specIsValidWord_rd x.moves.length s wl _ _ (Rp.keep h4 (by with_reducible repeat (first | exact Only.refl _ _ | assumption | refine Only.drewN ?_ _ | refine Only.drew ?_ | refine Only.alloc ?_ _ | refine Only.setCell ?_ (by intro hh; exfalso; simp at hh; try omega) _ | refine Only.trans ?_ (by assumption)))) (by omega) (by omega)).mono ?_); rintro e w2 ⟨he, m2, rfl⟩; rw [hvw] at he; subst he) | (go_at_call 89; (with_reducible refine (applyLetters_any [.int .i64 x.points, .string x.names, .slice AG x.moves.length CG] x _ _ _ p wl _ _ l.length _ (Rp.keep h0 (by with_reducible repeat (first | exact Only.refl _ _ | assumption | refine Only.drewN ?_ _ | refine Only.drew ?_ | refine Only.alloc ?_ _ | refine Only.setCell ?_ (by intro hh; exfalso; simp at hh; try omega) _ | refine Only.trans ?_ (by assumption)))) (Rp.keep h3 (by with_reducible repeat (first | exact Only.refl _ _ | assumption | refine Only.drewN ?_ _ | refine Only.drew ?_ | refine Only.alloc ?_ _ | refine Only.setCell ?_ (by intro hh; exfalso; simp at hh; try omega) _ | refine Only.trans ?_ (by assumption)))) (Rp.keep h4 (by with_reducible repeat (first | exact Only.refl _ _ | assumption | refine Only.drewN ?_ _ | refine Only.drew ?_ | refine Only.alloc ?_ _ | refine Only.setCell ?_ (by intro hh; exfalso; simp at hh; try omega) _ | refine Only.trans ?_ (by assumption)))) hv hl hp (by omega) hwl).mono ?_); rintro e w3 ⟨u3, f3', rfl, r3, F3, t3⟩; obtain ⟨A3, C3, rfl, -⟩ := r3.ints))
  have hK : Only [] w w1 := (by with_reducible repeat (first | exact Only.refl _ _ | assumption | refine Only.drewN ?_ _ | refine Only.drew ?_ | refine Only.alloc ?_ _ | refine Only.setCell ?_ (by intro hh; exfalso; simp at hh; try omega) _ | refine Only.trans ?_ (by assumption)))
  refine bodyPost_ret (v := .tuple #[.slice A3 (wl.foldl (nxt x) p).length C3, .bool true]) (by simp [results, Try.results72, go_sem]) rfl ⟨_, _, rfl, r3, F3.mono hK.size, (by with_reducible repeat (first | exact Only.refl _ _ | assumption | refine Only.drewN ?_ _ | refine Only.drew ?_ | refine Only.alloc ?_ _ | refine Only.setCell ?_ (by intro hh; exfalso; simp at hh; try omega) _ | refine Only.trans ?_ (by assumption)))⟩
set_option maxHeartbeats 1000000 in
theorem indexOfList_rd (v u : Value) (l : List (List Int)) (p : List Int) (f1 f2 : List Nat) (w : World) (h : Rd w v l f1) (h2 : Rd w u p f2) :
    Calls Try.prog 73 #[v, u] w fun e w' => e = .returned (.int .i64 (idxL l p)) ∧ Drew w w' := by
  obtain ⟨a, cap, ob, fps, rfl, -, hs⟩ := h.open_
  have hb := hs.bound
  go_enter Try.func73, Try.ntmps73
  go_wp2
  go_loopw [5] (fun i wr => ∃ j : Nat, j ≤ l.length ∧ i = .int .i64 j ∧ (∀ q ∈ l.take j, decide (q = p) = false) ∧ Drew w wr)
    (fun i _ => l.length - (intOf i).toNat)
  case atStart => exact ⟨0, Nat.zero_le _, rfl, by simp, Drew.refl _⟩
  case round =>
    obtain ⟨j, hj, rfl, hr, k, rfl⟩ := hrel
    have Hr := Lib.hid hr; clear hr
    by_cases hlt : j < l.length
    · obtain ⟨b, off, s, rfl, -, hc, hv⟩ := hs.atRow j hlt
      have hdec := eqV_dec l[j] p
      rcases hx : eqV l[j] p
      all_goals rw [hx] at hdec
      all_goals have Hdec := Lib.hid hdec
      all_goals clear hdec
      all_goals go_wp2_with ((go_at_call 30; (with_reducible refine (equalInts_rd s u l[j] p _ _ _ (Rp.keep hv (by with_reducible repeat (first | exact Only.refl _ _ | assumption | refine Only.drewN ?_ _ | refine Only.drew ?_ | refine Only.alloc ?_ _ | refine Only.setCell ?_ (by intro hh; exfalso; simp at hh; try omega) _ | refine Only.trans ?_ (by assumption)))) (Rp.keep h2 (by with_reducible repeat (first | exact Only.refl _ _ | assumption | refine Only.drewN ?_ _ | refine Only.drew ?_ | refine Only.alloc ?_ _ | refine Only.setCell ?_ (by intro hh; exfalso; simp at hh; try omega) _ | refine Only.trans ?_ (by assumption))))).mono ?_); rintro e w1 ⟨he, m1, rfl⟩; rw [hx] at he; subst he))
      · go_roundw
        case rel => exact ⟨j + 1, by omega, by go_num, mem_take_stepR hlt Hr.out Hdec.out.symm, ⟨_, rfl⟩⟩
        case measure => simp [intOf]; omega
      · go_ret
        exact ⟨ret_int (idxF_some hlt Hr.out Hdec.out.symm).symm, ⟨_, rfl⟩⟩
    · go_wp2
      go_ret
      exact ⟨ret_int (idxF_none (by have := Hr.out; rwa [List.take_of_length_le (by omega)] at this)).symm, ⟨_, rfl⟩⟩

theorem leads_iff {x : Puzzle} {t : Table} {p : List Int} {d l : Int} : leads x t p d l = true ↔ 0 ≤ nextI x t p l ∧ t.distances.getD (nextI x t p l).toNat 0 = d := by simp [leads]
end Go.Proofs.Ytpkplmnpepkdaaa

namespace Go.Proofs.Ytpkplmnpepkdaaa
open Go.RowKit
set_option maxRecDepth 10000

theorem Try.infoFault : (Try.prog.info? 67).map (fun i => (i.zero, i.size, i.bytes)) = some (some (.agg #[.int .i64 0, .int .i64 0, .int .i64 0]), 3, 24) := by kernel_rfl
theorem one_true (f : Fault) : one true f = [f] := rfl
theorem one_false (f : Fault) : one false f = [] := rfl
theorem letF_miss {x : Puzzle} {t : Table} {i : Nat} {l : Int} (h : nextI x t (atP t i) l < 0) : letF x t i l = [⟨4, i, l⟩] := by unfold letF; rw [if_pos h]
theorem letF_ok {x : Puzzle} {t : Table} {i : Nat} {l : Int} (h : ¬ nextI x t (atP t i) l < 0) (h2 : inR (atD t (nextI x t (atP t i) l) - atD t i) (-1) 1 = true) : letF x t i l = [] := by unfold letF; rw [if_neg h, if_pos h2]
theorem letF_jump {x : Puzzle} {t : Table} {i : Nat} {l : Int} (h : ¬ nextI x t (atP t i) l < 0) (h2 : inR (atD t (nextI x t (atP t i) l) - atD t i) (-1) 1 = false) : letF x t i l = [⟨5, i, l⟩] := by unfold letF; rw [if_neg h, if_neg (by simp [h2])]
theorem flat_take_succ {α β : Type} (f : α → List β) (l : List α) (j : Nat) (h : j < l.length) : (l.take (j + 1)).flatMap f = (l.take j).flatMap f ++ f l[j] := by
  rw [take_succ_get l j h, List.flatMap_append]; simp only [List.flatMap_cons, List.flatMap_nil, List.append_nil]

end Go.Proofs.Ytpkplmnpepkdaaa
