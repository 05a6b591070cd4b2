/- The program's proof of a table: what a table is checked with. (Written by mkprf.py.) -/
import Derived.Test.YtmilmbgnkpkmnaaMap
import Derived.Test.YtmilmbgnkpkmnaaAccK
import Derived.Test.YtmilmbgnkpkmnaaFault
import Derived.Deep.RegionHeld3
import Derived.Deep.DeepCutAuto
import Derived.Deep.AppendLies
import Derived.Deep.RegionLaw
namespace Go.Proofs.Ytmilmbgnkpkmnaa
open Go.RowKit
set_option maxRecDepth 10000

/-- where the first pattern with this key lies -/
def firstG (l : List (List Int)) (s : ByteArray) : Option Int := (l.findIdx? fun p => kB p = s).map fun i : Nat => (i : Int)
theorem firstG_nil (s : ByteArray) : firstG [] s = none := rfl
theorem firstG_snoc (l : List (List Int)) (p : List Int) (s : ByteArray) : firstG (l ++ [p]) s = match firstG l s with | some i => some i | none => if s = kB p then some (l.length : Int) else none := by
  unfold firstG
  rw [List.findIdx?_append]
  cases h : l.findIdx? (fun p => decide (kB p = s)) with
  | some i => simp
  | none =>
    by_cases hp : kB p = s
    · simp [hp]
    · have : ¬ s = kB p := fun e => hp e.symm
      simp [hp, this]
def Byt (l : List Int) : Prop := ∀ x ∈ l, 0 ≤ x ∧ x < 256
theorem firstG_idx {l : List (List Int)} (h : ∀ p ∈ l, Byt p) {q : List Int} (hq : Byt q) : firstG l (kB q) = if 0 ≤ idxL l q then some (idxL l q) else none := by
  have hfun : l.findIdx? (fun p => decide (kB p = kB q)) = l.findIdx? (fun p => decide (p = q)) := by
    induction l with
    | nil => rfl
    | cons p l ih =>
      rw [List.findIdx?_cons, List.findIdx?_cons, ih (fun r hr => h r (by simp [hr]))]
      have : decide (kB p = kB q) = decide (p = q) := by
        rw [decide_eq_decide]; exact kB_eq (h p (by simp)) hq
      rw [this]
  unfold firstG idxL idxF
  rw [hfun]
  cases l.findIdx? (fun p => decide (p = q)) with
  | some i => simp
  | none => simp
theorem inc_len_le2 {n : Int} {l : List Int} (h : trackB n l = true) : (l.length : Int) ≤ n := by
  obtain ⟨h0, h1⟩ := trackB_iff.1 h
  rcases h1.len with h2 | h2 <;> omega
theorem mem_take_stepR' {l : List (List Int)} {j : Nat} (h : j < l.length) {P : List Int → Prop} (h1 : ∀ x ∈ l.take j, P x) (h2 : P l[j]) : ∀ x ∈ l.take (j + 1), P x := by
  rw [take_succ_get l j h]
  intro x hx
  rcases List.mem_append.1 hx with hx | hx
  · exact h1 x hx
  · simp at hx; subst hx; exact h2
theorem patB_byt {n : Int} {k : Nat} {l : List Int} (h : patB n k l = true) (hn : n ≤ 256) : Byt l := fun x hx => by
  have := (patB_iff.1 h).2.1 x hx; omega
theorem Mp.mono {w : World} {M k k' : Nat} {g : ByteArray → Option Int} (h : Mp w M k g) (hk : k ≤ k') : Mp w M k' g := by
  obtain ⟨D, h1, h2⟩ := h
  exact ⟨D, h1.mono hk, h2⟩
theorem Blk.frozen {w : World} {g : Nat} {cs : List Value} (h : Blk w g cs) (i : Nat) : w.frozen? ⟨g, i, none⟩ = false := by
  obtain ⟨t, ht⟩ := h
  simp [World.frozen?, ht]
theorem Blk.set {w : World} {g : Nat} {cs : List Value} (h : Blk w g cs) (i : Nat) (u : Value) : Blk (w.setCell ⟨g, i, none⟩ u) g (cs.set i u) := by
  obtain ⟨t, ht⟩ := h
  exact ⟨t, by rw [heap_setCell_same w g i cs.toArray t u ht, List.setIfInBounds_toArray]⟩
theorem step_push2 {P : Program} {α : Type} [Rp α] {ops : Array Oper} {o : Oper} {a : Act} {w : World} {Q : Exit → Act → World → Prop} {K : Act → World → Prop} {E : Prop} (hgd : o.guard = none) (s x : Operand) (t : TypeId)
    (ho : o.op = .call { callee := .builtin .append, args := #[s, x], argTypes := #[t, t] })
    (B : Nat) (e : TypeId) (i : TypeInfo) (z : Value) (bytes : Nat) (ht : P.underlying t = some (.slice e)) (hi : P.info? e = some i) (hz : i.zero = some z)
    (hsize : i.size = Rp.size α) (hby : i.bytes = bytes) (hzs : z.cells.size = Rp.size α) (hsz : 0 < Rp.size α) (hbb : bytes ≤ 65536)
    (w0 : World) (v : Value) (l : List α) (fs : List (List Nat)) (hs : a.eval s = v) (hA : Acc B e w0 v l fs) (hK0 : Only [] w0 w) (hB : B ≤ w0.heap.size)
    (g c : Nat) (cs : List Value) (y : α) (fp : List Nat) (hx : a.eval x = .slice (some ⟨g, 0, none⟩) 1 c) (hsrc : ∀ j u, cs[j]? = some u → w.cell? ⟨g, j, none⟩ = some u) (hcs : ∀ u ∈ cs, u.oneCell' = true)
    (hy : Rp.rep w cs y fp) (hap : ∀ b ∈ fp, v.ownBlock ≠ some b) (hlen : l.length + 1 ≤ 1073741824)
    (h : ∀ v' w', Acc B e w' v' (l ++ [y]) (fs ++ [fp]) → Only v.ownBlock.toList w w' → (v'.ownBlock = v.ownBlock ∨ v'.ownBlock = some w.heap.size) → K (a.put o.dst v') w') : if Region.wanted o (yielded ops a.tmps) = true then Oper.wp P o a w K Q else E := by
  rw [if_pos (by simp [Region.wanted, hgd])]
  exact wp_push2 s x t ho B e i z bytes ht hi hz hsize hby hzs hsz hbb w0 v l fs hs hA hK0 hB g c cs y fp hx hsrc hcs hy hap hlen fun v' w' h1 h2 _ _ h5 => h v' w' h1 h2 h5
/-- block g is the proof of a table -/
def Prf (w : World) (g : Nat) (x : Puzzle) (t : Table) : Prop :=
  ∃ v0 v1 v2 vl vm M f0 f1 f2 fl fm k, Blk w g [v0, v1, v2, vl, vm, .map (some M)] ∧ Rd w v0 t.tracked f0 ∧ Rd w v1 t.patterns f1 ∧ Rd w v2 t.distances f2 ∧ Rd w vl (ltrs x.moves.length) fl ∧
    Rd w vm ((ltrs x.moves.length).map (mv x.moves)) fm ∧ Mp w M k (firstG t.patterns)
theorem Prf.keep {w w' : World} {g : Nat} {x : Puzzle} {t : Table} (h : Prf w g x t) (ho : Only [] w w') : Prf w' g x t := by
  obtain ⟨v0, v1, v2, vl, vm, M, f0, f1, f2, fl, fm, k, hb, h0, h1, h2, h3, h4, h5⟩ := h
  exact ⟨v0, v1, v2, vl, vm, M, f0, f1, f2, fl, fm, k, hb.keep ho, Rp.keep h0 ho, Rp.keep h1 ho, Rp.keep h2 ho, Rp.keep h3 ho, Rp.keep h4 ho, h5.keep ho⟩
/-- the proof as it is begun: letters, an empty map -/
def NP0 (Wb wx : World) (v : Value) (S : List Value) (n : Nat) : Prop :=
  ∃ g M vl fl, v = .pointer (some ⟨g, 0, none⟩) ∧ Blk wx g (S ++ [vl, .slice none 0 0, .map (some M)]) ∧ Mp wx M 0 (fun _ => none) ∧ Rd wx vl (ltrs n) fl ∧ (∀ b ∈ fl, Wb.heap.size ≤ b) ∧ M ∉ fl ∧ g ∉ fl ∧ g ≠ M ∧ Wb.heap.size ≤ g ∧ Wb.heap.size ≤ M ∧ Only [] Wb wx
set_option maxHeartbeats 4000000 in
theorem newProof_bad (cs ds : List Value) (x : Puzzle) (t : Table) (f1 f2 : List Nat) (w : World) (h : Rp.rep w cs x f1) (h2 : Rp.rep w ds t f2) (hc : ¬ (validPz x = true ∧ wfT t = true ∧ trackB x.points t.tracked = true)) :
    Calls Try.prog 69 #[.agg cs.toArray, .agg ds.toArray] w fun e w' => e = .returned (.tuple #[.pointer none, .bool false]) ∧ Only [] w w' := by
  have h0 := h
  have h20 := h2
  obtain ⟨v2, rfl, p0, p1, hm⟩ := h
  obtain ⟨AG, CG, obg, fpg, rfl, hfpg, hsg⟩ := hm.open_
  obtain ⟨u0, u1, u2, q0, q1, q2, rfl, rfl, r0, r1, r2⟩ := h2
  obtain ⟨A0, C0, rfl, I0⟩ := r0.ints
  obtain ⟨A1, C1, ob, fps, rfl, -, hs⟩ := r1.open_
  obtain ⟨A2, C2, rfl, I2⟩ := r2.ints
  have bG := hsg.bound
  have b0 := I0.bound
  have b1 := hs.bound
  have hB2 := Blk.new_at (w := w.alloc (.cells [.int .i64 x.points, .string x.names, .slice AG x.moves.length CG].toArray 26)) (g := w.heap.size + 1) (cs := [.slice A0 t.tracked.length C0, .slice A1 t.patterns.length C1, .slice A2 t.distances.length C2]) (t := 42) (by simp)
  have hB1 := Blk.keep (Blk.new_at (w := w) (cs := [.int .i64 x.points, .string x.names, .slice AG x.moves.length CG]) (t := 26) rfl) ((Only.refl [] _).alloc (.cells [.slice A0 t.tracked.length C0, .slice A1 t.patterns.length C1, .slice A2 t.distances.length C2].toArray 42))
  rcases hv : validPz x
  · go_enter Try.func69, Try.ntmps69
    go_wp2_with ((go_at_call 52; (with_reducible refine (implIsValidPuzzle_any [.int .i64 x.points, .string x.names, .slice AG x.moves.length CG] x _ _ (Rp.keep h0 (by with_reducible repeat (first | exact Only.refl _ _ | assumption | refine Only.drewN ?_ _ | refine Only.drew ?_ | refine Only.alloc ?_ _ | refine Only.setCell ?_ (by intro hh; exfalso; simp at hh; try omega) _ | refine Only.trans ?_ (by assumption))))).mono ?_); rintro e w1 ⟨he, t1⟩; rw [hv] at he; subst he; have c1 := hB1.keep t1; have c2 := hB2.keep t1; have y0 := c1.cell 0 rfl; have z0 := c2.cell 0 rfl; have z1 := c2.cell 1 rfl; have z2 := c2.cell 2 rfl))
    refine bodyPost_ret (v := .tuple #[.pointer none, .bool false]) (by simp [results, Try.results69, go_sem]) rfl ⟨rfl, (by with_reducible repeat (first | exact Only.refl _ _ | assumption | refine Only.drewN ?_ _ | refine Only.drew ?_ | refine Only.alloc ?_ _ | refine Only.setCell ?_ (by intro hh; exfalso; simp at hh; try omega) _ | refine Only.trans ?_ (by assumption)))⟩
  obtain ⟨g1, g2, g3, g4⟩ := validPz_facts hv
  rcases hw : wfT t
  · go_enter Try.func69, Try.ntmps69
    go_wp2_with (first | (go_at_call 52; (with_reducible refine (implIsValidPuzzle_any [.int .i64 x.points, .string x.names, .slice AG x.moves.length CG] x _ _ (Rp.keep h0 (by with_reducible repeat (first | exact Only.refl _ _ | assumption | refine Only.drewN ?_ _ | refine Only.drew ?_ | refine Only.alloc ?_ _ | refine Only.setCell ?_ (by intro hh; exfalso; simp at hh; try omega) _ | refine Only.trans ?_ (by assumption))))).mono ?_); rintro e w1 ⟨he, t1⟩; rw [hv] at he; subst he; have c1 := hB1.keep t1; have c2 := hB2.keep t1; have y0 := c1.cell 0 rfl; have z0 := c2.cell 0 rfl; have z1 := c2.cell 1 rfl; have z2 := c2.cell 2 rfl) | (go_at_call 95; (with_reducible refine (implWfTable_any [.slice A0 t.tracked.length C0, .slice A1 t.patterns.length C1, .slice A2 t.distances.length C2] t _ _ (Rp.keep h20 (by with_reducible repeat (first | exact Only.refl _ _ | assumption | refine Only.drewN ?_ _ | refine Only.drew ?_ | refine Only.alloc ?_ _ | refine Only.setCell ?_ (by intro hh; exfalso; simp at hh; try omega) _ | refine Only.trans ?_ (by assumption))))).mono ?_); rintro e w2 ⟨he, t2⟩; rw [hw] at he; subst he; have y0' := (c1.keep t2).cell 0 rfl; have z0' := (c2.keep t2).cell 0 rfl))
    refine bodyPost_ret (v := .tuple #[.pointer none, .bool false]) (by simp [results, Try.results69, go_sem]) rfl ⟨rfl, (by with_reducible repeat (first | exact Only.refl _ _ | assumption | refine Only.drewN ?_ _ | refine Only.drew ?_ | refine Only.alloc ?_ _ | refine Only.setCell ?_ (by intro hh; exfalso; simp at hh; try omega) _ | refine Only.trans ?_ (by assumption)))⟩
  rcases ht : trackB x.points t.tracked
  · go_enter Try.func69, Try.ntmps69
    go_wp2_with (first | (go_at_call 52; (with_reducible refine (implIsValidPuzzle_any [.int .i64 x.points, .string x.names, .slice AG x.moves.length CG] x _ _ (Rp.keep h0 (by with_reducible repeat (first | exact Only.refl _ _ | assumption | refine Only.drewN ?_ _ | refine Only.drew ?_ | refine Only.alloc ?_ _ | refine Only.setCell ?_ (by intro hh; exfalso; simp at hh; try omega) _ | refine Only.trans ?_ (by assumption))))).mono ?_); rintro e w1 ⟨he, t1⟩; rw [hv] at he; subst he; have c1 := hB1.keep t1; have c2 := hB2.keep t1; have y0 := c1.cell 0 rfl; have z0 := c2.cell 0 rfl; have z1 := c2.cell 1 rfl; have z2 := c2.cell 2 rfl) | (go_at_call 95; (with_reducible refine (implWfTable_any [.slice A0 t.tracked.length C0, .slice A1 t.patterns.length C1, .slice A2 t.distances.length C2] t _ _ (Rp.keep h20 (by with_reducible repeat (first | exact Only.refl _ _ | assumption | refine Only.drewN ?_ _ | refine Only.drew ?_ | refine Only.alloc ?_ _ | refine Only.setCell ?_ (by intro hh; exfalso; simp at hh; try omega) _ | refine Only.trans ?_ (by assumption))))).mono ?_); rintro e w2 ⟨he, t2⟩; rw [hw] at he; subst he; have y0' := (c1.keep t2).cell 0 rfl; have z0' := (c2.keep t2).cell 0 rfl) | (go_at_call 96; (with_reducible refine (isTracked_rd x.points _ t.tracked _ _ (Rp.keep r0 (by with_reducible repeat (first | exact Only.refl _ _ | assumption | refine Only.drewN ?_ _ | refine Only.drew ?_ | refine Only.alloc ?_ _ | refine Only.setCell ?_ (by intro hh; exfalso; simp at hh; try omega) _ | refine Only.trans ?_ (by assumption)))) (by omega) (by omega)).mono ?_); rintro e w3 ⟨he, m3, rfl⟩; rw [ht] at he; subst he))
    refine bodyPost_ret (v := .tuple #[.pointer none, .bool false]) (by simp [results, Try.results69, go_sem]) rfl ⟨rfl, (by with_reducible repeat (first | exact Only.refl _ _ | assumption | refine Only.drewN ?_ _ | refine Only.drew ?_ | refine Only.alloc ?_ _ | refine Only.setCell ?_ (by intro hh; exfalso; simp at hh; try omega) _ | refine Only.trans ?_ (by assumption)))⟩
  exact absurd ⟨hv, hw, ht⟩ hc
set_option maxHeartbeats 8000000 in
theorem newProof_any (cs ds : List Value) (x : Puzzle) (t : Table) (f1 f2 : List Nat) (w : World) (h : Rp.rep w cs x f1) (h2 : Rp.rep w ds t f2) (hv : validPz x = true) (hw : wfT t = true) (ht : trackB x.points t.tracked = true) :
    Calls Try.prog 69 #[.agg cs.toArray, .agg ds.toArray] w fun e w' => ∃ q, e = .returned (.tuple #[.pointer q, .bool (checkT x t)]) ∧ (checkT x t = true → ∃ g, q = some ⟨g, 0, none⟩ ∧ Prf w' g x t) ∧ Only [] w w' := by
  have h0 := h
  have h20 := h2
  obtain ⟨v2, rfl, p0, p1, hm⟩ := h
  obtain ⟨AG, CG, obg, fpg, rfl, hfpg, hsg⟩ := hm.open_
  obtain ⟨u0, u1, u2, q0, q1, q2, rfl, rfl, r0, r1, r2⟩ := h2
  obtain ⟨A0, C0, rfl, I0⟩ := r0.ints
  obtain ⟨A1, C1, ob, fps, rfl, -, hs⟩ := r1.open_
  obtain ⟨A2, C2, rfl, I2⟩ := r2.ints
  have bG := hsg.bound
  have b0 := I0.bound
  have b1 := hs.bound
  have hB2 := Blk.new_at (w := w.alloc (.cells [.int .i64 x.points, .string x.names, .slice AG x.moves.length CG].toArray 26)) (g := w.heap.size + 1) (cs := [.slice A0 t.tracked.length C0, .slice A1 t.patterns.length C1, .slice A2 t.distances.length C2]) (t := 42) (by simp)
  have hB1 := Blk.keep (Blk.new_at (w := w) (cs := [.int .i64 x.points, .string x.names, .slice AG x.moves.length CG]) (t := 26) rfl) ((Only.refl [] _).alloc (.cells [.slice A0 t.tracked.length C0, .slice A1 t.patterns.length C1, .slice A2 t.distances.length C2].toArray 42))
  obtain ⟨g1, g2, g3, g4⟩ := validPz_facts hv
  have hwf := wfT_iff.1 hw
  have hn3 := hwf.2.1.2
  have hck : checkT x t = t.patterns.all (patB x.points t.tracked.length) := by unfold checkT; rw [hv, hw, ht]; rfl
  have Hck := Lib.hid hck
  have HWF := Lib.hid hwf
  clear hck hwf
  go_enter Try.func69, Try.ntmps69
  go_upto_region 3 with (first | (go_at_call 52; (with_reducible refine (implIsValidPuzzle_any [.int .i64 x.points, .string x.names, .slice AG x.moves.length CG] x _ _ (Rp.keep h0 (by with_reducible repeat (first | exact Only.refl _ _ | assumption | refine Only.drewN ?_ _ | refine Only.drew ?_ | refine Only.alloc ?_ _ | refine Only.setCell ?_ (by intro hh; exfalso; simp at hh; try omega) _ | refine Only.trans ?_ (by assumption))))).mono ?_); rintro e w1 ⟨he, t1⟩; rw [hv] at he; subst he; have c1 := hB1.keep t1; have c2 := hB2.keep t1; have y0 := c1.cell 0 rfl; have z0 := c2.cell 0 rfl; have z1 := c2.cell 1 rfl; have z2 := c2.cell 2 rfl) | (go_at_call 95; (with_reducible refine (implWfTable_any [.slice A0 t.tracked.length C0, .slice A1 t.patterns.length C1, .slice A2 t.distances.length C2] t _ _ (Rp.keep h20 (by with_reducible repeat (first | exact Only.refl _ _ | assumption | refine Only.drewN ?_ _ | refine Only.drew ?_ | refine Only.alloc ?_ _ | refine Only.setCell ?_ (by intro hh; exfalso; simp at hh; try omega) _ | refine Only.trans ?_ (by assumption))))).mono ?_); rintro e w2 ⟨he, t2⟩; rw [hw] at he; subst he; have y0' := (c1.keep t2).cell 0 rfl; have z0' := (c2.keep t2).cell 0 rfl) | (go_at_call 96; (with_reducible refine (isTracked_rd x.points _ t.tracked _ _ (Rp.keep r0 (by with_reducible repeat (first | exact Only.refl _ _ | assumption | refine Only.drewN ?_ _ | refine Only.drew ?_ | refine Only.alloc ?_ _ | refine Only.setCell ?_ (by intro hh; exfalso; simp at hh; try omega) _ | refine Only.trans ?_ (by assumption)))) (by omega) (by omega)).mono ?_); rintro e w3 ⟨he, m3, rfl⟩; rw [ht] at he; subst he))
  have hKw : Only [] w (w2.drewN m3) := (by with_reducible repeat (first | exact Only.refl _ _ | assumption | refine Only.drewN ?_ _ | refine Only.drew ?_ | refine Only.alloc ?_ _ | refine Only.setCell ?_ (by intro hh; exfalso; simp at hh; try omega) _ | refine Only.trans ?_ (by assumption)))
  have c1' := (c1.keep t2).keep (Only.ofDrewN w2 m3 [])
  have c2' := (c2.keep t2).keep (Only.ofDrewN w2 m3 [])
  clear y0 z0 z1 z2 y0' z0' c1 c2 hB1 hB2
  generalize w2.drewN m3 = Wb at *
  have hmm := @run_makeMap Try.prog
  go_cut [6] (fun s6 wx => NP0 Wb wx s6 [.slice A0 t.tracked.length C0, .slice A1 t.patterns.length C1, .slice A2 t.distances.length C2] x.moves.length)
  case first =>
    have y0 := c1'.cell 0 rfl
    have y1 := c1'.cell 1 rfl
    have y2 := c1'.cell 2 rfl
    have z0 := c2'.cell 0 rfl
    have z1 := c2'.cell 1 rfl
    have z2 := c2'.cell 2 rfl
    go_region_held3 (fun w' => Only [] Wb w' ∧ w'.cell? ⟨w.heap.size, 2, none⟩ = some (.slice AG x.moves.length CG) ∧ w'.cell? ⟨w.heap.size + 1, 0, none⟩ = some (.slice A0 t.tracked.length C0) ∧ w'.cell? ⟨w.heap.size + 1, 1, none⟩ = some (.slice A1 t.patterns.length C1) ∧ w'.cell? ⟨w.heap.size + 1, 2, none⟩ = some (.slice A2 t.distances.length C2)) (((refine and_of ?_ (fun h__ => ⟨h__.cell (by simp) y2, h__.cell (by simp) z0, h__.cell (by simp) z1, h__.cell (by simp) z2⟩)); first | exact (Only.refl _ _).drew | exact ((Only.refl _ _).drewN _).drew | exact Only.trans (And.left (by assumption)) (by assumption) | exact Only.alloc (And.left (by assumption)) _ | assumption)) (first | (go_at_call 97; (with_reducible refine (letters_any x.moves.length _ (by omega)).mono ?_); rintro e w5 ⟨u5, fl, rfl, r5, F5, t5⟩; obtain ⟨A3, C3, rfl, -⟩ := r5.ints) | fail "no arm")
    · go_wp2_with fail
      go_meet
      have hw5 : Only [] Wb w5 := (Only.refl [] Wb).drew.trans t5
      have hs5 := hw5.size
      exact ⟨w5.heap.size + 1, w5.heap.size, _, fl, rfl, Blk.new_at (w := w5.alloc (.map #[] 0)) (by simp), (Mp.made w5 rfl).keep ((Only.refl _ _).alloc _), Rp.keep r5 (by with_reducible repeat (first | exact Only.refl _ _ | assumption | refine Only.drewN ?_ _ | refine Only.drew ?_ | refine Only.alloc ?_ _ | refine Only.setCell ?_ (by intro hh; exfalso; simp at hh; try omega) _ | refine Only.trans ?_ (by assumption))), F5.ge, fun hm => by have := F5.lt _ hm; omega, fun hm => by have := F5.lt _ hm; omega, by omega, by omega, by omega, (by with_reducible repeat (first | exact Only.refl _ _ | assumption | refine Only.drewN ?_ _ | refine Only.drew ?_ | refine Only.alloc ?_ _ | refine Only.setCell ?_ (by intro hh; exfalso; simp at hh; try omega) _ | refine Only.trans ?_ (by assumption)))⟩
    · go_wp2_with fail
      go_meet
      have hw5 : Only [] (Wb.alloc (.map #[] 0)) w5 := (Only.refl [] (Wb.alloc (.map #[] 0))).drew.trans t5
      have hs5 := hw5.size
      have hsa : (Wb.alloc (.map #[] 0)).heap.size = Wb.heap.size + 1 := by simp
      have hFge : ∀ b ∈ fl, Wb.heap.size + 1 ≤ b := fun b hb => by have := F5.ge b hb; simp at this; omega
      exact ⟨w5.heap.size, Wb.heap.size, _, fl, rfl, Blk.new_at (w := w5) rfl, ((Mp.made Wb rfl).keep hw5).keep ((Only.refl _ _).alloc _), Rp.keep r5 (by with_reducible repeat (first | exact Only.refl _ _ | assumption | refine Only.drewN ?_ _ | refine Only.drew ?_ | refine Only.alloc ?_ _ | refine Only.setCell ?_ (by intro hh; exfalso; simp at hh; try omega) _ | refine Only.trans ?_ (by assumption))), fun b hb => by have := hFge b hb; omega, fun hm => by have := hFge _ hm; omega, fun hm => by have := F5.lt _ hm; omega, by omega, by omega, by omega, (by with_reducible repeat (first | exact Only.refl _ _ | assumption | refine Only.drewN ?_ _ | refine Only.drew ?_ | refine Only.alloc ?_ _ | refine Only.setCell ?_ (by intro hh; exfalso; simp at hh; try omega) _ | refine Only.trans ?_ (by assumption)))⟩
  case rest =>
  obtain ⟨g, M, vl, fl, rfl, D6, hMp0, rL, hfl, hMfl, hgfl, hgM, hgW, hMW, hK1⟩ := hcut
  obtain ⟨W1, hnew⟩ : ∃ W, W = wc := ⟨_, rfl⟩
  subst hnew
  have hWlt := c2'.lt
  have e1 := c1'.keep hK1
  have e2 := c2'.keep hK1
  have hKw1 : Only [] w W1 := hKw.trans hK1
  have hwM0 : w.heap.size ∉ [M] := by simp; omega
  have hwM1 : w.heap.size + 1 ∉ [M] := by simp; omega
  have hgMn : g ∉ [M] := by simpa using hgM
  have hMw : ∀ wr, Only [M] W1 wr → Only [] w wr := fun wr hK => hKw1.then_ hK (fun b hb hl => by simp at hb; omega)
  have HMw := Lib.hid hMw
  have y0 := e2.cell 1 rfl
  clear c1' c2' hMw
  go_wp2
  go_loopw [40] (fun i wr => ∃ j : Nat, j ≤ t.patterns.length ∧ i = .int .i64 j ∧ (∀ p ∈ t.patterns.take j, patB x.points t.tracked.length p = true) ∧ Mp wr M j (firstG (t.patterns.take j)) ∧ Only [M] W1 wr)
    (fun i _ => t.patterns.length - (intOf i).toNat)
  case atStart => exact ⟨0, Nat.zero_le _, rfl, by simp, hMp0, Only.refl _ _⟩
  case round =>
    clear y0
    obtain ⟨j, hj, rfl, hr, hMp, hK⟩ := hrel
    have Hr := Lib.hid hr; clear hr
    have hKW := HMw.out wr hK
    have y0 := (e1.only hK hwM0).cell 0 rfl
    have y1 := (e1.only hK hwM0).cell 1 rfl
    have y2 := (e1.only hK hwM0).cell 2 rfl
    have z0 := (e2.only hK hwM1).cell 0 rfl
    have d5 := (D6.only hK hgMn).cell 5 rfl
    by_cases hlt : j < t.patterns.length
    · obtain ⟨b, off, u, rfl, -, hc0, hu0⟩ := hs.atRow j hlt
      have hc := hKW.cell (by simp) hc0
      have hu := Rp.keep hu0 hKW
      have hpl := (patB_iff.1 (HWF.out.2.2.2.1 _ (List.getElem_mem hlt))).1
      have htl := inc_len_le2 HWF.out.1
      have hkl : t.patterns[j].length ≤ 1000 := by omega
      have hks : (kB t.patterns[j]).size ≤ maxLen := by rw [kB_size]; unfold maxLen; omega
      have Hks := Lib.hid hks
      clear hc0 hu0 hpl hks
      rcases c3 : patB x.points t.tracked.length t.patterns[j]
      · have hbad : checkT x t = false := by
          rw [Hck.out, List.all_eq_false]; exact ⟨t.patterns[j], List.getElem_mem hlt, by simp [c3]⟩
        have Hbad := Lib.hid hbad; clear hbad
        go_wp2_with ((go_at_call 89; (with_reducible refine (isPattern_rd x.points t.tracked.length u t.patterns[j] _ _ hu (by omega) (by omega) b0).mono ?_); rintro e w4 ⟨he, m4, rfl⟩; rw [c3] at he; subst he))
        refine bodyPost_ret (v := .tuple #[.pointer none, .bool false]) (by simp [results, Try.results69, go_sem]) rfl ⟨none, by rw [Hbad.out], fun hh => (by rw [Hbad.out] at hh; cases hh), (by with_reducible repeat (first | exact Only.refl _ _ | assumption | refine Only.drewN ?_ _ | refine Only.drew ?_ | refine Only.alloc ?_ _ | refine Only.setCell ?_ (by intro hh; exfalso; simp at hh; try omega) _ | refine Only.trans ?_ (by assumption)))⟩
      · have hsn := fun s => firstG_snoc (t.patterns.take j) t.patterns[j] s
        rw [← take_succ_get t.patterns j hlt] at hsn
        have hjl : (t.patterns.take j).length = j := by rw [List.length_take]; omega
        have hset := mem_take_stepR' hlt (P := fun p => patB x.points t.tracked.length p = true) Hr.out c3
        have Hset := Lib.hid hset
        have hIj : I64 (j : Int) := by unfold I64; omega
        have HIj := Lib.hid hIj
        clear hset hIj
        rcases hfi : firstG (t.patterns.take j) (kB t.patterns[j]) with _ | n
        · have hnext : ∀ s, (if s = kB t.patterns[j] then some (j : Int) else firstG (t.patterns.take j) s) = firstG (t.patterns.take (j + 1)) s := by
            intro s
            rw [hsn s]
            by_cases he : s = kB t.patterns[j]
            · subst he; rw [hfi, hjl]
            · rw [if_neg he]; cases firstG (t.patterns.take j) s <;> simp [he]
          have Hnext := Lib.hid hnext
          have Hfi := Lib.hid hfi
          clear hnext hsn hfi hjl
          go_wp2_with ((go_at_call 89; (with_reducible refine (isPattern_rd x.points t.tracked.length u t.patterns[j] _ _ hu (by omega) (by omega) b0).mono ?_); rintro e w4 ⟨he, k4⟩; rw [c3] at he; subst he; have hk4 := Drew.only k4 []; have d5' := hk4.cell (by simp) d5; have hu4 := Rp.keep hu hk4; have hMp4 := hMp.keep hk4; have hK4 := hK.keepThen hk4))
          go_region_held3 (fun w' => Only [] w4 w' ∧ w'.cell? ⟨g, 5, none⟩ = some (.map (some M))) (((refine and_of ?_ (fun h__ => h__.cell (by simp) d5')); first | exact (Only.refl _ _).drew | exact ((Only.refl _ _).drewN _).drew | exact Only.trans (And.left (by assumption)) (by assumption) | exact Only.alloc (And.left (by assumption)) _ | assumption)) (first | (go_at_call 90; (with_reducible refine (stateKey_rd u t.patterns[j] _ _ (Rp.keep hu4 (And.left (by assumption))) hkl).mono ?_); rintro e w5 ⟨rfl, t5⟩; have hO5 := Only.trans (And.left (by assumption)) t5; have d55 := t5.cell (by simp) (And.right (by assumption)); have hMp5 := hMp4.keep hO5; have hrun5 := hMp5.run_no Hks.out Hfi.out) | fail "no arm")
          go_wp2
          go_region_held3 (fun w' => Only [M] w5 w' ∧ w'.cell? ⟨g, 5, none⟩ = some (.map (some M))) ((refine and_of ?_ (fun h__ => h__.cell hgMn d55); first | exact (Only.refl _ _).drew | exact Only.keepThen (And.left (by assumption)) (by assumption) | exact Only.trans (And.left (by assumption)) (by assumption) | assumption)) (first | (go_at_call 90; (with_reducible refine (stateKey_rd u t.patterns[j] _ _ (Rp.keep hu4 (hO5.trans (by with_reducible repeat (first | exact Only.refl _ _ | assumption | refine Only.drewN ?_ _ | refine Only.drew ?_ | refine Only.alloc ?_ _ | refine Only.setCell ?_ (by intro hh; exfalso; simp at hh; try omega) _ | refine Only.trans ?_ (by assumption))))) hkl).mono ?_); rintro e w6 ⟨rfl, t6⟩; have hMp6 := hMp5.keep (Only.trans ((Only.refl _ _).drew) t6); obtain ⟨w7, hrun7, hM7, hO7⟩ := hMp6.run_put Hks.out HIj.out (by unfold maxLen; omega)) | fail "no arm")
          go_wp2
          go_roundw
          case rel => exact ⟨j + 1, by omega, by go_num, Hset.out, hM7.congr Hnext.out, ((hK4.keepThen hO5).keepThen (Only.trans ((Only.refl _ _).drew) t6)).trans hO7⟩
          case measure => simp [intOf]; omega
        · have hnext : ∀ s, firstG (t.patterns.take j) s = firstG (t.patterns.take (j + 1)) s := by
            intro s
            rw [hsn s]
            by_cases he : s = kB t.patterns[j]
            · subst he; rw [hfi]
            · cases firstG (t.patterns.take j) s <;> simp [he]
          have Hnext := Lib.hid hnext
          have Hfi := Lib.hid hfi
          clear hnext hsn hfi hjl
          go_wp2_with ((go_at_call 89; (with_reducible refine (isPattern_rd x.points t.tracked.length u t.patterns[j] _ _ hu (by omega) (by omega) b0).mono ?_); rintro e w4 ⟨he, k4⟩; rw [c3] at he; subst he; have hk4 := Drew.only k4 []; have d5' := hk4.cell (by simp) d5; have hu4 := Rp.keep hu hk4; have hMp4 := hMp.keep hk4; have hK4 := hK.keepThen hk4))
          go_region_held3 (fun w' => Only [] w4 w' ∧ w'.cell? ⟨g, 5, none⟩ = some (.map (some M))) (((refine and_of ?_ (fun h__ => h__.cell (by simp) d5')); first | exact (Only.refl _ _).drew | exact ((Only.refl _ _).drewN _).drew | exact Only.trans (And.left (by assumption)) (by assumption) | exact Only.alloc (And.left (by assumption)) _ | assumption)) (first | (go_at_call 90; (with_reducible refine (stateKey_rd u t.patterns[j] _ _ (Rp.keep hu4 (And.left (by assumption))) hkl).mono ?_); rintro e w5 ⟨rfl, t5⟩; have hO5 := Only.trans (And.left (by assumption)) t5; have hMp5 := hMp4.keep hO5; have hrun5 := hMp5.run_yes Hks.out Hfi.out) | fail "no arm")
          go_wp2
          go_roundw
          case rel => exact ⟨j + 1, by omega, by go_num, Hset.out, (hMp5.congr Hnext.out).mono (Nat.le_succ _), hK4.keepThen hO5⟩
          case measure => simp [intOf]; omega
    · have hjl : j = t.patterns.length := by omega
      rw [hjl, List.take_length] at hMp
      have hall : checkT x t = true := by
        rw [Hck.out, List.all_eq_true]; have := Hr.out; rwa [List.take_of_length_le (by omega)] at this
      have Hall := Lib.hid hall
      have D6' := D6.only hK hgMn
      have e1' := e1.only hK hwM0
      have rL' : Rd wr vl (ltrs x.moves.length) fl := Rp.only rL hK (fun b hb hm => hMfl (by simp at hm; rwa [← hm]))
      have hfl' := hfl
      obtain ⟨A3, C3, rfl, I3⟩ := rL'.ints
      have d3 := D6'.cell 3 rfl
      have HMP := Lib.hid hMp
      have hb3 := I3.bound
      have hll : (ltrs x.moves.length).length ≤ 16 := by rw [ltrs_len]; omega
      have hgwr : g < wr.heap.size := D6'.lt
      have hMwr : M < wr.heap.size := hMp.lt
      have hgw : w.heap.size ≠ g := by omega
      obtain ⟨i0, hi, hz0, hz1, hz2⟩ := info_parts Try.info22
      have hgens : ∀ y ∈ x.moves, PM.IsP y ∧ y.length ≤ 1000 := fun y hy => by have := g4 y hy; exact ⟨(permB_iff.1 this.2).2, by omega⟩
      have Hgens := Lib.hid hgens
      clear hjl hall hMp hgens y0 y1 y2 z0 d5
      obtain ⟨W2, hnew2⟩ : ∃ W, W = wr := ⟨_, rfl⟩
      subst hnew2
      go_wp2
      go_loopw [78] (fun i w2 => ∃ (k : Nat) (fs : List (List Nat)) (o : Value), k ≤ (ltrs x.moves.length).length ∧ i = .int .i64 k ∧ Blk w2 g ([.slice A0 t.tracked.length C0, .slice A1 t.patterns.length C1, .slice A2 t.distances.length C2] ++ [.slice A3 (ltrs x.moves.length).length C3, o, .map (some M)]) ∧ Acc W2.heap.size 27 w2 o (((ltrs x.moves.length).take k).map (mv x.moves)) fs ∧ (∀ b ∈ fs.flatten, b ≠ g) ∧ Only [g] W2 w2)
        (fun i _ => (ltrs x.moves.length).length - (intOf i).toNat)
      case atStart => exact ⟨0, [], .slice none 0 0, Nat.zero_le _, rfl, D6', Acc.nil W2 _ _, by simp, Only.refl _ _⟩
      case round =>
        clear d3
        obtain ⟨k, fs, o, hk, rfl, hB, hA, hfs, hK2⟩ := hrel
        have hKW2 : Only [] w wr := hKW.then_ hK2 (fun b hb hl => by simp at hb; omega)
        have d4 := hB.cell 4 rfl
        have y2 := (e1'.only hK2 (by simp; omega)).cell 2 rfl
        by_cases hlt2 : k < (ltrs x.moves.length).length
        · obtain ⟨bl, ol, rfl, hflb, hcl0⟩ := I3.at_ k hlt2
          have hblg : bl ≠ g := fun e => hgfl (by rw [hflb, e]; simp)
          have hcl := hK2.cell (by simpa using hblg) hcl0
          have hla := List.getElem_mem hlt2
          have hstep : ((ltrs x.moves.length).take k).map (mv x.moves) ++ [mv x.moves (ltrs x.moves.length)[k]] = ((ltrs x.moves.length).take (k + 1)).map (mv x.moves) := by rw [take_succ_get _ k hlt2]; simp only [List.map_append, List.map_cons, List.map_nil]
          have hlj : (((ltrs x.moves.length).take k).map (mv x.moves)).length + 1 ≤ 1073741824 := by rw [List.length_map, List.length_take]; omega
          have hfz := Blk.frozen hB 4
          have Hstep := Lib.hid hstep
          have Hlj := Lib.hid hlj
          have HB := Lib.hid hB
          have hBw := hK2.size
          clear hstep hlj hcl0 hB hflb
          go_upto_region 16 with fail
          have hgown : g ∉ o.ownBlock.toList := fun hm9 => by have := (hA.ownlt g (by simpa using hm9)).1; omega
          have hwW2 := hKW.size
          go_region_law (first | (go_simp; go_at_call 98; (with_reducible refine (letterOf_rd _ x.moves (ltrs x.moves.length)[k] _ _ (Rp.keep hm (hKW2.trans (by with_reducible repeat (first | exact Only.refl _ _ | assumption | refine Only.drewN ?_ _ | refine Only.drew ?_ | refine Only.alloc ?_ _ | refine Only.setCell ?_ (by intro hh; exfalso; simp at hh; try omega) _ | refine Only.trans ?_ (by assumption))))) Hgens.out hla (by omega)).mono ?_); rintro e w8 ⟨u8, f8, rfl, r8, hf8, t8⟩; obtain ⟨A8, C8, rfl, -⟩ := r8.ints; have d48 := t8.cell (by simp) d4; have d48a := ((Only.refl [] w8).alloc (.cells #[.slice A8 (mv x.moves (ltrs x.moves.length)[k]).length C8] 27)).cell (by simp) d48; have hap8 : ∀ b ∈ f8, b < w.heap.size ∨ wr.heap.size ≤ b := (fun b hb => by rcases hf8 b hb with h9 | h9; exact .inl (Rp.lt hm _ h9); right; simpa using h9)) | (refine step_push2 rfl _ _ 22 rfl W2.heap.size 27 i0 _ 24 Try.underlying22 hi hz0 hz1 hz2 rfl (by decide) (by decide) wr o (((ltrs x.moves.length).take k).map (mv x.moves)) fs rfl hA (by with_reducible repeat (first | exact Only.refl _ _ | assumption | refine Only.drewN ?_ _ | refine Only.drew ?_ | refine Only.alloc ?_ _ | refine Only.setCell ?_ (by intro hh; exfalso; simp at hh; try omega) _ | refine Only.trans ?_ (by assumption))) hBw _ 1 [.slice A8 (mv x.moves (ltrs x.moves.length)[k]).length C8] (mv x.moves (ltrs x.moves.length)[k]) f8 rfl (lit_src w8 [.slice A8 (mv x.moves (ltrs x.moves.length)[k]).length C8] _ rfl) (by intro u hu; simp at hu; subst hu; rfl) (Rp.keep r8 ((Only.refl _ _).alloc _)) (fun b hb hv9 => by have h9 := hA.ownlt b hv9; have := hap8 b hb; omega) Hlj.out ?_; intro v9 w9 hA9 hO9 hb9; obtain ⟨a9, n9, c9, rfl⟩ : ∃ a n c, v9 = Value.slice a n c := (let ⟨a, c, hh⟩ := hA9.form; ⟨a, _, c, hh⟩); have B8 := HB.out.keep (Only.trans ((Only.refl _ _).drew) t8); have B9 := (B8.keep ((Only.refl _ _).alloc (.cells #[.slice A8 (mv x.moves (ltrs x.moves.length)[k]).length C8] 27))).only hO9 hgown; have d49 := B9.cell 4 rfl; have z49 := Blk.frozen B9 4) | fail "no arm")
          all_goals go_wp2
          all_goals have hne : ∀ b ∈ (fs ++ [f8]).flatten, b ≠ g := (fun b hb => by
            rw [List.flatten_append] at hb
            simp only [List.flatten_cons, List.flatten_nil, List.append_nil] at hb
            rcases List.mem_append.1 hb with hb | hb
            · exact hfs b hb
            · have := hap8 b hb; have := hKw.size; omega)
          all_goals have hs8 : wr.heap.size ≤ w8.heap.size := (Only.trans ((Only.refl [] wr).drew) t8).size
          all_goals refine ⟨⟨k + 1, fs ++ [f8], .slice a9 n9 c9, by omega, by go_num, B9.set 4 _, ?_, hne, ?_⟩, by simp [intOf]; omega⟩
          all_goals first
            | (rw [← Hstep.out]; exact hA9.only ((Only.refl [g] _).setCell (by intro _; simp) _) (fun b hb => by simpa using hne b hb) (fun q hq => by
                rcases hb9 with h9 | h9
                · rw [h9] at hq; intro hm9; simp at hm9; subst hm9; exact hgown (by simp [hq])
                · rw [h9] at hq; injection hq with hq; simp at hq ⊢; omega))
            | exact (((hK2.keepThen (Only.trans ((Only.refl [] wr).drew) t8)).keepThen ((Only.refl _ _).alloc _)).then_ hO9 (fun b hb hl => by have h9 : o.ownBlock = some b := (by simpa using hb); have := (hA.ownlt b h9).1; omega)).setCell (by intro _; simp) _
        · have hkl : k = (ltrs x.moves.length).length := by omega
          rw [hkl, List.take_length] at hA
          have hP : Prf wr g x t := ⟨_, _, _, _, o, M, _, _, _, fl, _, _, hB, Rp.keep r0 hKW2, Rp.keep r1 hKW2, Rp.keep r2 hKW2, Rp.only rL' hK2 (fun b hb hm9 => hgfl (by simp at hm9; rwa [← hm9])), hA.rd (by decide), HMP.out.only hK2 (by simpa using fun e => hgM e.symm)⟩
          have HP := Lib.hid hP
          clear hkl hP hA hB
          go_wp2
          refine bodyPost_ret (v := .tuple #[.pointer (some ⟨g, 0, none⟩), .bool true]) (by simp [results, Try.results69, go_sem]) rfl ⟨some ⟨g, 0, none⟩, by rw [Hall.out], fun _ => ⟨g, rfl, HP.out⟩, hKW2⟩
end Go.Proofs.Ytmilmbgnkpkmnaa
