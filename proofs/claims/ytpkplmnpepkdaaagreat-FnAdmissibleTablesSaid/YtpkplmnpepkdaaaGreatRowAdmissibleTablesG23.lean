/- The reference's DrawIsAdmissibleTable, DrawIsCorrectTable (laws 49, 26). Bounds only. (Printed by mkvdr4.py.) A distance in an admissible table is at most the distance of every reachable state with that pattern: plain law (law 49). The reference's MemberAt: the member of a rank (laws 33, 34, ..). RandomState, of the reference and of the program (law 33). A search of the patterns of a puzzle with at most five points ends (laws 26, 49): plain facts. The program's DescentLetter. (Written by mkdesc.py.) The reference's table functions: faults, admissible tables, descents. (Written by mkspectab4.py.) The program's faults of a table. (Written by mkadm.py.) -/
import Derived.Test.YtpkplmnpepkdaaaGreatRowAdmissibleTablesG22
import Derived.Test.YtpkplmnpepkdaaaGreatRowAdmissibleTablesG20
import Derived.Test.YtpkplmnpepkdaaaGreatRowAdmissibleTablesG12
import Derived.Test.YtpkplmnpepkdaaaGreatRowAdmissibleTablesG3
import Derived.Test.YtpkplmnpepkdaaaGreatRowAdmissibleTablesG5
import Derived.Test.YtpkplmnpepkdaaaGreatRowAdmissibleTablesG7
import Derived.Test.YtpkplmnpepkdaaaGreatRowAdmissibleTablesG10
import Derived.Test.YtpkplmnpepkdaaaGreatRowAdmissibleTablesG1
import Derived.Test.YtpkplmnpepkdaaaGreatRowAdmissibleTablesG8
import Derived.Test.YtpkplmnpepkdaaaGreatRowAdmissibleTablesG6
import Derived.Deep.RegionHeld3
import Derived.Deep.QuietTactic
import Derived.Deep.RegionLaw
import Derived.Maps.RangeWalk
import Derived.Test.YtpkplmnpepkdaaaGreatRowAdmissibleTablesG11
import Derived.Test.YtpkplmnpepkdaaaGreatRowAdmissibleTablesG13
import Derived.Test.YtpkplmnpepkdaaaGreatRowAdmissibleTablesG21
import Derived.Test.YtpkplmnpepkdaaaGreatRowAdmissibleTablesG15
namespace Go.Proofs.YtpkplmnpepkdaaaGreat
open Go.RowKit
set_option maxRecDepth 10000

/-- drawn: a puzzle (if valid, of few points) and a table -/
def DTab (w : World) (e : Ending) (w' : World) : Prop :=
  ∃ (n : Int) (nm : ByteArray) (am : Option Addr) (cm : Nat) (gs : List (List Int)) (fp : List Nat) (v1 v2 v3 : Value) (t : Table) (f : List Nat), e = .returned (.tuple #[.agg #[.int .i64 n, .string nm, .slice am gs.length cm], .agg #[v1, v2, v3]]) ∧ Rp.rep w' [.int .i64 n, .string nm, .slice am gs.length cm] (⟨n, nm, gs⟩ : Puzzle) fp ∧ Rp.rep w' [v1, v2, v3] t f ∧ midT t ∧ (validPz (⟨n, nm, gs⟩ : Puzzle) = true → n ≤ 5) ∧ gs.length ≤ 9 ∧ Only [] w w'
theorem DTab.mk {w V : World} {n : Int} {nm : ByteArray} {am : Option Addr} {cm : Nat} {gs : List (List Int)} {fp : List Nat} {v1 v2 v3 x0 x1 x2 y0 y1 y2 : Value} (k : Only [] w V) (R0 : Blk V w.heap.size [x0, x1, x2]) (R1 : Blk V (w.heap.size + 1) [y0, y1, y2])
    (hn : I64 n) (h2 : nm.size ≤ 20) (h3 : Rd V (.slice am gs.length cm) gs fp) (h4 : ∀ b ∈ fp, w.heap.size + 2 ≤ b) (h5 : gs.length ≤ 9) (h7 : validPz (⟨n, nm, gs⟩ : Puzzle) = true → n ≤ 5) (hT : JT (w.heap.size + 2) V v1 v2 v3) :
    Blk ((((((V.setCell ⟨w.heap.size, 0, none⟩ (.int .i64 n)).setCell ⟨w.heap.size, 1, none⟩ (.string nm)).setCell ⟨w.heap.size, 2, none⟩ (.slice am gs.length cm)).setCell ⟨w.heap.size + 1, 0, none⟩ v1).setCell ⟨w.heap.size + 1, 1, none⟩ v2).setCell ⟨w.heap.size + 1, 2, none⟩ v3) w.heap.size [.int .i64 n, .string nm, .slice am gs.length cm] ∧ Blk ((((((V.setCell ⟨w.heap.size, 0, none⟩ (.int .i64 n)).setCell ⟨w.heap.size, 1, none⟩ (.string nm)).setCell ⟨w.heap.size, 2, none⟩ (.slice am gs.length cm)).setCell ⟨w.heap.size + 1, 0, none⟩ v1).setCell ⟨w.heap.size + 1, 1, none⟩ v2).setCell ⟨w.heap.size + 1, 2, none⟩ v3) (w.heap.size + 1) [v1, v2, v3] ∧ DTab w (.returned (.tuple #[.agg #[.int .i64 n, .string nm, .slice am gs.length cm], .agg #[v1, v2, v3]])) ((((((V.setCell ⟨w.heap.size, 0, none⟩ (.int .i64 n)).setCell ⟨w.heap.size, 1, none⟩ (.string nm)).setCell ⟨w.heap.size, 2, none⟩ (.slice am gs.length cm)).setCell ⟨w.heap.size + 1, 0, none⟩ v1).setCell ⟨w.heap.size + 1, 1, none⟩ v2).setCell ⟨w.heap.size + 1, 2, none⟩ v3) := by
  have k0 := only_set3 V w.heap.size (.int .i64 n) (.string nm) (.slice am gs.length cm)
  have S0 := R0.set3 (.int .i64 n) (.string nm) (.slice am gs.length cm)
  have T1 := R1.only k0 (by simp)
  have k1 := only_set3 (((V.setCell ⟨w.heap.size, 0, none⟩ (.int .i64 n)).setCell ⟨w.heap.size, 1, none⟩ (.string nm)).setCell ⟨w.heap.size, 2, none⟩ (.slice am gs.length cm)) (w.heap.size + 1) v1 v2 v3
  have S1 := T1.set3 v1 v2 v3
  have hd : ∀ q : Nat, w.heap.size + 2 ≤ q → q ∉ [w.heap.size] ∧ q ∉ [w.heap.size + 1] := fun q hq => ⟨by simp; omega, by simp; omega⟩
  obtain ⟨t, f, a, b, c⟩ := (hT.only k0 (by simp)).only k1 (by simp)
  refine ⟨S0.only k1 (by simp), S1, n, nm, am, cm, gs, fp, v1, v2, v3, t, f, rfl, ⟨_, rfl, hn, by show nm.size ≤ maxLen; unfold maxLen; omega, Rp.only (Rp.only h3 k0 fun b hb => (hd b (h4 b hb)).1) k1 fun b hb => (hd b (h4 b hb)).2⟩, a, c, h7, h5, (k.then_ k0 fun b hb hl => ?_).then_ k1 fun b hb hl => ?_⟩
  · simp at hb; omega
  · simp at hb; omega
set_option maxHeartbeats 8000000 in
theorem drawAdm_any (v : Value) (l : List UInt8) (fc : List Nat) (w : World) (h : Rd w v l fc) (hl : l.length ≤ 4096) :
    Calls Tryz.prog 5 #[v] w (DTab w) := by
  have kw : Only [] w ((w.alloc (.cells #[.int .i64 0, .string ⟨#[]⟩, .slice none 0 0] 26)).alloc (.cells #[.slice none 0 0, .slice none 0 0, .slice none 0 0] 29)) := ((Only.refl _ _).alloc _).alloc _
  have R0 := (Blk.new w [.int .i64 0, .string ⟨#[]⟩, .slice none 0 0] 26).keep ((Only.refl _ _).alloc (.cells #[.slice none 0 0, .slice none 0 0, .slice none 0 0] 29))
  have R1 : Blk ((w.alloc (.cells #[.int .i64 0, .string ⟨#[]⟩, .slice none 0 0] 26)).alloc (.cells #[.slice none 0 0, .slice none 0 0, .slice none 0 0] 29)) (w.heap.size + 1) [.slice none 0 0, .slice none 0 0, .slice none 0 0] := Blk.new_at (by simp)
  have e1 : (w.alloc (.cells #[.int .i64 0, .string ⟨#[]⟩, .slice none 0 0] 26)).heap.size = w.heap.size + 1 := by simp
  have e2 : ((w.alloc (.cells #[.int .i64 0, .string ⟨#[]⟩, .slice none 0 0] 26)).alloc (.cells #[.slice none 0 0, .slice none 0 0, .slice none 0 0] 29)).heap.size = w.heap.size + 2 := by simp
  have hv0 := Rp.keep h kw
  go_enter Tryz.func5, Tryz.ntmps5
  go_upto_region 1 with fail
  try rw [e1]
  obtain ⟨W0, hW0⟩ : ∃ W, W = ((w.alloc (.cells #[.int .i64 0, .string ⟨#[]⟩, .slice none 0 0] 26)).alloc (.cells #[.slice none 0 0, .slice none 0 0, .slice none 0 0] 29)) := ⟨_, rfl⟩
  rw [← hW0] at kw R0 R1 e2 hv0 ⊢
  clear hW0 e1
  go_upto_region 2 with (first
    | (go_at_call 14; (with_reducible refine (newSource_any v l fc W0 hv0 hl).mono ?_); rintro e w1 ⟨g, rfl, D1, hg, t1⟩; have R01 := R0.keep t1; have R11 := R1.keep t1)
    | fail "no arm")
  have hg1 := D1.lt
  have hs1 := t1.size
  have k1 := kw.trans t1
  clear R0 R1 hv0
  go_wp2_with (first
    | (go_at_call 15; (with_reducible refine (draw30_any g fc l w1 D1 hl).mono ?_); rintro e w2 ⟨n, nm, vm, gs, fp, v1, v2, v3, rfl, hn, nml, rm, gem, gl9, gy30, hval, hJT, D2, K2⟩; obtain ⟨am, cm, _, _, rfl, -, -⟩ := rm.open_; obtain ⟨t0, f0, r0, ge0, mid0⟩ := hJT; have r0' := r0; obtain ⟨_, _, _, _, _, _, hcs, -, q1, q2, q3⟩ := r0'; injection hcs with h1 hcs; injection hcs with h2 hcs; injection hcs with h3 hcs; subst h1; subst h2; subst h3; obtain ⟨a1, c1, _, _, rfl, -, -⟩ := q1.open_; obtain ⟨a2, c2, _, _, rfl, -, -⟩ := q2.open_; obtain ⟨a3, c3, _, _, rfl, -, -⟩ := q3.open_; have R02 := R01.only K2 (by simp; omega); have R12 := R11.only K2 (by simp; omega); have a0z := R02.cell 0 rfl; have a1z := R02.cell 1 rfl; have a2z := R02.cell 2 rfl; have b0z := R02.frozen 0; have b1z := R02.frozen 1; have b2z := R02.frozen 2; have c0z := R12.cell 0 rfl; have c1z := R12.cell 1 rfl; have c2z := R12.cell 2 rfl; have d0z := R12.frozen 0; have d1z := R12.frozen 1; have d2z := R12.frozen 2)
    | fail "no arm")
  have gem' : ∀ b ∈ fp, w.heap.size + 2 ≤ b := fun b hb => by have := gem b hb; omega
  have hJT' : JT (w.heap.size + 2) w2 (.slice a1 t0.tracked.length c1) (.slice a2 t0.patterns.length c2) (.slice a3 t0.distances.length c3) := ⟨t0, f0, r0, fun q hq => by have := ge0 q hq; omega, mid0⟩
  obtain ⟨S0, S1, hD⟩ := DTab.mk (k1.then_ K2 (fun b hb hl => by simp at hb; omega)) R02 R12 hn nml rm gem' gl9 hval hJT'
  have x0y := S0.cell 0 rfl; have x1y := S0.cell 1 rfl; have x2y := S0.cell 2 rfl; have y0y := S1.cell 0 rfl; have y1y := S1.cell 1 rfl; have y2y := S1.cell 2 rfl
  exact bodyPost_ret (v := .tuple #[.agg #[.int .i64 n, .string nm, .slice am gs.length cm], .agg #[.slice a1 t0.tracked.length c1, .slice a2 t0.patterns.length c2, .slice a3 t0.distances.length c3]]) (by simp [results, Tryz.results5, go_sem, x0y, x1y, x2y, y0y, y1y, y2y]) rfl hD

end Go.Proofs.YtpkplmnpepkdaaaGreat

namespace Go.Proofs.YtpkplmnpepkdaaaGreat
open Go.RowKit
set_option maxRecDepth 10000

section
variable {x : Puzzle} {t u : Table}
theorem one_adm {b : Bool} {f : Fault} (h : (one b f).all (fun f => !badK f) = true) (hf : badK f = true) : b = false := by
  unfold one at h
  cases b with
  | false => rfl
  | true => simp [hf] at h
/-- what an entry of an admissible table says -/
theorem adm_ent {i : Nat} (h : (entF x t i).all (fun f => !badK f) = true) : (i = 0 → atD t 0 = 0 ∧ atP t 0 = t.tracked) ∧ ∀ l ∈ ltrs x.moves.length, 0 ≤ nextI x t (atP t i) l ∧ atD t (nextI x t (atP t i) l) - atD t i ≤ 1 := by
  unfold entF at h
  rw [List.all_append, List.all_append, List.all_append, List.all_append] at h
  simp only [Bool.and_eq_true] at h
  obtain ⟨a, -, -, d, -⟩ := h
  constructor
  · intro h0
    have := one_adm a rfl
    subst h0
    simp only [decide_true, Bool.true_and, Bool.or_eq_false_iff, decide_eq_false_iff_not] at this
    exact ⟨Decidable.of_not_not this.1, Decidable.of_not_not this.2⟩
  · intro l hl
    rw [List.all_eq_true] at d
    have hd : ∀ f ∈ letF x t i l, badK f = false := fun f hf => by
      have := d f (List.mem_flatMap.2 ⟨l, hl, hf⟩)
      simpa using this
    unfold letF at hd
    split at hd
    · have := hd _ (List.mem_singleton.2 rfl)
      simp [badK] at this
    · rename_i hn
      split at hd
      · rename_i hr
        rw [inR_iff] at hr
        omega
      · have := hd _ (List.mem_singleton.2 rfl)
        simp [badK] at this
theorem adm_parts (h : admB x t = true) : checkT x t = true ∧ ∀ i : Nat, i < t.patterns.length → (i = 0 → atD t 0 = 0 ∧ atP t 0 = t.tracked) ∧ ∀ l ∈ ltrs x.moves.length, 0 ≤ nextI x t (atP t i) l ∧ atD t (nextI x t (atP t i) l) - atD t i ≤ 1 := by
  unfold admB at h
  rw [Bool.and_eq_true, List.all_eq_true] at h
  exact ⟨h.1, fun i hi => adm_ent (h.2 i (List.mem_range.2 hi))⟩
theorem trk_pts {n : Int} {tr : List Int} (h : trackB n tr = true) : PM.comp tr (PM.pts n.toNat) = tr := by
  unfold PM.comp
  refine (List.map_congr_left fun z hz => ?_).trans (List.map_id _)
  have := (trackB_iff.1 h).2.1 z hz
  exact PM.at_pts (by omega) (by omega)
/-- along the breadth-first table of the states -/
theorem adm_along (h : admB x t = true) (hu : Built x u) (hut : u.tracked = PM.pts x.points.toNat) : ∀ (n i : Nat), i < n → i < u.patterns.length → ∃ k : Nat, k < t.patterns.length ∧ idxL t.patterns (PM.comp t.tracked (u.patterns.getD i [])) = k ∧ atD t k ≤ atD u i
  | 0, i, hi, _ => by omega
  | n + 1, i, hi, hl => by
    obtain ⟨hc, he⟩ := adm_parts h
    have hk := checkT_iff.1 hc
    have hw := wfT_iff.1 hk.2.1
    have h0 : 0 < t.patterns.length := by omega
    have htr := trackB_iff.1 hk.2.2.1
    rcases Nat.eq_zero_or_pos i with hi0 | hi0
    · subst hi0
      obtain ⟨d0, p0⟩ := (he 0 h0).1 rfl
      have e0 : u.patterns.getD 0 [] = PM.pts x.points.toNat := by rw [← hut]; exact hu.bi.p0
      have du : atD u ((0 : Nat) : Int) = 0 := by rw [atD_nat]; exact hu.bi.d0
      refine ⟨0, h0, ?_, by rw [du]; exact Int.le_of_eq d0⟩
      rw [e0, trk_pts hk.2.2.1, ← p0]
      show idxL t.patterns (t.patterns.getD 0 []) = _
      have hm : t.patterns.getD 0 [] ∈ t.patterns := by rw [getD_get h0]; exact List.getElem_mem h0
      unfold idxL idxF
      cases hf : t.patterns.findIdx? (fun q => decide (q = t.patterns.getD 0 [])) with
      | none =>
        have := List.findIdx?_eq_none_iff.1 hf _ hm
        simp at this
      | some j =>
        obtain ⟨hj, -, hlt⟩ := List.findIdx?_eq_some_iff_getElem.1 hf
        dsimp only
        rcases Nat.eq_zero_or_pos j with h1 | h1
        · rw [h1]
        · have := hlt 0 h1
          rw [getD_get h0] at this
          simp at this
    · obtain ⟨j, l, a1, a2, a3, a4⟩ := hu.bi.par i hi0 hl
      simp only at a3 a4
      have hj : j < u.patterns.length := by omega
      obtain ⟨k, b1, b2, b3⟩ := adm_along h hu hut n j (by omega) hj
      have hP : atP t k = PM.comp t.tracked (u.patterns.getD j []) := by
        have := idxL_getD (l := t.patterns) (p := PM.comp t.tracked (u.patterns.getD j [])) (by rw [b2]; omega)
        rw [b2, Int.toNat_natCast] at this
        exact this
      obtain ⟨c1, c2⟩ := (he k b1).2 l a2
      have hq : patB x.points u.tracked.length (u.patterns.getD j []) = true := hu.bi.pat _ (by rw [getD_get hj]; exact List.getElem_mem hj)
      obtain ⟨q1, -, -⟩ := patB_iff.1 hq
      have hlen : (u.patterns.getD j []).length = x.points.toNat := by rw [q1, hut, PM.pts_len]
      have hcm : nxt x (atP t k) l = PM.comp t.tracked (u.patterns.getD i []) := by
        rw [hP, ← a3]
        exact comp3 fun z hz => by
          have := htr.2.1 z hz
          rw [hlen]; omega
      obtain ⟨m, hm⟩ : ∃ m : Nat, nextI x t (atP t k) l = m := ⟨_, (Int.toNat_of_nonneg c1).symm⟩
      have hml := (idxL_lt (l := t.patterns) (p := nxt x (atP t k) l)).2
      have hmm : m < t.patterns.length := by unfold nextI at hm; omega
      rw [hm] at c2
      refine ⟨m, hmm, ?_, ?_⟩
      · rw [← hcm]; exact hm
      · have e9 := atD_nat (t := u) i; have e8 := atD_nat (t := u) j; omega
/-- law 49's bound -/
theorem adm_low (h : admB x t = true) (he : expl x = some u) {s : List Int} (hr : reachB x s = true) : 0 ≤ lookV t (PM.comp t.tracked s) ∧ lookV t (PM.comp t.tracked s) ≤ distX x s := by
  obtain ⟨hb, hbt⟩ := expl_built he
  obtain ⟨i, i1, i2, -, i4, -⟩ := distX_yes he hr
  obtain ⟨k, k1, k2, k3⟩ := adm_along h hb hbt (i + 1) i (by omega) i1
  obtain ⟨hc, -⟩ := adm_parts h
  have hk := checkT_iff.1 hc
  have hw := wfT_iff.1 hk.2.1
  rw [i2] at k2
  rw [lookV_at hk.2.1 k2, i4, ← atD_nat]
  refine ⟨?_, k3⟩
  have hd : k < t.distances.length := by omega
  rw [atD_nat, getD_get hd]
  exact (inR_iff.1 (hw.2.2.2.2 _ (List.getElem_mem hd))).1
end
end Go.Proofs.YtpkplmnpepkdaaaGreat

namespace Go.Proofs.YtpkplmnpepkdaaaGreat
open Go.RowKit
set_option maxRecDepth 10000

set_option maxHeartbeats 4000000 in
theorem specMemberAt_yes (n : Nat) (vg : Value) (gens : List (List Int)) (fpg : List Nat) (k : Nat) (w : World) (hg : Rd w vg gens fpg) (hgs : gensB n gens = true) (hk : k < ordC n gens n) :
    Calls Tryz.prog 24 #[.int .i64 n, vg, .int .i64 k] w fun e w' => ∃ v f, e = .returned (.tuple #[v, .bool true]) ∧ Rd w' v (memAt n gens k) f ∧ Fresh w.heap.size w' f ∧ Only [] w w' := by
  obtain ⟨⟨n1, n20⟩, hgl, hpn⟩ := gensB_iff.1 hgs
  have hpn' : ∀ g ∈ gens, PM.PN n g := by simpa using hpn
  have hn : 0 < n := by omega
  have hn20 : n ≤ 20 := by omega
  have Hgs := Lib.hid hgs
  have Hpn := Lib.hid hpn'
  clear hpn hpn' hgs
  obtain ⟨R, hR⟩ : ∃ R, R = memAt n gens k := ⟨_, rfl⟩
  rw [← hR]
  have HR := Lib.hid hR
  clear hR
  go_enter Tryz.func24, Tryz.ntmps24
  go_upto_region 4 with (first
    | (go_at_call 55; (with_reducible refine (specIsGens_rd n vg gens fpg w hg).mono ?_); rintro en w1 ⟨he, t1⟩; rw [Hgs.out] at he; subst he; have t1 := t1.only [])
    | (go_at_call 58; (with_reducible refine (buildChain_any n hn hn20 vg gens fpg w1 (Rp.keep hg t1) Hpn.out (by omega)).mono ?_); rintro en w3 ⟨L, gv, G, T, M, F, rfl, hoG, hoT, hC, hCh, t3⟩)
    | fail "no arm")
  have hOE : ∀ j, j ≤ n → PM.ordM T n j = ordC n gens j := fun j hj => ordC_eq hCh hn Hpn.out hj
  have hole := ordC_le hCh hn Hpn.out hn20 (j := n) (Nat.le_refl _)
  have hRng : inR (k : Int) 0 ((ordC n gens n : Nat) - 1 : Int) = true := inR_iff.2 (by omega)
  have HOE := Lib.hid hOE
  have hst : ∀ i, i < n → k % ordC n gens (n - i) % ordC n gens (n - (i + 1)) = k % ordC n gens (n - (i + 1)) := fun i hi => mod_step hCh hn Hpn.out k hi
  have hgood := msel_good hCh hn Hpn.out k
  have hpos : ∀ j, j ≤ n → 1 ≤ ordC n gens j := fun j hj => ordC_pos hCh hn Hpn.out hj
  have hle : ∀ j, j ≤ n → ordC n gens j ≤ 2432902008176640000 := fun j hj => ordC_le hCh hn Hpn.out hn20 hj
  have hk0 : k % ordC n gens (n - 0) = k := by rw [Nat.sub_zero]; exact Nat.mod_eq_of_lt hk
  have HRng := Lib.hid hRng
  have Hst := Lib.hid hst
  have Hgood := Lib.hid hgood
  have Hpos := Lib.hid hpos
  have Hle := Lib.hid hle
  have Hk0 := Lib.hid hk0
  have HC := Lib.hid hC
  have hwf := hCh.inv.wf
  have Hwf := Lib.hid hwf
  have HoT := Lib.hid hoT
  have hR0 : R = PM.desc T n (msel n gens k) (n - 0) 0 (PM.pts n) := by rw [HR.out, Nat.sub_zero]; exact (hCh.descG hn Hpn.out (msel n gens k) hgood).symm
  have HR0 := Lib.hid hR0
  have HCh := Lib.hid hCh
  obtain ⟨od, hod⟩ : ∃ od, od = ordC n gens n := ⟨_, rfl⟩
  rw [← hod] at hole HRng
  have HcO : Hid (Calls Tryz.prog 59 #[.pointer (some ⟨L.g, 0, none⟩)] w3 fun e w' => e = .returned (.int .i64 (od : Nat)) ∧ Only [] w3 w') := Lib.hid (by
    rw [hod, ← hOE n (Nat.le_refl _)]
    exact chainOrder_any w3 hC hwf hoT)
  have hwo : IntKind.i64.wrap ((od : Int) - 1) = (od : Int) - 1 := by rw [IntKind.wrap_i64]; omega
  clear hOE hRng hst hgood hpos hle hk0 hC hwf hoT hoG hR0 hCh hod
  go_wp2_with (first
    | (go_at_call 59; (with_reducible refine (HcO.out).mono ?_); rintro en w4 ⟨rfl, t4⟩)
    | (go_at_call 53; (with_reducible refine (inRange_any (k : Int) 0 ((od : Int) - 1) _).mono ?_); rintro e w4' ⟨he, h1⟩; rw [HRng.out] at he; subst he; rw [h1]; clear h1)
    | (go_at_call 60; (with_reducible refine (perChoice_any w4 (HC.out.keep t4) Hwf.out HoT.out).mono ?_); rintro en w5 ⟨v5, rfl, hA5, t5⟩; obtain ⟨a5, c5, rfl, I5⟩ := hA5.rd.ints)
    | (go_at_call 61; (with_reducible refine (specIdentity_any n w5 (by omega)).mono ?_); rintro en w6 ⟨v6, f6, rfl, r6, F6, t6⟩)
    | fail "no arm")
  have k46 : Only [] w w6 := (((t1.trans t3).trans t4).trans t5).trans t6
  have hF6 : Fresh w.heap.size w6 f6 := F6.mono (by have := (((t1.trans t3).trans t4).trans t5).size; omega)
  have hC6 := ((HC.out.keep t4).keep t5).keep t6
  have I6 := I5.keep t6
  have hp5 : (perL n T 0).length = n := perL_len n T 0
  have Hp5 := Lib.hid hp5
  clear t1 t3 t4 t5 t6 F6 hA5 I5 hp5 HcO
  go_loopw [2, 10, 11] (fun kv v i wr => ∃ (j : Nat) (m : List Int) (f : List Nat), j ≤ n ∧ i = .int .i64 j ∧ kv = .int .i64 (k % ordC n gens (n - j) : Nat) ∧ Rd wr v m f ∧ Fresh w.heap.size wr f ∧ Ch 27 w1.heap.size wr L gv n G T M F ∧ PM.Grp n gens m ∧ Hid (R = PM.desc T n (msel n gens k) (n - j) j m) ∧ Only [] w6 wr)
    (fun _ _ i _ => n - (intOf i).toNat)
  case atStart => exact ⟨0, PM.pts n, f6, Nat.zero_le _, rfl, by rw [Hk0.out], r6, hF6, hC6, .id, HR0, Only.refl _ _⟩
  case round =>
    obtain ⟨W2, hnew⟩ : ∃ W, W = wr := ⟨_, rfl⟩
    subst hnew
    clear r6 hF6 hC6
    obtain ⟨j, m, f, hj, rfl, rfl, hr, hF, hC, hgr, hRR, hO⟩ := hrel
    by_cases hlt : j < n
    · have hpm : PM.PN n m := hgr.pn Hpn.out
      have hwf := Hwf.out
      obtain ⟨C, hCd⟩ : ∃ C, C = PM.cho n T j m := ⟨_, rfl⟩
      have hCl : C.length = PM.cntR n T j := by rw [hCd, PM.cho_len hpm]
      have hCl2 : C.length ≤ 20 := by rw [hCl]; have := PM.cntR_le n T j; omega
      obtain ⟨r, hrr⟩ : ∃ r, r = ordC n gens (n - (j + 1)) := ⟨_, rfl⟩
      obtain ⟨kk, hkk⟩ : ∃ kk, kk = k % ordC n gens (n - j) := ⟨_, rfl⟩
      obtain ⟨q, hq⟩ : ∃ q, q = kk / r := ⟨_, rfl⟩
      have hqs : q = msel n gens k j C.length := by rw [hq, hkk, hrr]; rfl
      have hql : q < C.length := by
        have h1 := Hgood.out j hlt
        rw [hCl]
        have h2 : msel n gens k j C.length = msel n gens k j (PM.cntR n T j) := rfl
        rw [hqs, h2]; exact h1
      have hkm : C[q] ∈ PM.cho n T j m := by rw [← hCd]; exact List.getElem_mem hql
      have hgr2 := HCh.out.putV hn Hpn.out hlt hgr hkm
      have hRR2 : R = PM.desc T n (msel n gens k) (n - (j + 1)) (j + 1) (PM.putV T j m C[q]) := by
        subst hCd
        rw [hRR.out]
        exact PM.desc_step hlt m hqs hql
      have hrp : 1 ≤ r := by rw [hrr]; exact Hpos.out _ (by omega)
      have hrl : r ≤ 2432902008176640000 := by rw [hrr]; exact Hle.out _ (by omega)
      have hkkl : kk ≤ 2432902008176640000 := by
        rw [hkk]
        have h1 := Nat.mod_lt k (show 0 < ordC n gens (n - j) from Hpos.out _ (by omega))
        have h2 := Hle.out (n - j) (by omega)
        omega
      have hdiv : Int.tdiv (kk : Int) (r : Int) = (q : Int) := by rw [tdiv_nat, hq]
      have hmod : Int.tmod (kk : Int) (r : Int) = ((k % ordC n gens (n - (j + 1)) : Nat) : Int) := by rw [tmod_nat, hkk, hrr, Hst.out j hlt]
      have hr0 : ¬ ((r : Int) = 0) := by omega
      have hjs : j < (perL n T 0).length := by rw [Hp5.out]; exact hlt
      have hjI : (j : Int) < ((perL n T 0).length : Int) := by omega
      obtain ⟨b2, o2, rfl, -, c2⟩ := (I6.keep hO).at_ j hjs
      rw [perL_get hjs, HOE.out _ (by omega), ← hrr] at c2
      have HcS := Lib.hid (choicesAt_any W2 hC HoT.out j hlt u10 m f hr hpm)
      rw [← hCd] at HcS
      obtain ⟨k2, hk2⟩ : ∃ k2, k2 = k % ordC n gens (n - (j + 1)) := ⟨_, rfl⟩
      rw [← hk2] at hmod
      rw [← hkk]
      have Hk2 := Lib.hid hk2
      have HRR2 := Lib.hid hRR2
      have Hgr2 := Lib.hid hgr2
      have Hkm := Lib.hid hkm
      have Hpm := Lib.hid hpm
      have HC2 := Lib.hid hC
      have hltI : (j : Int) < (n : Int) := by omega
      have hO2 := hO.size
      clear hCd hCl hrr hkk hq hqs hRR2 hgr2 hkm hpm hwf hC hgr hRR hk2
      go_wp2_with (first
        | (go_at_call 62; (with_reducible refine (HcS.out).mono ?_); rintro en w7 ⟨b6, o6, c6, f6', rfl, I7, F7, t7⟩; obtain ⟨b8, o8, e8, -, c8⟩ := I7.at_ q hql; injection e8 with e8; injection e8 with e81 e82; subst e81; subst e82; have c27 := t7.cell (by simp) c2)
        | (go_at_call 63; (with_reducible refine (withEntry_any w7 (HC2.out.keep t7) Hwf.out HoT.out j hlt u10 m f (Rp.keep hr t7) Hpm.out C[q] Hkm.out).mono ?_); rintro en w8 ⟨v8, f8, rfl, r8, F8, t8⟩; have c28 := t8.cell (by simp) c27)
        | fail "no arm")
      have hF8 : Fresh w.heap.size w8 f8 := F8.mono (by have := t7.size; have := k46.size; omega)
      go_roundw
      case rel => exact ⟨j + 1, _, f8, by omega, by go_num, by rw [Hk2.out], r8, hF8, (HC2.out.keep t7).keep t8, Hgr2.out, HRR2, (hO.trans t7).trans t8⟩
      case measure => simp [intOf]; omega
    · obtain rfl : j = n := by omega
      have hfin : R = m := by rw [hRR.out]; exact PM.desc_end (Nat.le_refl _) m
      have hge : ¬ ((j : Int) < (j : Int)) := by omega
      have Hfin := Lib.hid hfin
      clear hfin hRR
      go_wp2
      exact bodyPost_ret (v := .tuple #[u10, .bool true]) (by simp [results, Tryz.results24, go_sem]) rfl ⟨u10, rfl, f, by rw [Hfin.out]; exact hr, hF, k46.trans hO⟩
end Go.Proofs.YtpkplmnpepkdaaaGreat

namespace Go.Proofs.YtpkplmnpepkdaaaGreat
open Go.RowKit
set_option maxRecDepth 10000

/-- the rank of a seed's random state -/
noncomputable def rstK (n : Nat) (gens : List (List Int)) (seed : Int) : Nat := ((nxR seed * 2147483647 + nxR (nxR seed)) % (ordC n gens n : Int)).toNat
noncomputable def rndS (x : Puzzle) (seed : Int) : List Int × Bool :=
  if validPz x = true ∧ inR seed 0 2147483646 = true then (memAt x.points.toNat x.moves (rstK x.points.toNat x.moves seed), true) else ([], false)
theorem rstK_lt {n : Nat} {gens : List (List Int)} {seed : Int} (h : 1 ≤ ordC n gens n) : rstK n gens seed < ordC n gens n := by
  unfold rstK
  have h1 := Int.emod_lt_of_pos (nxR seed * 2147483647 + nxR (nxR seed)) (show (0 : Int) < (ordC n gens n : Int) by omega)
  have h2 := Int.emod_nonneg (nxR seed * 2147483647 + nxR (nxR seed)) (show (ordC n gens n : Int) ≠ 0 by omega)
  omega
theorem rstK_mod {n : Nat} {gens : List (List Int)} {seed : Int} (h : 1 ≤ ordC n gens n) : Int.tmod (nxR seed * 2147483647 + nxR (nxR seed)) (ordC n gens n : Int) = (rstK n gens seed : Int) := by
  have h1 := nxR_rng seed
  have h2 := nxR_rng (nxR seed)
  rw [Int.tmod_eq_emod_of_nonneg (by omega)]
  unfold rstK
  have h3 := Int.emod_nonneg (nxR seed * 2147483647 + nxR (nxR seed)) (show (ordC n gens n : Int) ≠ 0 by omega)
  omega
set_option maxHeartbeats 1000000 in
theorem specGroupOrder_yes (n : Nat) (vg : Value) (gens : List (List Int)) (fpg : List Nat) (w : World) (hg : Rd w vg gens fpg) (hgs : gensB n gens = true) :
    Calls Tryz.prog 57 #[.int .i64 n, vg] w fun e w' => e = .returned (.int .i64 (ordC n gens n : Nat)) ∧ 1 ≤ ordC n gens n ∧ ordC n gens n ≤ 2432902008176640000 ∧ Only [] w w' := by
  obtain ⟨⟨n1, n20⟩, hgl, hpn⟩ := gensB_iff.1 hgs
  have hpn' : ∀ g ∈ gens, PM.PN n g := by simpa using hpn
  have hn : 0 < n := by omega
  have hn20 : n ≤ 20 := by omega
  have Hgs := Lib.hid hgs
  have Hpn := Lib.hid hpn'
  clear hpn hpn' hgs
  go_enter Tryz.func57, Tryz.ntmps57
  go_wp2_with (first
    | (go_at_call 55; (with_reducible refine (specIsGens_rd n vg gens fpg w hg).mono ?_); rintro en w1 ⟨he, t1⟩; rw [Hgs.out] at he; subst he; have t1 := t1.only [])
    | (go_at_call 58; (with_reducible refine (buildChain_any n hn hn20 vg gens fpg w1 (Rp.keep hg t1) Hpn.out (by omega)).mono ?_); rintro en w3 ⟨L, gv, G, T, M, F, rfl, hoG, hoT, hC, hCh, t3⟩; have HC := Lib.hid hC; have HCh := Lib.hid hCh; have HoT := Lib.hid hoT; clear hC hCh hoT hoG)
    | (go_at_call 59; (with_reducible refine (chainOrder_any w3 HC.out HCh.out.inv.wf HoT.out).mono ?_); rintro en w4 ⟨he, t4⟩; rw [ordC_eq HCh.out hn Hpn.out (Nat.le_refl _)] at he; subst he)
    | fail "no arm")
  go_ret
  exact ⟨rfl, ordC_pos HCh.out hn Hpn.out (Nat.le_refl _), ordC_le HCh.out hn Hpn.out hn20 (Nat.le_refl _), (t1.trans t3).trans t4⟩
theorem specGroupOrder_i (n : Int) (vg : Value) (gens : List (List Int)) (fpg : List Nat) (w : World) (hg : Rd w vg gens fpg) (hgs : gensB n gens = true) :
    Calls Tryz.prog 57 #[.int .i64 n, vg] w fun e w' => e = .returned (.int .i64 (ordC n.toNat gens n.toNat : Nat)) ∧ 1 ≤ ordC n.toNat gens n.toNat ∧ ordC n.toNat gens n.toNat ≤ 2432902008176640000 ∧ Only [] w w' := by
  obtain ⟨⟨n1, n20⟩, -, -⟩ := gensB_iff.1 hgs
  obtain ⟨m, rfl⟩ := Int.eq_ofNat_of_zero_le (by omega : 0 ≤ n)
  exact specGroupOrder_yes m vg gens fpg w hg hgs
theorem specMemberAt_i (n : Int) (vg : Value) (gens : List (List Int)) (fpg : List Nat) (k : Nat) (w : World) (hg : Rd w vg gens fpg) (hgs : gensB n gens = true) (hk : k < ordC n.toNat gens n.toNat) :
    Calls Tryz.prog 24 #[.int .i64 n, vg, .int .i64 k] w fun e w' => ∃ v f, e = .returned (.tuple #[v, .bool true]) ∧ Rd w' v (memAt n.toNat gens k) f ∧ Fresh w.heap.size w' f ∧ Only [] w w' := by
  obtain ⟨⟨n1, n20⟩, -, -⟩ := gensB_iff.1 hgs
  obtain ⟨m, rfl⟩ := Int.eq_ofNat_of_zero_le (by omega : 0 ≤ n)
  exact specMemberAt_yes m vg gens fpg k w hg hgs hk
theorem specStateCount_yes (cs : List Value) (x : Puzzle) (fp : List Nat) (w : World) (h : Rp.rep w cs x fp) (hv : validPz x = true) :
    Calls Tryz.prog 23 #[.agg cs.toArray] w fun e w' => e = .returned (.int .i64 (ordC x.points.toNat x.moves x.points.toNat : Nat)) ∧ 1 ≤ ordC x.points.toNat x.moves x.points.toNat ∧ ordC x.points.toNat x.moves x.points.toNat ≤ 2432902008176640000 ∧ Only [] w w' := by
  have h0 := h
  obtain ⟨v2, rfl, p0, p1, h2⟩ := h
  obtain ⟨A2, C2, ob, fps, rfl, -, -⟩ := h2.open_
  have Hgs := Lib.hid (validPz_gensB hv)
  go_enter Tryz.func23, Tryz.ntmps23
  go_wp2_with (first
    | (go_at_call 20; (with_reducible refine (specIsValidPuzzle_any [.int .i64 x.points, .string x.names, .slice A2 x.moves.length C2] x _ _ (Rp.keep h0 (by with_reducible repeat (first | exact Only.refl _ _ | assumption | refine Only.drewN ?_ _ | refine Only.drew ?_ | refine Only.alloc ?_ _ | refine Only.setCell ?_ (by intro hh; exfalso; simp at hh; try omega) _ | refine Only.trans ?_ (by assumption))))).mono ?_); rintro e w1 ⟨he, t1⟩; rw [hv] at he; subst he; have y1 := t1.cells_eq w.heap.size (by simp) (by simp); have k1 : Only [] w w1 := (by with_reducible repeat (first | exact Only.refl _ _ | assumption | refine Only.drewN ?_ _ | refine Only.drew ?_ | refine Only.alloc ?_ _ | refine Only.setCell ?_ (by intro hh; exfalso; simp at hh; try omega) _ | refine Only.trans ?_ (by assumption))))
    | (go_at_call 57; (with_reducible refine (specGroupOrder_i x.points _ x.moves _ w1 (Rp.keep h2 k1) Hgs.out).mono ?_); rintro en w3 ⟨rfl, o1, o2, t3⟩)
    | fail "no arm")
  go_ret
  exact ⟨rfl, o1, o2, k1.trans t3⟩
set_option maxHeartbeats 4000000 in
theorem specRandomState_any (cs : List Value) (x : Puzzle) (fp : List Nat) (seed : Int) (w : World) (h : Rp.rep w cs x fp) :
    Calls Tryz.prog 8 #[.agg cs.toArray, .int .i64 seed] w fun e w' => ∃ v f, e = .returned (.tuple #[v, .bool (rndS x seed).2]) ∧ Rd w' v (rndS x seed).1 f ∧ Fresh w.heap.size w' f ∧ Only [] w w' := by
  have h0 := h
  obtain ⟨v2, rfl, p0, p1, h2⟩ := h
  obtain ⟨A2, C2, ob, fps, rfl, -, -⟩ := h2.open_
  obtain ⟨st, hst⟩ : ∃ st, st = rndS x seed := ⟨_, rfl⟩
  rw [← hst]
  have HS := Lib.hid hst
  clear hst p0 p1
  rcases hq : validPz x
  · have hp : st = ([], false) := by rw [HS.out]; unfold rndS; rw [if_neg (by rw [hq]; simp)]
    have Hp := Lib.hid hp; clear hp
    go_enter Tryz.func8, Tryz.ntmps8
    go_wp2_with (first
      | (go_at_call 20; (with_reducible refine (specIsValidPuzzle_any [.int .i64 x.points, .string x.names, .slice A2 x.moves.length C2] x _ _ (Rp.keep h0 (by with_reducible repeat (first | exact Only.refl _ _ | assumption | refine Only.drewN ?_ _ | refine Only.drew ?_ | refine Only.alloc ?_ _ | refine Only.setCell ?_ (by intro hh; exfalso; simp at hh; try omega) _ | refine Only.trans ?_ (by assumption))))).mono ?_); rintro e w1 ⟨he, t1⟩; rw [hq] at he; subst he; have k1 : Only [] w w1 := (by with_reducible repeat (first | exact Only.refl _ _ | assumption | refine Only.drewN ?_ _ | refine Only.drew ?_ | refine Only.alloc ?_ _ | refine Only.setCell ?_ (by intro hh; exfalso; simp at hh; try omega) _ | refine Only.trans ?_ (by assumption))))
      | fail "no arm")
    exact bodyPost_ret (v := .tuple #[.slice (some ⟨w1.heap.size, 0, none⟩) 0 0, .bool false]) (by simp [results, Tryz.results8, go_sem]) rfl ⟨.slice (some ⟨w1.heap.size, 0, none⟩) 0 0, [], by rw [Hp.out], by rw [Hp.out]; exact (IntsA.nil _ _ (by simp [maxLen])).rd, Fresh.nil _ _, k1.alloc _⟩
  have Hgs := Lib.hid (validPz_gensB hq)
  rcases hr : inR seed 0 2147483646
  · have hp : st = ([], false) := by rw [HS.out]; unfold rndS; rw [if_neg (by rw [hr]; simp)]
    have Hp := Lib.hid hp; clear hp
    go_enter Tryz.func8, Tryz.ntmps8
    go_wp2_with (first
      | (go_at_call 20; (with_reducible refine (specIsValidPuzzle_any [.int .i64 x.points, .string x.names, .slice A2 x.moves.length C2] x _ _ (Rp.keep h0 (by with_reducible repeat (first | exact Only.refl _ _ | assumption | refine Only.drewN ?_ _ | refine Only.drew ?_ | refine Only.alloc ?_ _ | refine Only.setCell ?_ (by intro hh; exfalso; simp at hh; try omega) _ | refine Only.trans ?_ (by assumption))))).mono ?_); rintro e w1 ⟨he, t1⟩; rw [hq] at he; subst he; have k1 : Only [] w w1 := (by with_reducible repeat (first | exact Only.refl _ _ | assumption | refine Only.drewN ?_ _ | refine Only.drew ?_ | refine Only.alloc ?_ _ | refine Only.setCell ?_ (by intro hh; exfalso; simp at hh; try omega) _ | refine Only.trans ?_ (by assumption))))
      | (go_at_call 21; (with_reducible refine (specIsSeed_any seed _).mono ?_); rintro e w2 ⟨he, h1⟩; rw [hr] at he; subst he; rw [h1]; clear h1)
      | fail "no arm")
    exact bodyPost_ret (v := .tuple #[.slice (some ⟨w1.heap.size, 0, none⟩) 0 0, .bool false]) (by simp [results, Tryz.results8, go_sem]) rfl ⟨.slice (some ⟨w1.heap.size, 0, none⟩) 0 0, [], by rw [Hp.out], by rw [Hp.out]; exact (IntsA.nil _ _ (by simp [maxLen])).rd, Fresh.nil _ _, k1.alloc _⟩
  obtain ⟨od, hod⟩ : ∃ od, od = ordC x.points.toNat x.moves x.points.toNat := ⟨_, rfl⟩
  obtain ⟨k, hk⟩ : ∃ k, k = rstK x.points.toNat x.moves seed := ⟨_, rfl⟩
  have hp : st = (memAt x.points.toNat x.moves k, true) := by rw [HS.out]; unfold rndS; rw [if_pos ⟨hq, hr⟩, ← hk]
  have hx1 := nxR_rng seed
  have hy1 := nxR_rng (nxR seed)
  have hmd : 1 ≤ od → Int.tmod (nxR seed * 2147483647 + nxR (nxR seed)) (od : Int) = (k : Int) := fun h => by rw [hk, hod]; exact rstK_mod (by rw [← hod]; exact h)
  have hkl : 1 ≤ od → k < ordC x.points.toNat x.moves x.points.toNat := fun h => by rw [hk]; exact rstK_lt (by rw [← hod]; exact h)
  obtain ⟨a, ha⟩ : ∃ a, a = nxR seed := ⟨_, rfl⟩
  obtain ⟨b, hb⟩ : ∃ b, b = nxR a := ⟨_, rfl⟩
  rw [← ha] at hx1 hy1 hmd
  rw [← hb] at hy1 hmd
  have hwm : IntKind.i64.wrap (a * 2147483647) = a * 2147483647 := by rw [IntKind.wrap_i64]; omega
  have hwa : IntKind.i64.wrap (a * 2147483647 + b) = a * 2147483647 + b := by rw [IntKind.wrap_i64]; omega
  have Hp := Lib.hid hp
  have Hod := Lib.hid hod
  have Hmd := Lib.hid hmd
  have Hkl := Lib.hid hkl
  have Ha := Lib.hid ha
  have Hb := Lib.hid hb
  have HX : Hid (∀ V : World, Only [] w V → Calls Tryz.prog 23 #[.agg [.int .i64 x.points, .string x.names, .slice A2 x.moves.length C2].toArray] V fun e w' => e = .returned (.int .i64 (od : Nat)) ∧ 1 ≤ od ∧ od ≤ 2432902008176640000 ∧ Only [] V w') := Lib.hid (fun V hV => by
    rw [hod]; exact specStateCount_yes _ x _ V (Rp.keep h0 hV) hq)
  clear hp hod hk hmd hkl ha hb
  go_enter Tryz.func8, Tryz.ntmps8
  go_upto_region 4 with (first
    | (go_at_call 20; (with_reducible refine (specIsValidPuzzle_any [.int .i64 x.points, .string x.names, .slice A2 x.moves.length C2] x _ _ (Rp.keep h0 (by with_reducible repeat (first | exact Only.refl _ _ | assumption | refine Only.drewN ?_ _ | refine Only.drew ?_ | refine Only.alloc ?_ _ | refine Only.setCell ?_ (by intro hh; exfalso; simp at hh; try omega) _ | refine Only.trans ?_ (by assumption))))).mono ?_); rintro e w1 ⟨he, t1⟩; rw [hq] at he; subst he; have k1 : Only [] w w1 := (by with_reducible repeat (first | exact Only.refl _ _ | assumption | refine Only.drewN ?_ _ | refine Only.drew ?_ | refine Only.alloc ?_ _ | refine Only.setCell ?_ (by intro hh; exfalso; simp at hh; try omega) _ | refine Only.trans ?_ (by assumption))); have hB := Blk.keep (Blk.new_at (t := 26) (cs := [.int .i64 x.points, .string x.names, .slice A2 x.moves.length C2]) rfl) t1)
    | (go_at_call 21; (with_reducible refine (specIsSeed_any seed _).mono ?_); rintro e w2 ⟨he, h1⟩; rw [hr] at he; subst he; rw [h1]; clear h1)
    | (go_at_call 22; (with_reducible refine (specNextRandom_any seed _).mono ?_); rintro e w2 ⟨he, h1⟩; rw [← Ha.out] at he; subst he; rw [h1]; clear h1)
    | fail "no arm")
  have x0 := hB.cell 0 rfl
  have x1 := hB.cell 1 rfl
  have x2 := hB.cell 2 rfl
  go_region_held3 (fun w' => Only [] w1 w' ∧ w'.cell? ⟨w.heap.size, 0, none⟩ = some (.int .i64 x.points) ∧ w'.cell? ⟨w.heap.size, 1, none⟩ = some (.string x.names) ∧ w'.cell? ⟨w.heap.size, 2, none⟩ = some (.slice A2 x.moves.length C2)) (((refine and_of ?_ (fun h__ => ⟨h__.cell (by simp) x0, h__.cell (by simp) x1, h__.cell (by simp) x2⟩)); first | exact (Only.refl _ _).drew | exact ((Only.refl _ _).drewN _).drew | exact Only.trans (And.left (by assumption)) (by assumption) | exact Only.alloc (And.left (by assumption)) _ | assumption)) (first | (go_at_call 22; (with_reducible refine (specNextRandom_any a _).mono ?_); rintro e w2 ⟨he, h1⟩; rw [← Hb.out] at he; subst he; rw [h1]; clear h1) | (go_at_call 23; (with_reducible refine (HX.out _ (Only.trans k1 (And.left (by assumption)))).mono ?_); rintro e w3 ⟨rfl, o1, o2, t3⟩; have k3 : Only [] w1 w3 := Only.trans (And.left (by assumption)) t3; have hr0 : ¬ (od = 0) := (by omega); have hmd := Hmd.out o1) | fail "no arm")
  rename_i hHd
  obtain ⟨k4, z0, z1, z2⟩ := hHd
  go_wp2_with (first
    | (go_at_call 24; (with_reducible refine (specMemberAt_i x.points _ x.moves _ k w3 (Rp.keep h2 (k1.trans k4)) Hgs.out (Hkl.out o1)).mono ?_); rintro e w5 ⟨v, f, rfl, r5, F5, t5⟩)
    | fail "no arm")
  have k5 : Only [] w w5 := (k1.trans k4).trans t5
  have hsz := (k1.trans k4).size
  exact bodyPost_ret (v := .tuple #[v, .bool true]) (by simp [results, Tryz.results8, go_sem]) rfl ⟨v, f, by rw [Hp.out], by rw [Hp.out]; exact r5, F5.mono hsz, k5⟩



end Go.Proofs.YtpkplmnpepkdaaaGreat

namespace Go.Proofs.YtpkplmnpepkdaaaGreat
open Go.RowKit
set_option maxRecDepth 10000
theorem allL_len9 {A : List Int} : ∀ k, (PM.allL A k).length = A.length ^ k
  | 0 => by simp [PM.allL]
  | k + 1 => by
    unfold PM.allL
    rw [List.length_flatMap]
    simp only [List.length_map]
    rw [List.map_const', List.sum_replicate_nat, allL_len9 k, Nat.pow_succ]
theorem pow5 {a k : Nat} (ha : a ≤ 5) (hk : k ≤ 4) : a ^ k < 3000 :=
  Nat.lt_of_le_of_lt (Nat.pow_le_pow_left ha k) (Nat.lt_of_le_of_lt (Nat.pow_le_pow_right (by omega) hk) (by decide))
/-- a permutation is told by all its values but the last -/
theorem take_inj {n : Nat} {p q : List Int} (hp : PM.PN (n + 1) p) (hq : PM.PN (n + 1) q) (h : p.take n = q.take n) : p = q := by
  obtain ⟨p1, p2⟩ := hp
  obtain ⟨q1, q2⟩ := hq
  have ep : p = p.take n ++ [p[n]'(by omega)] := by rw [← take_succ_get p n (by omega), List.take_of_length_le (by omega)]
  have eq : q = q.take n ++ [q[n]'(by omega)] := by rw [← take_succ_get q n (by omega), List.take_of_length_le (by omega)]
  have hb : q[n]'(by omega) ∈ p := p2.all (by rw [p1, ← q1]; exact q2.sub (List.getElem_mem _))
  rw [ep] at hb
  rcases List.mem_append.1 hb with hb | hb
  · have hn := q2.2
    rw [eq, List.nodup_append] at hn
    rw [h] at hb
    exact absurd rfl (hn.2.2 _ hb _ (List.mem_singleton.2 rfl))
  · rw [ep, eq, h, List.mem_singleton.1 hb]
theorem card5 {x : Puzzle} (hv : validPz x = true) (h5 : x.points ≤ 5) : cardG x ≤ 3000 := by
  have hf := validPz_facts hv
  obtain ⟨n, hn⟩ : ∃ n, x.points.toNat = n + 1 := ⟨x.points.toNat - 1, by omega⟩
  have hp := validPz_pn hv
  show (grpL x.points.toNat x.moves).length ≤ 3000
  have hpn : ∀ p ∈ grpL x.points.toNat x.moves, PM.PN (n + 1) p := fun p hm => by
    have := PM.Grp.pn hp ((mem_grpL hp).1 hm)
    rwa [hn] at this
  have hnd : ((grpL x.points.toNat x.moves).map (List.take n)).Nodup := by
    exact List.pairwise_map.2 ((grpL_nodup _ _).imp_of_mem fun ha hb hne e => hne (take_inj (hpn _ ha) (hpn _ hb) e))
  have hs : (grpL x.points.toNat x.moves).map (List.take n) ⊆ PM.allL (PM.pts (n + 1)) n := fun y hy => by
    obtain ⟨p, hm, rfl⟩ := List.mem_map.1 hy
    obtain ⟨p1, p2⟩ := hpn p hm
    have hl : (p.take n).length = n := by rw [List.length_take]; omega
    have := PM.mem_allL (A := PM.pts (n + 1)) (p.take n) fun z hz => by have := p2.sub (List.mem_of_mem_take hz); rwa [p1] at this
    rwa [hl] at this
  have h1 := PM.nodup_sub_len hnd hs
  rw [List.length_map, allL_len9, PM.pts_len] at h1
  have h2 := pow5 (a := n + 1) (k := n) (by omega) (by omega)
  omega
end Go.Proofs.YtpkplmnpepkdaaaGreat

namespace Go.Proofs.YtpkplmnpepkdaaaGreat
open Go.RowKit
set_option maxRecDepth 10000
theorem newProof_all (cs ds : List Value) (x : Puzzle) (t : Table) (f1 f2 : List Nat) (w : World) (h : Rp.rep w cs x f1) (h2 : Rp.rep w ds t f2) :
    Calls Tryz.prog 16 #[.agg cs.toArray, .agg ds.toArray] w fun e w' => ∃ q, e = .returned (.tuple #[.pointer q, .bool (checkT x t)]) ∧ (checkT x t = true → ∃ g, q = some ⟨g, 0, none⟩ ∧ Prf w' g x t) ∧ Only [] w w' := by
  by_cases hc : validPz x = true ∧ wfT t = true ∧ trackB x.points t.tracked = true
  · exact newProof_any cs ds x t f1 f2 w h h2 hc.1 hc.2.1 hc.2.2
  · have hck : checkT x t = false := by
      rw [← Bool.not_eq_true, checkT_iff]; rintro ⟨a, b, c, -⟩; exact hc ⟨a, b, c⟩
    refine (newProof_bad cs ds x t f1 f2 w h h2 hc).mono ?_
    rintro e w' ⟨rfl, hk⟩
    exact ⟨none, by rw [hck], fun hh => (by rw [hck] at hh; cases hh), hk⟩



end Go.Proofs.YtpkplmnpepkdaaaGreat

namespace Go.Proofs.YtpkplmnpepkdaaaGreat
open Go.RowKit
set_option maxRecDepth 10000
theorem fault_at {w : World} {a : Option Addr} {cap : Nat} {ys : List Fault} {ob : List Nat} {fps : List (List Nat)} (h : SeqA w a cap ys ob fps) {k : Nat} (hk : k < ys.length) :
    ∃ b off, a = some ⟨b, off, none⟩ ∧ w.cell? ⟨b, off + k * 3, none⟩ = some (.int .i64 ys[k].kind) := by
  obtain ⟨b, off, cs, ha, -, hc, rfl, -, -⟩ := h.at_ k hk
  exact ⟨b, off, ha, hc 0 _ rfl⟩
theorem mem_take_stepF {α : Type} {l : List α} {j : Nat} (h : j < l.length) {P : α → Prop} (h1 : ∀ x ∈ l.take j, P x) (h2 : P l[j]) : ∀ x ∈ l.take (j + 1), P x := by
  rw [take_succ_get l j h]
  intro x hx
  rcases List.mem_append.1 hx with hx | hx
  · exact h1 x hx
  · simp at hx; subst hx; exact h2
theorem admB_iff {x : Puzzle} {t : Table} (hc : checkT x t = true) : admB x t = true ↔ ∀ i, i < t.patterns.length → ∀ f ∈ entF x t i, badK f = false := by
  unfold admB
  rw [hc, Bool.true_and, List.all_eq_true]
  simp
theorem badK_of {f : Fault} : badK f = true ↔ f.kind = 1 ∨ f.kind = 4 ∨ f.kind = 5 := by simp [badK]
set_option maxHeartbeats 4000000 in
theorem specIsAdmissible_any (cs ds : List Value) (x : Puzzle) (t : Table) (f1 f2 : List Nat) (w : World) (h : Rp.rep w cs x f1) (h2 : Rp.rep w ds t f2) :
    Calls Tryz.prog 7 #[.agg cs.toArray, .agg ds.toArray] w fun e w' => e = .returned (.bool (admB x t)) ∧ Only [] w w' := by
  have h0 := h
  have h20 := h2
  obtain ⟨v2, rfl, p0, p1, hm⟩ := h
  obtain ⟨u0, u1, u2, q0, q1, q2, rfl, rfl, r0, r1, r2⟩ := h2
  obtain ⟨A0, C0, rfl, I0⟩ := r0.ints
  obtain ⟨A1, C1, ob, fps, rfl, -, hs⟩ := r1.open_
  obtain ⟨A2, C2, rfl, I2⟩ := r2.ints
  have b1 := hs.bound
  have hB2 := Blk.new_at (w := w.alloc (.cells [.int .i64 x.points, .string x.names, v2].toArray 26)) (g := w.heap.size + 1) (cs := [.slice A0 t.tracked.length C0, .slice A1 t.patterns.length C1, .slice A2 t.distances.length C2]) (t := 29) (by simp)
  have hB1 := Blk.keep (Blk.new_at (w := w) (cs := [.int .i64 x.points, .string x.names, v2]) (t := 26) rfl) ((Only.refl [] _).alloc (.cells [.slice A0 t.tracked.length C0, .slice A1 t.patterns.length C1, .slice A2 t.distances.length C2].toArray 29))
  rcases hc : checkT x t
  · have hf : admB x t = false := by unfold admB; rw [hc]; rfl
    have Hf := Lib.hid hf; clear hf
    go_enter Tryz.func7, Tryz.ntmps7
    go_wp2_with ((go_at_call 18; (with_reducible refine (l30Checkable_any [.int .i64 x.points, .string x.names, v2] [.slice A0 t.tracked.length C0, .slice A1 t.patterns.length C1, .slice A2 t.distances.length C2] x t _ _ _ (Rp.keep h0 (by with_reducible repeat (first | exact Only.refl _ _ | assumption | refine Only.drewN ?_ _ | refine Only.drew ?_ | refine Only.alloc ?_ _ | refine Only.setCell ?_ (by intro hh; exfalso; simp at hh; try omega) _ | refine Only.trans ?_ (by assumption)))) (Rp.keep h20 (by with_reducible repeat (first | exact Only.refl _ _ | assumption | refine Only.drewN ?_ _ | refine Only.drew ?_ | refine Only.alloc ?_ _ | refine Only.setCell ?_ (by intro hh; exfalso; simp at hh; try omega) _ | refine Only.trans ?_ (by assumption))))).mono ?_); rintro e w1 ⟨he, t1⟩; rw [hc] at he; subst he))
    go_ret
    exact ⟨ret_bool Hf.out.symm, (by with_reducible repeat (first | exact Only.refl _ _ | assumption | refine Only.drewN ?_ _ | refine Only.drew ?_ | refine Only.alloc ?_ _ | refine Only.setCell ?_ (by intro hh; exfalso; simp at hh; try omega) _ | refine Only.trans ?_ (by assumption)))⟩
  have HA := Lib.hid (admB_iff hc)
  go_enter Tryz.func7, Tryz.ntmps7
  go_wp2_with ((go_at_call 18; (with_reducible refine (l30Checkable_any [.int .i64 x.points, .string x.names, v2] [.slice A0 t.tracked.length C0, .slice A1 t.patterns.length C1, .slice A2 t.distances.length C2] x t _ _ _ (Rp.keep h0 (by with_reducible repeat (first | exact Only.refl _ _ | assumption | refine Only.drewN ?_ _ | refine Only.drew ?_ | refine Only.alloc ?_ _ | refine Only.setCell ?_ (by intro hh; exfalso; simp at hh; try omega) _ | refine Only.trans ?_ (by assumption)))) (Rp.keep h20 (by with_reducible repeat (first | exact Only.refl _ _ | assumption | refine Only.drewN ?_ _ | refine Only.drew ?_ | refine Only.alloc ?_ _ | refine Only.setCell ?_ (by intro hh; exfalso; simp at hh; try omega) _ | refine Only.trans ?_ (by assumption))))).mono ?_); rintro e w1 ⟨he, t1⟩; rw [hc] at he; subst he; have c1 := hB1.keep t1; have c2 := hB2.keep t1; have hKw : Only [] w w1 := (by with_reducible repeat (first | exact Only.refl _ _ | assumption | refine Only.drewN ?_ _ | refine Only.drew ?_ | refine Only.alloc ?_ _ | refine Only.setCell ?_ (by intro hh; exfalso; simp at hh; try omega) _ | refine Only.trans ?_ (by assumption)))))
  go_loopw [5] (fun i wr => ∃ j : Nat, j ≤ t.patterns.length ∧ i = .int .i64 j ∧ (∀ k, k < j → ∀ f ∈ entF x t k, badK f = false) ∧ Only [] w1 wr)
    (fun i _ => t.patterns.length - (intOf i).toNat)
  case atStart => exact ⟨0, Nat.zero_le _, rfl, by intro k hk; omega, Only.refl _ _⟩
  case round =>
    obtain ⟨j, hj, rfl, hr, hK⟩ := hrel
    have Hr := Lib.hid hr; clear hr
    have y0 := (c1.keep hK).cell 0 rfl
    have y1 := (c1.keep hK).cell 1 rfl
    have y2 := (c1.keep hK).cell 2 rfl
    have z0 := (c2.keep hK).cell 0 rfl
    have z1 := (c2.keep hK).cell 1 rfl
    have z2 := (c2.keep hK).cell 2 rfl
    have hKW : Only [] w wr := hKw.trans hK
    by_cases hlt : j < t.patterns.length
    · go_wp2_with ((go_at_call 19; (with_reducible refine (l30Entry_any [.int .i64 x.points, .string x.names, v2] [.slice A0 t.tracked.length C0, .slice A1 t.patterns.length C1, .slice A2 t.distances.length C2] x t j _ _ _ (Rp.keep h0 hKW) (Rp.keep h20 hKW) hc hlt).mono ?_); rintro e w4 ⟨u4, f4, rfl, r4, F4, t4⟩))
      obtain ⟨A4, C4, ob4, fps4, rfl, -, hs4⟩ := r4.open_
      have hb4 := hs4.bound
      go_loopw [7] (fun i2 w2 => ∃ k : Nat, k ≤ (entF x t j).length ∧ i2 = .int .i64 k ∧ (∀ f ∈ (entF x t j).take k, badK f = false) ∧ Only [] w4 w2)
        (fun i2 _ => (entF x t j).length - (intOf i2).toNat)
      case atStart => exact ⟨0, Nat.zero_le _, rfl, by simp, Only.refl _ _⟩
      case round =>
        obtain ⟨k, hk, rfl, hr2, hK2⟩ := hrel
        have Hr2 := Lib.hid hr2; clear hr2
        by_cases hlt2 : k < (entF x t j).length
        · obtain ⟨b9, o9, rfl, hc9⟩ := fault_at hs4 hlt2
          have hcc := hK2.cell (by simp) hc9
          have hbk := badK_of (f := (entF x t j)[k])
          have Hbk := Lib.hid hbk
          clear hbk hc9
          by_cases e1 : (entF x t j)[k].kind = 1
          · have d1 : ((entF x t j)[k].kind == 1) = true := by simp [e1]
            have E1 := Lib.hid e1; clear e1
            go_wp2
            go_ret
            exact ⟨ret_bool (by rw [eq_comm, ← Bool.not_eq_true, HA.out]; intro hall; have := hall j hlt _ (List.getElem_mem hlt2); rw [Hbk.out.2 (.inl E1.out)] at this; cases this), (by with_reducible repeat (first | exact Only.refl _ _ | assumption | refine Only.drewN ?_ _ | refine Only.drew ?_ | refine Only.alloc ?_ _ | refine Only.setCell ?_ (by intro hh; exfalso; simp at hh; try omega) _ | refine Only.trans ?_ (by assumption)))⟩
          have d1 : ((entF x t j)[k].kind == 1) = false := by simp [e1]
          have E1 := Lib.hid e1; clear e1
          by_cases e2 : (entF x t j)[k].kind = 4
          · have d2 : ((entF x t j)[k].kind == 4) = true := by simp [e2]
            have E2 := Lib.hid e2; clear e2
            go_wp2
            go_ret
            exact ⟨ret_bool (by rw [eq_comm, ← Bool.not_eq_true, HA.out]; intro hall; have := hall j hlt _ (List.getElem_mem hlt2); rw [Hbk.out.2 (.inr (.inl E2.out))] at this; cases this), (by with_reducible repeat (first | exact Only.refl _ _ | assumption | refine Only.drewN ?_ _ | refine Only.drew ?_ | refine Only.alloc ?_ _ | refine Only.setCell ?_ (by intro hh; exfalso; simp at hh; try omega) _ | refine Only.trans ?_ (by assumption)))⟩
          have d2 : ((entF x t j)[k].kind == 4) = false := by simp [e2]
          have E2 := Lib.hid e2; clear e2
          by_cases e3 : (entF x t j)[k].kind = 5
          · have d3 : ((entF x t j)[k].kind == 5) = true := by simp [e3]
            have E3 := Lib.hid e3; clear e3
            go_wp2
            go_ret
            exact ⟨ret_bool (by rw [eq_comm, ← Bool.not_eq_true, HA.out]; intro hall; have := hall j hlt _ (List.getElem_mem hlt2); rw [Hbk.out.2 (.inr (.inr E3.out))] at this; cases this), (by with_reducible repeat (first | exact Only.refl _ _ | assumption | refine Only.drewN ?_ _ | refine Only.drew ?_ | refine Only.alloc ?_ _ | refine Only.setCell ?_ (by intro hh; exfalso; simp at hh; try omega) _ | refine Only.trans ?_ (by assumption)))⟩
          have d3 : ((entF x t j)[k].kind == 5) = false := by simp [e3]
          have E3 := Lib.hid e3; clear e3
          go_wp2
          go_roundw
          case rel => exact ⟨k + 1, by omega, by go_num, mem_take_stepF hlt2 Hr2.out (by rw [← Bool.not_eq_true, Hbk.out]; rintro (h9 | h9 | h9); exact E1.out h9; exact E2.out h9; exact E3.out h9), (by with_reducible repeat (first | exact Only.refl _ _ | assumption | refine Only.drewN ?_ _ | refine Only.drew ?_ | refine Only.alloc ?_ _ | refine Only.setCell ?_ (by intro hh; exfalso; simp at hh; try omega) _ | refine Only.trans ?_ (by assumption)))⟩
          case measure => simp [intOf]; omega
        · go_wp2
          go_roundw
          case rel => exact ⟨j + 1, by omega, by go_num, fun k' hk' => by
            by_cases hkj : k' = j
            · subst hkj; have := Hr2.out; rwa [List.take_of_length_le (by omega)] at this
            · exact Hr.out k' (by omega), (by with_reducible repeat (first | exact Only.refl _ _ | assumption | refine Only.drewN ?_ _ | refine Only.drew ?_ | refine Only.alloc ?_ _ | refine Only.setCell ?_ (by intro hh; exfalso; simp at hh; try omega) _ | refine Only.trans ?_ (by assumption)))⟩
          case measure => simp [intOf]; omega
    · go_wp2
      go_ret
      exact ⟨ret_bool (by rw [eq_comm, HA.out]; exact fun k hk => Hr.out k (by omega)), (by with_reducible repeat (first | exact Only.refl _ _ | assumption | refine Only.drewN ?_ _ | refine Only.drew ?_ | refine Only.alloc ?_ _ | refine Only.setCell ?_ (by intro hh; exfalso; simp at hh; try omega) _ | refine Only.trans ?_ (by assumption)))⟩
end Go.Proofs.YtpkplmnpepkdaaaGreat

namespace Go.Proofs.YtpkplmnpepkdaaaGreat
open Go.RowKit
set_option maxRecDepth 10000

theorem fault_at3 {w : World} {a : Option Addr} {cap : Nat} {ys : List Fault} {ob : List Nat} {fps : List (List Nat)} (h : SeqA w a cap ys ob fps) {k : Nat} (hk : k < ys.length) :
    ∃ b off, a = some ⟨b, off, none⟩ ∧ w.cell? ⟨b, off + k * 3, none⟩ = some (.int .i64 ys[k].kind) ∧ w.cell? ⟨b, off + k * 3 + 1, none⟩ = some (.int .i64 ys[k].entry) ∧ w.cell? ⟨b, off + k * 3 + 2, none⟩ = some (.int .i64 ys[k].letter) := by
  obtain ⟨b, off, cs, ha, -, hc, rfl, -, -⟩ := h.at_ k hk
  exact ⟨b, off, ha, hc 0 _ rfl, hc 1 _ rfl, hc 2 _ rfl⟩
set_option maxHeartbeats 4000000 in
theorem implIsAdmissible_any (cs ds : List Value) (x : Puzzle) (t : Table) (f1 f2 : List Nat) (w : World) (h : Rp.rep w cs x f1) (h2 : Rp.rep w ds t f2) :
    Calls Tryz.prog 6 #[.agg cs.toArray, .agg ds.toArray] w fun e w' => e = .returned (.bool (admB x t)) ∧ Only [] w w' := by
  have h0 := h
  have h20 := h2
  obtain ⟨v2, rfl, p0, p1, hm⟩ := h
  obtain ⟨u0, u1, u2, q0, q1, q2, rfl, rfl, r0, r1, r2⟩ := h2
  obtain ⟨A1, C1, ob, fps, rfl, -, hs⟩ := r1.open_
  have b1 := hs.bound
  have hB2 := Blk.new_at (w := w.alloc (.cells [.int .i64 x.points, .string x.names, v2].toArray 26)) (g := w.heap.size + 1) (cs := [u0, .slice A1 t.patterns.length C1, u2]) (t := 29) (by simp)
  rcases hc : checkT x t
  · have hf : admB x t = false := by unfold admB; rw [hc]; rfl
    have Hf := Lib.hid hf; clear hf
    go_enter Tryz.func6, Tryz.ntmps6
    go_wp2_with ((go_at_call 16; (with_reducible refine (newProof_all [.int .i64 x.points, .string x.names, v2] [u0, .slice A1 t.patterns.length C1, u2] x t _ _ _ (Rp.keep h0 (by with_reducible repeat (first | exact Only.refl _ _ | assumption | refine Only.drewN ?_ _ | refine Only.drew ?_ | refine Only.alloc ?_ _ | refine Only.setCell ?_ (by intro hh; exfalso; simp at hh; try omega) _ | refine Only.trans ?_ (by assumption)))) (Rp.keep h20 (by with_reducible repeat (first | exact Only.refl _ _ | assumption | refine Only.drewN ?_ _ | refine Only.drew ?_ | refine Only.alloc ?_ _ | refine Only.setCell ?_ (by intro hh; exfalso; simp at hh; try omega) _ | refine Only.trans ?_ (by assumption))))).mono ?_); rintro e w1 ⟨q, he, hq, t1⟩; rw [hc] at he; subst he))
    go_ret
    exact ⟨ret_bool Hf.out.symm, (by with_reducible repeat (first | exact Only.refl _ _ | assumption | refine Only.drewN ?_ _ | refine Only.drew ?_ | refine Only.alloc ?_ _ | refine Only.setCell ?_ (by intro hh; exfalso; simp at hh; try omega) _ | refine Only.trans ?_ (by assumption)))⟩
  have HA := Lib.hid (admB_iff hc)
  go_enter Tryz.func6, Tryz.ntmps6
  go_wp2_with ((go_at_call 16; (with_reducible refine (newProof_all [.int .i64 x.points, .string x.names, v2] [u0, .slice A1 t.patterns.length C1, u2] x t _ _ _ (Rp.keep h0 (by with_reducible repeat (first | exact Only.refl _ _ | assumption | refine Only.drewN ?_ _ | refine Only.drew ?_ | refine Only.alloc ?_ _ | refine Only.setCell ?_ (by intro hh; exfalso; simp at hh; try omega) _ | refine Only.trans ?_ (by assumption)))) (Rp.keep h20 (by with_reducible repeat (first | exact Only.refl _ _ | assumption | refine Only.drewN ?_ _ | refine Only.drew ?_ | refine Only.alloc ?_ _ | refine Only.setCell ?_ (by intro hh; exfalso; simp at hh; try omega) _ | refine Only.trans ?_ (by assumption))))).mono ?_); rintro e w1 ⟨q, he, hq, t1⟩; rw [hc] at he; subst he; obtain ⟨g, rfl, hP⟩ := hq hc; have hK1 : Only [] w w1 := (by with_reducible repeat (first | exact Only.refl _ _ | assumption | refine Only.drewN ?_ _ | refine Only.drew ?_ | refine Only.alloc ?_ _ | refine Only.setCell ?_ (by intro hh; exfalso; simp at hh; try omega) _ | refine Only.trans ?_ (by assumption))); have z1 := (hB2.keep t1).cell 1 rfl))
  go_loopw [21] (fun i wr => ∃ j : Nat, j ≤ t.patterns.length ∧ i = .int .i64 j ∧ (∀ k, k < j → ∀ f ∈ entF x t k, badK f = false) ∧ Only [] w1 wr)
    (fun i _ => t.patterns.length - (intOf i).toNat)
  case atStart => exact ⟨0, Nat.zero_le _, rfl, by intro k hk; omega, Only.refl _ _⟩
  case round =>
    obtain ⟨j, hj, rfl, hr, hK⟩ := hrel
    have Hr := Lib.hid hr; clear hr
    have hKW : Only [] w wr := hK1.trans hK
    by_cases hlt : j < t.patterns.length
    · go_wp2_with ((go_at_call 17; (with_reducible refine (entryFaults_any g x t j _ (hP.keep hK) hc hlt).mono ?_); rintro e w4 ⟨u4, f4, rfl, r4, F4, t4⟩; obtain ⟨A4, C4, ob4, fps4, rfl, -, hs4⟩ := r4.open_))
      have hb4 := hs4.bound
      have hK4 : Only [] w w4 := hKW.trans t4
      go_loopw [28] (fun i2 w2 => ∃ k : Nat, k ≤ (entF x t j).length ∧ i2 = .int .i64 k ∧ (∀ f ∈ (entF x t j).take k, badK f = false) ∧ Only [] w4 w2)
        (fun i2 _ => (entF x t j).length - (intOf i2).toNat)
      case atStart => exact ⟨0, Nat.zero_le _, rfl, by simp, Only.refl _ _⟩
      case round =>
        obtain ⟨k, hk, rfl, hr2, hK2⟩ := hrel
        have Hr2 := Lib.hid hr2; clear hr2
        have hsz2 := hK2.size
        have hsz4 := hK4.size
        have hsz1 := (hK.trans t4).size
        have hK5 : Only [] w wr := hK4.trans hK2
        by_cases hlt2 : k < (entF x t j).length
        · obtain ⟨b9, o9, rfl, hc9, hd9, he9⟩ := fault_at3 hs4 hlt2
          have hcc := hK2.cell (by simp) hc9
          have hcd := hK2.cell (by simp) hd9
          have hce := hK2.cell (by simp) he9
          have hbk := badK_of (f := (entF x t j)[k])
          have Hbk := Lib.hid hbk
          clear hbk hc9 hd9 he9
          by_cases e1 : (entF x t j)[k].kind = 1
          · have d1 : ((entF x t j)[k].kind == 1) = true := by simp [e1]
            have E1 := Lib.hid e1; clear e1
            go_wp2
            go_ret
            exact ⟨ret_bool (by rw [eq_comm, ← Bool.not_eq_true, HA.out]; intro hall; have := hall j hlt _ (List.getElem_mem hlt2); rw [Hbk.out.2 (.inl E1.out)] at this; cases this), (by with_reducible repeat (first | exact Only.refl _ _ | assumption | refine Only.drewN ?_ _ | refine Only.drew ?_ | refine Only.alloc ?_ _ | refine Only.setCell ?_ (by intro hh; exfalso; simp at hh; try omega) _ | refine Only.trans ?_ (by assumption)))⟩
          have d1 : ((entF x t j)[k].kind == 1) = false := by simp [e1]
          have E1 := Lib.hid e1; clear e1
          by_cases e2 : (entF x t j)[k].kind = 4
          · have d2 : ((entF x t j)[k].kind == 4) = true := by simp [e2]
            have E2 := Lib.hid e2; clear e2
            go_wp2
            go_ret
            exact ⟨ret_bool (by rw [eq_comm, ← Bool.not_eq_true, HA.out]; intro hall; have := hall j hlt _ (List.getElem_mem hlt2); rw [Hbk.out.2 (.inr (.inl E2.out))] at this; cases this), (by with_reducible repeat (first | exact Only.refl _ _ | assumption | refine Only.drewN ?_ _ | refine Only.drew ?_ | refine Only.alloc ?_ _ | refine Only.setCell ?_ (by intro hh; exfalso; simp at hh; try omega) _ | refine Only.trans ?_ (by assumption)))⟩
          have d2 : ((entF x t j)[k].kind == 4) = false := by simp [e2]
          have E2 := Lib.hid e2; clear e2
          by_cases e3 : (entF x t j)[k].kind = 5
          · have d3 : ((entF x t j)[k].kind == 5) = true := by simp [e3]
            have E3 := Lib.hid e3; clear e3
            go_wp2
            go_ret
            exact ⟨ret_bool (by rw [eq_comm, ← Bool.not_eq_true, HA.out]; intro hall; have := hall j hlt _ (List.getElem_mem hlt2); rw [Hbk.out.2 (.inr (.inr E3.out))] at this; cases this), (by with_reducible repeat (first | exact Only.refl _ _ | assumption | refine Only.drewN ?_ _ | refine Only.drew ?_ | refine Only.alloc ?_ _ | refine Only.setCell ?_ (by intro hh; exfalso; simp at hh; try omega) _ | refine Only.trans ?_ (by assumption)))⟩
          have d3 : ((entF x t j)[k].kind == 5) = false := by simp [e3]
          have E3 := Lib.hid e3; clear e3
          go_wp2
          go_roundw
          case rel => exact ⟨k + 1, by omega, by go_num, mem_take_stepF hlt2 Hr2.out (by rw [← Bool.not_eq_true, Hbk.out]; rintro (h9 | h9 | h9); exact E1.out h9; exact E2.out h9; exact E3.out h9), (by with_reducible repeat (first | exact Only.refl _ _ | assumption | refine Only.drewN ?_ _ | refine Only.drew ?_ | refine Only.alloc ?_ _ | refine Only.setCell ?_ (by intro hh; exfalso; simp at hh; try omega) _ | refine Only.trans ?_ (by assumption)))⟩
          case measure => simp [intOf]; omega
        · go_wp2
          go_roundw
          case rel => exact ⟨j + 1, by omega, by go_num, fun k' hk' => by
            by_cases hkj : k' = j
            · subst hkj; have := Hr2.out; rwa [List.take_of_length_le (by omega)] at this
            · exact Hr.out k' (by omega), (hK.trans t4).trans hK2⟩
          case measure => simp [intOf]; omega
    · go_wp2
      go_ret
      exact ⟨ret_bool (by rw [eq_comm, HA.out]; exact fun k hk => Hr.out k (by omega)), (by with_reducible repeat (first | exact Only.refl _ _ | assumption | refine Only.drewN ?_ _ | refine Only.drew ?_ | refine Only.alloc ?_ _ | refine Only.setCell ?_ (by intro hh; exfalso; simp at hh; try omega) _ | refine Only.trans ?_ (by assumption)))⟩
end Go.Proofs.YtpkplmnpepkdaaaGreat
