/- The program's proof of a table: where a letter leads, the faults of an entry. (Written by mkprf2.py.) -/
import Derived.Test.YtmilmbgnkpkmnaaPrf

namespace Go.Proofs.Ytmilmbgnkpkmnaa
open Go.RowKit
set_option maxRecDepth 10000

theorem nextI_first {x : Puzzle} {t : Table} {p : List Int} {l : Int} (hc : checkT x t = true) (hp : patB x.points t.tracked.length p = true) (hl : l ∈ ltrs x.moves.length) :
    firstG t.patterns (kB (nxt x p l)) = if 0 ≤ nextI x t p l then some (nextI x t p l) else none := by
  obtain ⟨hv, hw, ht, hps⟩ := checkT_iff.1 hc
  obtain ⟨g1, g2, g3, g4⟩ := validPz_facts hv
  exact firstG_idx (fun q hq => patB_byt (hps q hq) (by omega)) (patB_byt (nxt_pat hv hp hl) (by omega))
/-- the distance behind a letter, and whether there is one -/
def toI (t : Table) (n : Int) : Int := if 0 ≤ n then atD t n else 0
def toB (n : Int) : Bool := decide (0 ≤ n)
theorem toI_no {t : Table} {n : Int} (h : n < 0) : toI t n = 0 := by unfold toI; rw [if_neg (by omega)]
theorem toI_yes {t : Table} {n : Int} (h : 0 ≤ n) : toI t n = atD t n := by unfold toI; rw [if_pos h]
theorem toB_no {n : Int} (h : n < 0) : toB n = false := decide_eq_false (by omega)
theorem toB_yes {n : Int} (h : 0 ≤ n) : toB n = true := decide_eq_true h
set_option maxHeartbeats 4000000 in
theorem to_any (g : Nat) (x : Puzzle) (t : Table) (v : Value) (p : List Int) (fp : List Nat) (k : Nat) (w : World) (hP : Prf w g x t) (h : Rd w v p fp) (hc : checkT x t = true) (hp : patB x.points t.tracked.length p = true) (hk : k < (ltrs x.moves.length).length) :
    Calls Try.prog 91 #[.pointer (some ⟨g, 0, none⟩), v, .int .i64 k] w fun e w' => e = .returned (.tuple #[.int .i64 (toI t (nextI x t p (ltrs x.moves.length)[k])), .bool (toB (nextI x t p (ltrs x.moves.length)[k]))]) ∧ Only [] w w' := by
  obtain ⟨hv, hw, ht, hps⟩ := checkT_iff.1 hc
  have hwf := wfT_iff.1 hw
  obtain ⟨g1, g2, g3, g4⟩ := validPz_facts hv
  have hla := List.getElem_mem hk
  have hfirst := nextI_first hc hp hla
  obtain ⟨hn0, hn1⟩ := (show -1 ≤ nextI x t p (ltrs x.moves.length)[k] ∧ nextI x t p (ltrs x.moves.length)[k] < t.patterns.length from idxL_lt)
  have hpn := mv_pn (validPz_pn hv) hla
  obtain ⟨hpl, hpr, -⟩ := patB_iff.1 hp
  have htl := inc_len_le2 ht
  have hnx : nxt x p (ltrs x.moves.length)[k] = PM.comp p (mv x.moves (ltrs x.moves.length)[k]) := rfl
  rw [hnx] at hfirst
  obtain ⟨n, hn⟩ : ∃ n, n = nextI x t p (ltrs x.moves.length)[k] := ⟨_, rfl⟩
  rw [← hn] at hfirst hn0 hn1 ⊢
  obtain ⟨v0, v1, v2, vl, vm, M, f0, f1, f2, fl, fm, km, hB, r0, r1, r2, rl, rm, hM⟩ := hP
  obtain ⟨Am, Cm, obm, fpm, rfl, -, hsm⟩ := rm.open_
  obtain ⟨A2, C2, rfl, I2⟩ := r2.ints
  have hkm : k < ((ltrs x.moves.length).map (mv x.moves)).length := by rw [List.length_map]; exact hk
  obtain ⟨bm, om, um, rfl, -, hcm, hum⟩ := hsm.atRow k hkm
  rw [List.getElem_map] at hum
  have d5 := hB.cell 5 rfl
  have d4 := hB.cell 4 rfl
  have d2 := hB.cell 2 rfl
  have hk1 : (0 : Int) ≤ (k : Int) := by omega
  have hk2 : (k : Int) < (((ltrs x.moves.length).map (mv x.moves)).length : Int) := by omega
  have hk3 : (k : Int) < ((ltrs x.moves.length).length : Int) := by omega
  have hrg : ∀ y ∈ p, 0 ≤ y ∧ y < ((mv x.moves (ltrs x.moves.length)[k]).length : Int) := fun y hy => by have := hpr y hy; have := hpn.1; omega
  have Hrg := Lib.hid hrg
  have hpl2 : p.length ≤ 1000 := by omega
  have hcl : (PM.comp p (mv x.moves (ltrs x.moves.length)[k])).length ≤ 1000 := by rw [PM.comp_len]; exact hpl2
  have hks : (kB (PM.comp p (mv x.moves (ltrs x.moves.length)[k]))).size ≤ maxLen := by rw [kB_size]; unfold maxLen; omega
  have Hcl := Lib.hid hcl
  have Hks := Lib.hid hks
  clear hn hnx hrg hcl hks hpl htl hwf hpn
  by_cases hneg : n < 0
  · rw [if_neg (by omega)] at hfirst
    have Hf := Lib.hid hfirst
    have hres := toB_no hneg
    have Hres := Lib.hid hres
    have Hneg := Lib.hid hneg
    clear hfirst hres hn0 hn1 hneg
    go_enter Try.func91, Try.ntmps91
    go_wp2
    go_region_held3 (fun w' => Only [] w w' ∧ w'.cell? ⟨g, 5, none⟩ = some (.map (some M)) ∧ w'.cell? ⟨g, 4, none⟩ = some (.slice (some ⟨bm, om, none⟩) ((ltrs x.moves.length).map (mv x.moves)).length Cm) ∧ w'.cell? ⟨bm, om + k, none⟩ = some (um)) (((refine and_of ?_ (fun h__ => ⟨h__.cell (by simp) d5, h__.cell (by simp) d4, h__.cell (by simp) hcm⟩)); first | exact (Only.refl _ _).drew | exact ((Only.refl _ _).drewN _).drew | exact Only.trans (And.left (by assumption)) (by assumption) | exact Only.alloc (And.left (by assumption)) _ | assumption)) (first | (go_at_call 74; (with_reducible refine (picked_rd um v (mv x.moves (ltrs x.moves.length)[k]) p _ _ _ (Rp.keep hum (And.left (by assumption))) (Rp.keep h (And.left (by assumption))) Hrg.out hpl2).mono ?_); rintro e w5 ⟨u5, f5, rfl, r5, F5, t5⟩; have hO5 := Only.trans (And.left (by assumption)) t5; have hM5 := hM.keep hO5) | (go_at_call 90; (with_reducible refine (stateKey_rd u5 (PM.comp p (mv x.moves (ltrs x.moves.length)[k])) _ _ r5 Hcl.out).mono ?_); rintro e w6 ⟨rfl, t6⟩; have hO6 := hO5.trans t6; have hrun6 := (hM.keep hO6).run_no Hks.out Hf.out) | fail "no arm")
    go_wp2
    refine bodyPost_ret (v := .tuple #[.int .i64 0, .bool false]) (by simp [results, Try.results91, go_sem]) rfl ⟨by rw [Hres.out, toI_no Hneg.out], (by with_reducible repeat (first | exact Only.refl _ _ | assumption | refine Only.drewN ?_ _ | refine Only.drew ?_ | refine Only.alloc ?_ _ | refine Only.setCell ?_ (by intro hh; exfalso; simp at hh; try omega) _ | refine Only.trans ?_ (by assumption)))⟩
  · rw [if_pos (by omega)] at hfirst
    have Hf := Lib.hid hfirst
    have hres := toB_yes (n := n) (by omega)
    have Hres := Lib.hid hres
    have hdl : t.distances.length = t.patterns.length := (wfT_iff.1 hw).2.2.1
    have hnl : n.toNat < t.distances.length := by omega
    have hnl' : n < (t.distances.length : Int) := by omega
    have hn0' : 0 ≤ n := by omega
    have hat := atD_of (t := t) (j := n) (i := n.toNat) (by omega) hnl
    have Hat := Lib.hid hat
    obtain ⟨b2, o2, rfl, -, hdd⟩ := I2.at_ n.toNat hnl
    clear hfirst hres hat hn0 hn1 hneg hdl
    go_enter Try.func91, Try.ntmps91
    go_wp2
    go_region_held3 (fun w' => Only [] w w' ∧ w'.cell? ⟨g, 5, none⟩ = some (.map (some M)) ∧ w'.cell? ⟨g, 4, none⟩ = some (.slice (some ⟨bm, om, none⟩) ((ltrs x.moves.length).map (mv x.moves)).length Cm) ∧ w'.cell? ⟨bm, om + k, none⟩ = some (um)) (((refine and_of ?_ (fun h__ => ⟨h__.cell (by simp) d5, h__.cell (by simp) d4, h__.cell (by simp) hcm⟩)); first | exact (Only.refl _ _).drew | exact ((Only.refl _ _).drewN _).drew | exact Only.trans (And.left (by assumption)) (by assumption) | exact Only.alloc (And.left (by assumption)) _ | assumption)) (first | (go_at_call 74; (with_reducible refine (picked_rd um v (mv x.moves (ltrs x.moves.length)[k]) p _ _ _ (Rp.keep hum (And.left (by assumption))) (Rp.keep h (And.left (by assumption))) Hrg.out hpl2).mono ?_); rintro e w5 ⟨u5, f5, rfl, r5, F5, t5⟩; have hO5 := Only.trans (And.left (by assumption)) t5; have hM5 := hM.keep hO5) | (go_at_call 90; (with_reducible refine (stateKey_rd u5 (PM.comp p (mv x.moves (ltrs x.moves.length)[k])) _ _ r5 Hcl.out).mono ?_); rintro e w6 ⟨rfl, t6⟩; have hO6 := hO5.trans t6; have hrun6 := (hM.keep hO6).run_yes Hks.out Hf.out; have d26 := hO6.cell (by simp) d2; have hdd6 := hO6.cell (by simp) hdd) | fail "no arm")
    go_wp2
    refine bodyPost_ret (v := .tuple #[.int .i64 t.distances[n.toNat], .bool true]) (by simp [results, Try.results91, go_sem]) rfl ⟨by rw [Hres.out, toI_yes hn0', Hat.out], (by with_reducible repeat (first | exact Only.refl _ _ | assumption | refine Only.drewN ?_ _ | refine Only.drew ?_ | refine Only.alloc ?_ _ | refine Only.setCell ?_ (by intro hh; exfalso; simp at hh; try omega) _ | refine Only.trans ?_ (by assumption)))⟩
end Go.Proofs.Ytmilmbgnkpkmnaa
