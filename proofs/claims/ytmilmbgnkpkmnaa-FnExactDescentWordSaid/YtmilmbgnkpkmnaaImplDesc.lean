/- The program's DescentLetter. (Written by mkdesc.py.) -/
import Derived.Test.YtmilmbgnkpkmnaaPrf2
import Derived.Test.YtmilmbgnkpkmnaaDescMath
namespace Go.Proofs.Ytmilmbgnkpkmnaa
open Go.RowKit
set_option maxRecDepth 10000

/-- what 'descent' answers -/
def desI (x : Puzzle) (t : Table) (p : List Int) : Int := if 0 ≤ idxL t.patterns p then dK x t p (atD t (idxL t.patterns p) - 1) else -1
theorem desI_no {x : Puzzle} {t : Table} {p : List Int} (h : idxL t.patterns p < 0) : desI x t p = -1 := by unfold desI; rw [if_neg (by omega)]
theorem desI_yes {x : Puzzle} {t : Table} {p : List Int} (h : 0 ≤ idxL t.patterns p) : desI x t p = dK x t p (atD t (idxL t.patterns p) - 1) := by unfold desI; rw [if_pos h]
theorem leads_noD {x : Puzzle} {t : Table} {p : List Int} {d l : Int} (h : nextI x t p l < 0) : leads x t p d l = false := by
  unfold leads; rw [decide_eq_false (by omega)]; rfl
theorem leads_yesD {x : Puzzle} {t : Table} {p : List Int} {d l : Int} (h : 0 ≤ nextI x t p l) : leads x t p d l = decide (atD t (nextI x t p l) = d) := by
  unfold leads; rw [decide_eq_true h]; rfl
theorem newProof_all (cs ds : List Value) (x : Puzzle) (t : Table) (f1 f2 : List Nat) (w : World) (h : Rp.rep w cs x f1) (h2 : Rp.rep w ds t f2) :
    Calls Try.prog 69 #[.agg cs.toArray, .agg ds.toArray] w fun e w' => ∃ q, e = .returned (.tuple #[.pointer q, .bool (checkT x t)]) ∧ (checkT x t = true → ∃ g, q = some ⟨g, 0, none⟩ ∧ Prf w' g x t) ∧ Only [] w w' := by
  by_cases hc : validPz x = true ∧ wfT t = true ∧ trackB x.points t.tracked = true
  · exact newProof_any cs ds x t f1 f2 w h h2 hc.1 hc.2.1 hc.2.2
  · have hck : checkT x t = false := by
      rw [← Bool.not_eq_true, checkT_iff]; rintro ⟨a, b, c, -⟩; exact hc ⟨a, b, c⟩
    refine (newProof_bad cs ds x t f1 f2 w h h2 hc).mono ?_
    rintro e w' ⟨rfl, hk⟩
    exact ⟨none, by rw [hck], fun hh => (by rw [hck] at hh; cases hh), hk⟩
set_option maxHeartbeats 4000000 in
theorem descent_any (g : Nat) (x : Puzzle) (t : Table) (v : Value) (p : List Int) (fp : List Nat) (w : World) (hP : Prf w g x t) (h : Rd w v p fp) (hc : checkT x t = true) (hp : patB x.points t.tracked.length p = true) :
    Calls Try.prog 62 #[.pointer (some ⟨g, 0, none⟩), v] w fun e w' => e = .returned (.tuple #[.int .i64 (desI x t p), .bool (toB (idxL t.patterns p))]) ∧ Only [] w w' := by
  obtain ⟨hv, hw, ht, hps⟩ := checkT_iff.1 hc
  obtain ⟨g1, g2, g3, g4⟩ := validPz_facts hv
  have hP0 := hP
  have h0 := h
  obtain ⟨hpl, hpr, -⟩ := patB_iff.1 hp
  have htl := inc_len_le2 ht
  have hfirst := firstG_idx (fun q hq => patB_byt (hps q hq) (by omega)) (patB_byt hp (by omega))
  obtain ⟨v0, v1, v2, vl, vm, M, f0, f1, f2, fl, fm, km, hB, r0, r1, r2, rl, rm, hM⟩ := hP
  obtain ⟨Ap, Cp, rfl, Ip⟩ := h.ints
  obtain ⟨A0, C0, rfl, I0⟩ := r0.ints
  obtain ⟨A2, C2, rfl, I2⟩ := r2.ints
  obtain ⟨A3, C3, rfl, I3⟩ := rl.ints
  have d5 := hB.cell 5 rfl
  have d0 := hB.cell 0 rfl
  have d2 := hB.cell 2 rfl
  have d3 := hB.cell 3 rfl
  have bp := Ip.bound
  have b3 := I3.bound
  have hpl2 : p.length ≤ 1000 := by omega
  have hks : (kB p).size ≤ maxLen := by rw [kB_size]; unfold maxLen; omega
  have Hks := Lib.hid hks
  clear hks htl
  obtain ⟨n, hn⟩ : ∃ n, n = idxL t.patterns p := ⟨_, rfl⟩
  have hnlt : n < t.patterns.length := by rw [hn]; exact idxL_lt.2
  by_cases hneg : n < 0
  · rw [if_neg (by omega)] at hfirst
    have Hf := Lib.hid hfirst
    have hr1 := desI_no (x := x) (t := t) (p := p) (by rw [← hn]; exact hneg)
    have hr2 : toB (idxL t.patterns p) = false := toB_no (by rw [← hn]; exact hneg)
    have Hr1 := Lib.hid hr1
    have Hr2 := Lib.hid hr2
    clear hfirst hr1 hr2 hn hneg hpl
    go_enter Try.func62, Try.ntmps62
    go_wp2
    go_region_held3 (fun w' => Only [] w w' ∧ w'.cell? ⟨g, 5, none⟩ = some (.map (some M))) (((refine and_of ?_ (fun h__ => h__.cell (by simp) d5)); first | exact (Only.refl _ _).drew | exact ((Only.refl _ _).drewN _).drew | exact Only.trans (And.left (by assumption)) (by assumption) | exact Only.alloc (And.left (by assumption)) _ | assumption)) (first | (go_at_call 90; (with_reducible refine (stateKey_rd _ p _ _ (Rp.keep h0 (And.left (by assumption))) hpl2).mono ?_); rintro e w6 ⟨rfl, t6⟩; have hO6 := Only.trans (And.left (by assumption)) t6; have hrun6 := (hM.keep hO6).run_no Hks.out Hf.out) | fail "no arm")
    go_wp2
    refine bodyPost_ret (v := .tuple #[.int .i64 (-1), .bool false]) (by simp [results, Try.results62, go_sem]) rfl ⟨by rw [Hr1.out, Hr2.out], (by with_reducible repeat (first | exact Only.refl _ _ | assumption | refine Only.drewN ?_ _ | refine Only.drew ?_ | refine Only.alloc ?_ _ | refine Only.setCell ?_ (by intro hh; exfalso; simp at hh; try omega) _ | refine Only.trans ?_ (by assumption)))⟩
  · rw [if_pos (by omega)] at hfirst
    rw [← hn] at hfirst
    have Hf := Lib.hid hfirst
    have hr1 := desI_yes (x := x) (t := t) (p := p) (by rw [← hn]; omega)
    have hr2 : toB (idxL t.patterns p) = true := toB_yes (by rw [← hn]; omega)
    have hwf := wfT_iff.1 hw
    have hnl : n.toNat < t.distances.length := by have := hwf.2.2.1; omega
    have hnl' : n < (t.distances.length : Int) := by omega
    have hn0 : 0 ≤ n := by omega
    obtain ⟨bd, od, rfl, -, hcD0⟩ := I2.at_ n.toNat hnl
    have hdr := hwf.2.2.2.2 _ (List.getElem_mem hnl)
    rw [inR_iff] at hdr
    have hat := atD_of (t := t) (j := n) (i := n.toNat) (by omega) hnl
    obtain ⟨d, hd⟩ : ∃ d, d = t.distances[n.toNat] := ⟨_, rfl⟩
    rw [← hd] at hcD0 hdr hat
    rw [← hn, hat] at hr1
    have Hr1 := Lib.hid hr1
    have Hr2 := Lib.hid hr2
    have Hpl := Lib.hid hpl
    have hne : ((p.length : Int) != (t.tracked.length : Int)) = false := by simp [hpl]
    have HW := Lib.hid hwf
    clear hfirst hr1 hr2 hn hneg hwf hd hat hpl
    go_enter Try.func62, Try.ntmps62
    go_wp2
    go_region_held3 (fun w' => Only [] w w' ∧ w'.cell? ⟨g, 5, none⟩ = some (.map (some M))) (((refine and_of ?_ (fun h__ => h__.cell (by simp) d5)); first | exact (Only.refl _ _).drew | exact ((Only.refl _ _).drewN _).drew | exact Only.trans (And.left (by assumption)) (by assumption) | exact Only.alloc (And.left (by assumption)) _ | assumption)) (first | (go_at_call 90; (with_reducible refine (stateKey_rd _ p _ _ (Rp.keep h0 (And.left (by assumption))) hpl2).mono ?_); rintro e w6 ⟨rfl, t6⟩; have hO6 := Only.trans (And.left (by assumption)) t6; have hrun6 := (hM.keep hO6).run_yes Hks.out Hf.out; have e0 := hO6.cell (by simp) d0; have e3 := hO6.cell (by simp) d3) | fail "no arm")
    go_wp2
    clear e0 e3 hrun6
    go_loopw [39] (fun i wr => ∃ j : Nat, j ≤ (ltrs x.moves.length).length ∧ i = .int .i64 j ∧ (∀ a ∈ (ltrs x.moves.length).take j, leads x t p (d - 1) a = false) ∧ Only [] w wr)
      (fun i _ => (ltrs x.moves.length).length - (intOf i).toNat)
    case atStart => exact ⟨0, Nat.zero_le _, rfl, by simp, hO6⟩
    case round =>
      obtain ⟨j, hj, rfl, hr, hK⟩ := hrel
      have Hr := Lib.hid hr; clear hr
      by_cases hlt : j < (ltrs x.moves.length).length
      · have hla := List.getElem_mem hlt
        obtain ⟨hm0, hm1⟩ := (show -1 ≤ nextI x t p (ltrs x.moves.length)[j] ∧ nextI x t p (ltrs x.moves.length)[j] < t.patterns.length from idxL_lt)
        have hset := mem_take_step hlt (P := fun a => leads x t p (d - 1) a = false) Hr.out
        have Hset := Lib.hid hset
        have hend : leads x t p (d - 1) (ltrs x.moves.length)[j] = true → dK x t p (d - 1) = j := fun hh => idxF_some hlt Hr.out hh
        have Hend := Lib.hid hend
        obtain ⟨m, hm⟩ : ∃ m, m = nextI x t p (ltrs x.moves.length)[j] := ⟨_, rfl⟩
        rw [← hm] at hm0 hm1
        have HM := Lib.hid hm
        clear hset hend hm
        by_cases hmn : m < 0
        · have hti := toI_no (t := t) hmn
          have htb := toB_no hmn
          have hle := leads_noD (x := x) (t := t) (p := p) (d := d - 1) (l := (ltrs x.moves.length)[j]) (by rw [← HM.out]; exact hmn)
          have Hle := Lib.hid hle
          clear hle
          go_wp2_with ((go_at_call 91; (with_reducible refine (to_any g x t _ p _ j _ (hP0.keep hK) (Rp.keep h0 hK) hc hp hlt).mono ?_); rintro e w7 ⟨he, t7⟩; rw [← HM.out, hti, htb] at he; subst he))
          go_roundw
          case rel => exact ⟨j + 1, by omega, by go_num, Hset.out Hle.out, (by with_reducible repeat (first | exact Only.refl _ _ | assumption | refine Only.drewN ?_ _ | refine Only.drew ?_ | refine Only.alloc ?_ _ | refine Only.setCell ?_ (by intro hh; exfalso; simp at hh; try omega) _ | refine Only.trans ?_ (by assumption)))⟩
          case measure => simp [intOf]; omega
        · have hti := toI_yes (t := t) (n := m) (by omega)
          have htb := toB_yes (n := m) (by omega)
          have hml : m.toNat < t.distances.length := by have := HW.out.2.2.1; omega
          rw [atD_of (t := t) (j := m) (i := m.toNat) (by omega) hml] at hti
          have hle := leads_yesD (x := x) (t := t) (p := p) (d := d - 1) (l := (ltrs x.moves.length)[j]) (by rw [← HM.out]; omega)
          rw [← HM.out, atD_of (t := t) (j := m) (i := m.toNat) (by omega) hml] at hle
          have hw1 : IntKind.i64.wrap (d - 1) = d - 1 := by rw [IntKind.wrap_i64]; omega
          obtain ⟨y, hy⟩ : ∃ y, y = t.distances[m.toNat] := ⟨_, rfl⟩
          rw [← hy] at hti hle
          by_cases heq : y = d - 1
          · have hyy : (y == d - 1) = true := by simp [heq]
            have Hle := Lib.hid (show leads x t p (d - 1) (ltrs x.moves.length)[j] = true by rw [hle, heq]; simp)
            clear hle heq hy
            go_wp2_with ((go_at_call 91; (with_reducible refine (to_any g x t _ p _ j _ (hP0.keep hK) (Rp.keep h0 hK) hc hp hlt).mono ?_); rintro e w7 ⟨he, t7⟩; rw [← HM.out, hti, htb] at he; subst he; have e2 := (hK.trans t7).cell (by simp) d2; have eD := (hK.trans t7).cell (by simp) hcD0))
            refine bodyPost_ret (v := .tuple #[.int .i64 j, .bool true]) (by simp [results, Try.results62, go_sem]) rfl ⟨by rw [Hr1.out, Hr2.out, Hend.out Hle.out], (by with_reducible repeat (first | exact Only.refl _ _ | assumption | refine Only.drewN ?_ _ | refine Only.drew ?_ | refine Only.alloc ?_ _ | refine Only.setCell ?_ (by intro hh; exfalso; simp at hh; try omega) _ | refine Only.trans ?_ (by assumption)))⟩
          · have hyy : (y == d - 1) = false := by simp [heq]
            have Hle := Lib.hid (show leads x t p (d - 1) (ltrs x.moves.length)[j] = false by rw [hle]; simp [heq])
            clear hle heq hy
            go_wp2_with ((go_at_call 91; (with_reducible refine (to_any g x t _ p _ j _ (hP0.keep hK) (Rp.keep h0 hK) hc hp hlt).mono ?_); rintro e w7 ⟨he, t7⟩; rw [← HM.out, hti, htb] at he; subst he; have e2 := (hK.trans t7).cell (by simp) d2; have eD := (hK.trans t7).cell (by simp) hcD0))
            go_roundw
            case rel => exact ⟨j + 1, by omega, by go_num, Hset.out Hle.out, (by with_reducible repeat (first | exact Only.refl _ _ | assumption | refine Only.drewN ?_ _ | refine Only.drew ?_ | refine Only.alloc ?_ _ | refine Only.setCell ?_ (by intro hh; exfalso; simp at hh; try omega) _ | refine Only.trans ?_ (by assumption)))⟩
            case measure => simp [intOf]; omega
      · have hfin : dK x t p (d - 1) = -1 := idxF_none (by have := Hr.out; rwa [List.take_of_length_le (by omega)] at this)
        have Hfin := Lib.hid hfin
        clear hfin
        go_wp2
        refine bodyPost_ret (v := .tuple #[.int .i64 (-1), .bool true]) (by simp [results, Try.results62, go_sem]) rfl ⟨by rw [Hr1.out, Hr2.out, Hfin.out], (by with_reducible repeat (first | exact Only.refl _ _ | assumption | refine Only.drewN ?_ _ | refine Only.drew ?_ | refine Only.alloc ?_ _ | refine Only.setCell ?_ (by intro hh; exfalso; simp at hh; try omega) _ | refine Only.trans ?_ (by assumption)))⟩
set_option maxHeartbeats 4000000 in
theorem proofOf_any (cs ds : List Value) (x : Puzzle) (t : Table) (u : Value) (p : List Int) (f1 f2 f3 : List Nat) (w : World) (h : Rp.rep w cs x f1) (h2 : Rp.rep w ds t f2) (h3 : Rd w u p f3) :
    Calls Try.prog 61 #[.agg cs.toArray, .agg ds.toArray, u] w fun e w' => ∃ q, e = .returned (.tuple #[.pointer q, .bool (checkT x t && patB x.points t.tracked.length p)]) ∧ (checkT x t = true → ∃ g, q = some ⟨g, 0, none⟩ ∧ Prf w' g x t) ∧ Only [] w w' := by
  have h0 := h
  have h20 := h2
  obtain ⟨v2, rfl, p0, p1, hm⟩ := h
  obtain ⟨u0, u1, u2, q0, q1, q2, rfl, rfl, r0, r1, r2⟩ := h2
  obtain ⟨A0, C0, rfl, I0⟩ := r0.ints
  have b0 := I0.bound
  have hB2 := Blk.new_at (w := w.alloc (.cells [.int .i64 x.points, .string x.names, v2].toArray 26)) (g := w.heap.size + 1) (cs := [.slice A0 t.tracked.length C0, u1, u2]) (t := 42) (by simp)
  have hB1 := Blk.keep (Blk.new_at (w := w) (cs := [.int .i64 x.points, .string x.names, v2]) (t := 26) rfl) ((Only.refl [] _).alloc (.cells #[.slice A0 t.tracked.length C0, u1, u2] 42))
  rcases hc : checkT x t
  · go_enter Try.func61, Try.ntmps61
    go_wp2_with ((go_at_call 69; (with_reducible refine (newProof_all [.int .i64 x.points, .string x.names, v2] [.slice A0 t.tracked.length C0, u1, u2] x t _ _ _ (Rp.keep h0 (by with_reducible repeat (first | exact Only.refl _ _ | assumption | refine Only.drewN ?_ _ | refine Only.drew ?_ | refine Only.alloc ?_ _ | refine Only.setCell ?_ (by intro hh; exfalso; simp at hh; try omega) _ | refine Only.trans ?_ (by assumption)))) (Rp.keep h20 (by with_reducible repeat (first | exact Only.refl _ _ | assumption | refine Only.drewN ?_ _ | refine Only.drew ?_ | refine Only.alloc ?_ _ | refine Only.setCell ?_ (by intro hh; exfalso; simp at hh; try omega) _ | refine Only.trans ?_ (by assumption))))).mono ?_); rintro e w1 ⟨q, he, hq, t1⟩; rw [hc] at he; subst he))
    refine bodyPost_ret (v := .tuple #[.pointer q, .bool false]) (by simp [results, Try.results61, go_sem]) rfl ⟨q, rfl, fun hh => (by cases hh), (by with_reducible repeat (first | exact Only.refl _ _ | assumption | refine Only.drewN ?_ _ | refine Only.drew ?_ | refine Only.alloc ?_ _ | refine Only.setCell ?_ (by intro hh; exfalso; simp at hh; try omega) _ | refine Only.trans ?_ (by assumption)))⟩
  obtain ⟨g1, g2, g3, g4⟩ := validPz_facts (checkT_iff.1 hc).1
  go_enter Try.func61, Try.ntmps61
  go_wp2_with (first | (go_at_call 69; (with_reducible refine (newProof_all [.int .i64 x.points, .string x.names, v2] [.slice A0 t.tracked.length C0, u1, u2] x t _ _ _ (Rp.keep h0 (by with_reducible repeat (first | exact Only.refl _ _ | assumption | refine Only.drewN ?_ _ | refine Only.drew ?_ | refine Only.alloc ?_ _ | refine Only.setCell ?_ (by intro hh; exfalso; simp at hh; try omega) _ | refine Only.trans ?_ (by assumption)))) (Rp.keep h20 (by with_reducible repeat (first | exact Only.refl _ _ | assumption | refine Only.drewN ?_ _ | refine Only.drew ?_ | refine Only.alloc ?_ _ | refine Only.setCell ?_ (by intro hh; exfalso; simp at hh; try omega) _ | refine Only.trans ?_ (by assumption))))).mono ?_); rintro e w1 ⟨q, he, hq, t1⟩; rw [hc] at he; subst he; have y0 := (hB1.keep t1).cell 0 rfl; have z0 := (hB2.keep t1).cell 0 rfl) | (go_at_call 89; (with_reducible refine (isPattern_rd x.points t.tracked.length u p _ _ (Rp.keep h3 (by with_reducible repeat (first | exact Only.refl _ _ | assumption | refine Only.drewN ?_ _ | refine Only.drew ?_ | refine Only.alloc ?_ _ | refine Only.setCell ?_ (by intro hh; exfalso; simp at hh; try omega) _ | refine Only.trans ?_ (by assumption)))) (by omega) (by omega) b0).mono ?_); rintro e w2 ⟨rfl, m2, rfl⟩))
  refine bodyPost_ret (v := .tuple #[.pointer q, .bool (patB x.points t.tracked.length p)]) (by simp [results, Try.results61, go_sem]) rfl ⟨q, rfl, fun _ => ?_, (by with_reducible repeat (first | exact Only.refl _ _ | assumption | refine Only.drewN ?_ _ | refine Only.drew ?_ | refine Only.alloc ?_ _ | refine Only.setCell ?_ (by intro hh; exfalso; simp at hh; try omega) _ | refine Only.trans ?_ (by assumption)))⟩
  obtain ⟨g, hg, hP⟩ := hq hc
  exact ⟨g, hg, hP.keep (by with_reducible repeat (first | exact Only.refl _ _ | assumption | refine Only.drewN ?_ _ | refine Only.drew ?_ | refine Only.alloc ?_ _ | refine Only.setCell ?_ (by intro hh; exfalso; simp at hh; try omega) _ | refine Only.trans ?_ (by assumption)))⟩
set_option maxHeartbeats 4000000 in
theorem implDescentLetter_any (cs ds : List Value) (x : Puzzle) (t : Table) (u : Value) (p : List Int) (f1 f2 f3 : List Nat) (w : World) (h : Rp.rep w cs x f1) (h2 : Rp.rep w ds t f2) (h3 : Rd w u p f3) :
    Calls Try.prog 23 #[.agg cs.toArray, .agg ds.toArray, u] w fun e w' => e = .returned (.int .i64 (dLet x t p)) ∧ Only [] w w' := by
  have h0 := h
  have h20 := h2
  obtain ⟨v2, rfl, p0, p1, hm⟩ := h
  obtain ⟨u0, u1, u2, q0, q1, q2, rfl, rfl, r0, r1, r2⟩ := h2
  rcases hcp : checkT x t && patB x.points t.tracked.length p
  · have hd : dLet x t p = 0 := by
      rw [Bool.and_eq_false_iff] at hcp
      apply dLet_no
      rintro ⟨hc, hi⟩
      rcases hcp with h9 | h9
      · rw [hc] at h9; cases h9
      · have := idxL_no hc h9; omega
    have Hd := Lib.hid hd
    clear hd
    go_enter Try.func23, Try.ntmps23
    go_wp2_with ((go_at_call 61; (with_reducible refine (proofOf_any [.int .i64 x.points, .string x.names, v2] [u0, u1, u2] x t u p _ _ _ _ (Rp.keep h0 (by with_reducible repeat (first | exact Only.refl _ _ | assumption | refine Only.drewN ?_ _ | refine Only.drew ?_ | refine Only.alloc ?_ _ | refine Only.setCell ?_ (by intro hh; exfalso; simp at hh; try omega) _ | refine Only.trans ?_ (by assumption)))) (Rp.keep h20 (by with_reducible repeat (first | exact Only.refl _ _ | assumption | refine Only.drewN ?_ _ | refine Only.drew ?_ | refine Only.alloc ?_ _ | refine Only.setCell ?_ (by intro hh; exfalso; simp at hh; try omega) _ | refine Only.trans ?_ (by assumption)))) (Rp.keep h3 (by with_reducible repeat (first | exact Only.refl _ _ | assumption | refine Only.drewN ?_ _ | refine Only.drew ?_ | refine Only.alloc ?_ _ | refine Only.setCell ?_ (by intro hh; exfalso; simp at hh; try omega) _ | refine Only.trans ?_ (by assumption))))).mono ?_); rintro e w1 ⟨q, he, hq, t1⟩; rw [hcp] at he; subst he))
    go_ret
    exact ⟨ret_int Hd.out.symm, (by with_reducible repeat (first | exact Only.refl _ _ | assumption | refine Only.drewN ?_ _ | refine Only.drew ?_ | refine Only.alloc ?_ _ | refine Only.setCell ?_ (by intro hh; exfalso; simp at hh; try omega) _ | refine Only.trans ?_ (by assumption)))⟩
  obtain ⟨hc, hp⟩ := Bool.and_eq_true_iff.1 hcp
  rcases Int.lt_or_le (idxL t.patterns p) 0 with hneg | hneg
  · have hd : dLet x t p = 0 := dLet_no (by omega)
    have hdes := desI_no (x := x) hneg
    have Hd := Lib.hid hd
    have Hdes := Lib.hid hdes
    clear hd hdes hneg
    go_enter Try.func23, Try.ntmps23
    go_wp2_with (first | (go_at_call 61; (with_reducible refine (proofOf_any [.int .i64 x.points, .string x.names, v2] [u0, u1, u2] x t u p _ _ _ _ (Rp.keep h0 (by with_reducible repeat (first | exact Only.refl _ _ | assumption | refine Only.drewN ?_ _ | refine Only.drew ?_ | refine Only.alloc ?_ _ | refine Only.setCell ?_ (by intro hh; exfalso; simp at hh; try omega) _ | refine Only.trans ?_ (by assumption)))) (Rp.keep h20 (by with_reducible repeat (first | exact Only.refl _ _ | assumption | refine Only.drewN ?_ _ | refine Only.drew ?_ | refine Only.alloc ?_ _ | refine Only.setCell ?_ (by intro hh; exfalso; simp at hh; try omega) _ | refine Only.trans ?_ (by assumption)))) (Rp.keep h3 (by with_reducible repeat (first | exact Only.refl _ _ | assumption | refine Only.drewN ?_ _ | refine Only.drew ?_ | refine Only.alloc ?_ _ | refine Only.setCell ?_ (by intro hh; exfalso; simp at hh; try omega) _ | refine Only.trans ?_ (by assumption))))).mono ?_); rintro e w1 ⟨q, he, hq, t1⟩; rw [hcp] at he; subst he; obtain ⟨g, rfl, hP⟩ := hq hc; have hK1 : Only [] w w1 := (by with_reducible repeat (first | exact Only.refl _ _ | assumption | refine Only.drewN ?_ _ | refine Only.drew ?_ | refine Only.alloc ?_ _ | refine Only.setCell ?_ (by intro hh; exfalso; simp at hh; try omega) _ | refine Only.trans ?_ (by assumption)))) | (go_at_call 62; (with_reducible refine (descent_any g x t u p _ _ hP (Rp.keep h3 hK1) hc hp).mono ?_); rintro e w2 ⟨he, t2⟩; rw [Hdes.out] at he; subst he))
    go_ret
    exact ⟨ret_int Hd.out.symm, (by with_reducible repeat (first | exact Only.refl _ _ | assumption | refine Only.drewN ?_ _ | refine Only.drew ?_ | refine Only.alloc ?_ _ | refine Only.setCell ?_ (by intro hh; exfalso; simp at hh; try omega) _ | refine Only.trans ?_ (by assumption)))⟩
  have hd := dLet_yes hc hneg
  have hdes := desI_yes (x := x) hneg
  rcases descL_of_dK (x := x) (t := t) (p := p) (d := atD t (idxL t.patterns p) - 1) with ⟨e1, e2⟩ | ⟨k, hk, e1, e2⟩
  · rw [e1] at hdes
    rw [e2] at hd
    have Hd := Lib.hid hd
    have Hdes := Lib.hid hdes
    clear hd hdes hneg e1 e2
    go_enter Try.func23, Try.ntmps23
    go_wp2_with (first | (go_at_call 61; (with_reducible refine (proofOf_any [.int .i64 x.points, .string x.names, v2] [u0, u1, u2] x t u p _ _ _ _ (Rp.keep h0 (by with_reducible repeat (first | exact Only.refl _ _ | assumption | refine Only.drewN ?_ _ | refine Only.drew ?_ | refine Only.alloc ?_ _ | refine Only.setCell ?_ (by intro hh; exfalso; simp at hh; try omega) _ | refine Only.trans ?_ (by assumption)))) (Rp.keep h20 (by with_reducible repeat (first | exact Only.refl _ _ | assumption | refine Only.drewN ?_ _ | refine Only.drew ?_ | refine Only.alloc ?_ _ | refine Only.setCell ?_ (by intro hh; exfalso; simp at hh; try omega) _ | refine Only.trans ?_ (by assumption)))) (Rp.keep h3 (by with_reducible repeat (first | exact Only.refl _ _ | assumption | refine Only.drewN ?_ _ | refine Only.drew ?_ | refine Only.alloc ?_ _ | refine Only.setCell ?_ (by intro hh; exfalso; simp at hh; try omega) _ | refine Only.trans ?_ (by assumption))))).mono ?_); rintro e w1 ⟨q, he, hq, t1⟩; rw [hcp] at he; subst he; obtain ⟨g, rfl, hP⟩ := hq hc; have hK1 : Only [] w w1 := (by with_reducible repeat (first | exact Only.refl _ _ | assumption | refine Only.drewN ?_ _ | refine Only.drew ?_ | refine Only.alloc ?_ _ | refine Only.setCell ?_ (by intro hh; exfalso; simp at hh; try omega) _ | refine Only.trans ?_ (by assumption)))) | (go_at_call 62; (with_reducible refine (descent_any g x t u p _ _ hP (Rp.keep h3 hK1) hc hp).mono ?_); rintro e w2 ⟨he, t2⟩; rw [Hdes.out] at he; subst he))
    go_ret
    exact ⟨ret_int Hd.out.symm, (by with_reducible repeat (first | exact Only.refl _ _ | assumption | refine Only.drewN ?_ _ | refine Only.drew ?_ | refine Only.alloc ?_ _ | refine Only.setCell ?_ (by intro hh; exfalso; simp at hh; try omega) _ | refine Only.trans ?_ (by assumption)))⟩
  · rw [e1] at hdes
    rw [e2] at hd
    have Hd := Lib.hid hd
    have Hdes := Lib.hid hdes
    have hk1 : ¬ (k : Int) < 0 := by omega
    clear hd hdes hneg e1 e2
    go_enter Try.func23, Try.ntmps23
    go_wp2_with (first | (go_at_call 61; (with_reducible refine (proofOf_any [.int .i64 x.points, .string x.names, v2] [u0, u1, u2] x t u p _ _ _ _ (Rp.keep h0 (by with_reducible repeat (first | exact Only.refl _ _ | assumption | refine Only.drewN ?_ _ | refine Only.drew ?_ | refine Only.alloc ?_ _ | refine Only.setCell ?_ (by intro hh; exfalso; simp at hh; try omega) _ | refine Only.trans ?_ (by assumption)))) (Rp.keep h20 (by with_reducible repeat (first | exact Only.refl _ _ | assumption | refine Only.drewN ?_ _ | refine Only.drew ?_ | refine Only.alloc ?_ _ | refine Only.setCell ?_ (by intro hh; exfalso; simp at hh; try omega) _ | refine Only.trans ?_ (by assumption)))) (Rp.keep h3 (by with_reducible repeat (first | exact Only.refl _ _ | assumption | refine Only.drewN ?_ _ | refine Only.drew ?_ | refine Only.alloc ?_ _ | refine Only.setCell ?_ (by intro hh; exfalso; simp at hh; try omega) _ | refine Only.trans ?_ (by assumption))))).mono ?_); rintro e w1 ⟨q, he, hq, t1⟩; rw [hcp] at he; subst he; obtain ⟨g, rfl, hP⟩ := hq hc; have hK1 : Only [] w w1 := (by with_reducible repeat (first | exact Only.refl _ _ | assumption | refine Only.drewN ?_ _ | refine Only.drew ?_ | refine Only.alloc ?_ _ | refine Only.setCell ?_ (by intro hh; exfalso; simp at hh; try omega) _ | refine Only.trans ?_ (by assumption)))) | (go_at_call 62; (with_reducible refine (descent_any g x t u p _ _ hP (Rp.keep h3 hK1) hc hp).mono ?_); rintro e w2 ⟨he, t2⟩; rw [Hdes.out] at he; subst he; obtain ⟨v0', v1', v2', vl', vm', M', g0', g1', g2', gl', gm', km', hB', -, -, -, rl', -, -⟩ := hP.keep t2; obtain ⟨A3, C3, rfl, I3⟩ := rl'.ints; obtain ⟨bl, ol, rfl, -, hcl⟩ := I3.at_ k hk; have d3 := hB'.cell 3 rfl; have hk2 : (k : Int) < ((ltrs x.moves.length).length : Int) := (by omega)))
    go_ret
    exact ⟨ret_int Hd.out.symm, (by with_reducible repeat (first | exact Only.refl _ _ | assumption | refine Only.drewN ?_ _ | refine Only.drew ?_ | refine Only.alloc ?_ _ | refine Only.setCell ?_ (by intro hh; exfalso; simp at hh; try omega) _ | refine Only.trans ?_ (by assumption)))⟩
end Go.Proofs.Ytmilmbgnkpkmnaa
