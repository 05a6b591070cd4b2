/- What the laws on ranks and random members draw (laws 34, 35). Subgroups and their indexes, of both (laws 37, 39, 48). The reference's insertPermutation and CosetRepresentatives (laws 39, 48). The reference's CosetRepresentatives (laws 39, 48). -/
import Derived.Test.YtbediokigibdlaaRowLagrangeG11
import Derived.Test.YtbediokigibdlaaRowLagrangeG12
import Derived.Test.YtbediokigibdlaaRowLagrangeG9
import Derived.Test.YtbediokigibdlaaRowLagrangeG10
import Derived.Deep.RegionHeld3
namespace Go.Proofs.Ytbediokigibdlaa
open Go.RowKit
set_option maxRecDepth 10000

/-- drawn: a degree, generators, a number -/
def DM (w : World) (s0 s1 s2 : Value) (wx : World) : Prop :=
  ∃ (n : Int) (gs : List (List Int)) (fp : List Nat) (k : Int), s0 = .int .i64 n ∧ s2 = .int .i64 k ∧ I64 n ∧ I64 k ∧ Rd wx s1 gs fp ∧ Fresh w.heap.size wx fp ∧ gs.length ≤ 9 ∧ (∀ y : List Int, y ∈ gs → y.length ≤ 30) ∧ Only [] w wx
theorem DM.of {w w1 w2 w4 : World} {g : Nat} {fc : List Nat} {l : List UInt8} {n k : Int} {v : Value} {gs : List (List Int)} {fp : List Nat} (t1 : Only [] w w1) (hg : w.heap.size ≤ g) (D1 : Src w1 g fc l) (hn : I64 n) (hk : I64 k) (r2 : Rd w2 v gs fp) (F2 : Fresh w1.heap.size w2 fp) (l9 : gs.length ≤ 9) (l30 : ∀ y : List Int, y ∈ gs → y.length ≤ 30) (K2 : Only [g] w1 w2) (K4 : Only [g] w2 w4) : DM w (.int .i64 n) v (.int .i64 k) w4 := by
  have hgl := D1.lt
  have hd : ∀ q ∈ fp, q ∉ [g] := fun q hq hm => by have := F2.ge q hq; simp at hm; omega
  exact ⟨n, gs, fp, k, rfl, rfl, hn, hk, Rp.only r2 K4 hd, (F2.only K4 hd).mono t1.size, l9, l30, ((t1.weaken [g]).trans (K2.trans K4)).mono fun b hb hl => by simp at hb; omega⟩

set_option maxHeartbeats 1000000 in
theorem specGroupOrder_no (n : Int) (vg : Value) (gens : List (List Int)) (fpg : List Nat) (w : World) (hg : Rd w vg gens fpg) (hgs : gensB n gens = false) :
    Calls Try.prog 13 #[.int .i64 n, vg] w fun e w' => e = .returned (.int .i64 0) ∧ Only [] w w' := by
  have Hgs := Lib.hid hgs
  clear hgs
  go_enter Try.func13, Try.ntmps13
  go_wp2_with (first
    | (go_at_call 10; (with_reducible refine (specIsGens_rd n vg gens fpg w hg).mono ?_); rintro en w1 ⟨he, t1⟩; rw [Hgs.out] at he; subst he; have t1 := t1.only [])
    | fail "no arm")
  go_ret
  exact ⟨rfl, t1⟩
/-- the order of a group, 0 of no group -/
noncomputable def ordG (n : Int) (gens : List (List Int)) : Nat := if gensB n gens = true then ordC n.toNat gens n.toNat else 0
theorem specGroupOrder_any (n : Int) (vg : Value) (gens : List (List Int)) (fpg : List Nat) (w : World) (hg : Rd w vg gens fpg) :
    Calls Try.prog 13 #[.int .i64 n, vg] w fun e w' => e = .returned (.int .i64 (ordG n gens : Nat)) ∧ ordG n gens ≤ 2432902008176640000 ∧ (gensB n gens = true → 1 ≤ ordG n gens) ∧ Only [] w w' := by
  by_cases h : gensB n gens = true
  · have e1 : ordG n gens = ordC n.toNat gens n.toNat := by unfold ordG; rw [if_pos h]
    rw [e1]
    refine (specGroupOrder_i n vg gens fpg w hg h).mono ?_
    rintro e w' ⟨h1, h2, h3, h4⟩
    exact ⟨h1, h3, fun _ => h2, h4⟩
  · have e1 : ordG n gens = 0 := by unfold ordG; rw [if_neg h]
    rw [e1]
    refine (specGroupOrder_no n vg gens fpg w hg (by simpa using h)).mono ?_
    rintro e w' ⟨h1, h4⟩
    exact ⟨h1, by omega, fun hh => absurd hh h, h4⟩

end Go.Proofs.Ytbediokigibdlaa

namespace Go.Proofs.Ytbediokigibdlaa
open Go.RowKit
set_option maxRecDepth 10000

set_option maxHeartbeats 4000000 in
theorem specHasAll_any (n : Nat) {B : Nat} {L : Lay} {gv : Nat → Value} {gens : List (List Int)} {G : PM.Gens} {T : PM.Rows} {M F : List Nat} (w : World) (hC : Ch 36 B w L gv n G T M F) (hCh : PM.Chain n gens G T) (hT : L.oT = 1) (hpn : ∀ g ∈ gens, PM.PN n g)
    (v : Value) (ls : List (List Int)) (fl : List Nat) (hv : Rd w v ls fl) (hls : ∀ p ∈ ls, PM.PN n p) :
    Calls Try.prog 73 #[.pointer (some ⟨L.g, 0, none⟩), v] w fun e w' => e = .returned (.bool (ls.all (memB n gens))) ∧ Only [] w w' := by
  have hn : 0 < n := hC.pos
  obtain ⟨A, C, ob, fps, rfl, -, hS⟩ := hv.open_
  have hb := hS.bound
  obtain ⟨R, hR⟩ : ∃ R, R = ls.all (memB n gens) := ⟨_, rfl⟩
  rw [← hR]
  have HR := Lib.hid hR
  have HC := Lib.hid hC
  have HCh := Lib.hid hCh
  have HT := Lib.hid hT
  have Hpn := Lib.hid hpn
  have Hls := Lib.hid hls
  clear hC hCh hT hpn hR hls
  go_enter Try.func73, Try.ntmps73
  go_wp2
  go_loopw [5] (fun y wr => ∃ i : Nat, i ≤ ls.length ∧ y = .int .i64 i ∧ Hid ((ls.take i).all (memB n gens) = true) ∧ Only [] w wr)
    (fun y _ => ls.length - (intOf y).toNat)
  case atStart => exact ⟨0, Nat.zero_le _, rfl, Lib.hid rfl, Only.refl _ _⟩
  case round =>
    obtain ⟨W2, hnew⟩ : ∃ W, W = wr := ⟨_, rfl⟩
    subst hnew
    obtain ⟨i, hi, rfl, hq, hO⟩ := hrel
    by_cases hlt : i < ls.length
    · have hltI : (i : Int) < (ls.length : Int) := by omega
      have hi0 : (0 : Int) ≤ (i : Int) := by omega
      obtain ⟨b, off, u, rfl, -, hc0, hu0⟩ := hS.atRow i hlt
      have hc := hO.cell (by simp) hc0
      have hpm := Hls.out ls[i] (List.getElem_mem hlt)
      obtain ⟨p, hp⟩ : ∃ p, p = ls[i] := ⟨_, rfl⟩
      have hmem : p ∈ ls := by rw [hp]; exact List.getElem_mem hlt
      have hsn := take_succ_get ls i hlt
      rw [← hp] at hpm hu0 hsn
      have Hmem := Lib.hid hmem
      have Hsn := Lib.hid hsn
      have Hh := Lib.hid (chainHas_any W2 (HC.out.keep hO) HCh.out.inv.wf HT.out u p _ (Rp.keep hu0 hO) hpm)
      rw [memB_has HCh.out hn Hpn.out hpm] at Hh
      clear hp hpm hu0 hsn hc0 hmem
      rcases hm : memB n gens p
      · have Hm := Lib.hid hm
        clear hm
        go_wp2_with (first
          | (go_at_call 38; (with_reducible refine (Hh.out).mono ?_); rintro e w5 ⟨he, t5⟩; rw [Hm.out] at he; subst he)
          | fail "no arm")
        go_ret
        refine ⟨ret_bool ?_, hO.trans t5⟩
        rw [HR.out]
        rw [eq_comm, Bool.eq_false_iff]
        intro h
        have := List.all_eq_true.1 h p Hmem.out
        rw [Hm.out] at this
        cases this
      · have Hm := Lib.hid hm
        clear hm
        go_wp2_with (first
          | (go_at_call 38; (with_reducible refine (Hh.out).mono ?_); rintro e w5 ⟨he, t5⟩; rw [Hm.out] at he; subst he)
          | fail "no arm")
        go_roundw
        case rel => exact ⟨i + 1, by omega, by go_num, Lib.hid (by rw [Hsn.out, List.all_append, hq.out]; simp [Hm.out]), hO.trans t5⟩
        case measure => simp [intOf]; omega
    · obtain rfl : i = ls.length := by omega
      have hge : ¬ ((ls.length : Int) < (ls.length : Int)) := by omega
      have hfin := hq.out
      rw [List.take_length, ← HR.out] at hfin
      have Hfin := Lib.hid hfin
      clear hfin hq
      go_wp2
      go_ret
      exact ⟨ret_bool Hfin.out.symm, hO⟩
/-- a generates a subgroup of what b generates -/
noncomputable def subB (n : Int) (a b : List (List Int)) : Bool := gensB n a && gensB n b && a.all (memB n.toNat b)
theorem subB_iff {n : Int} {a b : List (List Int)} : subB n a b = true ↔ gensB n a = true ∧ gensB n b = true ∧ ∀ g ∈ a, PM.Grp n.toNat b g := by
  unfold subB
  rw [Bool.and_eq_true, Bool.and_eq_true, List.all_eq_true]
  have h : ∀ g, memB n.toNat b g = true ↔ PM.Grp n.toNat b g := fun g => by
    unfold memB
    exact @decide_eq_true_iff _ (Classical.propDecidable _)
  constructor
  · rintro ⟨⟨h1, h2⟩, h3⟩; exact ⟨h1, h2, fun g hg => (h g).1 (h3 g hg)⟩
  · rintro ⟨h1, h2, h3⟩; exact ⟨⟨h1, h2⟩, fun g hg => (h g).2 (h3 g hg)⟩
/-- the index, 0 of no subgroup -/
noncomputable def idxS (n : Int) (a b : List (List Int)) : Nat := if subB n a b = true then ordG n b / ordG n a else 0
set_option maxHeartbeats 2000000 in
theorem areGroups_any (n : Int) (va vb : Value) (a b : List (List Int)) (fa fb : List Nat) (w : World) (ha : Rd w va a fa) (hb : Rd w vb b fb) :
    Calls Try.prog 71 #[.int .i64 n, va, vb] w fun e w' => e = .returned (.bool (gensB n a && gensB n b)) ∧ Only [] w w' := by
  rcases h1 : gensB n a
  · have H1 := Lib.hid h1
    clear h1
    go_enter Try.func71, Try.ntmps71
    go_wp2_with (first
      | (go_at_call 43; (with_reducible refine (implIsGens_rd n va a fa w ha).mono ?_); rintro e w1 ⟨he, t1⟩; rw [H1.out] at he; subst he)
      | fail "no arm")
    go_ret
    exact ⟨rfl, t1⟩
  · have H1 := Lib.hid h1
    rcases h2 : gensB n b
    all_goals have H2 := Lib.hid h2
    all_goals clear h1 h2
    all_goals go_enter Try.func71, Try.ntmps71
    all_goals go_wp2_with (first
      | (go_at_call 43; (with_reducible refine (implIsGens_rd n va a fa w ha).mono ?_); rintro e w1 ⟨he, t1⟩; rw [H1.out] at he; subst he)
      | (go_at_call 43; (with_reducible refine (implIsGens_rd n vb b fb w1 (Rp.keep hb t1)).mono ?_); rintro e w2 ⟨he, t2⟩; rw [H2.out] at he; subst he)
      | fail "no arm")
    all_goals go_ret
    all_goals exact ⟨rfl, t1.trans t2⟩
set_option maxHeartbeats 4000000 in
theorem implIsSub_any (n : Int) (va vb : Value) (a b : List (List Int)) (fa fb : List Nat) (w : World) (ha : Rd w va a fa) (hb : Rd w vb b fb) :
    Calls Try.prog 25 #[.int .i64 n, va, vb] w fun e w' => e = .returned (.bool (subB n a b)) ∧ Only [] w w' := by
  have HcG := Lib.hid (areGroups_any n va vb a b fa fb w ha hb)
  rcases h1 : (gensB n a && gensB n b)
  · have H1 := Lib.hid h1
    have HR : Hid (subB n a b = false) := Lib.hid (by unfold subB; rw [h1]; rfl)
    rw [h1] at HcG
    clear h1
    go_enter Try.func25, Try.ntmps25
    go_wp2_with (first
      | (go_at_call 71; (with_reducible refine (HcG.out).mono ?_); rintro e w1 ⟨rfl, t1⟩)
      | fail "no arm")
    go_ret
    exact ⟨ret_bool HR.out.symm, t1⟩
  · have h2 := h1
    rw [Bool.and_eq_true] at h2
    obtain ⟨hga, hgb⟩ := h2
    obtain ⟨⟨n1, n20⟩, hgl, hpn⟩ := gensB_iff.1 hgb
    obtain ⟨m, rfl⟩ := Int.eq_ofNat_of_zero_le (show 0 ≤ n by omega)
    have hpn' : ∀ g ∈ b, PM.PN m g := by simpa using hpn
    have hpa : ∀ g ∈ a, PM.PN m g := by simpa using (gensB_iff.1 hga).2.2
    have hm0 : 0 < m := by omega
    have hm20 : m ≤ 20 := by omega
    have HR : Hid (subB (m : Int) a b = a.all (memB m b)) := Lib.hid (by unfold subB; rw [h1]; rfl)
    have Hpn := Lib.hid hpn'
    have Hpa := Lib.hid hpa
    rw [h1] at HcG
    clear h1 hga hgb hpn hpn' hpa
    go_enter Try.func25, Try.ntmps25
    go_wp2_with (first
      | (go_at_call 71; (with_reducible refine (HcG.out).mono ?_); rintro e w1 ⟨rfl, t1⟩)
      | (go_at_call 34; (with_reducible refine (implNewChain_any m hm0 hm20 vb b fb w1 (Rp.keep hb t1) Hpn.out (by omega)).mono ?_); rintro en w4 ⟨L, gv, G, T, M, F, rfl, -, hoT, hC, hCh, t4⟩; have HC := Lib.hid hC; have HCh := Lib.hid hCh; have HoT := Lib.hid hoT; clear hC hCh hoT)
      | (go_at_call 72; (with_reducible refine (implHasAll_any m w4 HC.out HCh.out HoT.out Hpn.out va a fa (Rp.keep ha (t1.trans t4)) Hpa.out).mono ?_); rintro en w5 ⟨rfl, t5⟩)
      | fail "no arm")
    go_ret
    exact ⟨ret_bool HR.out.symm, (t1.trans t4).trans t5⟩
set_option maxHeartbeats 4000000 in
theorem specIsSub_any (n : Int) (va vb : Value) (a b : List (List Int)) (fa fb : List Nat) (w : World) (ha : Rd w va a fa) (hb : Rd w vb b fb) :
    Calls Try.prog 26 #[.int .i64 n, va, vb] w fun e w' => e = .returned (.bool (subB n a b)) ∧ Only [] w w' := by
  rcases h1 : gensB n a
  · have H1 := Lib.hid h1
    have HR : Hid (subB n a b = false) := Lib.hid (by unfold subB; rw [h1]; rfl)
    clear h1
    go_enter Try.func26, Try.ntmps26
    go_wp2_with (first
      | (go_at_call 10; (with_reducible refine (specIsGens_rd n va a fa w ha).mono ?_); rintro e w1 ⟨he, t1⟩; rw [H1.out] at he; subst he; have t1 := t1.only [])
      | fail "no arm")
    go_ret
    exact ⟨ret_bool HR.out.symm, t1⟩
  · have H1 := Lib.hid h1
    rcases h2 : gensB n b
    · have H2 := Lib.hid h2
      have HR : Hid (subB n a b = false) := Lib.hid (by unfold subB; rw [h1, h2]; rfl)
      clear h1 h2
      go_enter Try.func26, Try.ntmps26
      go_wp2_with (first
        | (go_at_call 10; (with_reducible refine (specIsGens_rd n va a fa w ha).mono ?_); rintro e w1 ⟨he, t1⟩; rw [H1.out] at he; subst he; have t1 := t1.only [])
        | (go_at_call 10; (with_reducible refine (specIsGens_rd n vb b fb w1 (Rp.keep hb t1)).mono ?_); rintro e w2 ⟨he, t2⟩; rw [H2.out] at he; subst he; have t2 := t2.only [])
        | fail "no arm")
      go_ret
      exact ⟨ret_bool HR.out.symm, t1.trans t2⟩
    · have H2 := Lib.hid h2
      obtain ⟨⟨n1, n20⟩, hgl, hpn⟩ := gensB_iff.1 h2
      obtain ⟨m, rfl⟩ := Int.eq_ofNat_of_zero_le (show 0 ≤ n by omega)
      have hpn' : ∀ g ∈ b, PM.PN m g := by simpa using hpn
      have hpa : ∀ g ∈ a, PM.PN m g := by simpa using (gensB_iff.1 h1).2.2
      have hm0 : 0 < m := by omega
      have hm20 : m ≤ 20 := by omega
      have HR : Hid (subB (m : Int) a b = a.all (memB m b)) := Lib.hid (by unfold subB; rw [h1, h2]; rfl)
      have Hpn := Lib.hid hpn'
      have Hpa := Lib.hid hpa
      clear h1 h2 hpn hpn' hpa
      go_enter Try.func26, Try.ntmps26
      go_wp2_with (first
        | (go_at_call 10; (with_reducible refine (specIsGens_rd (m : Int) va a fa w ha).mono ?_); rintro e w1 ⟨he, t1⟩; rw [H1.out] at he; subst he; have t1 := t1.only [])
        | (go_at_call 10; (with_reducible refine (specIsGens_rd (m : Int) vb b fb w1 (Rp.keep hb t1)).mono ?_); rintro e w2 ⟨he, t2⟩; rw [H2.out] at he; subst he; have t2 := t2.only []; have k2 := t1.trans t2)
        | (go_at_call 37; (with_reducible refine (buildChain_any m hm0 hm20 vb b fb w2 (Rp.keep hb k2) Hpn.out (by omega)).mono ?_); rintro en w3 ⟨L, gv, G, T, M, F, rfl, hoG, hoT, hC, hCh, t3⟩; have HC := Lib.hid hC; have HCh := Lib.hid hCh; have HoT := Lib.hid hoT; clear hC hCh hoT hoG)
        | (go_at_call 73; (with_reducible refine (specHasAll_any m w3 HC.out HCh.out HoT.out Hpn.out va a fa (Rp.keep ha (k2.trans t3)) Hpa.out).mono ?_); rintro en w5 ⟨rfl, t5⟩)
        | fail "no arm")
      go_ret
      exact ⟨ret_bool HR.out.symm, (k2.trans t3).trans t5⟩
theorem implGroupOrder_any (n : Int) (vg : Value) (gens : List (List Int)) (fpg : List Nat) (w : World) (hg : Rd w vg gens fpg) :
    Calls Try.prog 28 #[.int .i64 n, vg] w fun e w' => e = .returned (.int .i64 (ordG n gens : Nat)) ∧ Only [] w w' := by
  rcases hgs : gensB n gens
  · have e1 : ordG n gens = 0 := by unfold ordG; rw [if_neg (by rw [hgs]; simp)]
    rw [e1]
    exact implGroupOrder_no n vg gens fpg w hg hgs
  · obtain ⟨⟨n1, n20⟩, hgl, hpn⟩ := gensB_iff.1 hgs
    obtain ⟨m, rfl⟩ := Int.eq_ofNat_of_zero_le (show 0 ≤ n by omega)
    have e1 : ordG (m : Int) gens = ordC m gens m := by unfold ordG; rw [if_pos hgs]; rfl
    rw [e1]
    exact implGroupOrder_yes m vg gens fpg w hg hgs
theorem ordG_rng {n : Int} {vg : Value} {gens : List (List Int)} {fpg : List Nat} {w : World} (hg : Rd w vg gens fpg) (hgs : gensB n gens = true) : 1 ≤ ordG n gens ∧ ordG n gens ≤ 2432902008176640000 := by
  obtain ⟨⟨n1, n20⟩, hgl, hpn⟩ := gensB_iff.1 hgs
  obtain ⟨m, rfl⟩ := Int.eq_ofNat_of_zero_le (show 0 ≤ n by omega)
  have e1 : ordG (m : Int) gens = ordC m gens m := by unfold ordG; rw [if_pos hgs]; rfl
  obtain ⟨G, T, hCh⟩ := rank_chain m vg gens fpg w hg hgs
  have hpn' : ∀ g ∈ gens, PM.PN m g := by simpa using hpn
  rw [e1]
  exact ⟨ordC_pos hCh (by omega) hpn' (Nat.le_refl _), ordC_le hCh (by omega) hpn' (by omega) (Nat.le_refl _)⟩
theorem div_wrap (a b : Nat) (h : a ≤ 9223372036854775807) : wrap64 ((a : Int) / (b : Int)) = ((a / b : Nat) : Int) := by
  have h1 : (a : Int) / (b : Int) = ((a / b : Nat) : Int) := rfl
  have h2 : a / b ≤ a := Nat.div_le_self a b
  rw [h1]
  generalize a / b = q at h2
  unfold wrap64
  omega
set_option maxHeartbeats 4000000 in
theorem implIdx_any (n : Int) (va vb : Value) (a b : List (List Int)) (fa fb : List Nat) (w : World) (ha : Rd w va a fa) (hb : Rd w vb b fb) :
    Calls Try.prog 24 #[.int .i64 n, va, vb] w fun e w' => e = .returned (.int .i64 (idxS n a b : Nat)) ∧ Only [] w w' := by
  have HcS := Lib.hid (implIsSub_any n va vb a b fa fb w ha hb)
  rcases h1 : subB n a b
  · have HR : Hid (idxS n a b = 0) := Lib.hid (by unfold idxS; rw [if_neg (by rw [h1]; simp)])
    rw [h1] at HcS
    clear h1
    go_enter Try.func24, Try.ntmps24
    go_wp2_with (first
      | (go_at_call 25; (with_reducible refine (HcS.out).mono ?_); rintro e w1 ⟨rfl, t1⟩)
      | fail "no arm")
    go_ret
    exact ⟨ret_int (by rw [HR.out]; rfl), t1⟩
  · obtain ⟨ga, gb, -⟩ := subB_iff.1 h1
    obtain ⟨a1, a2⟩ := ordG_rng ha ga
    obtain ⟨b1, b2⟩ := ordG_rng hb gb
    have hR : idxS n a b = ordG n b / ordG n a := by unfold idxS; rw [if_pos h1]
    have HcA := Lib.hid (fun (W : World) (hW : Only [] w W) => implGroupOrder_any n va a fa W (Rp.keep ha hW))
    have HcB := Lib.hid (fun (W : World) (hW : Only [] w W) => implGroupOrder_any n vb b fb W (Rp.keep hb hW))
    rw [h1] at HcS
    obtain ⟨oa, hoa⟩ : ∃ oa, oa = ordG n a := ⟨_, rfl⟩
    obtain ⟨ob, hob⟩ : ∃ ob, ob = ordG n b := ⟨_, rfl⟩
    rw [← hoa] at HcA a1 a2 hR
    rw [← hob] at HcB b1 b2 hR
    have HR := Lib.hid hR
    have hdiv : Int.tdiv (ob : Int) (oa : Int) = ((ob / oa : Nat) : Int) := tdiv_nat ob oa
    have hne : ¬ ((oa : Int) = 0) := by omega
    have hdv : wrap64 ((ob : Int) / (oa : Int)) = ((ob / oa : Nat) : Int) := div_wrap ob oa (by omega)
    clear h1 ga gb hR hoa hob
    go_enter Try.func24, Try.ntmps24
    go_wp2_with (first
      | (go_at_call 25; (with_reducible refine (HcS.out).mono ?_); rintro e w1 ⟨rfl, t1⟩)
      | (go_at_call 28; (with_reducible refine (HcB.out w1 t1).mono ?_); rintro e w2 ⟨rfl, t2⟩; have k2 := t1.trans t2)
      | (go_at_call 28; (with_reducible refine (HcA.out w2 k2).mono ?_); rintro e w3 ⟨rfl, t3⟩)
      | fail "no arm")
    go_ret
    exact ⟨ret_int (by rw [HR.out]; first | exact hdv | exact hdiv | rfl | omega), k2.trans t3⟩
set_option maxHeartbeats 4000000 in
theorem specIdx_any (n : Int) (va vb : Value) (a b : List (List Int)) (fa fb : List Nat) (w : World) (ha : Rd w va a fa) (hb : Rd w vb b fb) :
    Calls Try.prog 15 #[.int .i64 n, va, vb] w fun e w' => e = .returned (.int .i64 (idxS n a b : Nat)) ∧ Only [] w w' := by
  have HcS := Lib.hid (specIsSub_any n va vb a b fa fb w ha hb)
  rcases h1 : subB n a b
  · have HR : Hid (idxS n a b = 0) := Lib.hid (by unfold idxS; rw [if_neg (by rw [h1]; simp)])
    rw [h1] at HcS
    clear h1
    go_enter Try.func15, Try.ntmps15
    go_wp2_with (first
      | (go_at_call 26; (with_reducible refine (HcS.out).mono ?_); rintro e w1 ⟨rfl, t1⟩)
      | fail "no arm")
    go_ret
    exact ⟨ret_int (by rw [HR.out]; rfl), t1⟩
  · obtain ⟨ga, gb, -⟩ := subB_iff.1 h1
    obtain ⟨a1, a2⟩ := ordG_rng ha ga
    obtain ⟨b1, b2⟩ := ordG_rng hb gb
    have hR : idxS n a b = ordG n b / ordG n a := by unfold idxS; rw [if_pos h1]
    have HcA := Lib.hid (fun (W : World) (hW : Only [] w W) => specGroupOrder_any n va a fa W (Rp.keep ha hW))
    have HcB := Lib.hid (fun (W : World) (hW : Only [] w W) => specGroupOrder_any n vb b fb W (Rp.keep hb hW))
    rw [h1] at HcS
    obtain ⟨oa, hoa⟩ : ∃ oa, oa = ordG n a := ⟨_, rfl⟩
    obtain ⟨ob, hob⟩ : ∃ ob, ob = ordG n b := ⟨_, rfl⟩
    rw [← hoa] at HcA a1 a2 hR
    rw [← hob] at HcB b1 b2 hR
    have HR := Lib.hid hR
    have hdiv : Int.tdiv (ob : Int) (oa : Int) = ((ob / oa : Nat) : Int) := tdiv_nat ob oa
    have hne : ¬ ((oa : Int) = 0) := by omega
    have hdv : wrap64 ((ob : Int) / (oa : Int)) = ((ob / oa : Nat) : Int) := div_wrap ob oa (by omega)
    clear h1 ga gb hR hoa hob
    go_enter Try.func15, Try.ntmps15
    go_wp2_with (first
      | (go_at_call 26; (with_reducible refine (HcS.out).mono ?_); rintro e w1 ⟨rfl, t1⟩)
      | (go_at_call 13; (with_reducible refine (HcB.out w1 t1).mono ?_); rintro e w2 ⟨rfl, -, -, t2⟩; have k2 := t1.trans t2)
      | (go_at_call 13; (with_reducible refine (HcA.out w2 k2).mono ?_); rintro e w3 ⟨rfl, -, -, t3⟩)
      | fail "no arm")
    go_ret
    exact ⟨ret_int (by rw [HR.out]; first | exact hdv | exact hdiv | rfl | omega), k2.trans t3⟩
end Go.Proofs.Ytbediokigibdlaa

namespace Go.Proofs.Ytbediokigibdlaa
open Go.RowKit
set_option maxRecDepth 10000

/-- one list more in an ascending list of lists -/
def insP (p : List Int) : List (List Int) → List (List Int)
  | [] => [p]
  | x :: l => if prec p x then p :: x :: l else x :: insP p l
theorem insP_yes {p x : List Int} (h : prec p x = true) (l : List (List Int)) : insP p (x :: l) = p :: x :: l := by
  show (if prec p x = true then p :: x :: l else x :: insP p l) = _
  rw [if_pos h]
theorem insP_no {p x : List Int} (h : prec p x = false) (l : List (List Int)) : insP p (x :: l) = x :: insP p l := by
  show (if prec p x = true then p :: x :: l else x :: insP p l) = _
  rw [if_neg (by rw [h]; simp)]
theorem insP_perm (p : List Int) : ∀ l, (insP p l).Perm (p :: l)
  | [] => List.Perm.refl _
  | x :: l => by
    unfold insP
    by_cases h : prec p x = true
    · rw [if_pos h]
    · rw [if_neg h]
      exact ((insP_perm p l).cons x).trans (List.Perm.swap p x l)
theorem prec_lex {n : Nat} {p q : List Int} (hp : PM.PN n p) (hq : PM.PN n q) : prec p q = true ↔ PM.Lex n p q := by
  constructor
  · intro h
    rcases PM.Lex.total hp hq with e | e | e
    · subst e; rw [prec_irr] at h; cases h
    · exact e
    · have h2 := lex_prec hq.1 hp.1 e
      have h3 := prec_trans (by rw [hp.1, hq.1]) (by rw [hp.1, hq.1]) h h2
      rw [prec_irr] at h3; cases h3
  · exact lex_prec hp.1 hq.1
theorem insP_asc {n : Nat} {p : List Int} (hp : PM.PN n p) : ∀ {l : List (List Int)}, (∀ x ∈ l, PM.PN n x) → p ∉ l → l.Pairwise (PM.Lex n) → (insP p l).Pairwise (PM.Lex n)
  | [], _, _, _ => by simp [insP]
  | x :: l, hl, hm, h => by
    obtain ⟨a, b⟩ := List.pairwise_cons.1 h
    have hx := hl x (by simp)
    unfold insP
    by_cases hpx : prec p x = true
    · rw [if_pos hpx]
      have hlx := (prec_lex hp hx).1 hpx
      refine List.pairwise_cons.2 ⟨fun y hy => ?_, h⟩
      rcases List.mem_cons.1 hy with rfl | hy
      · exact hlx
      · exact hlx.trans (a y hy)
    · rw [if_neg hpx]
      have hxp : PM.Lex n x p := by
        rcases PM.Lex.total hp hx with e | e | e
        · exact absurd (by rw [e]; simp) hm
        · exact absurd ((prec_lex hp hx).2 e) hpx
        · exact e
      refine List.pairwise_cons.2 ⟨fun y hy => ?_, insP_asc hp (fun z hz => hl z (List.mem_cons_of_mem _ hz)) (fun e => hm (List.mem_cons_of_mem _ e)) b⟩
      rcases List.mem_cons.1 ((insP_perm p l).mem_iff.1 hy) with rfl | hy
      · exact hxp
      · exact a y hy
/-- a list of lists in order -/
def srtP (L : List (List Int)) : List (List Int) := L.foldl (fun o p => insP p o) []
theorem srtP_snoc (L : List (List Int)) (p : List Int) : srtP (L ++ [p]) = insP p (srtP L) := by unfold srtP; rw [List.foldl_append]; rfl
theorem foldl_insP : ∀ (L o : List (List Int)), (L.foldl (fun o p => insP p o) o).Perm (L ++ o)
  | [], o => List.Perm.refl _
  | p :: L, o => by
    rw [List.foldl_cons]
    refine (foldl_insP L (insP p o)).trans (((insP_perm p o).append_left L).trans ?_)
    exact List.perm_middle
theorem srtP_perm (L : List (List Int)) : (srtP L).Perm L := by
  have := foldl_insP L []
  rw [List.append_nil] at this
  exact this
theorem srtP_asc {n : Nat} : ∀ (k : Nat) (L : List (List Int)), (∀ x ∈ L, PM.PN n x) → L.Nodup → (srtP (L.take k)).Pairwise (PM.Lex n)
  | 0, L, _, _ => by simp [srtP]
  | k + 1, L, hp, hd => by
    by_cases hk : k < L.length
    · rw [List.take_succ_eq_append_getElem hk, srtP_snoc]
      refine insP_asc (hp _ (List.getElem_mem hk)) (fun x hx => hp x (List.mem_of_mem_take ((srtP_perm _).mem_iff.1 hx))) (fun hm => ?_) (srtP_asc k L hp hd)
      have hm2 := (srtP_perm _).mem_iff.1 hm
      obtain ⟨j, hj, e⟩ := List.getElem_of_mem hm2
      rw [List.length_take] at hj
      rw [List.getElem_take] at e
      exact List.pairwise_iff_getElem.1 hd j k (by omega) hk (by omega) e
    · rw [List.take_of_length_le (by omega)]
      have := srtP_asc k L hp hd
      rwa [List.take_of_length_le (by omega)] at this
theorem srtP_lex {n : Nat} {L : List (List Int)} (hp : ∀ x ∈ L, PM.PN n x) (hd : L.Nodup) : (srtP L).Pairwise (PM.Lex n) := by
  have := srtP_asc L.length L hp hd
  rwa [List.take_length] at this
/-- one order of the same lists -/
theorem srtP_unique {n : Nat} {L L' : List (List Int)} (hp : ∀ x ∈ L, PM.PN n x) (hd : L.Nodup) (h : L'.Perm L) (ha : L'.Pairwise (PM.Lex n)) : L' = srtP L :=
  List.Perm.eq_of_pairwise (le := PM.Lex n) (fun _ _ _ _ h1 h2 => absurd (PM.Lex.asymm h1 h2) id) ha (srtP_lex hp hd) (h.trans (srtP_perm L).symm)
set_option maxHeartbeats 8000000 in
theorem insPerm_any (v vp : Value) (l : List (List Int)) (p : List Int) (f fp : List Nat) (w : World) (hv : Rd w v l f) (hp : Rd w vp p fp) (hl : ∀ x ∈ l, x.length = p.length) (hlen : l.length ≤ 1000) :
    Calls Try.prog 58 #[v, vp] w fun e w' => ∃ v' f', e = .returned v' ∧ Rd w' v' (insP p l) f' ∧ (∀ b ∈ f', b ∈ f ∨ b ∈ fp ∨ w.heap.size ≤ b) ∧ Only [] w w' := by
  obtain ⟨A, C, ob, fps, rfl, hfe, hS⟩ := id hv.open_
  obtain ⟨ap, cp, rfl, -⟩ := id hp.ints
  obtain ⟨i0, hi, hz0, hz1, hz2⟩ := info_parts Try.info22
  have hb := hS.bound
  obtain ⟨R, hR⟩ : ∃ R, R = insP p l := ⟨_, rfl⟩
  rw [← hR]
  have HR := Lib.hid hR
  have HL := Lib.hid hl
  have HfL := Lib.hid (show ∀ b ∈ f, b < w.heap.size from Rp.lt hv)
  have HpL := Lib.hid (show ∀ b ∈ fp, b < w.heap.size from Rp.lt hp)
  have Hfe := Lib.hid hfe
  clear hR hl hfe
  go_enter Try.func58, Try.ntmps58
  go_wp2
  go_loopw [5, 6, 7] (fun o d y wr => ∃ (i : Nat) (dn : Bool) (acc : List (List Int)) (fs : List (List Nat)), i ≤ l.length ∧ y = .int .i64 i ∧ d = .bool dn ∧ Acc w.heap.size 36 wr o acc fs ∧ (∀ b ∈ fs.flatten, b ∈ f ∨ b ∈ fp) ∧
      Hid (R = acc ++ if dn then l.drop i else insP p (l.drop i)) ∧ (acc.length ≤ i + 1 ∧ (dn = false → acc.length ≤ i)) ∧ Only [] w wr)
    (fun _ _ y _ => l.length - (intOf y).toNat)
  case atStart => exact ⟨0, false, [], [], Nat.zero_le _, rfl, rfl, Acc.made w w.heap.size _ rfl (Nat.le_refl _), by simp, Lib.hid (by rw [HR.out]; rfl), by simp, (Only.refl _ _).alloc _⟩
  case round =>
    obtain ⟨W2, hnew⟩ : ∃ W, W = wr := ⟨_, rfl⟩
    subst hnew
    obtain ⟨i, dn, acc, fs, hi', rfl, rfl, hA, hfs, hRR, ⟨hal, hal2⟩, hO⟩ := hrel
    have hsz := hO.size
    by_cases hlt : i < l.length
    · have hltI : (i : Int) < (l.length : Int) := by omega
      have hi0 : (0 : Int) ≤ (i : Int) := by omega
      obtain ⟨b, off, u, rfl, hob, hc0, hu0⟩ := hS.atRow i hlt
      have hxl := HL.out l[i] (List.getElem_mem hlt)
      have hdr : l.drop i = l[i] :: l.drop (i + 1) := List.drop_eq_getElem_cons hlt
      have hfi : ∀ z ∈ fps[i]'(by rw [hS.nf]; exact hlt), z ∈ f := fun z hz => by rw [Hfe.out]; exact List.mem_append_right _ (List.mem_flatten.2 ⟨_, List.getElem_mem _, hz⟩)
      obtain ⟨x, hx⟩ : ∃ x, x = l[i] := ⟨_, rfl⟩
      obtain ⟨fx, hfx⟩ : ∃ fx, fx = fps[i]'(by rw [hS.nf]; exact hlt) := ⟨_, rfl⟩
      rw [← hx] at hu0 hxl hdr
      rw [← hfx] at hu0 hfi
      obtain ⟨a4, c4, rfl, -⟩ := id hu0.ints
      have cc := hO.cell (by simp) hc0
      have hlen1 : acc.length + 1 ≤ 1073741824 := by omega
      have hlen2 : (acc ++ [p]).length + 1 ≤ 1073741824 := by rw [List.length_append, List.length_singleton]; omega
      have Hdr := Lib.hid hdr
      have Hfi := Lib.hid hfi
      have Hfs := Lib.hid hfs
      have Hxl := Lib.hid hxl.symm
      have HA := Lib.hid hA
      have Hu := Lib.hid (fun (W : World) (hW : Only [] w W) => Rp.keep hu0 hW)
      have Hpk := Lib.hid (fun (W : World) (hW : Only [] w W) => Rp.keep hp hW)
      have Hc0 := Lib.hid hc0
      have HRR := hRR
      clear hdr hfi hfs hxl hA hx hfx hu0 hc0 hob hRR
      cases dn
      · have hal3 : acc.length ≤ i := hal2 rfl
        clear hal2
        rcases hq : prec p x
        · have Hq := Lib.hid hq
          have hst : insP p (x :: l.drop (i + 1)) = x :: insP p (l.drop (i + 1)) := insP_no hq _
          have Hst := Lib.hid hst
          clear hq hst
          go_wp2_with (first
            | (go_at_call 95; (with_reducible refine (precedes_rd (.slice ap p.length cp) (.slice a4 x.length c4) p x _ _ W2 (Hpk.out _ hO) (Hu.out _ hO) Hxl.out).mono ?_); rintro e w4 ⟨he, t4⟩; rw [Hq.out] at he; subst he; have t4 := t4.only []; have k4 := hO.trans t4; have cc4 := t4.cell (by simp) cc; have A4 := HA.out.keep t4)
            | (at_builtin; refine wpList_push rfl _ _ 24 rfl w.heap.size 36 i0 _ 24 Try.underlying24 hi hz0 hz1 hz2 rfl (by decide) (by decide) w4 u5 acc fs rfl A4 ((Only.refl _ _).alloc _) (Nat.le_trans hsz t4.size) w4.heap.size 1 [.slice a4 x.length c4] x fx rfl (lit_src w4 [_] _ rfl) (by intro u hu; simp at hu; subst hu; rfl) (Hu.out _ (k4.alloc _)) (fun b hb e => by have h1 := HfL.out b (Hfi.out b hb); have h2 := (A4.ownlt b e).1; omega) hlen1 ?_; intro v6 w6 hA6 hO6 hP6 hN6; have k6 := hP6 w (k4.alloc _) (Nat.le_refl _))
            | fail "no arm")
          go_roundw
          case rel =>
            refine ⟨i + 1, false, _, _, by omega, by go_num, rfl, hA6, fun b hb => ?_, Lib.hid ?_, by rw [List.length_append]; simp; omega, k6⟩
            · rw [List.flatten_append] at hb
              rcases List.mem_append.1 hb with hb | hb
              · exact Hfs.out b hb
              · simp at hb; exact Or.inl (Hfi.out b hb)
            · rw [HRR.out, Hdr.out]
              simp only [Bool.false_eq_true, if_false]
              rw [Hst.out]; simp
          case measure => simp [intOf]; omega
        · have Hq := Lib.hid hq
          have hst : insP p (x :: l.drop (i + 1)) = p :: x :: l.drop (i + 1) := insP_yes hq _
          have Hst := Lib.hid hst
          clear hq hst
          go_wp2_with (first
            | (go_at_call 95; (with_reducible refine (precedes_rd (.slice ap p.length cp) (.slice a4 x.length c4) p x _ _ W2 (Hpk.out _ hO) (Hu.out _ hO) Hxl.out).mono ?_); rintro e w4 ⟨he, t4⟩; rw [Hq.out] at he; subst he; have t4 := t4.only []; have k4 := hO.trans t4; have A4 := HA.out.keep t4)
            | (at_builtin; refine wpList_push rfl _ _ 24 rfl w.heap.size 36 i0 _ 24 Try.underlying24 hi hz0 hz1 hz2 rfl (by decide) (by decide) w4 u5 acc fs rfl A4 ((Only.refl _ _).alloc _) (Nat.le_trans hsz t4.size) w4.heap.size 1 [.slice ap p.length cp] p fp rfl (lit_src w4 [_] _ rfl) (by intro u hu; simp at hu; subst hu; rfl) (Hpk.out _ (k4.alloc _)) (fun b hb e => by have h1 := HpL.out b hb; have h2 := (A4.ownlt b e).1; omega) hlen1 ?_; intro v6 w6 hA6 hO6 hP6 hN6; have k6 := hP6 w (k4.alloc _) (Nat.le_refl _); have cc6 := k6.cell (by simp) Hc0.out)
            | (at_builtin; refine wpList_push rfl _ _ 24 rfl w.heap.size 36 i0 _ 24 Try.underlying24 hi hz0 hz1 hz2 rfl (by decide) (by decide) w6 v6 (acc ++ [p]) (fs ++ [fp]) rfl hA6 ((Only.refl _ _).alloc _) (Nat.le_trans (Nat.le_refl _) k6.size) w6.heap.size 1 [.slice a4 x.length c4] x fx rfl (lit_src w6 [_] _ rfl) (by intro u hu; simp at hu; subst hu; rfl) (Hu.out _ (k6.alloc _)) (fun b hb e => by have h1 := HfL.out b (Hfi.out b hb); have h2 := (hA6.ownlt b e).1; omega) hlen2 ?_; intro v7 w7 hA7 hO7 hP7 hN7; have k7 := hP7 w (k6.alloc _) (Nat.le_refl _))
            | fail "no arm")
          go_roundw
          case rel =>
            refine ⟨i + 1, true, _, _, by omega, by go_num, rfl, hA7, fun b hb => ?_, Lib.hid ?_, by simp; omega, k7⟩
            · rw [List.flatten_append, List.flatten_append] at hb
              rcases List.mem_append.1 hb with hb | hb
              · rcases List.mem_append.1 hb with hb | hb
                · exact Hfs.out b hb
                · simp at hb; exact Or.inr hb
              · simp at hb; exact Or.inl (Hfi.out b hb)
            · rw [HRR.out, Hdr.out]
              simp only [Bool.false_eq_true, if_false, if_true]
              rw [Hst.out]; simp
          case measure => simp [intOf]; omega
      · have A4 := HA.out
        go_wp2_with (first
          | (at_builtin; refine wpList_push rfl _ _ 24 rfl w.heap.size 36 i0 _ 24 Try.underlying24 hi hz0 hz1 hz2 rfl (by decide) (by decide) W2 u5 acc fs rfl HA.out ((Only.refl _ _).alloc _) hsz W2.heap.size 1 [.slice a4 x.length c4] x fx rfl (lit_src W2 [_] _ rfl) (by intro u hu; simp at hu; subst hu; rfl) (Hu.out _ (hO.alloc _)) (fun b hb e => by have h1 := HfL.out b (Hfi.out b hb); have h2 := (HA.out.ownlt b e).1; omega) hlen1 ?_; intro v6 w6 hA6 hO6 hP6 hN6; have k6 := hP6 w (hO.alloc _) (Nat.le_refl _))
          | fail "no arm")
        go_roundw
        case rel =>
          refine ⟨i + 1, true, _, _, by omega, by go_num, rfl, hA6, fun b hb => ?_, Lib.hid ?_, by simp; omega, k6⟩
          · rw [List.flatten_append] at hb
            rcases List.mem_append.1 hb with hb | hb
            · exact Hfs.out b hb
            · simp at hb; exact Or.inl (Hfi.out b hb)
          · rw [HRR.out, Hdr.out]
            simp
        case measure => simp [intOf]; omega
    · obtain rfl : i = l.length := by omega
      have hge : ¬ ((l.length : Int) < (l.length : Int)) := by omega
      have hlen1 : acc.length + 1 ≤ 1073741824 := by omega
      have hRR2 := hRR.out
      rw [List.drop_length] at hRR2
      have HA := Lib.hid hA
      have Hpk := Lib.hid (fun (W : World) (hW : Only [] w W) => Rp.keep hp hW)
      have hown := hA.ownlt
      clear hRR hA
      cases dn
      · have HR2 : Hid (R = acc ++ [p]) := Lib.hid (by rw [hRR2]; rfl)
        clear hRR2
        go_wp2_with (first
          | (at_builtin; refine wpList_push rfl _ _ 24 rfl w.heap.size 36 i0 _ 24 Try.underlying24 hi hz0 hz1 hz2 rfl (by decide) (by decide) W2 u5 acc fs rfl HA.out ((Only.refl _ _).alloc _) hsz W2.heap.size 1 [.slice ap p.length cp] p fp rfl (lit_src W2 [_] _ rfl) (by intro u hu; simp at hu; subst hu; rfl) (Hpk.out _ (hO.alloc _)) (fun b hb e => by have h1 := HpL.out b hb; have h2 := (hown b e).1; omega) hlen1 ?_; intro v6 w6 hA6 hO6 hP6 hN6; have k6 := hP6 w (hO.alloc _) (Nat.le_refl _))
          | fail "no arm")
        go_ret
        refine ⟨v6, rfl, _, by rw [HR2.out]; exact hA6.rd (by decide), fun b hb => ?_, k6⟩
        rcases List.mem_append.1 hb with hb | hb
        · exact Or.inr (Or.inr (hA6.ownlt b (by simpa using hb)).1)
        · rw [List.flatten_append] at hb
          rcases List.mem_append.1 hb with hb | hb
          · rcases hfs b hb with h | h
            · exact Or.inl h
            · exact Or.inr (Or.inl h)
          · simp at hb; exact Or.inr (Or.inl hb)
      · have HR2 : Hid (R = acc) := Lib.hid (by rw [hRR2]; simp)
        clear hRR2
        go_wp2
        go_ret
        refine ⟨u5, rfl, _, by rw [HR2.out]; exact HA.out.rd (by decide), fun b hb => ?_, hO⟩
        rcases List.mem_append.1 hb with hb | hb
        · exact Or.inr (Or.inr (hown b (by simpa using hb)).1)
        · rcases hfs b hb with h | h
          · exact Or.inl h
          · exact Or.inr (Or.inl h)
end Go.Proofs.Ytbediokigibdlaa

namespace Go.Proofs.Ytbediokigibdlaa
open Go.RowKit
set_option maxRecDepth 10000

/-- memory that is no older than a block -/
structure GeF (B : Nat) (fp : List Nat) : Prop where
  ge : ∀ b ∈ fp, B ≤ b
/-- the least permutation of each coset, as they are found -/
noncomputable def repC (m : Nat) (a b : List (List Int)) : List (List Int) := PM.bC m a b (ordC m b m + 1) 0 [PM.pts m]
/-- the representatives of the cosets, none where they are too many or there is no subgroup -/
noncomputable def cosR (n : Int) (a b : List (List Int)) : List (List Int) := if 1 ≤ idxS n a b ∧ idxS n a b ≤ 200 then srtP (repC n.toNat a b) else []
/-- what is known of a subgroup -/
structure SubF (m : Nat) (a b : List (List Int)) : Prop where
  pos : 0 < m
  le : m ≤ 20
  la : a.length ≤ 8
  lb : b.length ≤ 8
  pa : ∀ g ∈ a, PM.PN m g
  pb : ∀ g ∈ b, PM.PN m g
  ca : ∃ G T, PM.Chain m a G T
  cb : ∃ G T, PM.Chain m b G T
  sub : ∀ g ∈ a, PM.Grp m b g
theorem SubF.of {n : Int} {va vb : Value} {a b : List (List Int)} {fa fb : List Nat} {w : World} (ha : Rd w va a fa) (hb : Rd w vb b fb) (h : subB n a b = true) : ∃ m : Nat, n = (m : Int) ∧ SubF m a b := by
  obtain ⟨h1, h2, h3⟩ := subB_iff.1 h
  obtain ⟨⟨n1, n20⟩, hgl, hpn⟩ := gensB_iff.1 h1
  obtain ⟨-, hgl2, hpn2⟩ := gensB_iff.1 h2
  obtain ⟨m, rfl⟩ := Int.eq_ofNat_of_zero_le (show 0 ≤ n by omega)
  exact ⟨m, rfl, by omega, by omega, hgl, hgl2, by simpa using hpn, by simpa using hpn2, rank_chain m va a fa w ha h1, rank_chain m vb b fb w hb h2, by simpa using h3⟩
theorem subF_idx {m : Nat} {a b : List (List Int)} {n : Int} (hn : n = (m : Int)) (hs : subB n a b = true) : idxS n a b = ordC m b m / ordC m a m := by
  subst hn
  obtain ⟨h1, h2, -⟩ := subB_iff.1 hs
  unfold idxS
  rw [if_pos hs]
  unfold ordG
  rw [if_pos h1, if_pos h2]
  rfl
section
variable {m : Nat} {a b : List (List Int)} (h : SubF m a b)
include h
theorem SubF.ord_a {G : PM.Gens} {T : PM.Rows} (c : PM.Chain m a G T) : PM.ordM T m m = ordC m a m := ordC_eq c h.pos h.pa (Nat.le_refl _)
theorem SubF.ord_b {G : PM.Gens} {T : PM.Rows} (c : PM.Chain m b G T) : PM.ordM T m m = ordC m b m := ordC_eq c h.pos h.pb (Nat.le_refl _)
theorem SubF.len {L : List (List Int)} (i : PM.InC m a b L) : L.length * ordC m a m ≤ ordC m b m ∧ 1 ≤ ordC m a m ∧ L.length ≤ ordC m b m := by
  obtain ⟨G, T, ca⟩ := h.ca
  obtain ⟨G', T', cb⟩ := h.cb
  have h1 := i.len ca cb h.pos h.pa h.pb h.sub
  have h2 := i.le ca cb h.pos h.pa h.pb h.sub
  rw [h.ord_a ca, h.ord_b cb] at h1
  rw [h.ord_b cb] at h2
  exact ⟨h1, ordC_pos ca h.pos h.pa (Nat.le_refl _), h2⟩
theorem SubF.start : PM.InC m a b [PM.pts m] := by
  obtain ⟨G, T, ca⟩ := h.ca
  exact PM.InC.start ca h.pos h.pa
theorem SubF.step {L : List (List Int)} (i : PM.InC m a b L) {x g : List Int} (hx : x ∈ L) (hg : g ∈ b) : PM.InC m a b (PM.addC (PM.cosM m a (PM.comp x g)) L) := by
  obtain ⟨G, T, ca⟩ := h.ca
  exact i.add ca h.pos h.pa h.pb h.sub (PM.Grp.comp h.pb (i.grp x hx) (.gen h.pb hg))
theorem SubF.pn {L : List (List Int)} (i : PM.InC m a b L) {x : List Int} (hx : x ∈ L) : PM.PN m x := (i.grp x hx).pn h.pb
theorem SubF.reps : PM.InC m a b (repC m a b) ∧ (repC m a b).length * ordC m a m = ordC m b m := by
  obtain ⟨G, T, ca⟩ := h.ca
  obtain ⟨G', T', cb⟩ := h.cb
  have := PM.bC_reps ca cb h.pos h.pa h.pb h.sub
  rw [h.ord_a ca, h.ord_b cb] at this
  exact this
theorem SubF.idx_len {n : Int} (hn : n = (m : Int)) (hs : subB n a b = true) : idxS n a b = (repC m a b).length := by
  rw [subF_idx hn hs]
  obtain ⟨i, e⟩ := h.reps
  have := (h.len i).2.1
  rw [← e, Nat.mul_div_cancel _ (by omega)]
theorem SubF.le_idx {n : Int} (hn : n = (m : Int)) (hs : subB n a b = true) {L : List (List Int)} (i : PM.InC m a b L) : L.length ≤ idxS n a b := by
  rw [subF_idx hn hs]
  obtain ⟨h1, h2, -⟩ := h.len i
  exact (Nat.le_div_iff_mul_le (by omega)).2 h1
end
theorem idxS_no {n : Int} {a b : List (List Int)} (h : subB n a b = false) : idxS n a b = 0 := by unfold idxS; rw [if_neg (by rw [h]; simp)]
theorem bC_end {m : Nat} {a b L : List (List Int)} {f i : Nat} (h : L.length ≤ i) : PM.bC m a b f i L = L := by
  cases f with
  | zero => rfl
  | succ f =>
    show (if i < L.length then _ else L) = L
    rw [if_neg (by omega)]
theorem bC_go {m : Nat} {a b L : List (List Int)} {f i : Nat} (h : i < L.length) : PM.bC m a b (f + 1) i L = PM.bC m a b f (i + 1) (PM.stepC m a L[i] b L) := by
  show (if i < L.length then PM.bC m a b f (i + 1) (PM.stepC m a (L.getD i []) b L) else L) = _
  rw [if_pos h, List.getD_eq_getElem?_getD, List.getElem?_eq_getElem h]
  rfl
theorem stepC_drop {m : Nat} {a b L : List (List Int)} {x : List Int} {k : Nat} (h : k < b.length) : PM.stepC m a x (b.drop k) L = PM.stepC m a x (b.drop (k + 1)) (PM.addC (PM.cosM m a (PM.comp x b[k])) L) := by
  rw [List.drop_eq_getElem_cons h]; rfl
theorem idxL_in {l : List (List Int)} {p : List Int} (h : p ∈ l) : 0 ≤ idxL l p := by
  unfold idxL
  have h1 := idxF_ge (pr := fun q => decide (q = p)) (l := l)
  have h2 : (l.any fun q => decide (q = p)) = true := by rw [List.any_eq_true]; exact ⟨p, h, by simp⟩
  rw [h2] at h1
  exact of_decide_eq_true h1
theorem idxL_out {l : List (List Int)} {p : List Int} (h : p ∉ l) : idxL l p < 0 := by
  unfold idxL
  rw [idxF_none (pr := fun q => decide (q = p)) (fun x hx => decide_eq_false fun (e : x = p) => h (e ▸ hx))]
  omega
set_option maxHeartbeats 8000000 in
theorem specCosR_yes (n : Int) (va vb : Value) (a b : List (List Int)) (fa fb : List Nat) (w : World) (ha : Rd w va a fa) (hb : Rd w vb b fb) (hs : subB n a b = true) (h1 : 1 ≤ idxS n a b) (h200 : idxS n a b ≤ 200) :
    Calls Try.prog 17 #[.int .i64 n, va, vb] w fun e w' => ∃ v f, e = .returned v ∧ Rd w' v (cosR n a b) f ∧ GeF w.heap.size f ∧ Only [] w w' := by
  obtain ⟨m, hnm, S⟩ := SubF.of ha hb hs
  have HcI := Lib.hid (specIdx_any n va vb a b fa fb w ha hb)
  have hle := fun {L : List (List Int)} (i : PM.InC m a b L) => S.le_idx hnm hs i
  have hcR : cosR n a b = srtP (repC m a b) := by unfold cosR; rw [if_pos ⟨h1, h200⟩, hnm]; rfl
  subst hnm
  obtain ⟨ix, hix⟩ : ∃ ix, ix = idxS (m : Int) a b := ⟨_, rfl⟩
  rw [← hix] at HcI hle h1 h200
  obtain ⟨R, hR⟩ : ∃ R, R = repC m a b := ⟨_, rfl⟩
  rw [← hR] at hcR
  rw [hcR]
  obtain ⟨N, hN⟩ : ∃ N, N = ordC m b m := ⟨_, rfl⟩
  have hR0 : R = PM.bC m a b (N + 1 - 0) 0 [PM.pts m] := by rw [hR, hN]; rfl
  have hlN : ∀ {L : List (List Int)}, PM.InC m a b L → L.length ≤ N := fun i => by rw [hN]; exact (S.len i).2.2
  have hm0 := S.pos
  have hm20 := S.le
  have hla := S.la
  have hlb := S.lb
  have HR0 := Lib.hid hR0
  have HS := Lib.hid S
  have Hle := Lib.hid (fun (L : List (List Int)) (i : PM.InC m a b L) => hle i)
  have HlN := Lib.hid (fun (L : List (List Int)) (i : PM.InC m a b L) => hlN i)
  obtain ⟨i0, hi, hz0, hz1, hz2⟩ := info_parts Try.info22
  obtain ⟨A2, C2, ob2, fps2, rfl, -, hS2⟩ := id hb.open_
  have hbb := hS2.bound
  have hne0 : ((ix : Int) == 0) = false := by
    have : (ix : Int) ≠ 0 := by omega
    simpa using this
  have hgt : ¬ (200 : Int) < (ix : Int) := by omega
  clear hle hlN hR0 hR hN hcR S hs hix
  go_enter Try.func17, Try.ntmps17
  go_wp2_with (first
    | (go_at_call 15; (with_reducible refine (HcI.out).mono ?_); rintro en w1 ⟨rfl, t1⟩)
    | (go_at_call 37; (with_reducible refine (buildChain_any m hm0 hm20 va a fa w1 (Rp.keep ha t1) HS.out.pa (by omega)).mono ?_); rintro en w3 ⟨L, gv, G, T, M, F, rfl, hoG, hoT, hC, hCh, t3⟩; have HC := Lib.hid hC; have HCh := Lib.hid hCh; have HoT := Lib.hid hoT; clear hC hCh hoT hoG)
    | (go_at_call 55; (with_reducible refine (specIdentity_any m w3 (by omega)).mono ?_); rintro en w5 ⟨v5, f5, rfl, r5, F5, t5⟩; obtain ⟨a5, c5, rfl, -⟩ := id r5.ints)
    | fail "no arm")
  have k3 : Only [] w w3 := t1.trans t3
  have hz5 := t5.size
  have hz3 := k3.size
  have A5 := Acc.one (cs := [.slice a5 (PM.pts m).length c5]) w3.heap.size 36 r5 rfl hz5
  have F5' : Fresh w3.heap.size (w5.alloc (.cells #[.slice a5 (PM.pts m).length c5] 36)) [f5].flatten := by
    simp only [List.flatten_cons, List.flatten_nil, List.append_nil]
    exact F5.keep ((Only.refl _ _).alloc _)
  have k35 : Only [] w3 w5 := t5
  clear F5 t1 t3 t5 r5
  go_loopw [9, 10] (fun o y wr => ∃ (i : Nat) (L : List (List Int)) (fs : List (List Nat)), i ≤ L.length ∧ y = .int .i64 i ∧ Acc w3.heap.size 36 wr o L fs ∧ Fresh w3.heap.size wr fs.flatten ∧ Hid (PM.InC m a b L) ∧ Hid (R = PM.bC m a b (N + 1 - i) i L) ∧ Only [] w3 wr)
    (fun _ y _ => 201 - (intOf y).toNat)
  case atStart => exact ⟨0, [PM.pts m], [f5], Nat.zero_le _, rfl, A5, F5', Lib.hid HS.out.start, HR0, k35.alloc _⟩
  case round =>
    obtain ⟨W2, hnew⟩ : ∃ W, W = wr := ⟨_, rfl⟩
    subst hnew
    clear A5 F5'
    obtain ⟨i, LL, fs, hil, rfl, hA, hF, hIn, hRR, hO⟩ := hrel
    have hll := Hle.out LL hIn.out
    have hlN := HlN.out LL hIn.out
    obtain ⟨Ao, Co, hfo⟩ := hA.form
    subst hfo
    by_cases hlt : i < LL.length
    · have hltI : (i : Int) < (LL.length : Int) := by omega
      obtain ⟨x, hx⟩ : ∃ x, x = LL[i] := ⟨_, rfl⟩
      have hxm : x ∈ LL := by rw [hx]; exact List.getElem_mem hlt
      have hR2 : R = PM.bC m a b (N - i) (i + 1) (PM.stepC m a x (b.drop 0) LL) := by
        rw [List.drop_zero, hx, ← bC_go hlt, hRR.out, show N + 1 - i = N - i + 1 by omega]
      have HR2 := Lib.hid hR2
      have Hxm := Lib.hid hxm
      have Hx := Lib.hid hx
      have Hpx := Lib.hid (HS.out.pn hIn.out hxm)
      clear hR2 hx hxm hRR
      go_wp2
      go_loopw [9, 11] (fun o y wr => ∃ (k : Nat) (L' : List (List Int)) (fs : List (List Nat)), k ≤ b.length ∧ y = .int .i64 k ∧ Acc w3.heap.size 36 wr o L' fs ∧ Fresh w3.heap.size wr fs.flatten ∧ Hid (PM.InC m a b L') ∧ Hid (∃ l, L' = LL ++ l) ∧ Hid (R = PM.bC m a b (N - i) (i + 1) (PM.stepC m a x (b.drop k) L')) ∧ Only [] w3 wr)
        (fun _ y _ => b.length - (intOf y).toNat)
      case atStart => exact ⟨0, LL, fs, Nat.zero_le _, rfl, hA, hF, hIn, Lib.hid ⟨[], by simp⟩, HR2, hO⟩
      case round =>
        obtain ⟨W4, hnew⟩ : ∃ W, W = wr := ⟨_, rfl⟩
        subst hnew
        clear hA hF hIn HR2 hO
        obtain ⟨k, L', fs, hk, rfl, hA, hF, hIn, hpre, hRR, hO⟩ := hrel
        have hll' := Hle.out L' hIn.out
        by_cases hlk : k < b.length
        · have hlkI : (k : Int) < (b.length : Int) := by omega
          obtain ⟨l, hl⟩ := hpre.out
          have hil' : i < L'.length := by rw [hl, List.length_append]; omega
          have hilI : (i : Int) < (L'.length : Int) := by omega
          have hx' : L'[i] = x := by rw [Hx.out]; simp only [hl]; rw [List.getElem_append_left hlt]
          obtain ⟨A9, C9, ob9, fps9, rfl, -, S9⟩ := (hA.rd (by decide)).open_
          obtain ⟨b9, o9, u9', rfl, -, c9, hu9⟩ := S9.atRow i hil'
          rw [hx'] at hu9
          have kW : Only [] w W4 := k3.trans hO
          obtain ⟨bb, ob, ub, rfl, -, cb0, hub⟩ := hS2.atRow k hlk
          have cb := kW.cell (by simp) cb0
          have hgm : b[k] ∈ b := List.getElem_mem hlk
          have hpg := HS.out.pb b[k] hgm
          have hst := stepC_drop (m := m) (a := a) (L := L') (x := x) hlk
          have hxm' : x ∈ L' := by rw [hl]; exact List.mem_append_left _ Hxm.out
          have hIn2 := HS.out.step hIn.out hxm' hgm
          obtain ⟨g, hg⟩ : ∃ g, g = b[k] := ⟨_, rfl⟩
          rw [← hg] at hub hpg hst hIn2
          obtain ⟨q, hq⟩ : ∃ q, q = PM.cosM m a (PM.comp x g) := ⟨_, rfl⟩
          have hcm : PM.desc T m (fun _ _ => 0) m 0 (PM.comp x g) = q := by rw [hq]; exact HCh.out.cosM_eq hm0 HS.out.pa (Hpx.out.comp hpg)
          rw [← hq] at hst hIn2
          rw [hst] at hRR
          have Hcm := Lib.hid hcm
          have Hpg := Lib.hid hpg
          have HC4 := Lib.hid (fun (W : World) (hW : Only [] W4 W) => (HC.out.keep hO).keep hW)
          have HcK := Lib.hid (fun (W : World) (hW : Only [] W4 W) => specCompose_rd m u9' ub x g _ _ W (Rp.keep hu9 hW) (Rp.keep hub (kW.trans hW)) Hpx.out hpg (by omega))
          have hAr := hA.rd (by decide)
          have HAr := Lib.hid (fun (W : World) (hW : Only [] W4 W) => Rp.keep hAr hW)
          have HA := Lib.hid hA
          have hi0 : (0 : Int) ≤ (i : Int) := by omega
          have hk0 : (0 : Int) ≤ (k : Int) := by omega
          have hz4 := hO.size
          have hlen : L'.length + 1 ≤ 1073741824 := by omega
          have Hpre := Lib.hid (show ∃ l, PM.addC q L' = LL ++ l by
            obtain ⟨l2, h2⟩ := PM.addC_pre q L'
            exact ⟨l ++ l2, by rw [h2, hl, List.append_assoc]⟩)
          have HIn2 := Lib.hid hIn2
          clear hl hx' hu9 hub cb0 hgm hpg hst hxm' hg hq hcm hA hAr hpre hIn hIn2
          go_upto_region 12 with fail
          go_region_held3 (fun w' => Only [] W4 w' ∧ w'.cell? ⟨b9, o9 + i, none⟩ = some u9' ∧ w'.cell? ⟨bb, ob + k, none⟩ = some ub) ((refine and_of ?_ (fun h__ => ⟨h__.cell (by simp) c9, h__.cell (by simp) cb⟩); first | with_reducible exact (Only.refl _ _).drew | with_reducible exact Only.trans (And.left (by assumption)) (by assumption) | assumption)) (first
            | (go_at_call 39; (with_reducible refine (HcK.out _ (And.left (by assumption))).mono ?_); rintro x1 w6 ⟨v6, f6, rfl, r6, F6, y6⟩)
            | (go_at_call 56; (with_reducible refine (cosetMin_any _ (HC4.out _ (And.left (by assumption))) HCh.out.inv.wf HoT.out v6 (PM.comp x g) f6 (by with_reducible assumption) (Hpx.out.comp Hpg.out)).mono ?_); rintro x2 w7 ⟨v7, f7, rfl, r7, F7, y7⟩; rw [Hcm.out] at r7; obtain ⟨a7, c7, rfl, -⟩ := id r7.ints)
            | fail "no arm")
          have k7 : Only [] W4 w7 := ((Only.refl [] W4).drew.trans y6).trans y7
          have F7' : Fresh W4.heap.size w7 f7 := F7.mono (by have := ((Only.refl [] W4).drew.trans y6).size; omega)
          by_cases hmem : q ∈ L'
          · have hadd : PM.addC q L' = L' := by unfold PM.addC; rw [if_pos hmem]
            obtain ⟨ix2, hix2⟩ : ∃ ix2, ix2 = idxL L' q := ⟨_, rfl⟩
            have h0 : 0 ≤ ix2 := by rw [hix2]; exact idxL_in hmem
            have h0' : ¬ ix2 < 0 := by omega
            have Hix2 := Lib.hid hix2.symm
            rw [hadd] at hRR HIn2 Hpre
            clear hadd hix2 hmem
            go_wp2_with (first
              | (go_at_call 57; (with_reducible refine (indexOfList_rd (.slice (some ⟨b9, o9, none⟩) L'.length C9) (.slice a7 q.length c7) L' q _ _ w7 (HAr.out w7 k7) r7).mono ?_); rintro e w8 ⟨he, t8⟩; rw [Hix2.out] at he; subst he; have t8 := t8.only [])
              | fail "no arm")
            go_roundw
            case rel => exact ⟨k + 1, L', fs, by omega, by go_num, HA.out.keep (k7.trans t8), hF.keep (k7.trans t8), HIn2, Hpre, hRR, (hO.trans k7).trans t8⟩
            case measure => simp [intOf]; omega
          · have hadd : PM.addC q L' = L' ++ [q] := by unfold PM.addC; rw [if_neg hmem]
            obtain ⟨ix2, hix2⟩ : ∃ ix2, ix2 = idxL L' q := ⟨_, rfl⟩
            have h0 : ix2 < 0 := by rw [hix2]; exact idxL_out hmem
            have Hix2 := Lib.hid hix2.symm
            rw [hadd] at hRR HIn2 Hpre
            clear hadd hix2 hmem
            go_wp2_with (first
              | (go_at_call 57; (with_reducible refine (indexOfList_rd (.slice (some ⟨b9, o9, none⟩) L'.length C9) (.slice a7 q.length c7) L' q _ _ w7 (HAr.out w7 k7) r7).mono ?_); rintro e w8 ⟨he, t8⟩; rw [Hix2.out] at he; subst he; have t8 := t8.only []; have k8 := k7.trans t8)
              | (at_builtin; refine wpList_pushF rfl _ _ 24 rfl w3.heap.size 36 i0 _ 24 Try.underlying24 hi hz0 hz1 hz2 rfl (by decide) (by decide) W4 (.slice (some ⟨b9, o9, none⟩) L'.length C9) L' fs rfl HA.out hF (k8.alloc _) hz4 w8.heap.size 1 [.slice a7 q.length c7] q f7 rfl (lit_src w8 [_] _ rfl) (by intro u hu; simp at hu; subst hu; rfl) (Rp.keep r7 (t8.alloc _)) (F7'.keep (t8.alloc _)) hlen w3 ((hO.trans k8).alloc _) (Nat.le_refl _) ?_; intro v9 w9 hA9 hF9 hK9 hW9)
              | fail "no arm")
            go_roundw
            case rel => exact ⟨k + 1, _, _, by omega, by go_num, hA9, hF9, HIn2, Hpre, hRR, hK9⟩
            case measure => simp [intOf]; omega
        · obtain rfl : k = b.length := by omega
          have hge : ¬ ((b.length : Int) < (b.length : Int)) := by omega
          have hR3 : R = PM.bC m a b (N + 1 - (i + 1)) (i + 1) L' := by
            have := hRR.out
            rw [List.drop_length] at this
            rw [show N + 1 - (i + 1) = N - i by omega]
            exact this
          have hl' : i + 1 ≤ L'.length := by
            obtain ⟨l, hl⟩ := hpre.out
            rw [hl, List.length_append]; omega
          have HR3 := Lib.hid hR3
          have HA := Lib.hid hA
          clear hR3 hRR hA
          go_wp2
          go_roundw
          case rel => exact ⟨i + 1, L', fs, hl', by go_num, HA.out, hF, hIn, HR3, hO⟩
          case measure => simp [intOf]; omega
    · obtain rfl : i = LL.length := by omega
      have hge : ¬ ((LL.length : Int) < (LL.length : Int)) := by omega
      have hRL : R = LL := by rw [hRR.out]; exact bC_end (Nat.le_refl _)
      have HRL := Lib.hid hRL
      obtain ⟨A9, C9, ob9, fps9, e9, hfe9, S9⟩ := (hA.rd (by decide)).open_
      have hFf := hA.fresh hF
      have Hfe9 := Lib.hid hfe9
      have HFf := Lib.hid hFf
      have Hpn := Lib.hid (fun x (hx : x ∈ LL) => HS.out.pn hIn.out hx)
      injection e9 with e91 _ e93
      subst e91
      subst e93
      have kW : Only [] w W2 := k3.trans hO
      have hz2 := kW.size
      have hb9 := S9.bound
      clear hRL hRR hA hF hFf hfe9
      go_wp2
      go_loopw [13, 14] (fun o y wr => ∃ (j : Nat) (f : List Nat), j ≤ LL.length ∧ y = .int .i64 j ∧ Rd wr o (srtP (LL.take j)) f ∧ Hid (∀ b ∈ f, w.heap.size ≤ b) ∧ Only [] W2 wr)
        (fun _ y _ => LL.length - (intOf y).toNat)
      case atStart => exact ⟨0, [], Nat.zero_le _, rfl, (SeqA.nil (α := List Int) _ _ (by simp [maxLen])).rd, Lib.hid (by simp), (Only.refl _ _).alloc _⟩
      case round =>
        obtain ⟨W4, hnew⟩ : ∃ W, W = wr := ⟨_, rfl⟩
        subst hnew
        obtain ⟨j, f, hj, rfl, hr, hfg, hO4⟩ := hrel
        have hz4 := hO4.size
        by_cases hlj : j < LL.length
        · have hljI : (j : Int) < (LL.length : Int) := by omega
          have hj0 : (0 : Int) ≤ (j : Int) := by omega
          obtain ⟨b9, o9, u9', rfl, -, c9, hu9⟩ := S9.atRow j hlj
          have cc := hO4.cell (by simp) c9
          have hsn : srtP (LL.take (j + 1)) = insP LL[j] (srtP (LL.take j)) := by rw [take_succ_get LL j hlj, srtP_snoc]
          have hfj : ∀ z ∈ fps9[j]'(by rw [S9.nf]; exact hlj), w.heap.size ≤ z := fun z hz => by
            have := HFf.out.ge z (by rw [Hfe9.out]; exact List.mem_append_right _ (List.mem_flatten.2 ⟨_, List.getElem_mem _, hz⟩))
            omega
          have hpj := Hpn.out LL[j] (List.getElem_mem hlj)
          obtain ⟨x, hx⟩ : ∃ x, x = LL[j] := ⟨_, rfl⟩
          rw [← hx] at hu9 hsn hpj
          have hll2 : ∀ y ∈ srtP (LL.take j), y.length = x.length := fun y hy => by
            have := Hpn.out y (List.mem_of_mem_take ((srtP_perm _).mem_iff.1 hy))
            rw [this.1, hpj.1]
          have hle2 : (srtP (LL.take j)).length ≤ 1000 := by rw [(srtP_perm _).length_eq, List.length_take]; omega
          have HcP := Lib.hid (insPerm_any u13 u9' (srtP (LL.take j)) x f _ W4 hr (Rp.keep hu9 hO4) hll2 hle2)
          have Hsn := Lib.hid hsn
          have Hfj := Lib.hid hfj
          clear hsn hfj hpj hx hll2 hle2 hu9 c9
          go_wp2_with (first
            | (go_at_call 58; (with_reducible refine (HcP.out).mono ?_); rintro e w6 ⟨v6, f6, rfl, r6, hf6, t6⟩)
            | fail "no arm")
          go_roundw
          case rel =>
            refine ⟨j + 1, f6, by omega, by go_num, by rw [Hsn.out]; exact r6, Lib.hid fun z hz => ?_, hO4.trans t6⟩
            rcases hf6 z hz with h | h | h
            · exact hfg.out z h
            · exact Hfj.out z h
            · omega
          case measure => simp [intOf]; omega
        · obtain rfl : j = LL.length := by omega
          have hge : ¬ ((LL.length : Int) < (LL.length : Int)) := by omega
          rw [List.take_length, ← HRL.out] at hr
          have Hr := Lib.hid hr
          clear hr
          go_wp2
          go_ret
          exact ⟨u13, rfl, f, Hr.out, ⟨hfg.out⟩, kW.trans hO4⟩
theorem nil_rows (g : Option Addr) (c : Nat) (w : World) (h : c ≤ maxLen) : Rd w (.slice g 0 c) ([] : List (List Int)) [] := (SeqA.nil (α := List Int) w g h).rd
set_option maxHeartbeats 2000000 in
theorem specCosR_no (n : Int) (va vb : Value) (a b : List (List Int)) (fa fb : List Nat) (w : World) (ha : Rd w va a fa) (hb : Rd w vb b fb) (h : ¬ (1 ≤ idxS n a b ∧ idxS n a b ≤ 200)) :
    Calls Try.prog 17 #[.int .i64 n, va, vb] w fun e w' => ∃ v f, e = .returned v ∧ Rd w' v (cosR n a b) f ∧ GeF w.heap.size f ∧ Only [] w w' := by
  have HcI := Lib.hid (specIdx_any n va vb a b fa fb w ha hb)
  have hcR : cosR n a b = [] := by unfold cosR; rw [if_neg h]
  rw [hcR]
  obtain ⟨ix, hix⟩ : ∃ ix, ix = idxS n a b := ⟨_, rfl⟩
  rw [← hix] at HcI h
  clear hcR hix
  by_cases h0 : ix = 0
  · subst h0
    go_enter Try.func17, Try.ntmps17
    go_wp2_with (first
      | (go_at_call 15; (with_reducible refine (HcI.out).mono ?_); rintro en w1 ⟨rfl, t1⟩)
      | fail "no arm")
    go_ret
    exact ⟨_, [], rfl, nil_rows _ _ _ (by simp [maxLen]), ⟨by simp⟩, t1.alloc _⟩
  · have hne0 : ((ix : Int) == 0) = false := by
      have : (ix : Int) ≠ 0 := by omega
      simpa using this
    have hgt : (200 : Int) < (ix : Int) := by omega
    go_enter Try.func17, Try.ntmps17
    go_wp2_with (first
      | (go_at_call 15; (with_reducible refine (HcI.out).mono ?_); rintro en w1 ⟨rfl, t1⟩)
      | fail "no arm")
    go_ret
    exact ⟨_, [], rfl, nil_rows _ _ _ (by simp [maxLen]), ⟨by simp⟩, t1.alloc _⟩
theorem idx_sub {n : Int} {a b : List (List Int)} (h : 1 ≤ idxS n a b) : subB n a b = true := by
  rcases hs : subB n a b
  · rw [idxS_no hs] at h; omega
  · rfl
theorem specCosR_any (n : Int) (va vb : Value) (a b : List (List Int)) (fa fb : List Nat) (w : World) (ha : Rd w va a fa) (hb : Rd w vb b fb) :
    Calls Try.prog 17 #[.int .i64 n, va, vb] w fun e w' => ∃ v f, e = .returned v ∧ Rd w' v (cosR n a b) f ∧ GeF w.heap.size f ∧ Only [] w w' := by
  by_cases h : 1 ≤ idxS n a b ∧ idxS n a b ≤ 200
  · exact specCosR_yes n va vb a b fa fb w ha hb (idx_sub h.1) h.1 h.2
  · exact specCosR_no n va vb a b fa fb w ha hb h
end Go.Proofs.Ytbediokigibdlaa
