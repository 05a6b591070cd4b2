/- The reference's DrawLowerBoundCertificate, DrawSameCertificate (law 45). Bounds only. (Printed by mkcrt6.py.) SameCertificate: the reference's and the program's. The laws' drawn tracked sets (laws 10, 11). The laws' drawn puzzles (laws 10, 11). The laws' own comparison of numbers: likeInts (laws 10, 11). -/
import Derived.Test.YtlbcjkjoapcppaaGreatRowCertificateFormsG20
import Derived.Test.YtlbcjkjoapcppaaGreatRowCertificateFormsG17
import Derived.Test.YtlbcjkjoapcppaaGreatRowCertificateFormsG2
import Derived.StillTailTactics
import Derived.Test.YtlbcjkjoapcppaaGreatRowCertificateFormsG10
import Derived.Test.YtlbcjkjoapcppaaGreatRowCertificateFormsG11
namespace Go.Proofs.YtlbcjkjoapcppaaGreat
open Go.RowKit
set_option maxRecDepth 10000

theorem fall {w W V : World} {g : Nat} (h : Only [] w W) (ho : Only [g] W V) (hg : w.heap.size ≤ g) : Only [] w V := h.then_ ho (fun b hb hl => by simp at hb; omega)
set_option maxHeartbeats 8000000 in
theorem drawLowerBound_any (v : Value) (l : List UInt8) (fc : List Nat) (w : World) (h : Rd w v l fc) (hl : l.length ≤ 4096) :
    Calls Tryz.prog 6 #[v] w fun e w' => ∃ (b : Int) (u : Value) (L : List Table) (f : List Nat), e = .returned (.tuple #[.int .i64 b, u]) ∧ I64 b ∧ Rd w' u L f ∧ Sm.sm L ∧ Only [] w w' := by
  go_enter Tryz.func6, Tryz.ntmps6
  go_upto_region 3 with (first
    | (go_at_call 16; (with_reducible refine (newSource_any v l fc w h hl).mono ?_); rintro e w1 ⟨g, rfl, D1, hg, t1⟩)
    | (go_at_call 17; (with_reducible refine (drawPuzzle_any g fc l w1 D1 hl).mono ?_); rintro e w2 ⟨n, nm, vm, rfl, hP, D2, K2⟩; obtain ⟨gs, fs, cA, cF, ⟨n0, n20⟩, nml, gsl, gs30⟩ := hP; obtain ⟨am, cm, rfl⟩ := cA.form; have hRp : Rp.rep w2 [.int .i64 n, .string nm, .slice am gs.length cm] (⟨n, nm, gs⟩ : Puzzle) _ := PzR.rep (by unfold I64; omega) (by omega) (cA.rd (by decide)); have hge : ∀ b ∈ (Value.slice am gs.length cm).ownBlock.toList ++ fs.flatten, w1.heap.size ≤ b := (cA.fresh cF).ge; have HRp := Lib.hid hRp; have Hge := Lib.hid hge; clear hRp hge cA cF)
    | fail "no arm")
  have hg1 := D1.lt
  have kal : Only [] w2 (w2.alloc (.cells #[.int .i64 n, .string nm, .slice am gs.length cm] 42)) := (Only.refl _ _).alloc _
  have X2 := Blk.new w2 [.int .i64 n, .string nm, .slice am gs.length cm] 42
  have D3 := D2.keep kal
  have hx := Rp.keep HRp.out kal
  have hgx : g ∉ (Value.slice am gs.length cm).ownBlock.toList ++ fs.flatten := fun hm => by have := Hge.out g hm; omega
  have hdx := Lib.hid (show ∀ b ∈ (Value.slice am gs.length cm).ownBlock.toList ++ fs.flatten, b ∉ [g] from fun b hb hm => hgx (by simp at hm; subst hm; exact hb))
  have hpb : g < w2.heap.size := Nat.lt_of_lt_of_le hg1 K2.size
  obtain ⟨fx, hfx⟩ : ∃ fx, fx = (Value.slice am gs.length cm).ownBlock.toList ++ fs.flatten := ⟨_, rfl⟩
  rw [← hfx] at hx hgx hdx
  have kW : Only [] w (w2.alloc (.cells #[.int .i64 n, .string nm, .slice am gs.length cm] 42)) := (t1.then_ K2 (fun b hb hl => by simp at hb; omega)).alloc _
  obtain ⟨W2, hW2⟩ : ∃ W, W = w2.alloc (.cells #[.int .i64 n, .string nm, .slice am gs.length cm] 42) := ⟨_, rfl⟩
  obtain ⟨pb, hpbe⟩ : ∃ pb, pb = w2.heap.size := ⟨_, rfl⟩
  rw [← hW2] at X2 D3 hx kW ⊢
  rw [← hpbe] at X2 hpb ⊢
  clear hW2 hpbe hfx kal K2 D1 D2 t1 HRp Hge
  go_cut [11] (fun s11 wx => ∃ b : Bool, s11 = .bool b ∧ Src wx g fc l ∧ Only [g] W2 wx)
  case first =>
    go_wp2_with ((go_at_call 20; (with_reducible refine (oneIn_any g fc l 8 W2 D3 hl (by omega)).mono ?_); rintro e w4 ⟨b, rfl, D4, K4⟩))
    go_meet
    exact ⟨_, rfl, D4, K4⟩
  case rest =>
    obtain ⟨W4, hnew⟩ : ∃ W, W = wc := ⟨_, rfl⟩
    subst hnew
    obtain ⟨b4, rfl, D4, K4⟩ := hcut
    have X4 := X2.only K4 (by simp; omega)
    have hx4 := Rp.only hx K4 hdx.out
    have k4 := fall kW K4 (by omega)
    clear X2 D3 hx kW K4
    have c0 := X4.cell 0 rfl; have c1 := X4.cell 1 rfl; have c2 := X4.cell 2 rfl
    refine (show ∀ a w, Code.wp Tryz.prog _ _ a w → _ from by assumption) _ _ ?_
    cases b4
    · go_upto_region 5 with fail
      go_region_law (first
        | (go_simp; first
        | (go_at_call 22; (with_reducible refine (between_rng g fc l (-1) 5 _ (D4.keep (by with_reducible repeat (first | exact Only.refl _ _ | assumption | refine Only.drewN ?_ _ | refine Only.drew ?_ | refine Only.alloc ?_ _ | refine Only.trans ?_ (by assumption)))) hl (by omega) (by omega) (by omega)).mono ?_); rintro en w5 ⟨b, rfl, b0, b5, D5, K5⟩; have K45 : Only [g] W4 w5 := Only.trans (by with_reducible repeat (first | exact Only.refl _ _ | assumption | refine Only.drewN ?_ _ | refine Only.drew ?_ | refine Only.alloc ?_ _ | refine Only.trans ?_ (by assumption))) K5; have X5 := X4.only K45 (by simp; omega); have hx5 := Rp.only hx4 K45 hdx.out; have c05 := X5.cell 0 rfl; have c15 := X5.cell 1 rfl; have c25 := X5.cell 2 rfl)
        | (go_at_call 19; (with_reducible refine (drawTables_any g fc l [.int .i64 n, .string nm, .slice am gs.length cm] ⟨n, nm, gs⟩ fx _ (D5.keep (by with_reducible repeat (first | exact Only.refl _ _ | assumption | refine Only.drewN ?_ _ | refine Only.drew ?_ | refine Only.alloc ?_ _ | refine Only.trans ?_ (by assumption)))) hl (Rp.keep hx5 (by with_reducible repeat (first | exact Only.refl _ _ | assumption | refine Only.drewN ?_ _ | refine Only.drew ?_ | refine Only.alloc ?_ _ | refine Only.trans ?_ (by assumption)))) hgx).mono ?_); rintro en w6 ⟨v6, L6, f6, rfl, hA6, hF6, l6, sm6, D6, K6⟩; have K56 : Only [g] w5 w6 := Only.trans (by with_reducible repeat (first | exact Only.refl _ _ | assumption | refine Only.drewN ?_ _ | refine Only.drew ?_ | refine Only.alloc ?_ _ | refine Only.trans ?_ (by assumption))) K6; have HA6 := Lib.hid (hA6.rd (by decide)); have S6 := Lib.hid sm6; clear hA6 hF6 sm6))
        | fail "no arm")
      all_goals
        go_wp2
        exact bodyPost_ret (v := .tuple #[.int .i64 b, v6]) (by simp [results, Tryz.results6, go_sem]) rfl ⟨b, _, L6, _, rfl, by unfold I64; omega, HA6.out, S6.out, fall (fall k4 K45 (by omega)) K56 (by omega)⟩
    · go_upto_region 4 with fail
      go_region_law (first
        | (go_simp; first
        | (go_at_call 21; (with_reducible refine (extremeInt_any g fc l _ (D4.keep (by with_reducible repeat (first | exact Only.refl _ _ | assumption | refine Only.drewN ?_ _ | refine Only.drew ?_ | refine Only.alloc ?_ _ | refine Only.trans ?_ (by assumption)))) hl).mono ?_); rintro en w5 ⟨b, rfl, hb, D5, K5⟩; have K45 : Only [g] W4 w5 := Only.trans (by with_reducible repeat (first | exact Only.refl _ _ | assumption | refine Only.drewN ?_ _ | refine Only.drew ?_ | refine Only.alloc ?_ _ | refine Only.trans ?_ (by assumption))) K5; have X5 := X4.only K45 (by simp; omega); have hx5 := Rp.only hx4 K45 hdx.out; have c05 := X5.cell 0 rfl; have c15 := X5.cell 1 rfl; have c25 := X5.cell 2 rfl; have Hb := Lib.hid hb; clear hb)
        | (go_at_call 19; (with_reducible refine (drawTables_any g fc l [.int .i64 n, .string nm, .slice am gs.length cm] ⟨n, nm, gs⟩ fx _ (D5.keep (by with_reducible repeat (first | exact Only.refl _ _ | assumption | refine Only.drewN ?_ _ | refine Only.drew ?_ | refine Only.alloc ?_ _ | refine Only.trans ?_ (by assumption)))) hl (Rp.keep hx5 (by with_reducible repeat (first | exact Only.refl _ _ | assumption | refine Only.drewN ?_ _ | refine Only.drew ?_ | refine Only.alloc ?_ _ | refine Only.trans ?_ (by assumption)))) hgx).mono ?_); rintro en w6 ⟨v6, L6, f6, rfl, hA6, hF6, l6, sm6, D6, K6⟩; have K56 : Only [g] w5 w6 := Only.trans (by with_reducible repeat (first | exact Only.refl _ _ | assumption | refine Only.drewN ?_ _ | refine Only.drew ?_ | refine Only.alloc ?_ _ | refine Only.trans ?_ (by assumption))) K6; have HA6 := Lib.hid (hA6.rd (by decide)); have S6 := Lib.hid sm6; clear hA6 hF6 sm6))
        | fail "no arm")
      all_goals
        go_wp2
        exact bodyPost_ret (v := .tuple #[.int .i64 b, v6]) (by simp [results, Tryz.results6, go_sem]) rfl ⟨b, _, L6, _, rfl, Hb.out, HA6.out, S6.out, fall (fall k4 K45 (by omega)) K56 (by omega)⟩
theorem noTab_rep (w : World) : Rp.rep w [.slice none 0 0, .slice none 0 0, .slice none 0 0] noTab [] :=
  ⟨_, _, _, [], [], [], rfl, rfl, (SeqA.nil (α := Int) w none (by unfold maxLen; omega)).rd, (SeqA.nil (α := List Int) w none (by unfold maxLen; omega)).rd, (SeqA.nil (α := Int) w none (by unfold maxLen; omega)).rd⟩
theorem made_tabs {w : World} {B : Nat} {e : TypeId} {v : Value} (h : w.ownsRow B e 3 v 5 (madeCells (Value.cells (.agg #[.slice none 0 0, .slice none 0 0, .slice none 0 0])) (5 * 3)).toList) : Acc B e w v (List.replicate 5 noTab) (List.replicate 5 []) := by
  rw [madeNils3] at h
  refine ⟨⟨List.replicate 5 [.slice none 0 0, .slice none 0 0, .slice none 0 0], h, rfl, fun k h1 h2 h3 => ?_⟩, rfl, by simp⟩
  simp only [List.getElem_replicate]
  exact noTab_rep w
theorem wpList_cat {P : Program} {α : Type} [Rp α] {ops : Array Oper} {rest : List Oper} {o : Oper} {a : Act} {w : World} {Q : Exit → Act → World → Prop} (hgd : o.guard = none) (s x : Operand) (t : TypeId)
    (ho : o.op = .call { callee := .builtin .append, args := #[s, x], argTypes := #[t, t] })
    (B : Nat) (e : TypeId) (i : TypeInfo) (z : Value) (bytes : Nat) (ht : P.underlying t = some (.slice e)) (hi : P.info? e = some i) (hz : i.zero = some z)
    (hsize : i.size = Rp.size α) (hby : i.bytes = bytes) (hzs : z.cells.size = Rp.size α) (hsz : 0 < Rp.size α) (hbb : bytes ≤ 65536)
    (w0 : World) (v : Value) (l : List α) (fs : List (List Nat)) (hs : a.eval s = v) (hA : Acc B e w0 v l fs) (hK0 : Only [] w0 w) (hB : B ≤ w0.heap.size)
    (B2 : Nat) (e2 : TypeId) (u : Value) (ys : List α) (gs : List (List Nat)) (hx : a.eval x = u) (hU : Acc B2 e2 w u ys gs) (hone : ∀ (cs : List Value) (y : α) (f : List Nat), Rp.rep w cs y f → ∀ q ∈ cs, q.oneCell' = true)
    (hap : ∀ b ∈ gs.flatten, v.ownBlock ≠ some b) (hlen : l.length + ys.length ≤ 1073741824)
    (h : ∀ v' w', Acc B e w' v' (l ++ ys) (fs ++ gs) → Only v.ownBlock.toList w w' → (v'.ownBlock = v.ownBlock ∨ v'.ownBlock = some w.heap.size) → wpList P ops Q rest (a.put o.dst v') w') : wpList P ops Q (o :: rest) a w :=
  wpList_plain hgd fun _ hK => wp_cat s x t ho B e i z bytes ht hi hz hsize hby hzs hsz hbb w0 v l fs hs hA hK0 hB B2 e2 u ys gs hx hU hone hap hlen fun v' w' h1 h2 h5 => hK _ _ (h v' w' h1 h2 h5)
set_option maxHeartbeats 8000000 in
theorem drawOptimality_any (v : Value) (l : List UInt8) (fc : List Nat) (w : World) (h : Rd w v l fc) (hl : l.length ≤ 4096) :
    Calls Tryz.prog 5 #[v] w fun e w' => ∃ (q : Value) (x : List Int) (fq : List Nat) (u : Value) (L : List Table) (f : List Nat), e = .returned (.tuple #[q, u]) ∧ Rd w' q x fq ∧ Rd w' u L f ∧ Sm.sm L ∧ Only [] w w' := by
  obtain ⟨m0, hm0, hmz, hm1, hm2⟩ := info_parts Tryz.infoTable
  have hfc : ∀ b ∈ fc, b < w.heap.size := Rp.lt h
  go_enter Tryz.func5, Tryz.ntmps5
  go_upto_region 3 with (first
    | (go_at_call 16; (with_reducible refine (newSource_any v l fc w h hl).mono ?_); rintro e w1 ⟨g, rfl, D1, hg, t1⟩)
    | (go_at_call 17; (with_reducible refine (drawPuzzle_any g fc l w1 D1 hl).mono ?_); rintro e w2 ⟨n, nm, vm, rfl, hP, D2, K2⟩; obtain ⟨gs, fs, cA, cF, ⟨n0, n20⟩, nml, gsl, gs30⟩ := hP; obtain ⟨am, cm, rfl⟩ := cA.form; have hRp : Rp.rep w2 [.int .i64 n, .string nm, .slice am gs.length cm] (⟨n, nm, gs⟩ : Puzzle) _ := PzR.rep (by unfold I64; omega) (by omega) (cA.rd (by decide)); have hge : ∀ b ∈ (Value.slice am gs.length cm).ownBlock.toList ++ fs.flatten, w1.heap.size ≤ b := (cA.fresh cF).ge; have HRp := Lib.hid hRp; have Hge := Lib.hid hge; clear hRp hge cA cF)
    | fail "no arm")
  have hg1 := D1.lt
  have kal : Only [] w2 (w2.alloc (.cells #[.int .i64 n, .string nm, .slice am gs.length cm] 42)) := (Only.refl _ _).alloc _
  have X2 := Blk.new w2 [.int .i64 n, .string nm, .slice am gs.length cm] 42
  have D3 := D2.keep kal
  have hx := Rp.keep HRp.out kal
  have hgx : g ∉ (Value.slice am gs.length cm).ownBlock.toList ++ fs.flatten := fun hm => by have := Hge.out g hm; omega
  have hdx := Lib.hid (show ∀ b ∈ (Value.slice am gs.length cm).ownBlock.toList ++ fs.flatten, b ∉ [g] from fun b hb hm => hgx (by simp at hm; subst hm; exact hb))
  have hpb : g < w2.heap.size := Nat.lt_of_lt_of_le hg1 K2.size
  obtain ⟨fx, hfx⟩ : ∃ fx, fx = (Value.slice am gs.length cm).ownBlock.toList ++ fs.flatten := ⟨_, rfl⟩
  rw [← hfx] at hx hgx hdx
  have kW : Only [] w (w2.alloc (.cells #[.int .i64 n, .string nm, .slice am gs.length cm] 42)) := (t1.then_ K2 (fun b hb hl => by simp at hb; omega)).alloc _
  obtain ⟨W2, hW2⟩ : ∃ W, W = w2.alloc (.cells #[.int .i64 n, .string nm, .slice am gs.length cm] 42) := ⟨_, rfl⟩
  obtain ⟨pb, hpbe⟩ : ∃ pb, pb = w2.heap.size := ⟨_, rfl⟩
  rw [← hW2] at X2 D3 hx kW ⊢
  rw [← hpbe] at X2 hpb ⊢
  clear hW2 hpbe hfx kal K2 D1 D2 t1 HRp Hge
  have hwW : w.heap.size ≤ W2.heap.size := kW.size
  have c0 := X2.cell 0 rfl; have c1 := X2.cell 1 rfl; have c2 := X2.cell 2 rfl
  have hsW : pb < W2.heap.size := X2.lt
  go_upto_region 5 with (first
    | (go_at_call 18; (with_reducible refine (drawAnyWord_any g fc l W2 D3 hl).mono ?_); rintro e w3 ⟨v3, p3, rfl, hA3, l3, D4, K4⟩; obtain ⟨a3, c3', rfl⟩ := hA3.form; have X3 := X2.only K4 (by simp; omega); have c03 := X3.cell 0 rfl; have c13 := X3.cell 1 rfl; have c23 := X3.cell 2 rfl; have hx3 := Rp.only hx K4 hdx.out; have HA3 := Lib.hid hA3; clear hA3)
    | (go_at_call 19; (with_reducible refine (drawTables_any g fc l [.int .i64 n, .string nm, .slice am gs.length cm] ⟨n, nm, gs⟩ fx w3 D4 hl hx3 hgx).mono ?_); rintro e w4 ⟨v4, L4, f4, rfl, hA4, hF4, l4, sm4, D5, K5⟩; obtain ⟨a4, c4, rfl⟩ := hA4.form)
    | fail "no arm")
  have A3 := HA3.out.only K5 (fun q hq hm => by have := (HA3.out.ownlt q hq).1; simp at hm; omega)
  have k5 := (fall (fall kW K4 (by omega)) K5 (by omega))
  have hv3 : ∀ b ∈ (Value.slice a3 p3.length c3').ownBlock.toList, W2.heap.size ≤ b ∧ b < w3.heap.size := fun b hb => HA3.out.ownlt b (by simpa using hb)
  have Hv3 := Lib.hid hv3
  have hs3 : W2.heap.size ≤ w3.heap.size := K4.size
  have hs4 : w3.heap.size ≤ w4.heap.size := K5.size
  clear X2 X3 c0 c1 c2 c03 c13 c23 hx hx3 D3 D4 K4 K5 HA3 hv3 kW
  go_cut [18] (fun s18 wx => ∃ b : Bool, s18 = .bool b ∧ Src wx g fc l ∧ Only [g] w4 wx)
  case first =>
    go_wp2_with ((go_at_call 20; (with_reducible refine (oneIn_any g fc l 8 w4 D5 hl (by omega)).mono ?_); rintro e w6 ⟨b, rfl, D6, K6⟩))
    go_meet
    exact ⟨_, rfl, D6, K6⟩
  case rest =>
    obtain ⟨W6, hnew⟩ : ∃ W, W = wc := ⟨_, rfl⟩
    subst hnew
    obtain ⟨b6, rfl, D6, K6⟩ := hcut
    have hA6 := hA4.only K6 (fun q hq hm => by have := hF4.ge q hq; simp at hm; omega) (fun q hq hm => by have := (hA4.ownlt q hq).1; simp at hm; omega)
    have A6 := A3.only K6 (fun q hq hm => by have := (A3.ownlt q hq).1; simp at hm; omega)
    have k6 := fall k5 K6 (by omega)
    have hF4g := hF4.ge
    have HF4 := Lib.hid hF4g
    have hs6 : w3.heap.size ≤ W6.heap.size := Nat.le_trans hs4 K6.size
    clear hA4 A3 k5 hF4 hF4g D5 K6
    refine (show ∀ a w, Code.wp Tryz.prog _ _ a w → _ from by assumption) _ _ ?_
    go_cut [7] (fun s7 wx => ∃ (A : Option Addr) (m C : Nat) (L : List Table) (f : List Nat), s7 = .slice A m C ∧ Rd wx (.slice A m C) L f ∧ Sm.sm L ∧ (∀ b ∈ f, w3.heap.size ≤ b) ∧ Rd wx (.slice a3 p3.length c3') p3 (Value.slice a3 p3.length c3').ownBlock.toList ∧ Src wx g fc l ∧ Only [] w wx)
    case first =>
      have hge6 : ∀ b ∈ (Value.slice a4 L4.length c4).ownBlock.toList ++ f4.flatten, w3.heap.size ≤ b := fun b hb => by
        rcases List.mem_append.1 hb with hb | hb
        · exact (hA6.ownlt b (by simpa using hb)).1
        · exact HF4.out b hb
      have Hge6 := Lib.hid hge6
      clear hge6
      cases b6
      · go_wp2
        go_meet
        exact ⟨a4, _, c4, L4, _, rfl, hA6.rd (by decide), sm4, Hge6.out, A6.rd, D6, k6⟩
      · go_wp2_with (first
          | (at_builtin; refine wpList_cat rfl _ _ 25 rfl w3.heap.size 53 m0 _ 72 Tryz.underlying25 hm0 hmz hm1 hm2 rfl (by decide) (by decide) W6 (.slice a4 L4.length c4) L4 f4 rfl hA6 (Only.refl _ _) hs6 w3.heap.size 53 (.slice a4 L4.length c4) L4 f4 rfl hA6 (table_one _) (fun b hb he => hA6.apart b he hb) (by omega) ?_; intro v9 w9 hA9 hO9 hN9; replace hO9 : Only (Value.slice a4 L4.length c4).ownBlock.toList W6 w9 := hO9; obtain ⟨a9, c9, rfl⟩ := hA9.form)
          | fail "no arm")
        go_meet
        have hown : ∀ b ∈ (Value.slice a4 L4.length c4).ownBlock.toList, w3.heap.size ≤ b := fun b hb => Hge6.out b (List.mem_append_left _ hb)
        have hR9 := hA9.rd (by decide)
        rw [List.length_append] at hR9
        refine ⟨a9, _, c9, L4 ++ L4, _, rfl, hR9, ⟨by rw [List.length_append]; omega, fun t ht => by
          rcases List.mem_append.1 ht with ht | ht
          · exact sm4.2 t ht
          · exact sm4.2 t ht⟩, fun b hb => ?_, Rp.only A6.rd hO9 (fun b hb hm => by have := (Hv3.out b hb).2; have := hown b hm; omega), D6.only hO9 (fun hm => by have := hown _ hm; omega) (fun b hb hm => ?_), k6.then_ hO9 (fun b hb hl => by have := hown b hb; have := k6.size; omega)⟩
        · rcases List.mem_append.1 hb with hb | hb
          · exact (hA9.ownlt b (by simpa using hb)).1
          · rw [List.flatten_append] at hb
            rcases List.mem_append.1 hb with hb | hb <;> exact HF4.out b hb
        · have := hfc b hb; have := hown b hm; omega
    case rest =>
      obtain ⟨W7, hnew⟩ : ∃ W, W = wc := ⟨_, rfl⟩
      subst hnew
      obtain ⟨A7, m7, C7, L7, f7, rfl, r7, sm7, ge7, rp7, D7, k7⟩ := hcut
      clear hA6 A6 k6 D6 hs6 sm4 HF4
      refine (show ∀ a w, Code.wp Tryz.prog _ _ a w → _ from by assumption) _ _ ?_
      go_upto_region 7 with fail
      go_cut [23] (fun s23 wx => ∃ b : Bool, s23 = .bool b ∧ Src wx g fc l ∧ Only [g] W7 wx)
      case first =>
        go_wp2_with ((go_at_call 20; (with_reducible refine (oneIn_any g fc l 12 W7 D7 hl (by omega)).mono ?_); rintro e w8 ⟨b, rfl, D8, K8⟩))
        go_meet
        exact ⟨_, rfl, D8, K8⟩
      case rest =>
        obtain ⟨W8, hnew⟩ : ∃ W, W = wc := ⟨_, rfl⟩
        subst hnew
        obtain ⟨b8, rfl, D8, K8⟩ := hcut
        have r8 := Rp.only r7 K8 (fun b hb hm => by have := ge7 b hb; simp at hm; omega)
        have rp8 := Rp.only rp7 K8 (fun b hb hm => by have := (Hv3.out b hb).1; simp at hm; omega)
        have k8 := fall k7 K8 (by omega)
        clear r7 rp7 k7 D7 K8
        refine (show ∀ a w, Code.wp Tryz.prog _ _ a w → _ from by assumption) _ _ ?_
        cases b8
        · go_wp2
          exact bodyPost_ret (v := .tuple #[.slice a3 p3.length c3', .slice A7 m7 C7]) (by simp [results, Tryz.results5, go_sem]) rfl ⟨_, p3, _, _, L7, _, rfl, rp8, r8, sm7, k8⟩
        · go_wp2_with (at_make; refine wpList_make_full _ rfl _ _ 25 rfl W8.heap.size 53 m0 _ 3 Tryz.underlying25 hm0 hmz hm1 _ _ _ _ 5 rfl rfl rfl rfl (by rw [hm2]; omega) (by unfold maxLen; omega) (Nat.le_refl _) ?_; intro w9 hown hgr)
          have k9 : Only [] W8 w9 := (Only.refl _ _).grown hgr (by simp)
          have hAc := made_tabs hown
          exact bodyPost_ret (v := .tuple #[.slice a3 p3.length c3', .slice (some ⟨W8.heap.size, 0, none⟩) 5 5]) (by simp [results, Tryz.results5, go_sem]) rfl ⟨_, p3, _, _, List.replicate 5 noTab, _, rfl, Rp.keep rp8 k9, hAc.rd (by decide), ⟨by decide, fun t ht => by rw [List.eq_of_mem_replicate ht]; exact ⟨sm_nil, sm_nil, sm_nil⟩⟩, k8.trans k9⟩
/-- drawn: two certificates -/
def DSC (w : World) (e : Ending) (w' : World) : Prop :=
  ∃ (c d : Certificate) (A1 A2 A3 D1 D2 D3 : Option Addr) (n1 n2 n3 C1 C2 C3 m1 m2 m3 E1 E2 E3 : Nat) (f f' : List Nat), e = .returned (.tuple #[.agg #[.int .i64 c.kind, .slice A1 n1 C1, .slice A2 n2 C2, .slice A3 n3 C3], .agg #[.int .i64 d.kind, .slice D1 m1 E1, .slice D2 m2 E2, .slice D3 m3 E3]]) ∧ Rp.rep w' [.int .i64 c.kind, .slice A1 n1 C1, .slice A2 n2 C2, .slice A3 n3 C3] c f ∧ Rp.rep w' [.int .i64 d.kind, .slice D1 m1 E1, .slice D2 m2 E2, .slice D3 m3 E3] d f' ∧ Only [] w w'
/-- both results stored -/
theorem DSC.mk {w V : World} {c d : Certificate} {A1 A2 A3 D1 D2 D3 : Option Addr} {n1 n2 n3 C1 C2 C3 m1 m2 m3 E1 E2 E3 : Nat} {f f' : List Nat} {x0 x1 x2 x3 y0 y1 y2 y3 : Value} (k : Only [] w V) (R0 : Blk V w.heap.size [x0, x1, x2, x3]) (R1 : Blk V (w.heap.size + 1) [y0, y1, y2, y3]) (hr : Rp.rep V [.int .i64 c.kind, .slice A1 n1 C1, .slice A2 n2 C2, .slice A3 n3 C3] c f) (hf : ∀ b ∈ f, w.heap.size + 2 ≤ b) (hr' : Rp.rep V [.int .i64 d.kind, .slice D1 m1 E1, .slice D2 m2 E2, .slice D3 m3 E3] d f') (hf' : ∀ b ∈ f', w.heap.size + 2 ≤ b) :
    Blk (((((((((V.setCell ⟨w.heap.size, 0, none⟩ (.int .i64 c.kind)).setCell ⟨w.heap.size, 1, none⟩ (.slice A1 n1 C1)).setCell ⟨w.heap.size, 2, none⟩ (.slice A2 n2 C2)).setCell ⟨w.heap.size, 3, none⟩ (.slice A3 n3 C3)).setCell ⟨w.heap.size + 1, 0, none⟩ (.int .i64 d.kind)).setCell ⟨w.heap.size + 1, 1, none⟩ (.slice D1 m1 E1)).setCell ⟨w.heap.size + 1, 2, none⟩ (.slice D2 m2 E2)).setCell ⟨w.heap.size + 1, 3, none⟩ (.slice D3 m3 E3))) w.heap.size [.int .i64 c.kind, .slice A1 n1 C1, .slice A2 n2 C2, .slice A3 n3 C3] ∧ Blk (((((((((V.setCell ⟨w.heap.size, 0, none⟩ (.int .i64 c.kind)).setCell ⟨w.heap.size, 1, none⟩ (.slice A1 n1 C1)).setCell ⟨w.heap.size, 2, none⟩ (.slice A2 n2 C2)).setCell ⟨w.heap.size, 3, none⟩ (.slice A3 n3 C3)).setCell ⟨w.heap.size + 1, 0, none⟩ (.int .i64 d.kind)).setCell ⟨w.heap.size + 1, 1, none⟩ (.slice D1 m1 E1)).setCell ⟨w.heap.size + 1, 2, none⟩ (.slice D2 m2 E2)).setCell ⟨w.heap.size + 1, 3, none⟩ (.slice D3 m3 E3))) (w.heap.size + 1) [.int .i64 d.kind, .slice D1 m1 E1, .slice D2 m2 E2, .slice D3 m3 E3] ∧ DSC w (.returned (.tuple #[.agg #[.int .i64 c.kind, .slice A1 n1 C1, .slice A2 n2 C2, .slice A3 n3 C3], .agg #[.int .i64 d.kind, .slice D1 m1 E1, .slice D2 m2 E2, .slice D3 m3 E3]])) (((((((((V.setCell ⟨w.heap.size, 0, none⟩ (.int .i64 c.kind)).setCell ⟨w.heap.size, 1, none⟩ (.slice A1 n1 C1)).setCell ⟨w.heap.size, 2, none⟩ (.slice A2 n2 C2)).setCell ⟨w.heap.size, 3, none⟩ (.slice A3 n3 C3)).setCell ⟨w.heap.size + 1, 0, none⟩ (.int .i64 d.kind)).setCell ⟨w.heap.size + 1, 1, none⟩ (.slice D1 m1 E1)).setCell ⟨w.heap.size + 1, 2, none⟩ (.slice D2 m2 E2)).setCell ⟨w.heap.size + 1, 3, none⟩ (.slice D3 m3 E3))) := by
  have k0 := only_set4 V w.heap.size (.int .i64 c.kind) (.slice A1 n1 C1) (.slice A2 n2 C2) (.slice A3 n3 C3)
  have k1 := only_set4 (((((V.setCell ⟨w.heap.size, 0, none⟩ (.int .i64 c.kind)).setCell ⟨w.heap.size, 1, none⟩ (.slice A1 n1 C1)).setCell ⟨w.heap.size, 2, none⟩ (.slice A2 n2 C2)).setCell ⟨w.heap.size, 3, none⟩ (.slice A3 n3 C3))) (w.heap.size + 1) (.int .i64 d.kind) (.slice D1 m1 E1) (.slice D2 m2 E2) (.slice D3 m3 E3)
  have S0 := R0.set4 (.int .i64 c.kind) (.slice A1 n1 C1) (.slice A2 n2 C2) (.slice A3 n3 C3)
  have S1 := (R1.only k0 (by simp)).set4 (.int .i64 d.kind) (.slice D1 m1 E1) (.slice D2 m2 E2) (.slice D3 m3 E3)
  refine ⟨S0.only k1 (by simp), S1, c, d, A1, A2, A3, D1, D2, D3, n1, n2, n3, C1, C2, C3, m1, m2, m3, E1, E2, E3, f, f', rfl, Rp.only (Rp.only hr k0 fun b hb hm => ?_) k1 fun b hb hm => ?_, Rp.only (Rp.only hr' k0 fun b hb hm => ?_) k1 fun b hb hm => ?_, (k.then_ k0 fun b hb hl => ?_).then_ k1 fun b hb hl => ?_⟩
  · have := hf b hb; simp at hm; omega
  · have := hf b hb; simp at hm; omega
  · have := hf' b hb; simp at hm; omega
  · have := hf' b hb; simp at hm; omega
  · simp at hb; omega
  · simp at hb; omega
set_option maxHeartbeats 16000000 in
theorem drawSame_any (v : Value) (l : List UInt8) (fc : List Nat) (w : World) (h : Rd w v l fc) (hl : l.length ≤ 4096) :
    Calls Tryz.prog 14 #[v] w (DSC w) := by
  have hfc : ∀ b ∈ fc, b < w.heap.size := Rp.lt h
  have kw : Only [] w ((w.alloc (.cells #[.int .i64 0, .slice none 0 0, .slice none 0 0, .slice none 0 0] 32)).alloc (.cells #[.int .i64 0, .slice none 0 0, .slice none 0 0, .slice none 0 0] 32)) := ((Only.refl _ _).alloc _).alloc _
  have R0 := (Blk.new w [.int .i64 0, .slice none 0 0, .slice none 0 0, .slice none 0 0] 32).keep ((Only.refl _ _).alloc (.cells #[.int .i64 0, .slice none 0 0, .slice none 0 0, .slice none 0 0] 32))
  have R1 := Blk.new (w.alloc (.cells #[.int .i64 0, .slice none 0 0, .slice none 0 0, .slice none 0 0] 32)) [.int .i64 0, .slice none 0 0, .slice none 0 0, .slice none 0 0] 32
  have e1 : (w.alloc (.cells #[.int .i64 0, .slice none 0 0, .slice none 0 0, .slice none 0 0] 32)).heap.size = w.heap.size + 1 := by simp
  have e2 : ((w.alloc (.cells #[.int .i64 0, .slice none 0 0, .slice none 0 0, .slice none 0 0] 32)).alloc (.cells #[.int .i64 0, .slice none 0 0, .slice none 0 0, .slice none 0 0] 32)).heap.size = w.heap.size + 2 := by simp
  rw [e1] at R1
  have hv0 := Rp.keep h kw
  go_enter Tryz.func14, Tryz.ntmps14
  go_upto_region 1 with fail
  rw [show (w.alloc (.cells #[.int .i64 0, .slice none 0 0, .slice none 0 0, .slice none 0 0] 32)).heap.size = w.heap.size + 1 from e1] at *
  obtain ⟨W0, hW0⟩ : ∃ W, W = ((w.alloc (.cells #[.int .i64 0, .slice none 0 0, .slice none 0 0, .slice none 0 0] 32)).alloc (.cells #[.int .i64 0, .slice none 0 0, .slice none 0 0, .slice none 0 0] 32)) := ⟨_, rfl⟩
  rw [← hW0] at kw R0 R1 e2 hv0 ⊢
  clear hW0 e1
  go_upto_region 3 with (first
    | (go_at_call 16; (with_reducible refine (newSource_any v l fc W0 hv0 hl).mono ?_); rintro e w1 ⟨g, rfl, D1, hg, t1⟩; have R01 := R0.keep t1; have R11 := R1.keep t1)
    | (go_at_call 35; (with_reducible refine (drawPuzzleAndState_any g fc l w1 D1 hl).mono ?_); rintro e w2 ⟨n, nm, vm, gs, fp, vs, s, fs, rfl, hn, nl, rm, gem, l9, rs, ges, D2, K2⟩; obtain ⟨am, cm, _, _, rfl, -, -⟩ := rm.open_; obtain ⟨aS, cS, rfl, -⟩ := id rs.ints; have R02 := R01.only K2 (by simp; omega); have R12 := R11.only K2 (by simp; omega))
    | fail "no arm")
  have kal : Only [] w2 (w2.alloc (.cells #[.int .i64 n, .string nm, .slice am gs.length cm] 42)) := (Only.refl _ _).alloc _
  have hg1 := D1.lt
  have hs1 := t1.size
  have hs2 := K2.size
  have X2 := Blk.new w2 [.int .i64 n, .string nm, .slice am gs.length cm] 42
  have D3 := D2.keep kal
  have R03 := R02.keep kal
  have R13 := R12.keep kal
  have hx : Rp.rep (w2.alloc (.cells #[.int .i64 n, .string nm, .slice am gs.length cm] 42)) [.int .i64 n, .string nm, .slice am gs.length cm] (⟨n, nm, gs⟩ : Puzzle) fp := Rp.keep (PzR.rep hn nl rm) kal
  have hs := Rp.keep rs kal
  have hgx : g ∉ fp := fun hm => by have := gem g hm; omega
  have hgs : g ∉ fs := fun hm => by have := ges g hm; omega
  have k3 : Only [] w (w2.alloc (.cells #[.int .i64 n, .string nm, .slice am gs.length cm] 42)) := (fall (kw.trans t1) K2 (by omega)).alloc _
  have hgg : W0.heap.size ≤ g := hg
  obtain ⟨W2, hW2⟩ : ∃ W, W = w2.alloc (.cells #[.int .i64 n, .string nm, .slice am gs.length cm] 42) := ⟨_, rfl⟩
  obtain ⟨pb, hpb⟩ : ∃ pb, pb = w2.heap.size := ⟨_, rfl⟩
  rw [← hW2] at X2 D3 R03 R13 hx hs k3 ⊢
  rw [← hpb] at X2 ⊢
  have hpg : g < pb := by omega
  have hpw : w.heap.size + 2 ≤ pb := by omega
  have hpl : pb < W2.heap.size := X2.lt
  clear hW2 hpb kal D1 D2 R0 R1 R01 R11 R02 R12 t1 K2 kw hv0 hs1 hs2 hg rm rs gem ges h
  have c0 := X2.cell 0 rfl; have c1 := X2.cell 1 rfl; have c2 := X2.cell 2 rfl
  have hm9 : (⟨n, nm, gs⟩ : Puzzle).moves.length ≤ 1000 := by show gs.length ≤ 1000; omega
  have hdx := Lib.hid (show ∀ b ∈ fp, b ∉ [g] from fun b hb hm => hgx (by simp at hm; subst hm; exact hb))
  have hds := Lib.hid (show ∀ b ∈ fs, b ∉ [g] from fun b hb hm => hgs (by simp at hm; subst hm; exact hb))
  go_upto_region 4 with (first
    | (go_at_call 36; (with_reducible refine (drawCertificate_any g fc l [.int .i64 n, .string nm, .slice am gs.length cm] ⟨n, nm, gs⟩ fp (.slice aS s.length cS) s fs W2 D3 hl hx hgx hs hgs hm9).mono ?_); rintro e w3 ⟨c, A1, n1, C1, A2, n2, C2, A3, n3, C3, f, rfl, rc, gec, csc, D4, K4⟩)
    | fail "no arm")
  have kal : Only [] w3 (w3.alloc (.cells #[.int .i64 c.kind, .slice A1 n1 C1, .slice A2 n2 C2, .slice A3 n3 C3] 32)) := (Only.refl _ _).alloc _
  have Y3 := Blk.new w3 [.int .i64 c.kind, .slice A1 n1 C1, .slice A2 n2 C2, .slice A3 n3 C3] 32
  have X3 := (X2.only K4 (by simp; omega)).keep kal
  have D5 := D4.keep kal
  have R04 := (R03.only K4 (by simp; omega)).keep kal
  have R14 := (R13.only K4 (by simp; omega)).keep kal
  have hx4 := Rp.keep (Rp.only hx K4 hdx.out) kal
  have hs4 := Rp.keep (Rp.only hs K4 hds.out) kal
  have rc4 := Rp.keep rc kal
  have k4 := (fall k3 K4 (by omega)).alloc (.cells #[.int .i64 c.kind, .slice A1 n1 C1, .slice A2 n2 C2, .slice A3 n3 C3] 32)
  have hyg : g < w3.heap.size := D4.lt
  obtain ⟨W3, hW3⟩ : ∃ W, W = w3.alloc (.cells #[.int .i64 c.kind, .slice A1 n1 C1, .slice A2 n2 C2, .slice A3 n3 C3] 32) := ⟨_, rfl⟩
  obtain ⟨yb, hyb⟩ : ∃ yb, yb = w3.heap.size := ⟨_, rfl⟩
  rw [← hW3] at Y3 X3 D5 R04 R14 hx4 hs4 rc4 k4 ⊢
  rw [← hyb] at Y3 hyg ⊢
  have hfw : ∀ b ∈ f, w.heap.size + 2 ≤ b ∧ b ≠ g := fun b hb => by have := gec b hb; omega
  have Hfw := Lib.hid hfw
  clear hW3 hyb kal D3 D4 X2 R03 R13 hx hs rc k3 c0 c1 c2 gec hfw K4
  go_cut [20] (fun s20 wx => ∃ b : Bool, s20 = .bool b ∧ Src wx g fc l ∧ Only [g] W3 wx)
  case first =>
    go_wp2_with ((go_at_call 20; (with_reducible refine (oneIn_any g fc l 2 W3 D5 hl (by omega)).mono ?_); rintro e w5 ⟨b, rfl, D6, K6⟩))
    go_meet
    exact ⟨_, rfl, D6, K6⟩
  case rest =>
    obtain ⟨W5, hnew⟩ : ∃ W, W = wc := ⟨_, rfl⟩
    subst hnew
    obtain ⟨b5, rfl, D6, K6⟩ := hcut
    have Y5 := Y3.only K6 (by simp; omega)
    have X5 := X3.only K6 (by simp; omega)
    have R05 := R04.only K6 (by simp; omega)
    have R15 := R14.only K6 (by simp; omega)
    have hx5 := Rp.only hx4 K6 hdx.out
    have hs5 := Rp.only hs4 K6 hds.out
    have rc5 := Rp.only rc4 K6 (fun b hb hm => (Hfw.out b hb).2 (by simpa using hm))
    have k5 := fall k4 K6 (by omega)
    clear Y3 X3 R04 R14 hx4 hs4 rc4 k4 D5 K6
    have c0 := X5.cell 0 rfl; have c1 := X5.cell 1 rfl; have c2 := X5.cell 2 rfl
    have d0 := Y5.cell 0 rfl; have d1 := Y5.cell 1 rfl; have d2 := Y5.cell 2 rfl; have d3 := Y5.cell 3 rfl
    have z0 := R05.cell 0 rfl; have z1 := R05.cell 1 rfl; have z2 := R05.cell 2 rfl; have z3 := R05.cell 3 rfl; have zf := R05.frozen
    have u0 := R15.cell 0 rfl; have u1 := R15.cell 1 rfl; have u2 := R15.cell 2 rfl; have u3 := R15.cell 3 rfl; have uf := R15.frozen
    refine (show ∀ a w, Code.wp Tryz.prog _ _ a w → _ from by assumption) _ _ ?_
    cases b5
    · go_upto_region 6 with fail
      go_region_law (first
        | (go_simp; go_at_call 36; (with_reducible refine (drawCertificate_any g fc l [.int .i64 n, .string nm, .slice am gs.length cm] ⟨n, nm, gs⟩ fp (.slice aS s.length cS) s fs _ (D6.keep (by with_reducible repeat (first | exact Only.refl _ _ | assumption | refine Only.drewN ?_ _ | refine Only.drew ?_ | refine Only.alloc ?_ _ | refine Only.trans ?_ (by assumption)))) hl (Rp.keep hx5 (by with_reducible repeat (first | exact Only.refl _ _ | assumption | refine Only.drewN ?_ _ | refine Only.drew ?_ | refine Only.alloc ?_ _ | refine Only.trans ?_ (by assumption)))) hgx (Rp.keep hs5 (by with_reducible repeat (first | exact Only.refl _ _ | assumption | refine Only.drewN ?_ _ | refine Only.drew ?_ | refine Only.alloc ?_ _ | refine Only.trans ?_ (by assumption)))) hgs hm9).mono ?_); rintro en w6 ⟨d, D1, m1, E1, D2, m2, E2, D3, m3, E3, f', rfl, rd6, ged, csd, D7, K7⟩; have K56 : Only [g] W5 w6 := Only.trans (by with_reducible repeat (first | exact Only.refl _ _ | assumption | refine Only.drewN ?_ _ | refine Only.drew ?_ | refine Only.alloc ?_ _ | refine Only.trans ?_ (by assumption))) K7; have Y6 := Y5.only K56 (by simp; omega); have R06 := R05.only K56 (by simp; omega); have R16 := R15.only K56 (by simp; omega); have d06 := Y6.cell 0 rfl; have d16 := Y6.cell 1 rfl; have d26 := Y6.cell 2 rfl; have d36 := Y6.cell 3 rfl; have z06 := R06.cell 0 rfl; have z16 := R06.cell 1 rfl; have z26 := R06.cell 2 rfl; have z36 := R06.cell 3 rfl; have zf6 := R06.frozen; have u06 := R16.cell 0 rfl; have u16 := R16.cell 1 rfl; have u26 := R16.cell 2 rfl; have u36 := R16.cell 3 rfl; have uf6 := R16.frozen)
        | fail "no arm")
      all_goals
        go_wp2
        have hW5 : w.heap.size + 2 ≤ W5.heap.size := by have := X5.lt; omega
        have ged' : ∀ b ∈ f', w.heap.size + 2 ≤ b := fun b hb => by have h1 := ged b hb; first | omega | (simp at h1; omega)
        obtain ⟨q0, q1, hD⟩ := DSC.mk (c := c) (d := d) (fall k5 K56 (by omega)) R06 R16 (Rp.only rc5 K56 (fun b hb hm => (Hfw.out b hb).2 (by simpa using hm))) (fun b hb => (Hfw.out b hb).1) rd6 ged'
        have q00 := q0.cell 0 rfl; have q01 := q0.cell 1 rfl; have q02 := q0.cell 2 rfl; have q03 := q0.cell 3 rfl
        have q10 := q1.cell 0 rfl; have q11 := q1.cell 1 rfl; have q12 := q1.cell 2 rfl; have q13 := q1.cell 3 rfl
        exact bodyPost_ret (v := .tuple #[.agg #[.int .i64 c.kind, .slice A1 n1 C1, .slice A2 n2 C2, .slice A3 n3 C3], .agg #[.int .i64 d.kind, .slice D1 m1 E1, .slice D2 m2 E2, .slice D3 m3 E3]]) (by simp [results, Tryz.results14, go_sem, q00, q01, q02, q03, q10, q11, q12, q13]) rfl hD
    · obtain ⟨p1, p2, p3, -, hk, hn5, hw5, ht5⟩ := cert_parts rc5
      have hsn : Sm.sm c.numbers := csc.1.1
      have hsw : Sm.sm c.words := csc.1.2.1
      have hst : Sm.sm c.tables := csc.1.2.2
      go_upto_region 5 with fail
      go_region_law (first
        | (go_simp; go_at_call 37; (with_reducible refine (copyCertificate_any c.kind (.slice A1 n1 C1) (.slice A2 n2 C2) (.slice A3 n3 C3) c.numbers c.words c.tables p1 p2 p3 _ (Rp.keep hn5 (by with_reducible repeat (first | exact Only.refl _ _ | assumption | refine Only.drewN ?_ _ | refine Only.drew ?_ | refine Only.alloc ?_ _ | refine Only.trans ?_ (by assumption)))) (Rp.keep hw5 (by with_reducible repeat (first | exact Only.refl _ _ | assumption | refine Only.drewN ?_ _ | refine Only.drew ?_ | refine Only.alloc ?_ _ | refine Only.trans ?_ (by assumption)))) (Rp.keep ht5 (by with_reducible repeat (first | exact Only.refl _ _ | assumption | refine Only.drewN ?_ _ | refine Only.drew ?_ | refine Only.alloc ?_ _ | refine Only.trans ?_ (by assumption)))) hsn hsw hst).mono ?_); rintro en w6 ⟨vn, vw, vt, fw, ft, B1, B2, rfl, CA, K7⟩; obtain ⟨D1, m1, E1, rfl⟩ : ∃ a m c, vn = Value.slice a m c := (let ⟨a, c, hh⟩ := CA.an.form; ⟨a, _, c, hh⟩); obtain ⟨D2, m2, E2, rfl⟩ : ∃ a m c, vw = Value.slice a m c := (let ⟨a, c, hh⟩ := CA.aw.form; ⟨a, _, c, hh⟩); obtain ⟨D3, m3, E3, rfl⟩ : ∃ a m c, vt = Value.slice a m c := (let ⟨a, c, hh⟩ := CA.at_.form; ⟨a, _, c, hh⟩); have K56 : Only [] W5 w6 := Only.trans (by with_reducible repeat (first | exact Only.refl _ _ | assumption | refine Only.drewN ?_ _ | refine Only.drew ?_ | refine Only.alloc ?_ _ | refine Only.trans ?_ (by assumption))) K7; have Y6 := Y5.keep K56; have R06 := R05.keep K56; have R16 := R15.keep K56; have d06 := Y6.cell 0 rfl; have d16 := Y6.cell 1 rfl; have d26 := Y6.cell 2 rfl; have d36 := Y6.cell 3 rfl; have z06 := R06.cell 0 rfl; have z16 := R06.cell 1 rfl; have z26 := R06.cell 2 rfl; have z36 := R06.cell 3 rfl; have zf6 := R06.frozen; have u06 := R16.cell 0 rfl; have u16 := R16.cell 1 rfl; have u26 := R16.cell 2 rfl; have u36 := R16.cell 3 rfl; have uf6 := R16.frozen; have HCA := Lib.hid CA; clear CA)
        | fail "no arm")
      all_goals
        go_wp2
        have hW5 : w.heap.size + 2 ≤ W5.heap.size := by have := X5.lt; omega
        have hlt := HCA.out.lt
        obtain ⟨q0, q1, hD⟩ := DSC.mk (c := c) (d := ⟨c.kind, c.numbers, (c.words.map OwnI.mk).map OwnI.l, c.tables⟩) (k5.trans K56) R06 R16 (Rp.keep rc5 K56) (fun b hb => (Hfw.out b hb).1) (HCA.out.rep hk) (fun b hb => by have h1 := (hlt b hb).1; first | omega | (simp at h1; omega))
        have q00 := q0.cell 0 rfl; have q01 := q0.cell 1 rfl; have q02 := q0.cell 2 rfl; have q03 := q0.cell 3 rfl
        have q10 := q1.cell 0 rfl; have q11 := q1.cell 1 rfl; have q12 := q1.cell 2 rfl; have q13 := q1.cell 3 rfl
        exact bodyPost_ret (v := .tuple #[.agg #[.int .i64 c.kind, .slice A1 n1 C1, .slice A2 n2 C2, .slice A3 n3 C3], .agg #[.int .i64 c.kind, .slice D1 m1 E1, .slice D2 m2 E2, .slice D3 m3 E3]]) (by simp [results, Tryz.results14, go_sem, q00, q01, q02, q03, q10, q11, q12, q13]) rfl hD
end Go.Proofs.YtlbcjkjoapcppaaGreat

namespace Go.Proofs.YtlbcjkjoapcppaaGreat
open Go.RowKit
set_option maxRecDepth 10000

set_option maxHeartbeats 1000000 in
/-- slices.EqualFunc over slices of tables -/
theorem EqualFunc_tables (f : FuncId) (caps : Array Value) (hcf : ∀ args w, (callFunc f args).run Tryz.prog w = .ok (.enter f args) w)
    (v v' : Value) (l l' : List Table) (fp fp' : List Nat) (w : World) (h : Rd w v l fp) (h' : Rd w v' l' fp')
    (hc : ∀ (cs cs' : List Value) (x x' : Table) (f1 f1' : List Nat) (w' : World), Rp.rep w' cs x f1 → Rp.rep w' cs' x' f1' → Calls Tryz.prog f (#[.agg cs.toArray, .agg cs'.toArray] ++ caps) w' fun e w'' => e = .returned (.bool (eqV x x')) ∧ Only [] w' w'') :
    Calls Tryz.prog 40 #[v, v', .func (.func f) #[] caps] w fun e w' => e = .returned (.bool (eqV l l')) ∧ Only [] w w' := by
  obtain ⟨a, cap, ob, fps, rfl, -, hs⟩ := h.open_
  obtain ⟨a', cap', ob', fps', rfl, -, hs'⟩ := h'.open_
  have hb := hs.bound
  have hb' := hs'.bound
  have HC := Lib.hid hc
  clear hc
  by_cases hl : l.length = l'.length
  · have hne : ((l.length : Int) != (l'.length : Int)) = false := by simp [hl]
    have Hl := Lib.hid hl; clear hl
    go_enter Tryz.func40, Tryz.ntmps40
    go_wp2
    go_loopw [7, 8, 9, 17] (fun _ _ _ i wr => ∃ j : Nat, j ≤ l.length ∧ i = .int .i64 j ∧ l.take j = l'.take j ∧ Only [] w wr)
      (fun _ _ _ i _ => l.length - (intOf i).toNat)
    case atStart => exact ⟨0, Nat.zero_le _, rfl, rfl, Only.refl _ _⟩
    case round =>
      obtain ⟨j, hj, rfl, hr, hK⟩ := hrel
      have Hr := Lib.hid hr; clear hr
      by_cases hlt : j < l.length
      · have hlt' : j < l'.length := by have := Hl.out; omega
        obtain ⟨b, off, v1, v2, v3, rfl, -, c1, c2, c3, hv⟩ := hs.at3 j hlt
        obtain ⟨b', off', v1', v2', v3', rfl, -, c1', c2', c3', hv'⟩ := hs'.at3 j hlt'
        have d1 := hK.cell (by simp) c1
        have d2 := hK.cell (by simp) c2
        have d3 := hK.cell (by simp) c3
        have d1' := hK.cell (by simp) c1'
        have d2' := hK.cell (by simp) c2'
        have d3' := hK.cell (by simp) c3'
        have k0 := World.block_lt_of_cell? wr _ d1
        have k0' := World.block_lt_of_cell? wr _ d1'
        simp only at k0 k0'
        have q := hv
        obtain ⟨_, _, _, _, _, _, hq, -, s1, s2, s3⟩ := q
        injection hq with e1 hq; injection hq with e2 hq; injection hq with e3 hq; subst e1; subst e2; subst e3
        obtain ⟨A1, C1, _, _, rfl, -⟩ := s1.open_
        obtain ⟨A2, C2, _, _, rfl, -⟩ := s2.open_
        obtain ⟨A3, C3, _, _, rfl, -⟩ := s3.open_
        have q' := hv'
        obtain ⟨_, _, _, _, _, _, hq', -, s1', s2', s3'⟩ := q'
        injection hq' with e1 hq'; injection hq' with e2 hq'; injection hq' with e3 hq'; subst e1; subst e2; subst e3
        obtain ⟨A1', C1', _, _, rfl, -⟩ := s1'.open_
        obtain ⟨A2', C2', _, _, rfl, -⟩ := s2'.open_
        obtain ⟨A3', C3', _, _, rfl, -⟩ := s3'.open_
        clear c1 c2 c3 c1' c2' c3' hq hq'
        rcases hq : eqV l[j] l'[j]
        all_goals go_wp2_with (with_reducible refine (HC.out [.slice A1 l[j].tracked.length C1, .slice A2 l[j].patterns.length C2, .slice A3 l[j].distances.length C3] [.slice A1' l'[j].tracked.length C1', .slice A2' l'[j].patterns.length C2', .slice A3' l'[j].distances.length C3'] l[j] l'[j] _ _ ((wr.alloc (.cells #[.slice A1 l[j].tracked.length C1, .slice A2 l[j].patterns.length C2, .slice A3 l[j].distances.length C3] 53)).alloc (.cells #[.slice A1' l'[j].tracked.length C1', .slice A2' l'[j].patterns.length C2', .slice A3' l'[j].distances.length C3'] 53)) (Rp.keep hv ((hK.alloc _).alloc _)) (Rp.keep hv' ((hK.alloc _).alloc _))).mono ?_; rintro e w1 ⟨rfl, hk1⟩)
        · go_ret
          exact ⟨ret_bool (eqL_no hlt hlt' hq).symm, ((hK.alloc _).alloc _).trans hk1⟩
        · go_roundw
          case rel => exact ⟨j + 1, by omega, by go_num, eqL_step hlt hlt' hq Hr.out, ((hK.alloc _).alloc _).trans hk1⟩
          case measure => simp [intOf]; omega
      · go_wp2
        go_ret
        exact ⟨ret_bool (eqL_yes Hl.out hlt Hr.out).symm, hK⟩
  · have hne : ((l.length : Int) != (l'.length : Int)) = true := by simp; omega
    go_enter Tryz.func40, Tryz.ntmps40
    go_wp2
    go_ret
    exact ⟨ret_bool (eqL_len hne).symm, Only.refl _ _⟩

theorem EqualFunc_sameTable (v v' : Value) (l l' : List Table) (fp fp' : List Nat) (w : World) (h : Rd w v l fp) (h' : Rd w v' l' fp') :
    Calls Tryz.prog 40 #[v, v', .func (.func 41) #[] #[]] w fun e w' => e = .returned (.bool (eqV l l')) ∧ Only [] w w' :=
  EqualFunc_tables 41 #[] Tryz.call41 v v' l l' fp fp' w h h' (fun cs cs' x x' f1 f1' w' r r' => implSameTable_any cs cs' x x' f1 f1' w' r r')

theorem Certificate.neq {c c' : Certificate} (h : c.kind ≠ c'.kind ∨ eqV c.numbers c'.numbers = false ∨ eqV c.words c'.words = false ∨ eqV c.tables c'.tables = false) : eqV c c' = false :=
  eqV_no fun he => by
    subst he
    rcases h with h | h | h | h
    · exact h rfl
    · exact (eqV_iff'.1 h) rfl
    · exact (eqV_iff'.1 h) rfl
    · exact (eqV_iff'.1 h) rfl
theorem Certificate.yes {c c' : Certificate} (h0 : c.kind = c'.kind) (h1 : eqV c.numbers c'.numbers = true) (h2 : eqV c.words c'.words = true) (h3 : eqV c.tables c'.tables = true) : eqV c c' = true :=
  eqV_yes (Certificate.eq_iff.2 ⟨h0, eqV_iff.1 h1, eqV_iff.1 h2, eqV_iff.1 h3⟩)

set_option maxHeartbeats 2000000 in
theorem implSameCertificate_any (cs cs' : List Value) (x y : Certificate) (fp fp' : List Nat) (w : World) (h : Rp.rep w cs x fp) (h' : Rp.rep w cs' y fp') :
    Calls Tryz.prog 15 #[.agg cs.toArray, .agg cs'.toArray] w fun e w' => e = .returned (.bool (eqV x y)) ∧ Only [] w w' := by
  obtain ⟨v1, v2, v3, f1, f2, f3, rfl, rfl, p0, h1, h2, h3⟩ := h
  obtain ⟨v1', v2', v3', f1', f2', f3', rfl, rfl, p0', h1', h2', h3'⟩ := h'
  by_cases q0 : x.kind ≠ y.kind
  · have b0 : (x.kind == y.kind) = false := by simpa using q0
    go_enter Tryz.func15, Tryz.ntmps15
    go_wp2
    go_ret
    exact ⟨ret_bool (Certificate.neq (.inl q0)).symm, (by with_reducible repeat (first | exact Only.refl _ _ | assumption | refine Only.drewN ?_ _ | refine Only.drew ?_ | refine Only.alloc ?_ _ | refine Only.setCell ?_ (by intro hh; exfalso; simp at hh; try omega) _ | refine Only.trans ?_ (by assumption)))⟩
  have q0 := Classical.not_not.1 q0
  have b0 : (x.kind == y.kind) = true := by simpa using q0
  have Q0 := Lib.hid q0
  clear q0
  rcases q1 : eqV x.numbers y.numbers
  · go_enter Tryz.func15, Tryz.ntmps15
    go_wp2_with ((go_at_call 38; (with_reducible refine (Equal_rd v1 v1' x.numbers y.numbers _ _ _ (Rp.keep h1 (by with_reducible repeat (first | exact Only.refl _ _ | assumption | refine Only.drewN ?_ _ | refine Only.drew ?_ | refine Only.alloc ?_ _ | refine Only.setCell ?_ (by intro hh; exfalso; simp at hh; try omega) _ | refine Only.trans ?_ (by assumption)))) (Rp.keep h1' (by with_reducible repeat (first | exact Only.refl _ _ | assumption | refine Only.drewN ?_ _ | refine Only.drew ?_ | refine Only.alloc ?_ _ | refine Only.setCell ?_ (by intro hh; exfalso; simp at hh; try omega) _ | refine Only.trans ?_ (by assumption))))).mono ?_); rintro e w1 ⟨rfl, n1, rfl⟩))
    go_ret
    exact ⟨ret_bool (Certificate.neq (.inr (.inl q1))).symm, (by with_reducible repeat (first | exact Only.refl _ _ | assumption | refine Only.drewN ?_ _ | refine Only.drew ?_ | refine Only.alloc ?_ _ | refine Only.setCell ?_ (by intro hh; exfalso; simp at hh; try omega) _ | refine Only.trans ?_ (by assumption)))⟩
  rcases q2 : eqV x.words y.words
  · go_enter Tryz.func15, Tryz.ntmps15
    go_wp2_with (first
      | (go_at_call 38; (with_reducible refine (Equal_rd v1 v1' x.numbers y.numbers _ _ _ (Rp.keep h1 (by with_reducible repeat (first | exact Only.refl _ _ | assumption | refine Only.drewN ?_ _ | refine Only.drew ?_ | refine Only.alloc ?_ _ | refine Only.setCell ?_ (by intro hh; exfalso; simp at hh; try omega) _ | refine Only.trans ?_ (by assumption)))) (Rp.keep h1' (by with_reducible repeat (first | exact Only.refl _ _ | assumption | refine Only.drewN ?_ _ | refine Only.drew ?_ | refine Only.alloc ?_ _ | refine Only.setCell ?_ (by intro hh; exfalso; simp at hh; try omega) _ | refine Only.trans ?_ (by assumption))))).mono ?_); rintro e w1 ⟨rfl, n1, rfl⟩)
      | (go_at_call 39; (with_reducible refine (samePartition_rd v2 v2' x.words y.words _ _ _ (Rp.keep h2 (by with_reducible repeat (first | exact Only.refl _ _ | assumption | refine Only.drewN ?_ _ | refine Only.drew ?_ | refine Only.alloc ?_ _ | refine Only.setCell ?_ (by intro hh; exfalso; simp at hh; try omega) _ | refine Only.trans ?_ (by assumption)))) (Rp.keep h2' (by with_reducible repeat (first | exact Only.refl _ _ | assumption | refine Only.drewN ?_ _ | refine Only.drew ?_ | refine Only.alloc ?_ _ | refine Only.setCell ?_ (by intro hh; exfalso; simp at hh; try omega) _ | refine Only.trans ?_ (by assumption))))).mono ?_); rintro e w2 ⟨rfl, t2⟩))
    go_ret
    exact ⟨ret_bool (Certificate.neq (.inr (.inr (.inl q2)))).symm, (by with_reducible repeat (first | exact Only.refl _ _ | assumption | refine Only.drewN ?_ _ | refine Only.drew ?_ | refine Only.alloc ?_ _ | refine Only.setCell ?_ (by intro hh; exfalso; simp at hh; try omega) _ | refine Only.trans ?_ (by assumption)))⟩
  rcases q3 : eqV x.tables y.tables
  all_goals go_enter Tryz.func15, Tryz.ntmps15
  all_goals go_wp2_with (first
      | (go_at_call 38; (with_reducible refine (Equal_rd v1 v1' x.numbers y.numbers _ _ _ (Rp.keep h1 (by with_reducible repeat (first | exact Only.refl _ _ | assumption | refine Only.drewN ?_ _ | refine Only.drew ?_ | refine Only.alloc ?_ _ | refine Only.setCell ?_ (by intro hh; exfalso; simp at hh; try omega) _ | refine Only.trans ?_ (by assumption)))) (Rp.keep h1' (by with_reducible repeat (first | exact Only.refl _ _ | assumption | refine Only.drewN ?_ _ | refine Only.drew ?_ | refine Only.alloc ?_ _ | refine Only.setCell ?_ (by intro hh; exfalso; simp at hh; try omega) _ | refine Only.trans ?_ (by assumption))))).mono ?_); rintro e w1 ⟨rfl, n1, rfl⟩)
      | (go_at_call 39; (with_reducible refine (samePartition_rd v2 v2' x.words y.words _ _ _ (Rp.keep h2 (by with_reducible repeat (first | exact Only.refl _ _ | assumption | refine Only.drewN ?_ _ | refine Only.drew ?_ | refine Only.alloc ?_ _ | refine Only.setCell ?_ (by intro hh; exfalso; simp at hh; try omega) _ | refine Only.trans ?_ (by assumption)))) (Rp.keep h2' (by with_reducible repeat (first | exact Only.refl _ _ | assumption | refine Only.drewN ?_ _ | refine Only.drew ?_ | refine Only.alloc ?_ _ | refine Only.setCell ?_ (by intro hh; exfalso; simp at hh; try omega) _ | refine Only.trans ?_ (by assumption))))).mono ?_); rintro e w2 ⟨rfl, t2⟩; have y0 := t2.cells_eq w.heap.size (by simp; try omega) (by simp); have y1 := t2.cells_eq (w.heap.size + 1) (by simp) (by simp))
      | (go_at_call 40; (with_reducible refine (EqualFunc_sameTable v3 v3' x.tables y.tables _ _ _ (Rp.keep h3 (by with_reducible repeat (first | exact Only.refl _ _ | assumption | refine Only.drewN ?_ _ | refine Only.drew ?_ | refine Only.alloc ?_ _ | refine Only.setCell ?_ (by intro hh; exfalso; simp at hh; try omega) _ | refine Only.trans ?_ (by assumption)))) (Rp.keep h3' (by with_reducible repeat (first | exact Only.refl _ _ | assumption | refine Only.drewN ?_ _ | refine Only.drew ?_ | refine Only.alloc ?_ _ | refine Only.setCell ?_ (by intro hh; exfalso; simp at hh; try omega) _ | refine Only.trans ?_ (by assumption))))).mono ?_); rintro e w3 ⟨rfl, t3⟩))
  · go_ret
    exact ⟨ret_bool (Certificate.neq (.inr (.inr (.inr q3)))).symm, (by with_reducible repeat (first | exact Only.refl _ _ | assumption | refine Only.drewN ?_ _ | refine Only.drew ?_ | refine Only.alloc ?_ _ | refine Only.setCell ?_ (by intro hh; exfalso; simp at hh; try omega) _ | refine Only.trans ?_ (by assumption)))⟩
  · go_ret
    exact ⟨ret_bool (Certificate.yes Q0.out q1 q2 q3).symm, (by with_reducible repeat (first | exact Only.refl _ _ | assumption | refine Only.drewN ?_ _ | refine Only.drew ?_ | refine Only.alloc ?_ _ | refine Only.setCell ?_ (by intro hh; exfalso; simp at hh; try omega) _ | refine Only.trans ?_ (by assumption)))⟩

set_option maxHeartbeats 2000000 in
theorem specSameCertificate_any (cs cs' : List Value) (x y : Certificate) (fp fp' : List Nat) (w : World) (h : Rp.rep w cs x fp) (h' : Rp.rep w cs' y fp') :
    Calls Tryz.prog 10 #[.agg cs.toArray, .agg cs'.toArray] w fun e w' => e = .returned (.bool (eqV x y)) ∧ Only [] w w' := by
  obtain ⟨v1, v2, v3, f1, f2, f3, rfl, rfl, p0, h1, h2, h3⟩ := h
  obtain ⟨v1', v2', v3', f1', f2', f3', rfl, rfl, p0', h1', h2', h3'⟩ := h'
  by_cases q0 : x.kind ≠ y.kind
  · have b0 : (x.kind != y.kind) = true := by simpa using q0
    go_enter Tryz.func10, Tryz.ntmps10
    go_wp2
    go_ret
    exact ⟨ret_bool (Certificate.neq (.inl q0)).symm, (by with_reducible repeat (first | exact Only.refl _ _ | assumption | refine Only.drewN ?_ _ | refine Only.drew ?_ | refine Only.alloc ?_ _ | refine Only.setCell ?_ (by intro hh; exfalso; simp at hh; try omega) _ | refine Only.trans ?_ (by assumption)))⟩
  have q0 := Classical.not_not.1 q0
  have b0 : (x.kind != y.kind) = false := by simpa using q0
  have Q0 := Lib.hid q0
  clear q0
  rcases q1 : eqV x.numbers y.numbers
  · go_enter Tryz.func10, Tryz.ntmps10
    go_wp2_with ((go_at_call 28; (with_reducible refine (equalInts_rd v1 v1' x.numbers y.numbers _ _ _ (Rp.keep h1 (by with_reducible repeat (first | exact Only.refl _ _ | assumption | refine Only.drewN ?_ _ | refine Only.drew ?_ | refine Only.alloc ?_ _ | refine Only.setCell ?_ (by intro hh; exfalso; simp at hh; try omega) _ | refine Only.trans ?_ (by assumption)))) (Rp.keep h1' (by with_reducible repeat (first | exact Only.refl _ _ | assumption | refine Only.drewN ?_ _ | refine Only.drew ?_ | refine Only.alloc ?_ _ | refine Only.setCell ?_ (by intro hh; exfalso; simp at hh; try omega) _ | refine Only.trans ?_ (by assumption))))).mono ?_); rintro e w1 ⟨rfl, n1, rfl⟩))
    go_ret
    exact ⟨ret_bool (Certificate.neq (.inr (.inl q1))).symm, (by with_reducible repeat (first | exact Only.refl _ _ | assumption | refine Only.drewN ?_ _ | refine Only.drew ?_ | refine Only.alloc ?_ _ | refine Only.setCell ?_ (by intro hh; exfalso; simp at hh; try omega) _ | refine Only.trans ?_ (by assumption)))⟩
  rcases q2 : eqV x.words y.words
  · go_enter Tryz.func10, Tryz.ntmps10
    go_wp2_with (first
      | (go_at_call 28; (with_reducible refine (equalInts_rd v1 v1' x.numbers y.numbers _ _ _ (Rp.keep h1 (by with_reducible repeat (first | exact Only.refl _ _ | assumption | refine Only.drewN ?_ _ | refine Only.drew ?_ | refine Only.alloc ?_ _ | refine Only.setCell ?_ (by intro hh; exfalso; simp at hh; try omega) _ | refine Only.trans ?_ (by assumption)))) (Rp.keep h1' (by with_reducible repeat (first | exact Only.refl _ _ | assumption | refine Only.drewN ?_ _ | refine Only.drew ?_ | refine Only.alloc ?_ _ | refine Only.setCell ?_ (by intro hh; exfalso; simp at hh; try omega) _ | refine Only.trans ?_ (by assumption))))).mono ?_); rintro e w1 ⟨rfl, n1, rfl⟩)
      | (go_at_call 29; (with_reducible refine (equalPartitions_rd v2 v2' x.words y.words _ _ _ (Rp.keep h2 (by with_reducible repeat (first | exact Only.refl _ _ | assumption | refine Only.drewN ?_ _ | refine Only.drew ?_ | refine Only.alloc ?_ _ | refine Only.setCell ?_ (by intro hh; exfalso; simp at hh; try omega) _ | refine Only.trans ?_ (by assumption)))) (Rp.keep h2' (by with_reducible repeat (first | exact Only.refl _ _ | assumption | refine Only.drewN ?_ _ | refine Only.drew ?_ | refine Only.alloc ?_ _ | refine Only.setCell ?_ (by intro hh; exfalso; simp at hh; try omega) _ | refine Only.trans ?_ (by assumption))))).mono ?_); rintro e w2 ⟨rfl, n2, rfl⟩))
    go_ret
    exact ⟨ret_bool (Certificate.neq (.inr (.inr (.inl q2)))).symm, (by with_reducible repeat (first | exact Only.refl _ _ | assumption | refine Only.drewN ?_ _ | refine Only.drew ?_ | refine Only.alloc ?_ _ | refine Only.setCell ?_ (by intro hh; exfalso; simp at hh; try omega) _ | refine Only.trans ?_ (by assumption)))⟩
  generalize hl : x.tables = l at *
  generalize hl' : y.tables = l' at *
  have L1 := Lib.hid hl
  have L2 := Lib.hid hl'
  clear hl hl'
  obtain ⟨a, cap, ob, fps, rfl, rfl, hs⟩ := h3.open_
  obtain ⟨a', cap', ob', fps', rfl, rfl, hs'⟩ := h3'.open_
  have hb := hs.bound
  have hb' := hs'.bound
  by_cases hlen : l.length ≠ l'.length
  · have hne : ((l.length : Int) != (l'.length : Int)) = true := by simp; omega
    go_enter Tryz.func10, Tryz.ntmps10
    go_wp2_with (first
      | (go_at_call 28; (with_reducible refine (equalInts_rd v1 v1' x.numbers y.numbers _ _ _ (Rp.keep h1 (by with_reducible repeat (first | exact Only.refl _ _ | assumption | refine Only.drewN ?_ _ | refine Only.drew ?_ | refine Only.alloc ?_ _ | refine Only.setCell ?_ (by intro hh; exfalso; simp at hh; try omega) _ | refine Only.trans ?_ (by assumption)))) (Rp.keep h1' (by with_reducible repeat (first | exact Only.refl _ _ | assumption | refine Only.drewN ?_ _ | refine Only.drew ?_ | refine Only.alloc ?_ _ | refine Only.setCell ?_ (by intro hh; exfalso; simp at hh; try omega) _ | refine Only.trans ?_ (by assumption))))).mono ?_); rintro e w1 ⟨rfl, n1, rfl⟩)
      | (go_at_call 29; (with_reducible refine (equalPartitions_rd v2 v2' x.words y.words _ _ _ (Rp.keep h2 (by with_reducible repeat (first | exact Only.refl _ _ | assumption | refine Only.drewN ?_ _ | refine Only.drew ?_ | refine Only.alloc ?_ _ | refine Only.setCell ?_ (by intro hh; exfalso; simp at hh; try omega) _ | refine Only.trans ?_ (by assumption)))) (Rp.keep h2' (by with_reducible repeat (first | exact Only.refl _ _ | assumption | refine Only.drewN ?_ _ | refine Only.drew ?_ | refine Only.alloc ?_ _ | refine Only.setCell ?_ (by intro hh; exfalso; simp at hh; try omega) _ | refine Only.trans ?_ (by assumption))))).mono ?_); rintro e w2 ⟨rfl, n2, rfl⟩))
    go_ret
    exact ⟨ret_bool (Certificate.neq (.inr (.inr (.inr (by rw [L1.out, L2.out]; exact eqL_len hne))))).symm, (by with_reducible repeat (first | exact Only.refl _ _ | assumption | refine Only.drewN ?_ _ | refine Only.drew ?_ | refine Only.alloc ?_ _ | refine Only.setCell ?_ (by intro hh; exfalso; simp at hh; try omega) _ | refine Only.trans ?_ (by assumption)))⟩
  have hlen := Classical.not_not.1 hlen
  have hne : ((l.length : Int) != (l'.length : Int)) = false := by simp [hlen]
  have Hl := Lib.hid hlen; clear hlen
  go_enter Tryz.func10, Tryz.ntmps10
  go_wp2_with (first
      | (go_at_call 28; (with_reducible refine (equalInts_rd v1 v1' x.numbers y.numbers _ _ _ (Rp.keep h1 (by with_reducible repeat (first | exact Only.refl _ _ | assumption | refine Only.drewN ?_ _ | refine Only.drew ?_ | refine Only.alloc ?_ _ | refine Only.setCell ?_ (by intro hh; exfalso; simp at hh; try omega) _ | refine Only.trans ?_ (by assumption)))) (Rp.keep h1' (by with_reducible repeat (first | exact Only.refl _ _ | assumption | refine Only.drewN ?_ _ | refine Only.drew ?_ | refine Only.alloc ?_ _ | refine Only.setCell ?_ (by intro hh; exfalso; simp at hh; try omega) _ | refine Only.trans ?_ (by assumption))))).mono ?_); rintro e w1 ⟨rfl, n1, rfl⟩)
      | (go_at_call 29; (with_reducible refine (equalPartitions_rd v2 v2' x.words y.words _ _ _ (Rp.keep h2 (by with_reducible repeat (first | exact Only.refl _ _ | assumption | refine Only.drewN ?_ _ | refine Only.drew ?_ | refine Only.alloc ?_ _ | refine Only.setCell ?_ (by intro hh; exfalso; simp at hh; try omega) _ | refine Only.trans ?_ (by assumption)))) (Rp.keep h2' (by with_reducible repeat (first | exact Only.refl _ _ | assumption | refine Only.drewN ?_ _ | refine Only.drew ?_ | refine Only.alloc ?_ _ | refine Only.setCell ?_ (by intro hh; exfalso; simp at hh; try omega) _ | refine Only.trans ?_ (by assumption))))).mono ?_); rintro e w2 ⟨rfl, n2, rfl⟩))
  have T0 : Only [] w ((((w.alloc (.cells #[.int .i64 x.kind, v1, v2, .slice a l.length cap] 32)).alloc (.cells #[.int .i64 y.kind, v1', v2', .slice a' l'.length cap'] 32))).drewN (n1 + n2)) := (by with_reducible repeat (first | exact Only.refl _ _ | assumption | refine Only.drewN ?_ _ | refine Only.drew ?_ | refine Only.alloc ?_ _ | refine Only.setCell ?_ (by intro hh; exfalso; simp at hh; try omega) _ | refine Only.trans ?_ (by assumption)))
  generalize hW : ((((w.alloc (.cells #[.int .i64 x.kind, v1, v2, .slice a l.length cap] 32)).alloc (.cells #[.int .i64 y.kind, v1', v2', .slice a' l'.length cap'] 32))).drewN (n1 + n2)) = W at *
  have B1 : W.cell? ⟨w.heap.size, 3, none⟩ = some (.slice a l.length cap) := by rw [← hW]; simp
  have B2 : W.cell? ⟨w.heap.size + 1, 3, none⟩ = some (.slice a' l'.length cap') := by rw [← hW]; simp
  have S0 : w.heap.size + 1 < W.heap.size := by rw [← hW]; simp
  clear hW
  go_loopw [5] (fun i wr => ∃ j : Nat, j ≤ l.length ∧ i = .int .i64 j ∧ l.take j = l'.take j ∧ Only [] W wr)
    (fun i _ => l.length - (intOf i).toNat)
  case atStart => exact ⟨0, Nat.zero_le _, rfl, rfl, Only.refl _ _⟩
  case round =>
    obtain ⟨j, hj, rfl, hr, hK⟩ := hrel
    have Hr := Lib.hid hr; clear hr
    have D1 := hK.cell (by simp) B1
    have D2 := hK.cell (by simp) B2
    by_cases hlt : j < l.length
    · have hlt' : j < l'.length := by have := Hl.out; omega
      obtain ⟨b, off, u1, u2, u3, rfl, -, c1, c2, c3, hv⟩ := hs.at3 j hlt
      obtain ⟨b', off', u1', u2', u3', rfl, -, c1', c2', c3', hv'⟩ := hs'.at3 j hlt'
      have hK0 := T0.trans hK
      have d1 := hK0.cell (by simp) c1
      have d2 := hK0.cell (by simp) c2
      have d3 := hK0.cell (by simp) c3
      have d1' := hK0.cell (by simp) c1'
      have d2' := hK0.cell (by simp) c2'
      have d3' := hK0.cell (by simp) c3'
      clear c1 c2 c3 c1' c2' c3' B1 B2
      rcases hq : eqV l[j] l'[j]
      all_goals go_wp2
      all_goals go_still_tail 10, (by kernel_rfl)
      all_goals change wpList _ _ _ _ _ wr.drew
      all_goals go_wp2_with ((go_at_call 30; (with_reducible refine (specSameTable_any [u1, u2, u3] [u1', u2', u3'] l[j] l'[j] _ _ _ (Rp.keep hv (by with_reducible repeat (first | exact Only.refl _ _ | assumption | refine Only.drewN ?_ _ | refine Only.drew ?_ | refine Only.alloc ?_ _ | refine Only.setCell ?_ (by intro hh; exfalso; simp at hh; try omega) _ | refine Only.trans ?_ (by assumption)))) (Rp.keep hv' (by with_reducible repeat (first | exact Only.refl _ _ | assumption | refine Only.drewN ?_ _ | refine Only.drew ?_ | refine Only.alloc ?_ _ | refine Only.setCell ?_ (by intro hh; exfalso; simp at hh; try omega) _ | refine Only.trans ?_ (by assumption))))).mono ?_); rintro e w1 ⟨rfl, hk1⟩))
      · go_ret
        exact ⟨ret_bool (Certificate.neq (.inr (.inr (.inr (by rw [L1.out, L2.out]; exact eqL_no hlt hlt' hq))))).symm, (by with_reducible repeat (first | exact Only.refl _ _ | assumption | refine Only.drewN ?_ _ | refine Only.drew ?_ | refine Only.alloc ?_ _ | refine Only.setCell ?_ (by intro hh; exfalso; simp at hh; try omega) _ | refine Only.trans ?_ (by assumption)))⟩
      · go_roundw
        case rel => exact ⟨j + 1, by omega, by go_num, eqL_step hlt hlt' hq Hr.out, (by with_reducible repeat (first | exact Only.refl _ _ | assumption | refine Only.drewN ?_ _ | refine Only.drew ?_ | refine Only.alloc ?_ _ | refine Only.setCell ?_ (by intro hh; exfalso; simp at hh; try omega) _ | refine Only.trans ?_ (by assumption)))⟩
        case measure => simp [intOf]; omega
    · go_wp2
      go_ret
      exact ⟨ret_bool (Certificate.yes Q0.out q1 q2 (by rw [L1.out, L2.out]; exact eqL_yes Hl.out hlt Hr.out)).symm, (by with_reducible repeat (first | exact Only.refl _ _ | assumption | refine Only.drewN ?_ _ | refine Only.drew ?_ | refine Only.alloc ?_ _ | refine Only.setCell ?_ (by intro hh; exfalso; simp at hh; try omega) _ | refine Only.trans ?_ (by assumption)))⟩
end Go.Proofs.YtlbcjkjoapcppaaGreat

namespace Go.Proofs.YtlbcjkjoapcppaaGreat
open Go.RowKit
set_option maxRecDepth 10000
end Go.Proofs.YtlbcjkjoapcppaaGreat

namespace Go.Proofs.YtlbcjkjoapcppaaGreat
open Go.RowKit
set_option maxRecDepth 10000
end Go.Proofs.YtlbcjkjoapcppaaGreat

namespace Go.Proofs.YtlbcjkjoapcppaaGreat
open Go.RowKit
set_option maxRecDepth 10000


end Go.Proofs.YtlbcjkjoapcppaaGreat
