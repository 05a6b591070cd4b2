/- The reference's drawCertificate (laws 45, 59). Bounds only. (Printed by mkcrt5.py.) -/
import Derived.Test.YtlbcjkjoapcppaaGreatRowCertificateFormsG19
import Derived.Test.YtlbcjkjoapcppaaGreatRowCertificateFormsG18
namespace Go.Proofs.YtlbcjkjoapcppaaGreat
open Go.RowKit
set_option maxRecDepth 10000

theorem cert_parts {w : World} {k' u1 u2 u3 : Value} {c : Certificate} {f : List Nat} (h : Rp.rep w [k', u1, u2, u3] c f) : ∃ f1 f2 f3, k' = .int .i64 c.kind ∧ I64 c.kind ∧ Rd w u1 c.numbers f1 ∧ Rd w u2 c.words f2 ∧ Rd w u3 c.tables f3 := by
  obtain ⟨v1, v2, v3, f1, f2, f3, e, -, hk, h1, h2, h3⟩ := h
  simp at e
  obtain ⟨rfl, rfl, rfl, rfl⟩ := e
  exact ⟨f1, f2, f3, rfl, hk, h1, h2, h3⟩
theorem ka_of {fp : List Nat} {w V w9 : World} (_ : Only fp V w9) (h : Only [] w V) : Only [] w V := h
theorem step_cat {P : Program} {α : Type} [Rp α] {ops : Array Oper} {o : Oper} {a : Act} {w : World} {Q : Exit → Act → World → Prop} {K : Act → World → Prop} {E : Prop} (hgd : o.guard = none) (s x : Operand) (t : TypeId)
    (ho : o.op = .call { callee := .builtin .append, args := #[s, x], argTypes := #[t, t] })
    (B : Nat) (e : TypeId) (i : TypeInfo) (z : Value) (bytes : Nat) (ht : P.underlying t = some (.slice e)) (hi : P.info? e = some i) (hz : i.zero = some z)
    (hsize : i.size = Rp.size α) (hby : i.bytes = bytes) (hzs : z.cells.size = Rp.size α) (hsz : 0 < Rp.size α) (hbb : bytes ≤ 65536)
    (w0 : World) (v : Value) (l : List α) (fs : List (List Nat)) (hs : a.eval s = v) (hA : Acc B e w0 v l fs) (hK0 : Only [] w0 w) (hB : B ≤ w0.heap.size)
    (B2 : Nat) (e2 : TypeId) (u : Value) (ys : List α) (gs : List (List Nat)) (hx : a.eval x = u) (hU : Acc B2 e2 w u ys gs) (hone : ∀ (cs : List Value) (y : α) (f : List Nat), Rp.rep w cs y f → ∀ q ∈ cs, q.oneCell' = true)
    (hap : ∀ b ∈ gs.flatten, v.ownBlock ≠ some b) (hlen : l.length + ys.length ≤ 1073741824)
    (h : ∀ v' w', Acc B e w' v' (l ++ ys) (fs ++ gs) → Only v.ownBlock.toList w w' → (v'.ownBlock = v.ownBlock ∨ v'.ownBlock = some w.heap.size) → K (a.put o.dst v') w') : if Region.wanted o (yielded ops a.tmps) = true then Oper.wp P o a w K Q else E := by
  rw [if_pos (by simp [Region.wanted, hgd])]
  exact wp_cat s x t ho B e i z bytes ht hi hz hsize hby hzs hsz hbb w0 v l fs hs hA hK0 hB B2 e2 u ys gs hx hU hone hap hlen h
set_option maxHeartbeats 16000000 in
theorem drawCertificate_any (g : Nat) (fc : List Nat) (l : List UInt8) (cs : List Value) (x : Puzzle) (fp : List Nat) (v : Value) (s : List Int) (fs : List Nat) (w : World) (h : Src w g fc l) (hl : l.length ≤ 4096) (hx : Rp.rep w cs x fp) (hgx : g ∉ fp) (hv : Rd w v s fs) (hgs : g ∉ fs) (hm : x.moves.length ≤ 1000) :
    Calls Tryz.prog 36 #[.pointer (some ⟨g, 0, none⟩), .agg cs.toArray, v] w (DCR w g fc l) := by
  obtain ⟨i0, hi, hz0, hz1, hz2⟩ := info_parts Tryz.info2
  obtain ⟨j0, hj, hj0, hj1, hj2⟩ := info_parts Tryz.info22
  obtain ⟨m0, hm0, hmz, hm1, hm2⟩ := info_parts Tryz.infoTable
  have hg := h.lt
  have hfc : ∀ b ∈ fc, b < w.heap.size := by obtain ⟨_, _, _, _, _, _, _, h4, _⟩ := h; exact fun b hb => Rp.lt h4 b hb
  have hgc : DCg w g fc := ⟨hg, hfc⟩
  obtain ⟨v2, rfl, p0, p1, h2⟩ := hx
  obtain ⟨Ap, Cp, _, _, rfl, -, -⟩ := h2.open_
  have hx0 : Rp.rep w [.int .i64 x.points, .string x.names, .slice Ap x.moves.length Cp] x fp := ⟨_, rfl, p0, p1, h2⟩
  obtain ⟨As, Cs, rfl, -⟩ := id hv.ints
  have hdx := Lib.hid (show ∀ b ∈ fp, b ∉ [g] from fun b hb hm => hgx (by simp at hm; subst hm; exact hb))
  have hds := Lib.hid (show ∀ b ∈ fs, b ∉ [g] from fun b hb hm => hgs (by simp at hm; subst hm; exact hb))
  have Hpl : Hid (∀ b ∈ fp, b < w.heap.size) := Lib.hid (Rp.lt hx0)
  have kw : Only [] w (((w.alloc (.cells #[.int .i64 x.points, .string x.names, .slice Ap x.moves.length Cp] 42)).alloc (.cells #[.int .i64 0, .slice none 0 0, .slice none 0 0, .slice none 0 0] 32)).alloc (.cells #[.int .i64 4, .slice none 0 0, .slice none 0 0, .slice none 0 0] 32)) := (((Only.refl _ _).alloc _).alloc _).alloc _
  have b1 := ((Blk.new w [.int .i64 x.points, .string x.names, .slice Ap x.moves.length Cp] 42).keep ((Only.refl _ _).alloc (.cells #[.int .i64 0, .slice none 0 0, .slice none 0 0, .slice none 0 0] 32))).keep ((Only.refl _ _).alloc (.cells #[.int .i64 4, .slice none 0 0, .slice none 0 0, .slice none 0 0] 32))
  have r1 := (Blk.new (w.alloc (.cells #[.int .i64 x.points, .string x.names, .slice Ap x.moves.length Cp] 42)) [.int .i64 0, .slice none 0 0, .slice none 0 0, .slice none 0 0] 32).keep ((Only.refl _ _).alloc (.cells #[.int .i64 4, .slice none 0 0, .slice none 0 0, .slice none 0 0] 32))
  have X1 := Blk.new ((w.alloc (.cells #[.int .i64 x.points, .string x.names, .slice Ap x.moves.length Cp] 42)).alloc (.cells #[.int .i64 0, .slice none 0 0, .slice none 0 0, .slice none 0 0] 32)) [.int .i64 4, .slice none 0 0, .slice none 0 0, .slice none 0 0] 32
  have e1 : (w.alloc (.cells #[.int .i64 x.points, .string x.names, .slice Ap x.moves.length Cp] 42)).heap.size = w.heap.size + 1 := by simp
  have e2 : ((w.alloc (.cells #[.int .i64 x.points, .string x.names, .slice Ap x.moves.length Cp] 42)).alloc (.cells #[.int .i64 0, .slice none 0 0, .slice none 0 0, .slice none 0 0] 32)).heap.size = w.heap.size + 2 := by simp
  rw [e1] at r1
  rw [e2] at X1
  have T1 : DCt w g fc l [.int .i64 x.points, .string x.names, .slice Ap x.moves.length Cp] (((w.alloc (.cells #[.int .i64 x.points, .string x.names, .slice Ap x.moves.length Cp] 42)).alloc (.cells #[.int .i64 0, .slice none 0 0, .slice none 0 0, .slice none 0 0] 32)).alloc (.cells #[.int .i64 4, .slice none 0 0, .slice none 0 0, .slice none 0 0] 32)) := ⟨b1, r1, h.keep kw, kw.weaken [g], by simp⟩
  have hx1 := Rp.keep hx0 kw
  have hv1 := Rp.keep hv kw
  clear b1 r1 e1 e2
  go_enter Tryz.func36, Tryz.ntmps36
  go_upto_region 2 with fail
  obtain ⟨W1, hW1⟩ : ∃ W, W = (((w.alloc (.cells #[.int .i64 x.points, .string x.names, .slice Ap x.moves.length Cp] 42)).alloc (.cells #[.int .i64 0, .slice none 0 0, .slice none 0 0, .slice none 0 0] 32)).alloc (.cells #[.int .i64 4, .slice none 0 0, .slice none 0 0, .slice none 0 0] 32)) := ⟨_, rfl⟩
  rw [← hW1] at T1 X1 hx1 hv1 ⊢
  clear hW1 kw hx0 hv h2 h
  go_cut [12] (fun s12 wx => ∃ r : Int, s12 = .int .i64 r ∧ 0 ≤ r ∧ r < 4 ∧ Src wx g fc l ∧ Only [g] W1 wx)
  case first =>
    go_wp2_with ((go_at_call 45; (with_reducible refine (srcBelow_any g fc l 4 W1 T1.sr hl (by omega)).mono ?_); rintro e w2 ⟨r, rfl, r0, r4, D2, K2⟩))
    go_meet
    exact ⟨r, rfl, r0, by omega, D2, K2⟩
  case rest =>
  obtain ⟨w2, hnew⟩ : ∃ W, W = wc := ⟨_, rfl⟩
  subst hnew
  obtain ⟨r, rfl, r0, r4, D2, K2⟩ := hcut
  have T2 := T1.step hgc K2 D2
  have X2 := X1.only K2 (by simp; omega)
  have hx2 := Rp.only hx1 K2 hdx.out
  have hv2 := Rp.only hv1 K2 hds.out
  clear T1 X1 hx1 hv1 D2 K2
  have s2 := T2.sz
  refine (show ∀ a w, Code.wp Tryz.prog _ _ a w → _ from by assumption) _ _ ?_
  go_cut [] (fun wx => DCF 500 w g fc l [.int .i64 x.points, .string x.names, .slice Ap x.moves.length Cp] wx ∧ Rp.rep wx [.int .i64 x.points, .string x.names, .slice Ap x.moves.length Cp] x fp)
  case first =>
    have y0 := T2.bx.cell 0 rfl; have y1 := T2.bx.cell 1 rfl; have y2 := T2.bx.cell 2 rfl
    have c0 := X2.cell 0 rfl; have c1 := X2.cell 1 rfl; have c2 := X2.cell 2 rfl; have c3 := X2.cell 3 rfl; have zx := X2.frozen
    by_cases e0 : r = 0
    · subst e0
      go_wp2_with (first
        | (go_at_call 55; (with_reducible refine (specSolveCert_any [.int .i64 x.points, .string x.names, .slice Ap x.moves.length Cp] x fp (.slice As s.length Cs) s fs w2 hx2 hv2).mono ?_); rintro e w3 ⟨cs3, f3, rfl, r3, F3, t3⟩; obtain ⟨A1, n1, C1, A2, n2, C2, A3, n3, C3, rfl⟩ := cert_form r3; have X3 := X2.keep t3; have c03 := X3.cell 0 rfl; have c13 := X3.cell 1 rfl; have c23 := X3.cell 2 rfl; have c33 := X3.cell 3 rfl; have zx3 := X3.frozen)
        | fail "no arm")
      go_meet
      have T3 := T2.keep hgc t3
      exact ⟨DCF.store T3 hgc X3 r3 (fun b hb => by have := F3.ge b hb; omega) (csm_sd x s), Rp.only (Rp.keep hx2 t3) (only_set4 _ _ _ _ _ _) (fun b hb hm => by have := Hpl.out b hb; simp at hm; omega)⟩
    · by_cases e1 : r = 1
      · subst e1
        go_wp2_with (first
          | (go_at_call 56; (with_reducible refine (specOptimalWord_any [.int .i64 x.points, .string x.names, .slice Ap x.moves.length Cp] x fp (.slice As s.length Cs) s fs w2 hx2 hv2).mono ?_); rintro e w4 ⟨u4, f4, rfl, r4, F4, t4⟩)
          | (go_at_call 12; (with_reducible refine (specSolCert_rd u4 ((optX x s).getD []) f4 w4 r4).mono ?_); rintro e w3 ⟨cs3, f3, rfl, r3, F3, t3⟩; obtain ⟨A1, n1, C1, A2, n2, C2, A3, n3, C3, rfl⟩ := cert_form r3; have X3 := (X2.keep t4).keep t3; have c03 := X3.cell 0 rfl; have c13 := X3.cell 1 rfl; have c23 := X3.cell 2 rfl; have c33 := X3.cell 3 rfl; have zx3 := X3.frozen)
          | fail "no arm")
        go_meet
        have T3 := (T2.keep hgc t4).keep hgc t3
        exact ⟨DCF.store T3 hgc X3 r3 (fun b hb => by have := F3.ge b hb; have := t4.size; omega) (csm_sol _), Rp.only (Rp.keep (Rp.keep hx2 t4) t3) (only_set4 _ _ _ _ _ _) (fun b hb hm => by have := Hpl.out b hb; simp at hm; omega)⟩
      · by_cases e2 : r = 2
        · subst e2
          go_upto_region 9 with fail
          go_region_law (first
            | (go_simp; first
            | (go_at_call 45; (with_reducible refine (srcBelow_any g fc l 4 _ (T2.sr.keep (by with_reducible repeat (first | exact Only.refl _ _ | assumption | refine Only.drewN ?_ _ | refine Only.drew ?_ | refine Only.alloc ?_ _ | refine Only.trans ?_ (by assumption)))) hl (by omega)).mono ?_); rintro en w3 ⟨k3, rfl, k30, k34, D3, K3⟩; have K23 : Only [g] w2 w3 := Only.trans (by with_reducible repeat (first | exact Only.refl _ _ | assumption | refine Only.drewN ?_ _ | refine Only.drew ?_ | refine Only.alloc ?_ _ | refine Only.trans ?_ (by assumption))) K3; have T3 := T2.step hgc K23 D3; have X3 := X2.only K23 (by simp; omega); have hx3 := Rp.only hx2 K23 hdx.out; have y03 := T3.bx.cell 0 rfl; have y13 := T3.bx.cell 1 rfl; have y23 := T3.bx.cell 2 rfl)
            | (go_at_call 19; (with_reducible refine (drawTables_any g fc l [.int .i64 x.points, .string x.names, .slice Ap x.moves.length Cp] x fp _ (T3.sr.keep (by with_reducible repeat (first | exact Only.refl _ _ | assumption | refine Only.drewN ?_ _ | refine Only.drew ?_ | refine Only.alloc ?_ _ | refine Only.trans ?_ (by assumption)))) hl (Rp.keep hx3 (by with_reducible repeat (first | exact Only.refl _ _ | assumption | refine Only.drewN ?_ _ | refine Only.drew ?_ | refine Only.alloc ?_ _ | refine Only.trans ?_ (by assumption)))) hgx).mono ?_); rintro en w4 ⟨v4, L4, f4, rfl, hA4, hF4, l4, sm4, D4, K4⟩; have K34 : Only [g] w3 w4 := Only.trans (by with_reducible repeat (first | exact Only.refl _ _ | assumption | refine Only.drewN ?_ _ | refine Only.drew ?_ | refine Only.alloc ?_ _ | refine Only.trans ?_ (by assumption))) K4; have T4 := T3.step hgc K34 D4; have X4 := X3.only K34 (by simp; omega); have hx4 := Rp.only hx3 K34 hdx.out; have R4 := Lib.hid (hA4.rd (by decide)); have S4 := Lib.hid sm4; clear hA4 hF4 sm4)
            | (go_at_call 13; (with_reducible refine (specLBCert_rd k3 (by unfold I64; omega) v4 L4 _ _ (Rp.keep R4.out (by with_reducible repeat (first | exact Only.refl _ _ | assumption | refine Only.drewN ?_ _ | refine Only.drew ?_ | refine Only.alloc ?_ _ | refine Only.trans ?_ (by assumption)))) S4.out).mono ?_); rintro en w5 ⟨cs5, f5, rfl, r5, F5, t5⟩; obtain ⟨A1, n1, C1, A2, n2, C2, A3, n3, C3, rfl⟩ := cert_form r5; have K45 : Only [] w4 w5 := Only.trans (by with_reducible repeat (first | exact Only.refl _ _ | assumption | refine Only.drewN ?_ _ | refine Only.drew ?_ | refine Only.alloc ?_ _ | refine Only.trans ?_ (by assumption))) t5; have T5 := T4.keep hgc K45; have X5 := X4.keep K45; have c05 := X5.cell 0 rfl; have c15 := X5.cell 1 rfl; have c25 := X5.cell 2 rfl; have c35 := X5.cell 3 rfl; have zx5 := X5.frozen; have F5' : ∀ b ∈ f5, w4.heap.size ≤ b := F5.ge; have HF5 := Lib.hid F5'; have R5 := Lib.hid r5; clear F5 F5' r5))
            | fail "no arm")
          all_goals
            go_wp2
            go_meet
            have s4 := T4.sz
            exact ⟨DCF.store T5 hgc X5 R5.out (fun b hb => by have := HF5.out b hb; omega) (csm_lb k3 S4.out (by omega)), Rp.only (Rp.keep hx4 K45) (only_set4 _ _ _ _ _ _) (fun b hb hm => by have := Hpl.out b hb; simp at hm; omega)⟩
        · go_wp2
          go_meet
          exact ⟨⟨T2, unCert, none, 0, 0, none, 0, 0, none, 0, 0, [], X2, unCert_rep _, by simp, csm_un⟩, hx2⟩
  case rest =>
    obtain ⟨W3, hnew⟩ : ∃ W, W = wc := ⟨_, rfl⟩
    subst hnew
    obtain ⟨⟨T3, DX3⟩, hx3⟩ := hcut
    clear T2 X2 hx2 hv2 r0 r4 s2
    refine (show ∀ a w, Code.wp Tryz.prog _ _ a w → _ from by assumption) _ _ ?_
    go_upto_region 10 with fail
    go_cut [41] (fun s41 wx => ∃ b : Bool, s41 = .bool b ∧ Src wx g fc l ∧ Only [g] W3 wx)
    case first =>
      go_wp2_with ((go_at_call 20; (with_reducible refine (oneIn_any g fc l 3 W3 T3.sr hl (by omega)).mono ?_); rintro e w4 ⟨b, rfl, D4, K4⟩))
      go_meet
      exact ⟨_, rfl, D4, K4⟩
    case rest =>
      obtain ⟨W4, hnew⟩ : ∃ W, W = wc := ⟨_, rfl⟩
      subst hnew
      obtain ⟨b4, rfl, D4, K4⟩ := hcut
      have T4 := T3.step hgc K4 D4
      have DX4 := DCX.keep DX3 hgc K4
      have hx4 := Rp.only hx3 K4 hdx.out
      clear T3 DX3 hx3 D4 K4
      obtain ⟨⟨k, n, ws, ts⟩, A1, n1, C1, A2, n2, C2, A3, n3, C3, f, X4, hr, hf, hs⟩ := DX4
      have HR := Lib.hid hr
      have Hf := Lib.hid hf
      have HS5 := Lib.hid hs
      obtain ⟨f1, f2, f3, -, hk, hn, hw, ht⟩ := cert_parts hr
      clear hr hf
      refine (show ∀ a w, Code.wp Tryz.prog _ _ a w → _ from by assumption) _ _ ?_
      cases b4
      case true =>
        have HS := hs.mono
        clear hs hn hw ht
        have d0 := X4.cell 0 rfl; have d1 := X4.cell 1 rfl; have d2 := X4.cell 2 rfl; have d3 := X4.cell 3 rfl
        have g0 := T4.rs.cell 0 rfl; have g1 := T4.rs.cell 1 rfl; have g2 := T4.rs.cell 2 rfl; have g3 := T4.rs.cell 3 rfl; have zb := T4.rs.frozen
        go_wp2
        have Yf := T4.rs.set4 (.int .i64 k) (.slice A1 n1 C1) (.slice A2 n2 C2) (.slice A3 n3 C3)
        have q0 := Yf.cell 0 rfl
        have q1 := Yf.cell 1 rfl
        have q2 := Yf.cell 2 rfl
        have q3 := Yf.cell 3 rfl
        exact bodyPost_ret (v := .agg #[.int .i64 k, .slice A1 n1 C1, .slice A2 n2 C2, .slice A3 n3 C3]) (by simp [results, Tryz.results36, go_sem, q0, q1, q2, q3]) rfl (DCR.mk T4 hgc HR.out Hf.out HS)
      case false =>
        have B4s := T4.sz
        have d0 := X4.cell 0 rfl; have d1 := X4.cell 1 rfl; have d2 := X4.cell 2 rfl; have d3 := X4.cell 3 rfl; have zx4 := X4.frozen
        have hsn : Sm.sm n := hs.1.1
        have hsw : Sm.sm ws := hs.1.2.1
        have hst : Sm.sm ts := hs.1.2.2
        have hn : Rd W4 (.slice A1 n1 C1) n f1 := hn
        have hw : Rd W4 (.slice A2 n2 C2) ws f2 := hw
        have ht : Rd W4 (.slice A3 n3 C3) ts f3 := ht
        clear HR Hf
        go_upto_region 13 with (first
          | (go_at_call 37; (with_reducible refine (copyCertificate_any k (.slice A1 n1 C1) (.slice A2 n2 C2) (.slice A3 n3 C3) n ws ts f1 f2 f3 W4 hn hw ht hsn hsw hst).mono ?_); rintro e w5 ⟨vn, vw, vt, fw, ft, B1, B2, rfl, CA, t5⟩; obtain ⟨L, hL'⟩ : ∃ L, L = ws.map OwnI.mk := ⟨_, rfl⟩; rw [← hL'] at CA; have hL := Lib.hid hL'; clear hL'; obtain ⟨a1, c1, rfl⟩ := CA.an.form; obtain ⟨a2, c2, rfl⟩ := CA.aw.form; obtain ⟨a3, c3, rfl⟩ := CA.at_.form; have X5 := X4.keep t5; have d05 := X5.cell 0 rfl; have d15 := X5.cell 1 rfl; have d25 := X5.cell 2 rfl; have d35 := X5.cell 3 rfl; have zx5 := X5.frozen)
          | fail "no arm")
        rw [show w.heap.size + 1 + 1 = w.heap.size + 2 from rfl]
        have kst := only_set4 w5 (w.heap.size + 2) (.int .i64 k) (.slice a1 n.length c1) (.slice a2 L.length c2) (.slice a3 ts.length c3)
        have hcs : CSm 500 ⟨k, n, L.map OwnI.l, ts⟩ := by rw [hL.out, map_own]; exact hs
        have T5 := (T4.keep hgc t5).low hgc kst (fun b hb => by simp at hb; omega)
        have X6 := X5.set4 (.int .i64 k) (.slice a1 n.length c1) (.slice a2 L.length c2) (.slice a3 ts.length c3)
        have CA5 := CA.only kst (fun b hb => by simp at hb; omega)
        have hx5 := Rp.only (Rp.keep hx4 t5) kst (fun b hb hm => by have := Hpl.out b hb; simp at hm; omega)
        have hBW : W4.heap.size ≤ w5.heap.size := t5.size
        have hBV := Nat.le_trans hBW kst.size
        obtain ⟨B, hB⟩ : ∃ B, B = W4.heap.size := ⟨_, rfl⟩
        obtain ⟨W5, hW5⟩ : ∃ W, W = ((((w5.setCell ⟨w.heap.size + 2, 0, none⟩ (.int .i64 k)).setCell ⟨w.heap.size + 2, 1, none⟩ (.slice a1 n.length c1)).setCell ⟨w.heap.size + 2, 2, none⟩ (.slice a2 L.length c2)).setCell ⟨w.heap.size + 2, 3, none⟩ (.slice a3 ts.length c3)) := ⟨_, rfl⟩
        rw [← hW5] at T5 X6 CA5 hx5 hBV ⊢
        rw [← hB] at CA5 hBV B4s
        clear hB hW5 kst CA X5 hBW t5 hs hsn hsw hst hn hw ht hx4 T4 X4 hL HS5
        have HC := Lib.hid hcs
        clear hcs
        go_cut [46] (fun s46 wx => ∃ r : Int, s46 = .int .i64 r ∧ 0 ≤ r ∧ r < 5 ∧ Src wx g fc l ∧ Only [g] W5 wx)
        case first =>
          go_wp2_with ((go_at_call 45; (with_reducible refine (srcBelow_any g fc l 5 W5 T5.sr hl (by omega)).mono ?_); rintro e w6 ⟨r, rfl, r0, r5, D6, K6⟩))
          go_meet
          exact ⟨r, rfl, r0, by omega, D6, K6⟩
        case rest =>
        obtain ⟨W6, hnew⟩ : ∃ W, W = wc := ⟨_, rfl⟩
        subst hnew
        obtain ⟨r, rfl, r0, r5, D6, K6⟩ := hcut
        have hgB : ∀ b ∈ [g], b < B := fun b hb => by simp at hb; omega
        have T6 := T5.step hgc K6 D6
        have X7 := X6.only K6 (by simp; omega)
        have CA6 := CA5.only K6 hgB
        have hx6 := Rp.only hx5 K6 hdx.out
        have hB6 : B ≤ W6.heap.size := Nat.le_trans hBV K6.size
        clear T5 X6 CA5 hx5 hBV D6 K6
        have HCA := Lib.hid CA6
        refine (show ∀ a w, Code.wp Tryz.prog _ _ a w → _ from by assumption) _ _ ?_
        go_cut [] (fun wx => DCF 1000 w g fc l [.int .i64 x.points, .string x.names, .slice Ap x.moves.length Cp] wx)
        case first =>
          have y0 := T6.bx.cell 0 rfl; have y1 := T6.bx.cell 1 rfl; have y2 := T6.bx.cell 2 rfl
          have d0 := X7.cell 0 rfl; have d1 := X7.cell 1 rfl; have d2 := X7.cell 2 rfl; have d3 := X7.cell 3 rfl; have zx := X7.frozen
          have hlt6 := CA6.lt
          have HLT := Lib.hid hlt6
          clear hlt6
          by_cases e0 : r = 0
          · subst e0
            go_wp2_with (first
              | (go_at_call 22; (with_reducible refine (between_rng g fc l 0 5 W6 T6.sr hl (by omega) (by omega) (by omega)).mono ?_); rintro e w7 ⟨y, rfl, y50, y55, D7, K7⟩; have T7 := T6.step hgc K7 D7; have X8 := X7.only K7 (by simp; omega); have CA7 := CA6.only K7 hgB; have d07 := X8.cell 0 rfl; have d17 := X8.cell 1 rfl; have d27 := X8.cell 2 rfl; have d37 := X8.cell 3 rfl; have zx7 := X8.frozen)
              | fail "no arm")
            go_meet
            have hyI : I64 y := by unfold I64; omega
            exact DCF.fld T7 hgc X8 0 (.int .i64 y) rfl (CA7.rep (k := y) hyI) (fun b hb => by have := (HLT.out b hb).1; omega) (csm_n HC.out (by have := HC.out.2.1; simp only at this; omega))
          · by_cases e1 : r = 1
            · subst e1
              have hln : n.length + 1 ≤ 1073741824 := by have := HC.out.2.1; simp only at this; omega
              have HX7 := Lib.hid X7
              go_upto_region 17 with fail
              go_region_law (first
                | (go_simp; first
                | (go_at_call 22; (with_reducible refine (between_rng g fc l (-1) 4 _ (T6.sr.keep (by with_reducible repeat (first | exact Only.refl _ _ | assumption | refine Only.drewN ?_ _ | refine Only.drew ?_ | refine Only.alloc ?_ _ | refine Only.trans ?_ (by assumption)))) hl (by omega) (by omega) (by omega)).mono ?_); rintro en w7 ⟨y, rfl, y50, y55, D7, K7⟩; have K67 : Only [g] W6 w7 := Only.trans (by with_reducible repeat (first | exact Only.refl _ _ | assumption | refine Only.drewN ?_ _ | refine Only.drew ?_ | refine Only.alloc ?_ _ | refine Only.trans ?_ (by assumption))) K7; have T7 := T6.step hgc K67 D7; have X8 := X7.only K67 (by simp; omega); have CA7 := CA6.only K67 hgB; have d07 := X8.cell 0 rfl; have d17 := X8.cell 1 rfl; have d27 := X8.cell 2 rfl; have d37 := X8.cell 3 rfl; have zx7 := X8.frozen; have hB7 : B ≤ w7.heap.size := Nat.le_trans hB6 K67.size; have kal7 : Only [] w7 (w7.alloc (.cells #[.int .i64 y] 2)) := (Only.refl _ _).alloc _; have T7a := T7.keep hgc kal7; have X8a := X8.keep kal7; have d17a := X8a.cell 1 rfl; have d27a := X8a.cell 2 rfl; have zx7a := X8a.frozen; have CA7a := CA7.keep kal7; have HCA7 := Lib.hid CA7a; have hyI : I64 y := (by unfold I64; omega); have A7 := CA7.an; clear CA7 CA7a))
                | (refine step_pushI rfl (.tmp 55) (.tmp 58) 24 rfl B 2 i0 _ Tryz.underlying24 hi hz0 hz1 hz2 rfl w7 (.slice a1 n.length c1) n rfl A7 (by with_reducible repeat (first | exact Only.refl _ _ | assumption | refine Only.drewN ?_ _ | refine Only.drew ?_ | refine Only.alloc ?_ _ | refine Only.trans ?_ (by assumption))) hB7 _ 1 y rfl (lit1 _ _ _ rfl) hyI hln ?_; intro v9 w9 hA9 hO9 hN9; obtain ⟨a9, c9, rfl⟩ := hA9.form; rw [List.length_append, List.length_singleton] at hA9 hN9; obtain ⟨T9, X9⟩ := T7a.fin hgc hO9 (fun b hb => by have := (HCA7.out.nge b hb).1; omega) X8a; have d09 := X9.cell 0 rfl; have d19 := X9.cell 1 rfl; have d29 := X9.cell 2 rfl; have d39 := X9.cell 3 rfl; have zx9 := X9.frozen; have R9 := Lib.hid hA9.rd; have O9 := Lib.hid hO9; have N9 := Lib.hid hN9; clear hA9 hO9 hN9)
                | fail "no arm")
              all_goals
                go_wp2
                go_meet
                obtain ⟨f9, hr9, hf9⟩ := CAcc.setN hk HCA7.out R9.out O9.out N9.out (Nat.le_trans hB7 kal7.size)
                exact DCF.fld T9 hgc X9 1 (.slice a9 (n.length + 1) c9) rfl hr9 (fun b hb => by have := hf9 b hb; omega) (csm_n HC.out (by have := HC.out.2.1; simp only at this; rw [List.length_append, List.length_singleton]; omega))
            · by_cases e2 : r = 2
              · subst e2
                have hlL : L.length + 1 ≤ 1073741824 := by have := HC.out.2.2.1; simp only [List.length_map] at this; omega
                go_upto_region 19 with fail
                go_region_law (first
                  | (go_simp; first
                  | (go_at_call 44; (with_reducible refine (drawWord_any g fc l (x.moves.length : Int) _ (T6.sr.keep (by with_reducible repeat (first | exact Only.refl _ _ | assumption | refine Only.drewN ?_ _ | refine Only.drew ?_ | refine Only.alloc ?_ _ | refine Only.trans ?_ (by assumption)))) hl (by omega)).mono ?_); rintro en w7 ⟨v7, p7, rfl, hA7, p77, D7, K7⟩; obtain ⟨a7, c7, rfl⟩ := hA7.form; have K67 : Only [g] W6 w7 := Only.trans (by with_reducible repeat (first | exact Only.refl _ _ | assumption | refine Only.drewN ?_ _ | refine Only.drew ?_ | refine Only.alloc ?_ _ | refine Only.trans ?_ (by assumption))) K7; have T7 := T6.step hgc K67 D7; have X8 := X7.only K67 (by simp; omega); have CA7 := CA6.only K67 hgB; have d07 := X8.cell 0 rfl; have d17 := X8.cell 1 rfl; have d27 := X8.cell 2 rfl; have d37 := X8.cell 3 rfl; have zx7 := X8.frozen; have hB7 : B ≤ w7.heap.size := Nat.le_trans hB6 K67.size; have kal7 : Only [] w7 (w7.alloc (.cells #[.slice a7 p7.length c7] 24)) := (Only.refl _ _).alloc _; have T7a := T7.keep hgc kal7; have X8a := X8.keep kal7; have d17a := X8a.cell 1 rfl; have d27a := X8a.cell 2 rfl; have zx7a := X8a.frozen; have CA7a := CA7.keep kal7; have HCA7 := Lib.hid CA7a; have hA7' := hA7.low2 (B' := W6.heap.size) (by first | omega | simp); have A7 := CA7.aw.low3 CA7.b0; have hap7 : Rp.rep w7 [.slice a7 p7.length c7] (OwnI.mk p7) (Value.slice a7 p7.length c7).ownBlock.toList := ⟨_, rfl, hA7.low2 (Nat.zero_le _), rfl⟩; have HA7 := Lib.hid hA7'; clear CA7 CA7a hA7 hA7'))
                  | (refine step_push2w (α := OwnI) rfl (.tmp 64) (.tmp 70) 30 rfl B 24 j0 _ 24 Tryz.underlying30 hj hj0 hj1 hj2 rfl (by decide) (by decide) w7 (.slice a2 L.length c2) L fw rfl A7 (by with_reducible repeat (first | exact Only.refl _ _ | assumption | refine Only.drewN ?_ _ | refine Only.drew ?_ | refine Only.alloc ?_ _ | refine Only.trans ?_ (by assumption))) hB7 _ 1 [.slice a7 p7.length c7] (OwnI.mk p7) _ rfl (lit_src _ [.slice a7 p7.length c7] _ rfl) (by intro u hu; simp at hu; subst hu; rfl) (Rp.keep hap7 (by with_reducible repeat (first | exact Only.refl _ _ | assumption | refine Only.drewN ?_ _ | refine Only.drew ?_ | refine Only.alloc ?_ _ | refine Only.trans ?_ (by assumption)))) ?hap hlL ?_; (case hap => (intro b hb he; have h1 := (HA7.out.ownlt b (by simpa using hb)).1; have h2 := (HLT.out b (List.mem_append_right _ (List.mem_append_left _ (List.mem_append_left _ (by simp [he]))))).2; omega)); intro v9 w9 hA9 hO9 hN9; obtain ⟨a9, c9, rfl⟩ := hA9.form; rw [List.length_append, List.length_singleton] at hA9 hN9; obtain ⟨T9, X9⟩ := T7a.fin hgc hO9 (fun b hb => by have := (HLT.out b (List.mem_append_right _ (List.mem_append_left _ (List.mem_append_left _ hb)))).1; omega) X8a; have d09 := X9.cell 0 rfl; have d19 := X9.cell 1 rfl; have d29 := X9.cell 2 rfl; have d39 := X9.cell 3 rfl; have zx9 := X9.frozen; have R9 := Lib.hid hA9; have O9 := Lib.hid hO9; clear hA9 hO9 hN9)
                  | fail "no arm")
                all_goals
                  go_wp2
                  go_meet
                  have hr := (Acc.ofOwn R9.out).rd (by decide)
                  rw [List.map_append] at hr
                  obtain ⟨f9, hr9, hf9⟩ := CAcc.setW hk HCA7.out hr O9.out (fun b hb => List.mem_append_left _ hb) (fun b hb => by
                    rcases List.mem_append.1 hb with hb | hb
                    · exact (R9.out.ownlt b (by simpa using hb)).1
                    · rw [List.flatten_append] at hb
                      rcases List.mem_append.1 hb with hb | hb
                      · exact (HLT.out b (List.mem_append_right _ (List.mem_append_left _ (List.mem_append_right _ hb)))).1
                      · have := (HA7.out.ownlt b (by simpa using hb)).1
                        omega)
                  exact DCF.fld T9 hgc X9 2 (.slice a9 (L.length + 1) c9) rfl hr9 (fun b hb => by have := hf9 b hb; omega) (csm_w HC.out (by have := HC.out.2.2.1; simp only [List.length_map] at this; simp; omega) (fun z hz => by
                    rcases List.mem_append.1 hz with hz | hz
                    · have := HC.out.2.2.2.1 z hz; omega
                    · have e : z = p7 := by simpa using hz
                      rw [e]; omega))
              · by_cases e3 : r = 3
                · subst e3
                  have hlL : L.length ≤ 500 := by have := HC.out.2.2.1; simp only [List.length_map] at this; exact this
                  by_cases hL0 : 0 < L.length
                  · obtain ⟨gs, cc, u, ev, hcl, hc0, hfz, hA0, hf0, hgsB⟩ := CA6.aw.row0 hL0
                    injection ev with ev1 ev2 ev3
                    subst ev1
                    subst ev3
                    clear ev2
                    obtain ⟨q0, hq0⟩ : ∃ q0, q0 = (L[0]'hL0).l := ⟨_, rfl⟩
                    have hq8 : q0.length ≤ 500 := by rw [hq0]; exact HC.out.2.2.2.1 _ (List.mem_map.2 ⟨_, List.getElem_mem _, rfl⟩)
                    rw [← hq0] at hA0
                    obtain ⟨au, cu, rfl⟩ := hA0.form
                    have Hq0 := Lib.hid hq0
                    have hgl : gs < W6.heap.size := (CA6.aw.ownlt gs rfl).2
                    have hL0I : (0 : Int) < (L.length : Int) := by omega
                    have hu0 : ∀ b ∈ (Value.slice au q0.length cu).ownBlock.toList, b ∈ fw.flatten := fun b hb => by
                      obtain ⟨h0, e0⟩ := List.getElem?_eq_some_iff.1 hf0
                      exact List.mem_flatten.2 ⟨_, List.getElem_mem h0, by rw [e0]; exact hb⟩
                    have Hu0 := Lib.hid hu0
                    have hsep : gs ∉ (Value.slice au q0.length cu).ownBlock.toList := fun hm => CA6.aw.apart gs rfl (hu0 gs hm)
                    have Hsep := Lib.hid hsep
                    have hlen0 : q0.length + 1 ≤ 1073741824 := by omega
                    have kal0 : Only [] W6 (W6.alloc (.cells #[.int .i64 1] 2)) := (Only.refl _ _).alloc _
                    have c0a := kal0.cell (p := ⟨gs, 0, none⟩) (by simp) hc0
                    have d2a := (X7.keep kal0).cell 2 rfl
                    have hgsx : gs ≠ w.heap.size + 2 := by have := CA6.b0; omega
                    have HCA6' := Lib.hid CA6
                    clear hq0 hu0 hsep CA6 HCA
                    go_upto_region 22 with fail
                    go_region_law (first
                      | (refine step_pushI rfl (.tmp 84) (.tmp 85) 24 rfl 0 2 i0 _ Tryz.underlying24 hi hz0 hz1 hz2 rfl W6 (.slice au q0.length cu) q0 rfl hA0 (by with_reducible repeat (first | exact Only.refl _ _ | assumption | refine Only.drewN ?_ _ | refine Only.drew ?_ | refine Only.alloc ?_ _ | refine Only.trans ?_ (by assumption))) (Nat.zero_le _) _ 1 1 rfl (lit1 _ _ _ rfl) (by unfold I64; omega) hlen0 ?_; intro v9 w9 hA9 hO9 hN9; obtain ⟨a9, c9, rfl⟩ := hA9.form; rw [List.length_append, List.length_singleton] at hA9 hN9; have kal := ka_of (w := W6) hO9 (by with_reducible repeat (first | exact Only.refl _ _ | assumption | refine Only.drewN ?_ _ | refine Only.drew ?_ | refine Only.alloc ?_ _ | refine Only.trans ?_ (by assumption))); have X9w := (X7.keep kal).only hO9 (fun hm => by have := (HLT.out _ (List.mem_append_right _ (List.mem_append_left _ (List.mem_append_right _ (Hu0.out _ hm))))).1; omega); have d2w := X9w.cell 2 rfl; have c09 := hO9.cell (p := ⟨gs, 0, none⟩) Hsep.out (kal.cell (by simp) hc0); have z09 := frozen_keep (frozen_keep hfz kal hgl (by simp)) hO9 (Nat.lt_of_lt_of_le hgl kal.size) Hsep.out; have HA9 := Lib.hid hA9; have O9 := Lib.hid hO9; have N9 := Lib.hid hN9; clear hA9 hO9 hN9)
                      | fail "no arm")
                    all_goals
                      go_wp2
                      go_meet
                      have T6a := T6.keep hgc kal
                      have X7a := X7.keep kal
                      have CA6a := HCA6'.out.keep kal
                      have hA9' : AccI 0 2 w9 (.slice a9 (q0.length + 1) c9) ((L[0]'hL0).l ++ [1]) := by rw [← Hq0.out]; exact HA9.out
                      obtain ⟨hR, hsub⟩ := Acc.put0 HCA6'.out.aw HCA6'.out.fwF hL0 (u := .slice au q0.length cu) hf0 kal hA9' O9.out N9.out (by rw [c09]; rfl)
                      have kst : Only [gs] w9 (w9.setCell ⟨gs, 0, none⟩ (.slice a9 (q0.length + 1) c9)) := (Only.refl _ _).setCell (by simp) _
                      have hO := (O9.out.mono (fun b hb _ => List.mem_append_right [gs] hb)).trans (kst.mono (fun b hb _ => List.mem_append_left _ hb))
                      have hFw : ∀ b ∈ [gs] ++ (Value.slice au q0.length cu).ownBlock.toList, b ∈ (Value.slice (some ⟨gs, 0, none⟩) L.length c2).ownBlock.toList ++ fw.flatten := fun b hb => by
                        rcases List.mem_append.1 hb with hb | hb
                        · exact List.mem_append_left _ (by simpa [Value.ownBlock] using hb)
                        · exact List.mem_append_right _ (Hu0.out b hb)
                      have hFB : ∀ b ∈ [gs] ++ (Value.slice au q0.length cu).ownBlock.toList, B ≤ b := fun b hb => (HLT.out b (List.mem_append_right _ (List.mem_append_left _ (hFw b hb)))).1
                      obtain ⟨T9, X9⟩ := T6a.fin hgc hO (fun b hb => by have := hFB b hb; omega) X7a
                      obtain ⟨f9, hr9, hf9⟩ := CAcc.setW hk CA6a hR hO hFw (fun b hb => by
                        rcases List.mem_append.1 hb with hb | hb
                        · exact hFB b (List.mem_append_left _ hb)
                        · rcases hsub b hb with hb | hb
                          · exact (HLT.out b (List.mem_append_right _ (List.mem_append_left _ (List.mem_append_right _ hb)))).1
                          · have := kal.size; omega)
                      exact ⟨T9, _, _, _, _, _, _, _, _, _, _, f9, X9, hr9, fun b hb => by have := hf9 b hb; omega, csm_w HC.out (by simp; omega) (fun z hz => by
                        rcases List.mem_or_eq_of_mem_set hz with hz | rfl
                        · have := HC.out.2.2.2.1 z hz; omega
                        · rw [← Hq0.out, List.length_append, List.length_singleton]; omega)⟩
                  · have hL00 : L.length = 0 := by omega
                    go_wp2
                    go_meet
                    exact ⟨T6, ⟨k, n, L.map OwnI.l, ts⟩, _, _, _, _, _, _, _, _, _, _, X7, HCA.out.rep hk, fun b hb => by have := (HLT.out b hb).1; omega, HC.out.mono⟩
                · have e4 : r = 4 := by omega
                  subst e4
                  have hlT : ts.length ≤ 500 := HC.out.2.2.2.2
                  go_upto_region 24 with fail
                  go_region_law (first
                    | (go_simp; first
                    | (go_at_call 19; (with_reducible refine (drawTables_any g fc l [.int .i64 x.points, .string x.names, .slice Ap x.moves.length Cp] x fp _ (T6.sr.keep (by with_reducible repeat (first | exact Only.refl _ _ | assumption | refine Only.drewN ?_ _ | refine Only.drew ?_ | refine Only.alloc ?_ _ | refine Only.trans ?_ (by assumption)))) hl (Rp.keep hx6 (by with_reducible repeat (first | exact Only.refl _ _ | assumption | refine Only.drewN ?_ _ | refine Only.drew ?_ | refine Only.alloc ?_ _ | refine Only.trans ?_ (by assumption)))) hgx).mono ?_); rintro en w7 ⟨v7, L7, g7, rfl, hA7, hF7, l7, sm7, D7, K7⟩; obtain ⟨a7, c7, rfl⟩ := hA7.form; have K67 : Only [g] W6 w7 := Only.trans (by with_reducible repeat (first | exact Only.refl _ _ | assumption | refine Only.drewN ?_ _ | refine Only.drew ?_ | refine Only.alloc ?_ _ | refine Only.trans ?_ (by assumption))) K7; have T7 := T6.step hgc K67 D7; have X8 := X7.only K67 (by simp; omega); have CA7 := CA6.only K67 hgB; have d07 := X8.cell 0 rfl; have d17 := X8.cell 1 rfl; have d27 := X8.cell 2 rfl; have d37 := X8.cell 3 rfl; have zx7 := X8.frozen; have hB7 : B ≤ w7.heap.size := Nat.le_trans hB6 K67.size; have HCA7 := Lib.hid CA7; have A7 := CA7.at_.low3 (Nat.le_trans CA7.b0 CA7.b1); have HF7 := Lib.hid (show ∀ b ∈ g7.flatten, W6.heap.size ≤ b from fun b hb => by have := hF7.ge b hb; first | omega | (simp at this; omega)); have S7 := Lib.hid sm7; clear CA7 hF7 sm7))
                    | (refine step_cat rfl (.tmp 91) (.tmp 94) 25 rfl B 53 m0 _ 72 Tryz.underlying25 hm0 hmz hm1 hm2 rfl (by decide) (by decide) w7 (.slice a3 ts.length c3) ts ft rfl A7 (by with_reducible repeat (first | exact Only.refl _ _ | assumption | refine Only.drewN ?_ _ | refine Only.drew ?_ | refine Only.alloc ?_ _ | refine Only.trans ?_ (by assumption))) hB7 _ 53 (.slice a7 L7.length c7) L7 g7 rfl (hA7.keep (by with_reducible repeat (first | exact Only.refl _ _ | assumption | refine Only.drewN ?_ _ | refine Only.drew ?_ | refine Only.alloc ?_ _ | refine Only.trans ?_ (by assumption)))) (table_one _) ?hap (by omega) ?_; (case hap => (intro b hb he; have h1 := HF7.out b hb; have h2 := (HLT.out b (List.mem_append_right _ (List.mem_append_right _ (List.mem_append_left _ (by simp [he]))))).2; omega)); intro v9 w9 hA9 hO9 hN9; obtain ⟨a9, c9, rfl⟩ := hA9.form; rw [List.length_append] at hA9 hN9; obtain ⟨T9, X9⟩ := (T7.keep hgc (show Only [] w7 _ from (by with_reducible repeat (first | exact Only.refl _ _ | assumption | refine Only.drewN ?_ _ | refine Only.drew ?_ | refine Only.alloc ?_ _ | refine Only.trans ?_ (by assumption))))).fin hgc hO9 (fun b hb => by have := (HLT.out b (List.mem_append_right _ (List.mem_append_right _ (List.mem_append_left _ hb)))).1; omega) (X8.keep (by with_reducible repeat (first | exact Only.refl _ _ | assumption | refine Only.drewN ?_ _ | refine Only.drew ?_ | refine Only.alloc ?_ _ | refine Only.trans ?_ (by assumption)))); have d09 := X9.cell 0 rfl; have d19 := X9.cell 1 rfl; have d29 := X9.cell 2 rfl; have d39 := X9.cell 3 rfl; have zx9 := X9.frozen; have R9 := Lib.hid hA9; have O9 : Only (Value.slice a3 ts.length c3).ownBlock.toList w7 w9 := (Only.trans ((show Only [] w7 _ from (by with_reducible repeat (first | exact Only.refl _ _ | assumption | refine Only.drewN ?_ _ | refine Only.drew ?_ | refine Only.alloc ?_ _ | refine Only.trans ?_ (by assumption)))).weaken _) hO9); have HO9 := Lib.hid O9; clear hA9 hO9 hN9 O9)
                    | fail "no arm")
                  all_goals
                    go_wp2
                    go_meet
                    have hr := R9.out.rd (by decide)
                    obtain ⟨f9, hr9, hf9⟩ := CAcc.setT hk HCA7.out hr HO9.out (fun b hb => List.mem_append_left _ hb) (fun b hb => by
                      rcases List.mem_append.1 hb with hb | hb
                      · exact (R9.out.ownlt b (by simpa using hb)).1
                      · rw [List.flatten_append] at hb
                        rcases List.mem_append.1 hb with hb | hb
                        · exact (HLT.out b (List.mem_append_right _ (List.mem_append_right _ (List.mem_append_right _ hb)))).1
                        · have := HF7.out b hb
                          omega)
                    exact DCF.fld T9 hgc X9 3 (.slice a9 (ts.length + L7.length) c9) rfl hr9 (fun b hb => by have := hf9 b hb; omega) (csm_t HC.out l7 S7.out)
        case rest =>
          obtain ⟨W9, hnew⟩ : ∃ W, W = wc := ⟨_, rfl⟩
          subst hnew
          obtain ⟨T9, DX9⟩ := hcut
          clear HCA CA6 T6 X7 hx6 hk
          obtain ⟨⟨k, n, ws, ts⟩, A1, n1, C1, A2, n2, C2, A3, n3, C3, f, X9, hr, hf, HS⟩ := DX9
          have HR := Lib.hid hr
          have Hf := Lib.hid hf
          refine (show ∀ a w, Code.wp Tryz.prog _ _ a w → _ from by assumption) _ _ ?_
          have d0 := X9.cell 0 rfl; have d1 := X9.cell 1 rfl; have d2 := X9.cell 2 rfl; have d3 := X9.cell 3 rfl
          have g0 := T9.rs.cell 0 rfl; have g1 := T9.rs.cell 1 rfl; have g2 := T9.rs.cell 2 rfl; have g3 := T9.rs.cell 3 rfl; have zb := T9.rs.frozen
          go_wp2
          have Yf := T9.rs.set4 (.int .i64 k) (.slice A1 n1 C1) (.slice A2 n2 C2) (.slice A3 n3 C3)
          have q0 := Yf.cell 0 rfl
          have q1 := Yf.cell 1 rfl
          have q2 := Yf.cell 2 rfl
          have q3 := Yf.cell 3 rfl
          exact bodyPost_ret (v := .agg #[.int .i64 k, .slice A1 n1 C1, .slice A2 n2 C2, .slice A3 n3 C3]) (by simp [results, Tryz.results36, go_sem, q0, q1, q2, q3]) rfl (DCR.mk T9 hgc HR.out Hf.out HS)
end Go.Proofs.YtlbcjkjoapcppaaGreat
