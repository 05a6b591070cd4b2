/- The reference's drawn numbers, permutations (seldom invalid ones), generators (laws 34, 35, ..). The reference's drawn groups (laws 34, 35, ..). -/
import Derived.Test.YtajkhdbdkjhilaaGreatRowScrambledSessionsG13
import Derived.Test.YtajkhdbdkjhilaaGreatRowScrambledSessionsG3
import Derived.Deep.AppendLies
import Derived.Deep.DeepCutAuto
namespace Go.Proofs.YtajkhdbdkjhilaaGreat
open Go.RowKit
set_option maxRecDepth 10000

/-- an entry is written over -/
theorem AccI.put {B : Nat} {e : TypeId} {w : World} {v : Value} {l : List Int} (h : AccI B e w v l) {i : Nat} (hi : i < l.length) {x : Int} (hx : I64 x) :
    ∃ g c, v = .slice (some ⟨g, 0, none⟩) l.length c ∧ w.cell? ⟨g, i, none⟩ = some (.int .i64 l[i]) ∧ w.frozen? ⟨g, i, none⟩ = false ∧ B ≤ g ∧ AccI B e (w.setCell ⟨g, i, none⟩ (.int .i64 x)) v (l.set i x) := by
  obtain ⟨hO, hw⟩ := h.row
  obtain ⟨g, cap, rfl, hb, hlt⟩ := hO.form (by omega)
  obtain ⟨hO2, -⟩ := hO.stored i (.int .i64 x)
  refine ⟨g, cap, rfl, ?_, hO.frozenAt i, hb, AccI.ofRow ?_ ?_⟩
  · rw [hO.cellAt i (by omega)]; simp [hi]
  · rw [List.length_set, List.map_set]; exact hO2
  · intro y hy
    rcases List.mem_or_eq_of_mem_set hy with h1 | rfl
    · exact hw y h1
    · exact hx
set_option maxHeartbeats 1000000 in
theorem specIdentity_acc (m : Nat) (w : World) (hm : m ≤ 1000) :
    Calls Tryz.prog 59 #[.int .i64 m] w fun e w' => ∃ v, e = .returned v ∧ AccI w.heap.size 2 w' v (PM.pts m) ∧ Only [] w w' := by
  obtain ⟨i0, hi, hz0, hz1, hz2⟩ := info_parts Tryz.info2
  go_enter Tryz.func59, Tryz.ntmps59
  go_wp2
  go_loopw [3, 4] (fun o i wr => ∃ (j : Nat) (fs : List (List Nat)), j ≤ m ∧ i = .int .i64 j ∧ Acc w.heap.size 2 wr o (PM.pts j) fs ∧ Fresh w.heap.size wr fs.flatten ∧ Only [] w wr)
    (fun _ i _ => m - (intOf i).toNat)
  case atStart => exact ⟨0, [], Nat.zero_le _, rfl, Acc.made w w.heap.size _ rfl (Nat.le_refl _), Fresh.nil _ _, (Only.refl _ _).alloc _⟩
  case round =>
    obtain ⟨j, fs, hj, rfl, hA, hF, hK⟩ := hrel
    by_cases hlt : j < m
    · have hsz := hK.size
      have hlj : (PM.pts j).length + 1 ≤ 1073741824 := by rw [PM.pts_len]; omega
      have hI : I64 (j : Int) := by unfold I64; omega
      have HI := Lib.hid hI; clear hI
      go_wp2_with ((at_builtin; refine wpList_pushF rfl _ _ 27 rfl w.heap.size 2 i0 _ 8 Tryz.underlying27 hi hz0 hz1 hz2 rfl (by decide) (by decide) wr _ (PM.pts j) fs rfl hA hF ((Only.refl _ _).alloc _) hsz wr.heap.size 1 [.int .i64 (j : Int)] (j : Int) [] rfl (lit_src wr [.int .i64 (j : Int)] _ rfl) (by intro u hu; simp at hu; subst hu; rfl) (int_rd _ HI.out) (Fresh.nil _ _) hlj w (hK.alloc _) (Nat.le_refl _) ?_; intro v3 w3 hA3 hF3 hK3 _))
      go_roundw
      case rel => exact ⟨j + 1, _, by omega, by go_num, by rw [pts_succ]; exact hA3, hF3, hK3⟩
      case measure => simp [intOf]; omega
    · have hjl : j = m := by omega
      rw [hjl] at hA
      have HA := Lib.hid hA
      clear hjl hA
      go_wp2
      go_ret
      exact ⟨_, rfl, ⟨_, HA.out⟩, hK⟩
set_option maxHeartbeats 2000000 in
theorem numberUpTo_any (g : Nat) (fc : List Nat) (l : List UInt8) (n : Int) (w : World) (h : Src w g fc l) (hl : l.length ≤ 4096) (hn : I64 n) :
    Calls Tryz.prog 111 #[.pointer (some ⟨g, 0, none⟩), .int .i64 n] w fun e w' => ∃ r : Int, e = .returned (.int .i64 r) ∧ I64 r ∧ Src w' g fc l ∧ Only [g] w w' := by
  have hlt := h.lt
  obtain ⟨y, hy⟩ : ∃ y, y = IntKind.i64.wrap (n + 1) := ⟨_, rfl⟩
  have hyI : I64 y := by rw [hy, IntKind.wrap_i64]; unfold I64; omega
  have hyw : IntKind.i64.wrap (n + 1) = y := hy.symm
  obtain ⟨z, hz⟩ : ∃ z, z = IntKind.i64.wrap (min n 4 + 1) := ⟨_, rfl⟩
  have hzI : I64 z := by rw [hz, IntKind.wrap_i64]; unfold I64; omega
  have hzw : IntKind.i64.wrap (min n 4 + 1) = z := hz.symm
  have HyI := Lib.hid hyI
  have HzI := Lib.hid hzI
  have Hn := Lib.hid hn
  clear hy hyI hn hz hzI
  go_enter Tryz.func111, Tryz.ntmps111
  go_wp2_with (first
    | (go_at_call 25; (with_reducible refine (oneIn_any g fc l 10 w h hl (by omega)).mono ?_); rintro e w1 ⟨b1, rfl, D1, K1⟩)
    | (go_at_call 25; (with_reducible refine (oneIn_any g fc l 2 w1 D1 hl (by omega)).mono ?_); rintro e w2 ⟨b2, rfl, D2, K2⟩)
    | (go_at_call 51; (with_reducible refine (extremeInt_any g fc l w1 D1 hl).mono ?_); rintro e w2 ⟨x, rfl, hx, D2, K2⟩; have HxI := Lib.hid hx; have hB := Blk.new w2 ([-1, n, y, x].map (Value.int .i64)) 2; have ho : Only [] w2 (w2.alloc (.cells (([-1, n, y, x].map (Value.int .i64))).toArray 2)) := (Only.refl _ _).alloc _; have hgs := D2.lt; clear hx)
    | (go_at_call 52; (with_reducible refine (srcBelow_any g fc l 4 _ (D2.keep (by with_reducible repeat (first | exact Only.refl _ _ | assumption | refine Only.drewN ?_ _ | refine Only.drew ?_ | refine Only.alloc ?_ _ | refine Only.setCell ?_ (by intro hh; exfalso; simp at hh; try omega) _ | refine Only.trans ?_ (by assumption)))) hl (by omega)).mono ?_); rintro e w3 ⟨r, rfl, r0, r1, D3, K3⟩; obtain ⟨k, rfl⟩ := Int.eq_ofNat_of_zero_le r0; have hk : k < 4 := (by omega); have hB1 := hB.only K3 (by simp; omega); have c1 := hB1.cell k (v := .int .i64 (([-1, n, y, x] : List Int)[k]'hk)) (by rw [List.getElem?_map, List.getElem?_eq_getElem (show k < ([-1, n, y, x] : List Int).length from hk)]; rfl); have hk0 : (0 : Int) ≤ (k : Int) := (by omega); have hk1 : (k : Int) < 4 := (by omega))
    | (go_at_call 52; (with_reducible refine (srcBelow_any g fc l y w2 D2 hl (by have := HyI.out; unfold I64 at this; omega)).mono ?_); rintro e w3 ⟨r, rfl, r0, r1, D3, K3⟩)
    | (go_at_call 52; (with_reducible refine (srcBelow_any g fc l z w2 D2 hl (by have := HzI.out; unfold I64 at this; omega)).mono ?_); rintro e w3 ⟨r, rfl, r0, r1, D3, K3⟩)
    | fail "no arm")
  · go_ret
    refine ⟨_, rfl, ?_, D3, ((K1.trans K2).trans (ho.weaken [g])).trans K3⟩
    rcases (show k = 0 ∨ k = 1 ∨ k = 2 ∨ k = 3 by omega) with rfl | rfl | rfl | rfl
    · show I64 (-1); unfold I64; omega
    · exact Hn.out
    · exact HyI.out
    · exact HxI.out
  · go_ret
    exact ⟨r, rfl, by have := HzI.out; unfold I64 at *; omega, D3, (K1.trans K2).trans K3⟩
  · go_ret
    exact ⟨r, rfl, by have := HyI.out; unfold I64 at *; omega, D3, (K1.trans K2).trans K3⟩
set_option maxHeartbeats 4000000 in
theorem drawGens_any (g : Nat) (fc : List Nat) (l : List UInt8) (n : Nat) (w : World) (h : Src w g fc l) (hl : l.length ≤ 4096) (hn : 1 ≤ n ∧ n ≤ 1000) :
    Calls Tryz.prog 107 #[.pointer (some ⟨g, 0, none⟩), .int .i64 n] w fun e w' => ∃ v gs fs, e = .returned v ∧ Acc w.heap.size 27 w' v gs fs ∧ Fresh w.heap.size w' fs.flatten ∧ (gs.length ≤ 3 ∧ ∀ y : List Int, y ∈ gs → y.length = n) ∧ Src w' g fc l ∧ Only [g] w w' := by
  obtain ⟨i0, hi, hz0, hz1, hz2⟩ := info_parts Tryz.info22
  have hg := h.lt
  have hfc : ∀ b ∈ fc, b < w.heap.size := by obtain ⟨_, _, _, _, _, _, _, h4, _⟩ := h; exact fun b hb => Rp.lt h4 b hb
  have hA0 := Acc.made (α := List Int) w w.heap.size 27 rfl (Nat.le_refl _)
  have ho : Only [] w (w.alloc (.cells #[] 27)) := (Only.refl _ _).alloc _
  go_enter Tryz.func107, Tryz.ntmps107
  go_wp2_with (first
    | (go_at_call 52; (with_reducible refine (srcBelow_any g fc l 3 _ (h.keep (by with_reducible repeat (first | exact Only.refl _ _ | assumption | refine Only.drewN ?_ _ | refine Only.drew ?_ | refine Only.alloc ?_ _ | refine Only.setCell ?_ (by intro hh; exfalso; simp at hh; try omega) _ | refine Only.trans ?_ (by assumption)))) hl (by omega)).mono ?_); rintro e w1 ⟨r, rfl, r0, r1, D1, K1⟩; obtain ⟨k, rfl⟩ := Int.eq_ofNat_of_zero_le r0; have hk : k ≤ 2 := (by omega); have hk1 : IntKind.i64.wrap (1 + (k : Int)) = 1 + (k : Int) := (by rw [IntKind.wrap_i64]; omega))
    | fail "no arm")
  have hA1 := hA0.only K1 (by simp) (by intro q hq hm; simp [Value.ownBlock] at hq hm; omega)
  have K1w : Only [g] w w1 := (ho.weaken [g]).trans K1
  go_loopw [5, 6] (fun o c wr => ∃ (j : Nat) (gs : List (List Int)) (fs : List (List Nat)), c = .int .i64 j ∧ gs.length + j ≤ 3 ∧ Acc w.heap.size 27 wr o gs fs ∧ Fresh w.heap.size wr fs.flatten ∧ (∀ y : List Int, y ∈ gs → y.length = n) ∧ Src wr g fc l ∧ Only [g] w wr)
    (fun _ c _ => (intOf c).toNat)
  case atStart => exact ⟨k + 1, [], [], by go_num, by simp; omega, hA1, Fresh.nil _ _, by simp, D1, K1w⟩
  case round =>
    obtain ⟨W2, hnew⟩ : ∃ W, W = wr := ⟨_, rfl⟩
    subst hnew
    obtain ⟨j, gs, fs, rfl, hlen, hA, hF, hgl, hD, hK⟩ := hrel
    clear hA0 hA1 K1w D1 K1 ho
    by_cases hj : 0 < j
    · have hjI : (0 : Int) < (j : Int) := by omega
      have hsz := hK.size
      go_upto_region 6 with ((go_at_call 59; (with_reducible refine (specIdentity_acc n W2 (by omega)).mono ?_); rintro e w3 ⟨v3, rfl, hA3, t3⟩))
      have D3 := hD.keep t3
      have hg2 : g < W2.heap.size := hD.lt
      go_cut [22] (fun s22 wx => ∃ r4 : Int, s22 = .int .i64 r4 ∧ Src wx g fc l ∧ Only [g] w3 wx)
      case first =>
        go_wp2_with ((go_at_call 52; (with_reducible refine (srcBelow_any g fc l 4 w3 D3 hl (by omega)).mono ?_); rintro e w4 ⟨r4, rfl, r40, r41, D4, K4⟩))
        go_meet
        exact ⟨r4, rfl, D4, K4⟩
      case rest =>
        obtain ⟨W4, hnew⟩ : ∃ W, W = wc := ⟨_, rfl⟩
        subst hnew
        obtain ⟨r4, rfl, D4, K4⟩ := hcut
        have hA4 := hA3.only K4 (fun q hq hm => by have := hA3.ownlt q hq; simp at hm; omega)
        have K24 : Only [g] W2 W4 := (t3.weaken [g]).trans K4
        refine (show ∀ a w, Code.wp Tryz.prog _ _ a w → _ from by assumption) _ _ ?_
        go_cut [7] (fun s7 wx => ∃ p, AccI W2.heap.size 2 wx s7 p ∧ p.length = n ∧ Src wx g fc l ∧ Only [g] W2 wx)
        case first =>
          have hmv : ∀ {V : World} {q : Nat}, v3.ownBlock = some q → q ∉ [g] := fun hq hm => by have := hA3.ownlt _ hq; simp at hm; omega
          by_cases e0 : r4 = 0
          · subst e0
            go_wp2_with ((go_at_call 110; (with_reducible refine (drawPerm_any g fc l n W4 D4 (by omega) hl).mono ?_); rintro e w5 ⟨v5, p5, rfl, hA5, hp5, D5, K5⟩))
            go_meet
            exact ⟨p5, hA5.low2 K24.size, hp5.1, D5, K24.trans K5⟩
          · by_cases e1 : r4 = 1
            · subst e1
              go_wp2
              go_loopw [8] (fun c wr => ∃ (i : Nat) (p : List Int), c = .int .i64 i ∧ i ≤ n ∧ AccI W2.heap.size 2 wr v3 p ∧ p.length = n ∧ Src wr g fc l ∧ Only [g] W2 wr)
                (fun c _ => n - (intOf c).toNat)
              case atStart => exact ⟨0, _, rfl, Nat.zero_le _, hA4, PM.pts_len n, D4, K24⟩
              case round =>
                obtain ⟨V, hnew⟩ : ∃ W, W = wr := ⟨_, rfl⟩
                subst hnew
                obtain ⟨i, p, rfl, hin, hAp, hpl, hDp, hKp⟩ := hrel
                by_cases hlt : i < n
                · have hinI : (i : Int) < (n : Int) := by omega
                  have hi0 : (0 : Int) ≤ (i : Int) := by omega
                  have hwi : IntKind.i64.wrap ((i : Int) + 1) = (i : Int) + 1 := by rw [IntKind.wrap_i64]; omega
                  have hn0 : (n : Int) ≠ 0 := by omega
                  have hr0 := Int.emod_nonneg ((i : Int) + 1) hn0
                  have hr1 := Int.emod_lt_of_pos ((i : Int) + 1) (show (0 : Int) < (n : Int) by omega)
                  obtain ⟨xx, hxx⟩ : ∃ xx, xx = ((i : Int) + 1) % (n : Int) := ⟨_, rfl⟩
                  have hmd : ((i : Int) + 1) % (n : Int) = xx := hxx.symm
                  have hmd2 : Int.tmod ((i : Int) + 1) (n : Int) = xx := by rw [Int.tmod_eq_emod_of_nonneg (by omega)]; exact hmd
                  rw [← hxx] at hr0 hr1
                  obtain ⟨g3, c3, e3, hc3, hf3, hb3, hA3'⟩ := hAp.put (i := i) (by omega) (x := xx) (by unfold I64; omega)
                  rw [hpl] at e3
                  obtain ⟨y3, hy3⟩ : ∃ y, y = p[i]'(by omega) := ⟨_, rfl⟩
                  rw [← hy3] at hc3
                  have HA3 := Lib.hid hA3'
                  have Hpl := Lib.hid hpl
                  clear hxx hAp hy3 hpl hA3' hmv hA3 hA4
                  subst e3
                  go_wp2
                  exact ⟨⟨i + 1, _, by go_num, by omega, HA3.out, by rw [List.length_set]; exact Hpl.out, hDp.only ((Only.refl [g3] V).setCell (by simp) _) (by simp; omega) (fun b hb hm => by have := hfc b hb; simp at hm; omega), hKp.then_ ((Only.refl [g3] V).setCell (by simp) _) (fun b hb hl => by simp at hb; omega)⟩, by simp [intOf]; omega⟩
                · obtain rfl : i = n := by omega
                  go_wp2
                  go_meet
                  exact ⟨p, hAp, hpl, hDp, hKp⟩
            · go_upto_region 9 with (first
                | (go_at_call 52; (with_reducible refine (srcBelow_any g fc l n W4 D4 hl (by omega)).mono ?_); rintro e w5 ⟨x5, rfl, x50, x51, D5, K5⟩)
                | (go_at_call 52; (with_reducible refine (srcBelow_any g fc l n w5 D5 hl (by omega)).mono ?_); rintro e w6 ⟨x6, rfl, x60, x61, D6, K6⟩)
                | fail "no arm")
              obtain ⟨xa, rfl⟩ := Int.eq_ofNat_of_zero_le x50
              obtain ⟨xb, rfl⟩ := Int.eq_ofNat_of_zero_le x60
              have hxa : xa < n := by omega
              have hxb : xb < n := by omega
              have hxaI : (xa : Int) < (n : Int) := by omega
              have hxbI : (xb : Int) < (n : Int) := by omega
              have hxa0 : (0 : Int) ≤ (xa : Int) := by omega
              have hxb0 : (0 : Int) ≤ (xb : Int) := by omega
              have hA6 := hA4.only (K5.trans K6) (fun q hq => hmv (V := W4) hq)
              obtain ⟨g3, c3, e3, hc3, hf3, hb3, hA7⟩ := hA6.put (i := xa) (by rw [PM.pts_len]; exact hxa) (x := (xb : Int)) (by unfold I64; omega)
              obtain ⟨g4, c4, e4, hc4, hf4, hb4, hA8⟩ := hA7.put (i := xb) (by rw [List.length_set, PM.pts_len]; exact hxb) (x := (xa : Int)) (by unfold I64; omega)
              rw [PM.pts_len] at e3
              rw [List.length_set, PM.pts_len] at e4
              have e34 := e3.symm.trans e4
              injection e34 with e5 _ e6
              subst e6
              injection e5 with e5
              injection e5 with e5 _ _
              subst e5
              obtain ⟨y3, hy3⟩ : ∃ y, w6.cell? ⟨g3, xa, none⟩ = some (.int .i64 y) := ⟨_, hc3⟩
              obtain ⟨y4, hy4⟩ : ∃ y, (w6.setCell ⟨g3, xa, none⟩ (.int .i64 (xb : Int))).cell? ⟨g3, xb, none⟩ = some (.int .i64 y) := ⟨_, hc4⟩
              have HA8 := Lib.hid hA8
              clear hc3 hc4 hA7 hA8 hA6 e4 hmv hA3 hA4
              subst e3
              have k68 : Only [g3] w6 ((w6.setCell ⟨g3, xa, none⟩ (.int .i64 (xb : Int))).setCell ⟨g3, xb, none⟩ (.int .i64 (xa : Int))) := ((Only.refl [g3] w6).setCell (by simp) _).setCell (by simp) _
              go_wp2
              go_meet
              exact ⟨_, HA8.out, by rw [List.length_set, List.length_set, PM.pts_len], D6.only k68 (by simp; omega) (fun b hb hm => by have := hfc b hb; simp at hm; omega), (K24.trans (K5.trans K6)).then_ k68 (fun b hb hl => by simp at hb; omega)⟩
        case rest =>
          obtain ⟨W5, hnew⟩ : ∃ W, W = wc := ⟨_, rfl⟩
          subst hnew
          obtain ⟨p, hA5, hp5, D5, K5⟩ := hcut
          obtain ⟨a5, c5, rfl⟩ := hA5.form
          have Hp5 := Lib.hid hp5
          clear hp5
          have hA6 := hA.only K5 (fun q hq hm => by have := hF.ge q hq; simp at hm; omega) (fun q hq hm => by have := (hA.ownlt q hq).1; simp at hm; omega)
          have hF6 := hF
          have hrow := hA5.rd
          have hfr := hA5.fresh
          have hnl : gs.length + 1 ≤ 1073741824 := by omega
          have hbz : w.heap.size ≤ W5.heap.size := Nat.le_trans hsz K5.size
          go_wp2_with (first
            | (at_builtin; refine wpList_push2 rfl _ _ 24 rfl w.heap.size 27 i0 _ 24 Tryz.underlying24 hi hz0 hz1 hz2 rfl (by decide) (by decide) W5 u5 gs fs rfl hA6 ((Only.refl [] W5).alloc _) hbz W5.heap.size 1 [.slice a5 p.length c5] p _ rfl (lit_src W5 [.slice a5 p.length c5] _ rfl) (by intro u hu; simp at hu; subst hu; rfl) (Rp.keep hrow ((Only.refl [] W5).alloc _)) ?hap hnl ?_; (case hap => (intro b hb he; have h1 := hfr.ge b hb; have h2 := (hA.ownlt b he).2; omega)); intro v7 w7 hA7 hO7 hN7)
            | fail "no arm")
          have D7 := (D5.keep ((Only.refl [] W5).alloc (.cells #[.slice a5 p.length c5] 27))).only hO7 (fun hm => by have := (hA.ownlt g (by simpa using hm)).1; omega) (fun b hb hm => by have := hfc b hb; have := (hA.ownlt b (by simpa using hm)).1; omega)
          have K7 : Only [g] w w7 := ((hK.trans K5).alloc _).then_ hO7 (fun b hb hl => by have := (hA.ownlt b (by simpa using hb)).1; omega)
          have hs7 : W5.heap.size ≤ w7.heap.size := Nat.le_trans (by simp) hO7.size
          have hkal : Only [] W5 (W5.alloc (.cells #[.slice a5 p.length c5] 27)) := (Only.refl _ _).alloc _
          have F1 : Fresh w.heap.size w7 fs.flatten := ((hF.only K5 (fun q hq hm => by have := hF.ge q hq; simp at hm; omega)).keep hkal).only hO7 (fun q hq hm => hA.apart q (by simpa using hm) hq)
          have F2 := (hfr.keep hkal).only hO7 (fun q hq hm => by have h1 := hfr.ge q hq; have h2 := (hA.ownlt q (by simpa using hm)).2; omega)
          have F3 : Fresh w.heap.size w7 (fs ++ [(Value.slice a5 p.length c5).ownBlock.toList]).flatten := by
            have := F1.append F2 hsz hF.lt
            simpa using this
          exact ⟨⟨j - 1, gs ++ [p], _, by congr 1; omega, by simp; omega, hA7, F3, by
            intro y hy
            rcases List.mem_append.1 hy with hy | hy
            · exact hgl y hy
            · rw [List.mem_singleton.1 hy]; exact Hp5.out, D7, K7⟩, by simp [intOf]; omega⟩
    · obtain rfl : j = 0 := by omega
      go_wp2
      go_ret
      exact ⟨_, gs, fs, rfl, hA, hF, ⟨by omega, hgl⟩, hD, hK⟩
set_option maxHeartbeats 4000000 in
theorem drawAny_any (g : Nat) (fc : List Nat) (l : List UInt8) (n : Nat) (w : World) (h : Src w g fc l) (hl : l.length ≤ 4096) (hn : 1 ≤ n ∧ n ≤ 1000) :
    Calls Tryz.prog 65 #[.pointer (some ⟨g, 0, none⟩), .int .i64 n] w fun e w' => ∃ v, ∃ p : List Int, ∃ fp, e = .returned v ∧ Rd w' v p fp ∧ Fresh w.heap.size w' fp ∧ p.length ≤ n + 21 ∧ Src w' g fc l ∧ Only [g] w w' := by
  obtain ⟨i0, hi, hz0, hz1, hz2⟩ := info_parts Tryz.info2
  have hg := h.lt
  have hfc : ∀ b ∈ fc, b < w.heap.size := by obtain ⟨_, _, _, _, _, _, _, h4, _⟩ := h; exact fun b hb => Rp.lt h4 b hb
  have hnI : (0 : Int) < (n : Int) := by omega
  go_enter Tryz.func65, Tryz.ntmps65
  go_upto_region 2 with ((go_at_call 110; (with_reducible refine (drawPerm_any g fc l n w h (by omega) hl).mono ?_); rintro e w1 ⟨v1, p1, rfl, hA1, hp1, D1, K1⟩))
  go_cut [14] (fun s14 wx => ∃ b : Bool, s14 = .bool b ∧ Src wx g fc l ∧ Only [g] w1 wx)
  case first =>
    go_wp2_with ((go_at_call 25; (with_reducible refine (oneIn_any g fc l 12 w1 D1 hl (by omega)).mono ?_); rintro e w2 ⟨b, rfl, D2, K2⟩))
    all_goals go_meet
    all_goals exact ⟨_, rfl, D2, K2⟩
  case rest =>
    obtain ⟨W2, hnew⟩ : ∃ W, W = wc := ⟨_, rfl⟩
    subst hnew
    obtain ⟨b, rfl, D2, K2⟩ := hcut
    have hmv : ∀ {q : Nat}, v1.ownBlock = some q → q ∉ [g] := fun hq hm => by have := hA1.ownlt _ hq; simp at hm; omega
    have hA2 := hA1.only K2 (fun q hq => hmv hq)
    have K12 := K1.trans K2
    refine (show ∀ a w, Code.wp Tryz.prog _ _ a w → _ from by assumption) _ _ ?_
    go_cut [5] (fun s5 wx => ∃ p : List Int, ∃ fp, Rd wx s5 p fp ∧ Fresh w.heap.size wx fp ∧ p.length ≤ n + 1 ∧ Src wx g fc l ∧ Only [g] w wx)
    case first =>
      have hln := hp1.1
      have Hln := Lib.hid hln
      have hs12 := K12.size
      clear hp1 hln
      cases b
      · go_wp2
        go_meet
        exact ⟨p1, _, hA2.rd, hA2.fresh, by rw [Hln.out]; omega, D2, K12⟩
      · go_upto_region 4 with ((go_at_call 52; (with_reducible refine (srcBelow_any g fc l 3 W2 D2 hl (by omega)).mono ?_); rintro e w3 ⟨r, rfl, r0, r1, D3, K3⟩))
        have K13 := K12.trans K3
        have hA3 := hA2.only K3 (fun q hq => hmv hq)
        by_cases e0 : r = 0
        · subst e0
          go_wp2_with (first
            | (go_at_call 52; (with_reducible refine (srcBelow_any g fc l n w3 D3 hl (by omega)).mono ?_); rintro e w4 ⟨x4, rfl, x40, x41, D4, K4⟩)
            | (go_at_call 111; (with_reducible refine (numberUpTo_any g fc l n w4 D4 hl (by unfold I64; omega)).mono ?_); rintro e w5 ⟨y, rfl, hy, D5, K5⟩; obtain ⟨xa, rfl⟩ := Int.eq_ofNat_of_zero_le x40; have hxa : xa < n := (by omega); have hxaI : (xa : Int) < (n : Int) := (by omega); have hxa0 : (0 : Int) ≤ (xa : Int) := (by omega); have hA5 := hA3.only (K4.trans K5) (fun q hq => hmv hq); obtain ⟨g3, c3, e3, hc3, hf3, hb3, hA7⟩ := hA5.put (i := xa) (by rw [Hln.out]; exact hxa) hy; obtain ⟨y3, hy3⟩ : ∃ z, w5.cell? ⟨g3, xa, none⟩ = some (.int .i64 z) := ⟨_, hc3⟩; have HA7 := Lib.hid hA7; rw [Hln.out] at e3; clear hc3 hA7 hA5 hA3 hA2 hA1 hmv; subst e3)
            | fail "no arm")
          go_meet
          have k68 : Only [g3] w5 (w5.setCell ⟨g3, xa, none⟩ (.int .i64 y)) := (Only.refl [g3] w5).setCell (by simp) _
          exact ⟨_, _, HA7.out.rd, HA7.out.fresh, by rw [List.length_set, Hln.out]; omega, D5.only k68 (by simp; omega) (fun b hb hm => by have := hfc b hb; simp at hm; omega), (K13.trans (K4.trans K5)).then_ k68 (fun b hb hl => by simp at hb; omega)⟩
        · by_cases e1 : r = 1
          · subst e1
            obtain ⟨hO, hw⟩ := hA3.row
            obtain ⟨g3, c3, e3, hb3, hlt3⟩ := hO.form (by rw [Hln.out]; omega)
            have hR := hA3.rd
            have hFr := hA3.fresh
            rw [e3] at hR hFr
            obtain ⟨a3, c3', e4, I3⟩ := hR.ints
            rw [Hln.out] at e3 e4
            injection e4 with e5 _ e6
            subst e5
            subst e6
            have hcap := I3.len
            rw [Hln.out] at hcap
            have HI := Lib.hid I3
            have hcI : (n : Int) ≤ (c3 : Int) := by omega
            have hn1 : (1 : Int) ≤ (n : Int) := by omega
            have hFO := Lib.hid hFr
            clear hA3 hA2 hA1 hmv hR hO I3 hFr
            subst e3
            by_cases hc1 : c3 = 1
            · subst hc1
              have hn11 : n = 1 := by omega
              subst hn11
              go_wp2
              go_meet
              exact ⟨[], [], (IntsA.nil _ _ (by simp [maxLen])).rd, Fresh.nil _ _, by simp, D3, K13⟩
            · go_wp2
              go_meet
              exact ⟨p1.drop 1, _, by have := (HI.out.drop (k := 1) (by rw [Hln.out]; omega)).rd; rw [List.length_drop, Hln.out] at this; exact this, hFO.out, by rw [List.length_drop, Hln.out]; omega, D3, K13⟩
          · have e2 : r = 2 := by omega
            subst e2
            have hnI64 : I64 (n : Int) := by unfold I64; omega
            have HnI := Lib.hid hnI64
            have hdl : p1.length + 1 ≤ 1073741824 := by rw [Hln.out]; omega
            have hbw : w.heap.size ≤ w3.heap.size := K13.size
            have HA3 := Lib.hid hA3
            clear hnI64
            go_wp2_with (first
              | (at_builtin; refine wpList_pushI rfl _ _ 27 rfl w.heap.size 2 i0 _ Tryz.underlying27 hi hz0 hz1 hz2 rfl w3 v1 p1 rfl HA3.out ((Only.refl _ _).alloc _) hbw w3.heap.size 1 (n : Int) rfl (lit1 w3 _ _ rfl) HnI.out hdl ?_; intro v9 w9 hA9 hO9 hP9 hN9)
              | fail "no arm")
            go_meet
            exact ⟨_, _, hA9.rd, hA9.fresh, by rw [List.length_append, Hln.out]; simp, (D3.keep ((Only.refl [] w3).alloc _)).only hO9 (fun hm => by have := (hA3.ownlt g (by simpa using hm)).1; omega) (fun b hb hm => by have := hfc b hb; have := (hA3.ownlt b (by simpa using hm)).1; omega), (K13.alloc _).then_ hO9 (fun b hb hl => by have := (hA3.ownlt b (by simpa using hb)).1; omega)⟩
    case rest =>
      obtain ⟨W5, hnew⟩ : ∃ W, W = wc := ⟨_, rfl⟩
      subst hnew
      obtain ⟨p, fp, r5, F5, hp5, D5, K5⟩ := hcut
      go_wp2_with (first
        | (go_at_call 25; (with_reducible refine (oneIn_any g fc l 60 _ D5 hl (by omega)).mono ?_); rintro e w6 ⟨b6, rfl, D6, K6⟩)
        | (go_at_call 52; (with_reducible refine (srcBelow_any g fc l 2 w6 D6 hl (by omega)).mono ?_); rintro e w7 ⟨r, rfl, r0, r1, D7, K7⟩; obtain ⟨k, rfl⟩ := Int.eq_ofNat_of_zero_le r0; have hk : k ≤ 1 := (by omega); obtain ⟨m, hm⟩ : ∃ m : Nat, m = 20 + k := ⟨_, rfl⟩; have hwk : IntKind.i64.wrap (20 + (k : Int)) = (m : Int) := (by rw [IntKind.wrap_i64]; omega); have hm1 : m ≤ 21 := (by omega); clear hm)
        | (go_at_call 110; (with_reducible refine (drawPerm_any g fc l m w7 D7 (by omega) hl).mono ?_); rintro e w8 ⟨v8, p8, rfl, hA8, hp8, D8, K8⟩)
        | fail "no arm")
      · go_ret
        exact ⟨_, p8, _, rfl, hA8.rd, hA8.fresh.mono (Nat.le_trans K5.size (K6.trans K7).size), by rw [hp8.1]; omega, D8, K5.trans ((K6.trans K7).trans K8)⟩
      · go_ret
        exact ⟨_, p, fp, rfl, Rp.only r5 K6 (fun q hq hm => by have := F5.ge q hq; simp at hm; omega), F5.only K6 (fun q hq hm => by have := F5.ge q hq; simp at hm; omega), by omega, D6, K5.trans K6⟩
end Go.Proofs.YtajkhdbdkjhilaaGreat

namespace Go.Proofs.YtajkhdbdkjhilaaGreat
open Go.RowKit
set_option maxRecDepth 10000

theorem Acc.low3 {α : Type} [Rp α] {B B' : Nat} {e : TypeId} {w : World} {v : Value} {l : List α} {fs : List (List Nat)} (h : Acc B e w v l fs) (hB : B' ≤ B) : Acc B' e w v l fs := by
  obtain ⟨⟨css, ho, hcl, hr⟩, hf, ha⟩ := h
  refine ⟨⟨css, ⟨ho.1, ?_⟩, hcl, hr⟩, hf, ha⟩
  rcases ho.2 with h1 | ⟨g, cap, cur, h1, h2, h3⟩
  · exact .inl h1
  · exact .inr ⟨g, cap, cur, h1, Nat.le_trans hB h2, h3⟩
theorem push_facts {w W w4 w5 w7 : World} {g : Nat} {fc : List Nat} {l : List UInt8} {e : TypeId} {v : Value} {gs : List (List Int)} {fs : List (List Nat)} {f : List Nat} (hA : Acc w.heap.size e W v gs fs) (hF : Fresh w.heap.size W fs.flatten) (hK : Only [g] w W) (K4 : Only [g] W w4) (hf : Fresh W.heap.size w4 f) (D4 : Src w4 g fc l) (hg : g < w.heap.size) (hfc : ∀ b ∈ fc, b < w.heap.size) (o5 : Only [] w4 w5) (hO7 : Only v.ownBlock.toList w5 w7) :
    Fresh w.heap.size w7 (fs ++ [f]).flatten ∧ Src w7 g fc l ∧ Only [g] w w7 := by
  have F1 : Fresh w.heap.size w7 fs.flatten := ((hF.only K4 (fun q hq hm => by have := hF.ge q hq; simp at hm; omega)).keep o5).only hO7 (fun q hq hm => hA.apart q (by simpa using hm) hq)
  have F2 := (hf.keep o5).only hO7 (fun q hq hm => by have h1 := hf.ge q hq; have h2 := (hA.ownlt q (by simpa using hm)).2; omega)
  have D7 := (D4.keep o5).only hO7 (fun hm => by have := (hA.ownlt g (by simpa using hm)).1; omega) (fun b hb hm => by have := hfc b hb; have := (hA.ownlt b (by simpa using hm)).1; omega)
  refine ⟨by have := F1.append F2 hK.size hF.lt; simpa using this, D7, ((hK.trans K4).trans (o5.weaken [g])).then_ hO7 (fun b hb hl => by have := (hA.ownlt b (by simpa using hb)).1; omega)⟩
end Go.Proofs.YtajkhdbdkjhilaaGreat
