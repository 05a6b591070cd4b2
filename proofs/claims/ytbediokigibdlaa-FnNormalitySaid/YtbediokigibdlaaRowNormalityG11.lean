/- The reference's drawn numbers, permutations (seldom invalid ones), generators (laws 34, 35, ..). The reference's drawn groups (laws 34, 35, ..). The reference's drawn subgroups (laws 37, 48). All members of a chain, level by level, are the members of the ranks in their order (laws 32, 36, 44). -/
import Derived.Test.YtbediokigibdlaaRowNormalityG10
import Derived.Test.YtbediokigibdlaaRowNormalityG3
import Derived.Deep.AppendLies
import Derived.Deep.DeepCutAuto
import Derived.Test.YtbediokigibdlaaRowNormalityG8
namespace Go.Proofs.Ytbediokigibdlaa
open Go.RowKit
set_option maxRecDepth 10000

/-- an entry is written over -/
theorem AccI.put {B : Nat} {e : TypeId} {w : World} {v : Value} {l : List Int} (h : AccI B e w v l) {i : Nat} (hi : i < l.length) {x : Int} (hx : I64 x) :
    ∃ g c, v = .slice (some ⟨g, 0, none⟩) l.length c ∧ w.cell? ⟨g, i, none⟩ = some (.int .i64 l[i]) ∧ w.frozen? ⟨g, i, none⟩ = false ∧ B ≤ g ∧ AccI B e (w.setCell ⟨g, i, none⟩ (.int .i64 x)) v (l.set i x) := by
  obtain ⟨hO, hw⟩ := h.row
  obtain ⟨g, cap, rfl, hb, hlt⟩ := hO.form (by omega)
  obtain ⟨hO2, -⟩ := hO.stored i (.int .i64 x)
  refine ⟨g, cap, rfl, ?_, hO.frozenAt i, hb, AccI.ofRow ?_ ?_⟩
  · rw [hO.cellAt i (by omega)]; simp [hi]
  · rw [List.length_set, List.map_set]; exact hO2
  · intro y hy
    rcases List.mem_or_eq_of_mem_set hy with h1 | rfl
    · exact hw y h1
    · exact hx
set_option maxHeartbeats 1000000 in
theorem specIdentity_acc (m : Nat) (w : World) (hm : m ≤ 1000) :
    Calls Try.prog 55 #[.int .i64 m] w fun e w' => ∃ v, e = .returned v ∧ AccI w.heap.size 2 w' v (PM.pts m) ∧ Only [] w w' := by
  obtain ⟨i0, hi, hz0, hz1, hz2⟩ := info_parts Try.info2
  go_enter Try.func55, Try.ntmps55
  go_wp2
  go_loopw [3, 4] (fun o i wr => ∃ (j : Nat) (fs : List (List Nat)), j ≤ m ∧ i = .int .i64 j ∧ Acc w.heap.size 2 wr o (PM.pts j) fs ∧ Fresh w.heap.size wr fs.flatten ∧ Only [] w wr)
    (fun _ i _ => m - (intOf i).toNat)
  case atStart => exact ⟨0, [], Nat.zero_le _, rfl, Acc.made w w.heap.size _ rfl (Nat.le_refl _), Fresh.nil _ _, (Only.refl _ _).alloc _⟩
  case round =>
    obtain ⟨j, fs, hj, rfl, hA, hF, hK⟩ := hrel
    by_cases hlt : j < m
    · have hsz := hK.size
      have hlj : (PM.pts j).length + 1 ≤ 1073741824 := by rw [PM.pts_len]; omega
      have hI : I64 (j : Int) := by unfold I64; omega
      have HI := Lib.hid hI; clear hI
      go_wp2_with ((at_builtin; refine wpList_pushF rfl _ _ 36 rfl w.heap.size 2 i0 _ 8 Try.underlying36 hi hz0 hz1 hz2 rfl (by decide) (by decide) wr _ (PM.pts j) fs rfl hA hF ((Only.refl _ _).alloc _) hsz wr.heap.size 1 [.int .i64 (j : Int)] (j : Int) [] rfl (lit_src wr [.int .i64 (j : Int)] _ rfl) (by intro u hu; simp at hu; subst hu; rfl) (int_rd _ HI.out) (Fresh.nil _ _) hlj w (hK.alloc _) (Nat.le_refl _) ?_; intro v3 w3 hA3 hF3 hK3 _))
      go_roundw
      case rel => exact ⟨j + 1, _, by omega, by go_num, by rw [pts_succ]; exact hA3, hF3, hK3⟩
      case measure => simp [intOf]; omega
    · have hjl : j = m := by omega
      rw [hjl] at hA
      have HA := Lib.hid hA
      clear hjl hA
      go_wp2
      go_ret
      exact ⟨_, rfl, ⟨_, HA.out⟩, hK⟩
set_option maxHeartbeats 2000000 in
theorem numberUpTo_any (g : Nat) (fc : List Nat) (l : List UInt8) (n : Int) (w : World) (h : Src w g fc l) (hl : l.length ≤ 4096) (hn : I64 n) :
    Calls Try.prog 103 #[.pointer (some ⟨g, 0, none⟩), .int .i64 n] w fun e w' => ∃ r : Int, e = .returned (.int .i64 r) ∧ I64 r ∧ Src w' g fc l ∧ Only [g] w w' := by
  have hlt := h.lt
  obtain ⟨y, hy⟩ : ∃ y, y = IntKind.i64.wrap (n + 1) := ⟨_, rfl⟩
  have hyI : I64 y := by rw [hy, IntKind.wrap_i64]; unfold I64; omega
  have hyw : IntKind.i64.wrap (n + 1) = y := hy.symm
  obtain ⟨z, hz⟩ : ∃ z, z = IntKind.i64.wrap (min n 4 + 1) := ⟨_, rfl⟩
  have hzI : I64 z := by rw [hz, IntKind.wrap_i64]; unfold I64; omega
  have hzw : IntKind.i64.wrap (min n 4 + 1) = z := hz.symm
  have HyI := Lib.hid hyI
  have HzI := Lib.hid hzI
  have Hn := Lib.hid hn
  clear hy hyI hn hz hzI
  go_enter Try.func103, Try.ntmps103
  go_wp2_with (first
    | (go_at_call 80; (with_reducible refine (oneIn_any g fc l 10 w h hl (by omega)).mono ?_); rintro e w1 ⟨b1, rfl, D1, K1⟩)
    | (go_at_call 80; (with_reducible refine (oneIn_any g fc l 2 w1 D1 hl (by omega)).mono ?_); rintro e w2 ⟨b2, rfl, D2, K2⟩)
    | (go_at_call 122; (with_reducible refine (extremeInt_any g fc l w1 D1 hl).mono ?_); rintro e w2 ⟨x, rfl, hx, D2, K2⟩; have HxI := Lib.hid hx; have hB := Blk.new w2 ([-1, n, y, x].map (Value.int .i64)) 2; have ho : Only [] w2 (w2.alloc (.cells (([-1, n, y, x].map (Value.int .i64))).toArray 2)) := (Only.refl _ _).alloc _; have hgs := D2.lt; clear hx)
    | (go_at_call 79; (with_reducible refine (srcBelow_any g fc l 4 _ (D2.keep (by with_reducible repeat (first | exact Only.refl _ _ | assumption | refine Only.drewN ?_ _ | refine Only.drew ?_ | refine Only.alloc ?_ _ | refine Only.setCell ?_ (by intro hh; exfalso; simp at hh; try omega) _ | refine Only.trans ?_ (by assumption)))) hl (by omega)).mono ?_); rintro e w3 ⟨r, rfl, r0, r1, D3, K3⟩; obtain ⟨k, rfl⟩ := Int.eq_ofNat_of_zero_le r0; have hk : k < 4 := (by omega); have hB1 := hB.only K3 (by simp; omega); have c1 := hB1.cell k (v := .int .i64 (([-1, n, y, x] : List Int)[k]'hk)) (by rw [List.getElem?_map, List.getElem?_eq_getElem (show k < ([-1, n, y, x] : List Int).length from hk)]; rfl); have hk0 : (0 : Int) ≤ (k : Int) := (by omega); have hk1 : (k : Int) < 4 := (by omega))
    | (go_at_call 79; (with_reducible refine (srcBelow_any g fc l y w2 D2 hl (by have := HyI.out; unfold I64 at this; omega)).mono ?_); rintro e w3 ⟨r, rfl, r0, r1, D3, K3⟩)
    | (go_at_call 79; (with_reducible refine (srcBelow_any g fc l z w2 D2 hl (by have := HzI.out; unfold I64 at this; omega)).mono ?_); rintro e w3 ⟨r, rfl, r0, r1, D3, K3⟩)
    | fail "no arm")
  · go_ret
    refine ⟨_, rfl, ?_, D3, ((K1.trans K2).trans (ho.weaken [g])).trans K3⟩
    rcases (show k = 0 ∨ k = 1 ∨ k = 2 ∨ k = 3 by omega) with rfl | rfl | rfl | rfl
    · show I64 (-1); unfold I64; omega
    · exact Hn.out
    · exact HyI.out
    · exact HxI.out
  · go_ret
    exact ⟨r, rfl, by have := HzI.out; unfold I64 at *; omega, D3, (K1.trans K2).trans K3⟩
  · go_ret
    exact ⟨r, rfl, by have := HyI.out; unfold I64 at *; omega, D3, (K1.trans K2).trans K3⟩
set_option maxHeartbeats 4000000 in
theorem drawGens_any (g : Nat) (fc : List Nat) (l : List UInt8) (n : Nat) (w : World) (h : Src w g fc l) (hl : l.length ≤ 4096) (hn : 1 ≤ n ∧ n ≤ 1000) :
    Calls Try.prog 102 #[.pointer (some ⟨g, 0, none⟩), .int .i64 n] w fun e w' => ∃ v gs fs, e = .returned v ∧ Acc w.heap.size 36 w' v gs fs ∧ Fresh w.heap.size w' fs.flatten ∧ (gs.length ≤ 3 ∧ ∀ y : List Int, y ∈ gs → y.length = n) ∧ Src w' g fc l ∧ Only [g] w w' := by
  obtain ⟨i0, hi, hz0, hz1, hz2⟩ := info_parts Try.info22
  have hg := h.lt
  have hfc : ∀ b ∈ fc, b < w.heap.size := by obtain ⟨_, _, _, _, _, _, _, h4, _⟩ := h; exact fun b hb => Rp.lt h4 b hb
  have hA0 := Acc.made (α := List Int) w w.heap.size 36 rfl (Nat.le_refl _)
  have ho : Only [] w (w.alloc (.cells #[] 36)) := (Only.refl _ _).alloc _
  go_enter Try.func102, Try.ntmps102
  go_wp2_with (first
    | (go_at_call 79; (with_reducible refine (srcBelow_any g fc l 3 _ (h.keep (by with_reducible repeat (first | exact Only.refl _ _ | assumption | refine Only.drewN ?_ _ | refine Only.drew ?_ | refine Only.alloc ?_ _ | refine Only.setCell ?_ (by intro hh; exfalso; simp at hh; try omega) _ | refine Only.trans ?_ (by assumption)))) hl (by omega)).mono ?_); rintro e w1 ⟨r, rfl, r0, r1, D1, K1⟩; obtain ⟨k, rfl⟩ := Int.eq_ofNat_of_zero_le r0; have hk : k ≤ 2 := (by omega); have hk1 : IntKind.i64.wrap (1 + (k : Int)) = 1 + (k : Int) := (by rw [IntKind.wrap_i64]; omega))
    | fail "no arm")
  have hA1 := hA0.only K1 (by simp) (by intro q hq hm; simp [Value.ownBlock] at hq hm; omega)
  have K1w : Only [g] w w1 := (ho.weaken [g]).trans K1
  go_loopw [5, 6] (fun o c wr => ∃ (j : Nat) (gs : List (List Int)) (fs : List (List Nat)), c = .int .i64 j ∧ gs.length + j ≤ 3 ∧ Acc w.heap.size 36 wr o gs fs ∧ Fresh w.heap.size wr fs.flatten ∧ (∀ y : List Int, y ∈ gs → y.length = n) ∧ Src wr g fc l ∧ Only [g] w wr)
    (fun _ c _ => (intOf c).toNat)
  case atStart => exact ⟨k + 1, [], [], by go_num, by simp; omega, hA1, Fresh.nil _ _, by simp, D1, K1w⟩
  case round =>
    obtain ⟨W2, hnew⟩ : ∃ W, W = wr := ⟨_, rfl⟩
    subst hnew
    obtain ⟨j, gs, fs, rfl, hlen, hA, hF, hgl, hD, hK⟩ := hrel
    clear hA0 hA1 K1w D1 K1 ho
    by_cases hj : 0 < j
    · have hjI : (0 : Int) < (j : Int) := by omega
      have hsz := hK.size
      go_upto_region 6 with ((go_at_call 55; (with_reducible refine (specIdentity_acc n W2 (by omega)).mono ?_); rintro e w3 ⟨v3, rfl, hA3, t3⟩))
      have D3 := hD.keep t3
      have hg2 : g < W2.heap.size := hD.lt
      go_cut [22] (fun s22 wx => ∃ r4 : Int, s22 = .int .i64 r4 ∧ Src wx g fc l ∧ Only [g] w3 wx)
      case first =>
        go_wp2_with ((go_at_call 79; (with_reducible refine (srcBelow_any g fc l 4 w3 D3 hl (by omega)).mono ?_); rintro e w4 ⟨r4, rfl, r40, r41, D4, K4⟩))
        go_meet
        exact ⟨r4, rfl, D4, K4⟩
      case rest =>
        obtain ⟨W4, hnew⟩ : ∃ W, W = wc := ⟨_, rfl⟩
        subst hnew
        obtain ⟨r4, rfl, D4, K4⟩ := hcut
        have hA4 := hA3.only K4 (fun q hq hm => by have := hA3.ownlt q hq; simp at hm; omega)
        have K24 : Only [g] W2 W4 := (t3.weaken [g]).trans K4
        refine (show ∀ a w, Code.wp Try.prog _ _ a w → _ from by assumption) _ _ ?_
        go_cut [7] (fun s7 wx => ∃ p, AccI W2.heap.size 2 wx s7 p ∧ p.length = n ∧ Src wx g fc l ∧ Only [g] W2 wx)
        case first =>
          have hmv : ∀ {V : World} {q : Nat}, v3.ownBlock = some q → q ∉ [g] := fun hq hm => by have := hA3.ownlt _ hq; simp at hm; omega
          by_cases e0 : r4 = 0
          · subst e0
            go_wp2_with ((go_at_call 105; (with_reducible refine (drawPerm_any g fc l n W4 D4 (by omega) hl).mono ?_); rintro e w5 ⟨v5, p5, rfl, hA5, hp5, D5, K5⟩))
            go_meet
            exact ⟨p5, hA5.low2 K24.size, hp5.1, D5, K24.trans K5⟩
          · by_cases e1 : r4 = 1
            · subst e1
              go_wp2
              go_loopw [8] (fun c wr => ∃ (i : Nat) (p : List Int), c = .int .i64 i ∧ i ≤ n ∧ AccI W2.heap.size 2 wr v3 p ∧ p.length = n ∧ Src wr g fc l ∧ Only [g] W2 wr)
                (fun c _ => n - (intOf c).toNat)
              case atStart => exact ⟨0, _, rfl, Nat.zero_le _, hA4, PM.pts_len n, D4, K24⟩
              case round =>
                obtain ⟨V, hnew⟩ : ∃ W, W = wr := ⟨_, rfl⟩
                subst hnew
                obtain ⟨i, p, rfl, hin, hAp, hpl, hDp, hKp⟩ := hrel
                by_cases hlt : i < n
                · have hinI : (i : Int) < (n : Int) := by omega
                  have hi0 : (0 : Int) ≤ (i : Int) := by omega
                  have hwi : IntKind.i64.wrap ((i : Int) + 1) = (i : Int) + 1 := by rw [IntKind.wrap_i64]; omega
                  have hn0 : (n : Int) ≠ 0 := by omega
                  have hr0 := Int.emod_nonneg ((i : Int) + 1) hn0
                  have hr1 := Int.emod_lt_of_pos ((i : Int) + 1) (show (0 : Int) < (n : Int) by omega)
                  obtain ⟨xx, hxx⟩ : ∃ xx, xx = ((i : Int) + 1) % (n : Int) := ⟨_, rfl⟩
                  have hmd : ((i : Int) + 1) % (n : Int) = xx := hxx.symm
                  have hmd2 : Int.tmod ((i : Int) + 1) (n : Int) = xx := by rw [Int.tmod_eq_emod_of_nonneg (by omega)]; exact hmd
                  rw [← hxx] at hr0 hr1
                  obtain ⟨g3, c3, e3, hc3, hf3, hb3, hA3'⟩ := hAp.put (i := i) (by omega) (x := xx) (by unfold I64; omega)
                  rw [hpl] at e3
                  obtain ⟨y3, hy3⟩ : ∃ y, y = p[i]'(by omega) := ⟨_, rfl⟩
                  rw [← hy3] at hc3
                  have HA3 := Lib.hid hA3'
                  have Hpl := Lib.hid hpl
                  clear hxx hAp hy3 hpl hA3' hmv hA3 hA4
                  subst e3
                  go_wp2
                  exact ⟨⟨i + 1, _, by go_num, by omega, HA3.out, by rw [List.length_set]; exact Hpl.out, hDp.only ((Only.refl [g3] V).setCell (by simp) _) (by simp; omega) (fun b hb hm => by have := hfc b hb; simp at hm; omega), hKp.then_ ((Only.refl [g3] V).setCell (by simp) _) (fun b hb hl => by simp at hb; omega)⟩, by simp [intOf]; omega⟩
                · obtain rfl : i = n := by omega
                  go_wp2
                  go_meet
                  exact ⟨p, hAp, hpl, hDp, hKp⟩
            · go_upto_region 9 with (first
                | (go_at_call 79; (with_reducible refine (srcBelow_any g fc l n W4 D4 hl (by omega)).mono ?_); rintro e w5 ⟨x5, rfl, x50, x51, D5, K5⟩)
                | (go_at_call 79; (with_reducible refine (srcBelow_any g fc l n w5 D5 hl (by omega)).mono ?_); rintro e w6 ⟨x6, rfl, x60, x61, D6, K6⟩)
                | fail "no arm")
              obtain ⟨xa, rfl⟩ := Int.eq_ofNat_of_zero_le x50
              obtain ⟨xb, rfl⟩ := Int.eq_ofNat_of_zero_le x60
              have hxa : xa < n := by omega
              have hxb : xb < n := by omega
              have hxaI : (xa : Int) < (n : Int) := by omega
              have hxbI : (xb : Int) < (n : Int) := by omega
              have hxa0 : (0 : Int) ≤ (xa : Int) := by omega
              have hxb0 : (0 : Int) ≤ (xb : Int) := by omega
              have hA6 := hA4.only (K5.trans K6) (fun q hq => hmv (V := W4) hq)
              obtain ⟨g3, c3, e3, hc3, hf3, hb3, hA7⟩ := hA6.put (i := xa) (by rw [PM.pts_len]; exact hxa) (x := (xb : Int)) (by unfold I64; omega)
              obtain ⟨g4, c4, e4, hc4, hf4, hb4, hA8⟩ := hA7.put (i := xb) (by rw [List.length_set, PM.pts_len]; exact hxb) (x := (xa : Int)) (by unfold I64; omega)
              rw [PM.pts_len] at e3
              rw [List.length_set, PM.pts_len] at e4
              have e34 := e3.symm.trans e4
              injection e34 with e5 _ e6
              subst e6
              injection e5 with e5
              injection e5 with e5 _ _
              subst e5
              obtain ⟨y3, hy3⟩ : ∃ y, w6.cell? ⟨g3, xa, none⟩ = some (.int .i64 y) := ⟨_, hc3⟩
              obtain ⟨y4, hy4⟩ : ∃ y, (w6.setCell ⟨g3, xa, none⟩ (.int .i64 (xb : Int))).cell? ⟨g3, xb, none⟩ = some (.int .i64 y) := ⟨_, hc4⟩
              have HA8 := Lib.hid hA8
              clear hc3 hc4 hA7 hA8 hA6 e4 hmv hA3 hA4
              subst e3
              have k68 : Only [g3] w6 ((w6.setCell ⟨g3, xa, none⟩ (.int .i64 (xb : Int))).setCell ⟨g3, xb, none⟩ (.int .i64 (xa : Int))) := ((Only.refl [g3] w6).setCell (by simp) _).setCell (by simp) _
              go_wp2
              go_meet
              exact ⟨_, HA8.out, by rw [List.length_set, List.length_set, PM.pts_len], D6.only k68 (by simp; omega) (fun b hb hm => by have := hfc b hb; simp at hm; omega), (K24.trans (K5.trans K6)).then_ k68 (fun b hb hl => by simp at hb; omega)⟩
        case rest =>
          obtain ⟨W5, hnew⟩ : ∃ W, W = wc := ⟨_, rfl⟩
          subst hnew
          obtain ⟨p, hA5, hp5, D5, K5⟩ := hcut
          obtain ⟨a5, c5, rfl⟩ := hA5.form
          have Hp5 := Lib.hid hp5
          clear hp5
          have hA6 := hA.only K5 (fun q hq hm => by have := hF.ge q hq; simp at hm; omega) (fun q hq hm => by have := (hA.ownlt q hq).1; simp at hm; omega)
          have hF6 := hF
          have hrow := hA5.rd
          have hfr := hA5.fresh
          have hnl : gs.length + 1 ≤ 1073741824 := by omega
          have hbz : w.heap.size ≤ W5.heap.size := Nat.le_trans hsz K5.size
          go_wp2_with (first
            | (at_builtin; refine wpList_push2 rfl _ _ 24 rfl w.heap.size 36 i0 _ 24 Try.underlying24 hi hz0 hz1 hz2 rfl (by decide) (by decide) W5 u5 gs fs rfl hA6 ((Only.refl [] W5).alloc _) hbz W5.heap.size 1 [.slice a5 p.length c5] p _ rfl (lit_src W5 [.slice a5 p.length c5] _ rfl) (by intro u hu; simp at hu; subst hu; rfl) (Rp.keep hrow ((Only.refl [] W5).alloc _)) ?hap hnl ?_; (case hap => (intro b hb he; have h1 := hfr.ge b hb; have h2 := (hA.ownlt b he).2; omega)); intro v7 w7 hA7 hO7 hN7)
            | fail "no arm")
          have D7 := (D5.keep ((Only.refl [] W5).alloc (.cells #[.slice a5 p.length c5] 36))).only hO7 (fun hm => by have := (hA.ownlt g (by simpa using hm)).1; omega) (fun b hb hm => by have := hfc b hb; have := (hA.ownlt b (by simpa using hm)).1; omega)
          have K7 : Only [g] w w7 := ((hK.trans K5).alloc _).then_ hO7 (fun b hb hl => by have := (hA.ownlt b (by simpa using hb)).1; omega)
          have hs7 : W5.heap.size ≤ w7.heap.size := Nat.le_trans (by simp) hO7.size
          have hkal : Only [] W5 (W5.alloc (.cells #[.slice a5 p.length c5] 36)) := (Only.refl _ _).alloc _
          have F1 : Fresh w.heap.size w7 fs.flatten := ((hF.only K5 (fun q hq hm => by have := hF.ge q hq; simp at hm; omega)).keep hkal).only hO7 (fun q hq hm => hA.apart q (by simpa using hm) hq)
          have F2 := (hfr.keep hkal).only hO7 (fun q hq hm => by have h1 := hfr.ge q hq; have h2 := (hA.ownlt q (by simpa using hm)).2; omega)
          have F3 : Fresh w.heap.size w7 (fs ++ [(Value.slice a5 p.length c5).ownBlock.toList]).flatten := by
            have := F1.append F2 hsz hF.lt
            simpa using this
          exact ⟨⟨j - 1, gs ++ [p], _, by congr 1; omega, by simp; omega, hA7, F3, by
            intro y hy
            rcases List.mem_append.1 hy with hy | hy
            · exact hgl y hy
            · rw [List.mem_singleton.1 hy]; exact Hp5.out, D7, K7⟩, by simp [intOf]; omega⟩
    · obtain rfl : j = 0 := by omega
      go_wp2
      go_ret
      exact ⟨_, gs, fs, rfl, hA, hF, ⟨by omega, hgl⟩, hD, hK⟩
set_option maxHeartbeats 4000000 in
theorem drawAny_any (g : Nat) (fc : List Nat) (l : List UInt8) (n : Nat) (w : World) (h : Src w g fc l) (hl : l.length ≤ 4096) (hn : 1 ≤ n ∧ n ≤ 1000) :
    Calls Try.prog 81 #[.pointer (some ⟨g, 0, none⟩), .int .i64 n] w fun e w' => ∃ v, ∃ p : List Int, ∃ fp, e = .returned v ∧ Rd w' v p fp ∧ Fresh w.heap.size w' fp ∧ p.length ≤ n + 21 ∧ Src w' g fc l ∧ Only [g] w w' := by
  obtain ⟨i0, hi, hz0, hz1, hz2⟩ := info_parts Try.info2
  have hg := h.lt
  have hfc : ∀ b ∈ fc, b < w.heap.size := by obtain ⟨_, _, _, _, _, _, _, h4, _⟩ := h; exact fun b hb => Rp.lt h4 b hb
  have hnI : (0 : Int) < (n : Int) := by omega
  go_enter Try.func81, Try.ntmps81
  go_upto_region 2 with ((go_at_call 105; (with_reducible refine (drawPerm_any g fc l n w h (by omega) hl).mono ?_); rintro e w1 ⟨v1, p1, rfl, hA1, hp1, D1, K1⟩))
  go_cut [14] (fun s14 wx => ∃ b : Bool, s14 = .bool b ∧ Src wx g fc l ∧ Only [g] w1 wx)
  case first =>
    go_wp2_with ((go_at_call 80; (with_reducible refine (oneIn_any g fc l 12 w1 D1 hl (by omega)).mono ?_); rintro e w2 ⟨b, rfl, D2, K2⟩))
    all_goals go_meet
    all_goals exact ⟨_, rfl, D2, K2⟩
  case rest =>
    obtain ⟨W2, hnew⟩ : ∃ W, W = wc := ⟨_, rfl⟩
    subst hnew
    obtain ⟨b, rfl, D2, K2⟩ := hcut
    have hmv : ∀ {q : Nat}, v1.ownBlock = some q → q ∉ [g] := fun hq hm => by have := hA1.ownlt _ hq; simp at hm; omega
    have hA2 := hA1.only K2 (fun q hq => hmv hq)
    have K12 := K1.trans K2
    refine (show ∀ a w, Code.wp Try.prog _ _ a w → _ from by assumption) _ _ ?_
    go_cut [5] (fun s5 wx => ∃ p : List Int, ∃ fp, Rd wx s5 p fp ∧ Fresh w.heap.size wx fp ∧ p.length ≤ n + 1 ∧ Src wx g fc l ∧ Only [g] w wx)
    case first =>
      have hln := hp1.1
      have Hln := Lib.hid hln
      have hs12 := K12.size
      clear hp1 hln
      cases b
      · go_wp2
        go_meet
        exact ⟨p1, _, hA2.rd, hA2.fresh, by rw [Hln.out]; omega, D2, K12⟩
      · go_upto_region 4 with ((go_at_call 79; (with_reducible refine (srcBelow_any g fc l 3 W2 D2 hl (by omega)).mono ?_); rintro e w3 ⟨r, rfl, r0, r1, D3, K3⟩))
        have K13 := K12.trans K3
        have hA3 := hA2.only K3 (fun q hq => hmv hq)
        by_cases e0 : r = 0
        · subst e0
          go_wp2_with (first
            | (go_at_call 79; (with_reducible refine (srcBelow_any g fc l n w3 D3 hl (by omega)).mono ?_); rintro e w4 ⟨x4, rfl, x40, x41, D4, K4⟩)
            | (go_at_call 103; (with_reducible refine (numberUpTo_any g fc l n w4 D4 hl (by unfold I64; omega)).mono ?_); rintro e w5 ⟨y, rfl, hy, D5, K5⟩; obtain ⟨xa, rfl⟩ := Int.eq_ofNat_of_zero_le x40; have hxa : xa < n := (by omega); have hxaI : (xa : Int) < (n : Int) := (by omega); have hxa0 : (0 : Int) ≤ (xa : Int) := (by omega); have hA5 := hA3.only (K4.trans K5) (fun q hq => hmv hq); obtain ⟨g3, c3, e3, hc3, hf3, hb3, hA7⟩ := hA5.put (i := xa) (by rw [Hln.out]; exact hxa) hy; obtain ⟨y3, hy3⟩ : ∃ z, w5.cell? ⟨g3, xa, none⟩ = some (.int .i64 z) := ⟨_, hc3⟩; have HA7 := Lib.hid hA7; rw [Hln.out] at e3; clear hc3 hA7 hA5 hA3 hA2 hA1 hmv; subst e3)
            | fail "no arm")
          go_meet
          have k68 : Only [g3] w5 (w5.setCell ⟨g3, xa, none⟩ (.int .i64 y)) := (Only.refl [g3] w5).setCell (by simp) _
          exact ⟨_, _, HA7.out.rd, HA7.out.fresh, by rw [List.length_set, Hln.out]; omega, D5.only k68 (by simp; omega) (fun b hb hm => by have := hfc b hb; simp at hm; omega), (K13.trans (K4.trans K5)).then_ k68 (fun b hb hl => by simp at hb; omega)⟩
        · by_cases e1 : r = 1
          · subst e1
            obtain ⟨hO, hw⟩ := hA3.row
            obtain ⟨g3, c3, e3, hb3, hlt3⟩ := hO.form (by rw [Hln.out]; omega)
            have hR := hA3.rd
            have hFr := hA3.fresh
            rw [e3] at hR hFr
            obtain ⟨a3, c3', e4, I3⟩ := hR.ints
            rw [Hln.out] at e3 e4
            injection e4 with e5 _ e6
            subst e5
            subst e6
            have hcap := I3.len
            rw [Hln.out] at hcap
            have HI := Lib.hid I3
            have hcI : (n : Int) ≤ (c3 : Int) := by omega
            have hn1 : (1 : Int) ≤ (n : Int) := by omega
            have hFO := Lib.hid hFr
            clear hA3 hA2 hA1 hmv hR hO I3 hFr
            subst e3
            by_cases hc1 : c3 = 1
            · subst hc1
              have hn11 : n = 1 := by omega
              subst hn11
              go_wp2
              go_meet
              exact ⟨[], [], (IntsA.nil _ _ (by simp [maxLen])).rd, Fresh.nil _ _, by simp, D3, K13⟩
            · go_wp2
              go_meet
              exact ⟨p1.drop 1, _, by have := (HI.out.drop (k := 1) (by rw [Hln.out]; omega)).rd; rw [List.length_drop, Hln.out] at this; exact this, hFO.out, by rw [List.length_drop, Hln.out]; omega, D3, K13⟩
          · have e2 : r = 2 := by omega
            subst e2
            have hnI64 : I64 (n : Int) := by unfold I64; omega
            have HnI := Lib.hid hnI64
            have hdl : p1.length + 1 ≤ 1073741824 := by rw [Hln.out]; omega
            have hbw : w.heap.size ≤ w3.heap.size := K13.size
            have HA3 := Lib.hid hA3
            clear hnI64
            go_wp2_with (first
              | (at_builtin; refine wpList_pushI rfl _ _ 36 rfl w.heap.size 2 i0 _ Try.underlying36 hi hz0 hz1 hz2 rfl w3 v1 p1 rfl HA3.out ((Only.refl _ _).alloc _) hbw w3.heap.size 1 (n : Int) rfl (lit1 w3 _ _ rfl) HnI.out hdl ?_; intro v9 w9 hA9 hO9 hP9 hN9)
              | fail "no arm")
            go_meet
            exact ⟨_, _, hA9.rd, hA9.fresh, by rw [List.length_append, Hln.out]; simp, (D3.keep ((Only.refl [] w3).alloc _)).only hO9 (fun hm => by have := (hA3.ownlt g (by simpa using hm)).1; omega) (fun b hb hm => by have := hfc b hb; have := (hA3.ownlt b (by simpa using hm)).1; omega), (K13.alloc _).then_ hO9 (fun b hb hl => by have := (hA3.ownlt b (by simpa using hb)).1; omega)⟩
    case rest =>
      obtain ⟨W5, hnew⟩ : ∃ W, W = wc := ⟨_, rfl⟩
      subst hnew
      obtain ⟨p, fp, r5, F5, hp5, D5, K5⟩ := hcut
      go_wp2_with (first
        | (go_at_call 80; (with_reducible refine (oneIn_any g fc l 60 _ D5 hl (by omega)).mono ?_); rintro e w6 ⟨b6, rfl, D6, K6⟩)
        | (go_at_call 79; (with_reducible refine (srcBelow_any g fc l 2 w6 D6 hl (by omega)).mono ?_); rintro e w7 ⟨r, rfl, r0, r1, D7, K7⟩; obtain ⟨k, rfl⟩ := Int.eq_ofNat_of_zero_le r0; have hk : k ≤ 1 := (by omega); obtain ⟨m, hm⟩ : ∃ m : Nat, m = 20 + k := ⟨_, rfl⟩; have hwk : IntKind.i64.wrap (20 + (k : Int)) = (m : Int) := (by rw [IntKind.wrap_i64]; omega); have hm1 : m ≤ 21 := (by omega); clear hm)
        | (go_at_call 105; (with_reducible refine (drawPerm_any g fc l m w7 D7 (by omega) hl).mono ?_); rintro e w8 ⟨v8, p8, rfl, hA8, hp8, D8, K8⟩)
        | fail "no arm")
      · go_ret
        exact ⟨_, p8, _, rfl, hA8.rd, hA8.fresh.mono (Nat.le_trans K5.size (K6.trans K7).size), by rw [hp8.1]; omega, D8, K5.trans ((K6.trans K7).trans K8)⟩
      · go_ret
        exact ⟨_, p, fp, rfl, Rp.only r5 K6 (fun q hq hm => by have := F5.ge q hq; simp at hm; omega), F5.only K6 (fun q hq hm => by have := F5.ge q hq; simp at hm; omega), by omega, D6, K5.trans K6⟩
end Go.Proofs.Ytbediokigibdlaa

namespace Go.Proofs.Ytbediokigibdlaa
open Go.RowKit
set_option maxRecDepth 10000

theorem Acc.low3 {α : Type} [Rp α] {B B' : Nat} {e : TypeId} {w : World} {v : Value} {l : List α} {fs : List (List Nat)} (h : Acc B e w v l fs) (hB : B' ≤ B) : Acc B' e w v l fs := by
  obtain ⟨⟨css, ho, hcl, hr⟩, hf, ha⟩ := h
  refine ⟨⟨css, ⟨ho.1, ?_⟩, hcl, hr⟩, hf, ha⟩
  rcases ho.2 with h1 | ⟨g, cap, cur, h1, h2, h3⟩
  · exact .inl h1
  · exact .inr ⟨g, cap, cur, h1, Nat.le_trans hB h2, h3⟩
theorem push_facts {w W w4 w5 w7 : World} {g : Nat} {fc : List Nat} {l : List UInt8} {e : TypeId} {v : Value} {gs : List (List Int)} {fs : List (List Nat)} {f : List Nat} (hA : Acc w.heap.size e W v gs fs) (hF : Fresh w.heap.size W fs.flatten) (hK : Only [g] w W) (K4 : Only [g] W w4) (hf : Fresh W.heap.size w4 f) (D4 : Src w4 g fc l) (hg : g < w.heap.size) (hfc : ∀ b ∈ fc, b < w.heap.size) (o5 : Only [] w4 w5) (hO7 : Only v.ownBlock.toList w5 w7) :
    Fresh w.heap.size w7 (fs ++ [f]).flatten ∧ Src w7 g fc l ∧ Only [g] w w7 := by
  have F1 : Fresh w.heap.size w7 fs.flatten := ((hF.only K4 (fun q hq hm => by have := hF.ge q hq; simp at hm; omega)).keep o5).only hO7 (fun q hq hm => hA.apart q (by simpa using hm) hq)
  have F2 := (hf.keep o5).only hO7 (fun q hq hm => by have h1 := hf.ge q hq; have h2 := (hA.ownlt q (by simpa using hm)).2; omega)
  have D7 := (D4.keep o5).only hO7 (fun hm => by have := (hA.ownlt g (by simpa using hm)).1; omega) (fun b hb hm => by have := hfc b hb; have := (hA.ownlt b (by simpa using hm)).1; omega)
  refine ⟨by have := F1.append F2 hK.size hF.lt; simpa using this, D7, ((hK.trans K4).trans (o5.weaken [g])).then_ hO7 (fun b hb hl => by have := (hA.ownlt b (by simpa using hb)).1; omega)⟩
/-- a drawn degree and generators -/
def DG (w : World) (g : Nat) (fc : List Nat) (l : List UInt8) (s4 s5 : Value) (wx : World) : Prop :=
  ∃ (n : Int) (gs : List (List Int)) (fp : List Nat), s4 = .int .i64 n ∧ I64 n ∧ Rd wx s5 gs fp ∧ Fresh w.heap.size wx fp ∧ gs.length ≤ 9 ∧ (∀ y : List Int, y ∈ gs → y.length ≤ 30) ∧ Src wx g fc l ∧ Only [g] w wx
set_option maxHeartbeats 4000000 in
theorem drawGroup_any (g : Nat) (fc : List Nat) (l : List UInt8) (w : World) (h : Src w g fc l) (hl : l.length ≤ 4096) :
    Calls Try.prog 78 #[.pointer (some ⟨g, 0, none⟩)] w fun e w' => ∃ s4 s5, e = .returned (.tuple #[s4, s5]) ∧ DG w g fc l s4 s5 w' := by
  obtain ⟨i0, hi, hz0, hz1, hz2⟩ := info_parts Try.info22
  have hg := h.lt
  have hfc : ∀ b ∈ fc, b < w.heap.size := by obtain ⟨_, _, _, _, _, _, _, h4, _⟩ := h; exact fun b hb => Rp.lt h4 b hb
  go_enter Try.func78, Try.ntmps78
  go_upto_region 2 with ((go_at_call 101; (with_reducible refine (between_rng g fc l 2 5 w h hl (by omega) (by omega) (by omega)).mono ?_); rintro e w1 ⟨n0, rfl, a0, a1, D1, K1⟩))
  go_cut [9] (fun s9 wx => ∃ b : Bool, s9 = .bool b ∧ Src wx g fc l ∧ Only [g] w1 wx)
  case first =>
    go_wp2_with ((go_at_call 80; (with_reducible refine (oneIn_any g fc l 6 w1 D1 hl (by omega)).mono ?_); rintro e w2 ⟨b, rfl, D2, K2⟩))
    go_meet
    exact ⟨_, rfl, D2, K2⟩
  case rest =>
    obtain ⟨W2, hnew⟩ : ∃ W, W = wc := ⟨_, rfl⟩
    subst hnew
    obtain ⟨b, rfl, D2, K2⟩ := hcut
    obtain ⟨m0, rfl⟩ := Int.eq_ofNat_of_zero_le (show 0 ≤ n0 by omega)
    have K12 := K1.trans K2
    refine (show ∀ a w, Code.wp Try.prog _ _ a w → _ from by assumption) _ _ ?_
    go_cut [4] (fun s4 wx => ∃ m : Nat, s4 = .int .i64 m ∧ 1 ≤ m ∧ m ≤ 7 ∧ Src wx g fc l ∧ Only [g] w wx)
    case first =>
      cases b
      · go_wp2
        go_meet
        exact ⟨m0, rfl, by omega, by omega, D2, K12⟩
      · go_wp2_with ((go_at_call 101; (with_reducible refine (between_rng g fc l 1 7 W2 D2 hl (by omega) (by omega) (by omega)).mono ?_); rintro e w3 ⟨n1, rfl, b0, b1, D3, K3⟩; obtain ⟨m1, rfl⟩ := Int.eq_ofNat_of_zero_le (show 0 ≤ n1 by omega)))
        go_meet
        exact ⟨m1, rfl, by omega, by omega, D3, K12.trans K3⟩
    case rest =>
      obtain ⟨W3, hnew⟩ : ∃ W, W = wc := ⟨_, rfl⟩
      subst hnew
      obtain ⟨m, rfl, m1, m7, D3, K3⟩ := hcut
      refine (show ∀ a w, Code.wp Try.prog _ _ a w → _ from by assumption) _ _ ?_
      go_upto_region 5 with ((go_at_call 102; (with_reducible refine (drawGens_any g fc l m W3 D3 hl (by omega)).mono ?_); rintro e w4 ⟨v4, gs, fs, rfl, hA4, hF4, hgl, D4, K4⟩))
      have K34 := K3.trans K4
      go_cut [16] (fun s16 wx => ∃ b : Bool, s16 = .bool b ∧ Src wx g fc l ∧ Only [g] w4 wx)
      case first =>
        go_wp2_with ((go_at_call 80; (with_reducible refine (oneIn_any g fc l 20 w4 D4 hl (by omega)).mono ?_); rintro e w5 ⟨b, rfl, D5, K5⟩))
        go_meet
        exact ⟨_, rfl, D5, K5⟩
      case rest =>
        obtain ⟨W5, hnew⟩ : ∃ W, W = wc := ⟨_, rfl⟩
        subst hnew
        obtain ⟨b, rfl, D5, K5⟩ := hcut
        have K35 := K34.trans K5
        have hFg : ∀ q ∈ fs.flatten, q ∉ [g] := fun q hq hm => by have := hF4.ge q hq; have := K3.size; simp at hm; omega
        have hAg : ∀ q, v4.ownBlock = some q → q ∉ [g] := fun q hq hm => by have := (hA4.ownlt q hq).1; have := K3.size; simp at hm; omega
        have hA5 := (hA4.only K5 hFg hAg).low3 K3.size
        have hF5 := (hF4.only K5 hFg).mono K3.size
        clear hA4 hF4
        refine (show ∀ a w, Code.wp Try.prog _ _ a w → _ from by assumption) _ _ ?_
        go_cut [4, 5] (fun s4 s5 wx => DG w g fc l s4 s5 wx)
        case first =>
          cases b
          · go_wp2
            go_meet
            exact ⟨_, gs, _, rfl, by unfold I64; omega, hA5.rd (by decide), hA5.fresh hF5, by omega, fun y hy => by rw [hgl.2 y hy]; omega, D5, K35⟩
          · go_upto_region 7 with ((go_at_call 79; (with_reducible refine (srcBelow_any g fc l 4 W5 D5 hl (by omega)).mono ?_); rintro e w6 ⟨r, rfl, r0, r1, D6, K6⟩))
            have K36 := K35.trans K6
            have hFg6 : ∀ q ∈ fs.flatten, q ∉ [g] := hFg
            have hA6 := hA5.only K6 hFg hAg
            have hF6 := hF5.only K6 hFg
            have hb6 : w.heap.size ≤ w6.heap.size := K36.size
            have hmI : I64 (m : Int) := by unfold I64; omega
            have hnl : gs.length + 1 ≤ 1073741824 := by omega
            clear hA5 hF5
            by_cases e0 : r = 0
            · subst e0
              go_wp2_with ((go_at_call 103; (with_reducible refine (numberUpTo_any g fc l 20 w6 D6 hl (by unfold I64; omega)).mono ?_); rintro e w7 ⟨n7, rfl, hn7, D7, K7⟩))
              go_meet
              exact ⟨n7, gs, _, rfl, hn7, (hA6.only K7 hFg hAg).rd (by decide), (hA6.only K7 hFg hAg).fresh (hF6.only K7 hFg), by omega, fun y hy => by rw [hgl.2 y hy]; omega, D7, K36.trans K7⟩
            · by_cases e1 : r = 1
              · subst e1
                go_wp2_with (first
                  | (go_at_call 81; (with_reducible refine (drawAny_any g fc l m w6 D6 hl (by omega)).mono ?_); rintro e w7 ⟨v7, p7, f7, rfl, r7, F7, hl7, D7, K7⟩; obtain ⟨a7, c7, rfl, -⟩ := id r7.ints; have hA7 := hA6.only K7 hFg hAg; have hb7 : w.heap.size ≤ w7.heap.size := Nat.le_trans hb6 K7.size)
                  | (at_builtin; refine wpList_push2 rfl _ _ 24 rfl w.heap.size 36 i0 _ 24 Try.underlying24 hi hz0 hz1 hz2 rfl (by decide) (by decide) w7 v4 gs fs rfl hA7 ((Only.refl [] w7).alloc _) hb7 w7.heap.size 1 [.slice a7 p7.length c7] p7 _ rfl (lit_src w7 [.slice a7 p7.length c7] _ rfl) (by intro u hu; simp at hu; subst hu; rfl) (Rp.keep r7 ((Only.refl [] w7).alloc _)) ?hap hnl ?_; (case hap => (intro b hb he; have h1 := F7.ge b hb; have h2 := (hA6.ownlt b he).2; omega)); intro vE wE hAE hOE hNE)
                  | fail "no arm")
                go_meet
                obtain ⟨F9, D9, K9⟩ := push_facts hA6 hF6 K36 K7 F7 D7 hg hfc ((Only.refl [] w7).alloc _) hOE
                exact ⟨_, gs ++ [p7], _, rfl, hmI, hAE.rd (by decide), hAE.fresh F9, by simp; omega, fun y hy => by
                  rcases List.mem_append.1 hy with hy | hy
                  · rw [hgl.2 y hy]; omega
                  · rw [List.mem_singleton.1 hy]; omega, D9, K9⟩
              · by_cases e2 : r = 2
                · subst e2
                  have hA0 := Acc.made (α := List Int) w6 w.heap.size 36 rfl hb6
                  go_wp2
                  go_meet
                  exact ⟨_, [], _, rfl, hmI, hA0.rd (by decide), hA0.fresh (Fresh.nil _ _), by simp, by simp, D6.keep ((Only.refl _ _).alloc _), K36.alloc _⟩
                · have e3 : r = 3 := by omega
                  subst e3
                  go_wp2
                  go_loopw [5] (fun o wr => ∃ (gs' : List (List Int)) (fs' : List (List Nat)), gs'.length ≤ 9 ∧ (∀ y : List Int, y ∈ gs' → y.length ≤ 30) ∧ Acc w.heap.size 36 wr o gs' fs' ∧ Fresh w.heap.size wr fs'.flatten ∧ Src wr g fc l ∧ Only [g] w wr)
                    (fun o _ => 9 - lenV o)
                  case atStart => exact ⟨gs, fs, by omega, fun y hy => by rw [hgl.2 y hy]; omega, hA6, hF6, D6, K36⟩
                  case round =>
                    obtain ⟨W7, hnew⟩ : ∃ W, W = wr := ⟨_, rfl⟩
                    subst hnew
                    obtain ⟨gs', fs', hl9, hl30, hAr, hFr, Dr, Kr⟩ := hrel
                    obtain ⟨a5, c5, rfl⟩ := hAr.form
                    have hFg' : ∀ q ∈ fs'.flatten, q ∉ [g] := fun q hq hm => by have := hFr.ge q hq; simp at hm; omega
                    have hAg' : ∀ q, (Value.slice a5 gs'.length c5).ownBlock = some q → q ∉ [g] := fun q hq hm => by have := (hAr.ownlt q hq).1; simp at hm; omega
                    have hnl' : gs'.length + 1 ≤ 1073741824 := by omega
                    have hbr : w.heap.size ≤ W7.heap.size := Kr.size
                    obtain ⟨pm, hpm⟩ : ∃ q, q = PM.pts m := ⟨_, rfl⟩
                    have Hpm := Lib.hid hpm
                    clear hpm
                    go_wp2_with (first
                      | (go_at_call 79; (with_reducible refine (srcBelow_any g fc l 2 W7 Dr hl (by omega)).mono ?_); rintro e w7 ⟨r2, rfl, r20, r21, D7, K7⟩; have q2 : IntKind.i64.wrap (8 + r2) = 8 + r2 := (by rw [IntKind.wrap_i64]; omega); have hAw := hAr.only K7 hFg' hAg'; have hs7 := K7.size)
                      | (go_at_call 55; (with_reducible refine (specIdentity_acc m w7 (by omega)).mono ?_); rintro e w8 ⟨v8, rfl, hI8, t8⟩; rw [← Hpm.out] at hI8; obtain ⟨a8, c8, e8⟩ := hI8.form; subst e8; have hA8 := hAw.keep t8; have hb8 : w.heap.size ≤ w8.heap.size := Nat.le_trans (Nat.le_trans hbr hs7) t8.size)
                      | (at_builtin; refine wpList_push2 rfl _ _ 24 rfl w.heap.size 36 i0 _ 24 Try.underlying24 hi hz0 hz1 hz2 rfl (by decide) (by decide) w8 (.slice a5 gs'.length c5) gs' fs' rfl hA8 ((Only.refl [] w8).alloc _) hb8 w8.heap.size 1 [.slice a8 pm.length c8] pm _ rfl (lit_src w8 [.slice a8 pm.length c8] _ rfl) (by intro u hu; simp at hu; subst hu; rfl) (Rp.keep hI8.rd ((Only.refl [] w8).alloc _)) ?hap hnl' ?_; (case hap => (intro b hb he; have h1 := hI8.fresh.ge b hb; have h2 := (hAr.ownlt b he).2; omega)); intro vE wE hAE hOE hNE)
                      | fail "no arm")
                    · obtain ⟨F9, D9, K9⟩ := push_facts hAr hFr Kr (K7.trans (t8.weaken [g])) (hI8.fresh.mono hs7) (D7.keep t8) hg hfc ((Only.refl [] w8).alloc _) hOE
                      obtain ⟨aE, cE, hvE⟩ := hAE.form
                      exact ⟨⟨gs' ++ [pm], _, by simp; omega, fun y hy => by
                        rcases List.mem_append.1 hy with hy | hy
                        · exact hl30 y hy
                        · rw [List.mem_singleton.1 hy, Hpm.out, PM.pts_len]; omega, hAE, F9, D9, K9⟩, by rw [hvE]; show 9 - (gs' ++ [pm]).length < 9 - gs'.length; rw [List.length_append]; simp; omega⟩
                    · go_meet
                      exact ⟨_, gs', _, rfl, hmI, hAw.rd (by decide), hAw.fresh (hFr.only K7 hFg'), hl9, hl30, D7, Kr.trans K7⟩
        case rest =>
          obtain ⟨W6, hnew⟩ : ∃ W, W = wc := ⟨_, rfl⟩
          subst hnew
          go_wp2
          exact bodyPost_ret (v := .tuple #[u4, u5]) (by simp [results, Try.results78, go_sem]) rfl ⟨u4, u5, rfl, hcut⟩
end Go.Proofs.Ytbediokigibdlaa

namespace Go.Proofs.Ytbediokigibdlaa
open Go.RowKit
set_option maxRecDepth 10000

theorem snocF {B : Nat} {w w' : World} {fs : List (List Nat)} {fp own : List Nat} (h : Fresh B w fs.flatten) (h2 : Fresh B w fp) (hd : ∀ b ∈ fs.flatten, b ∉ fp) (ho : Only own w w') (h3 : ∀ b ∈ fs.flatten, b ∉ own) (h4 : ∀ b ∈ fp, b ∉ own) : Fresh B w' (fs ++ [fp]).flatten := by
  rw [List.flatten_append]
  simp only [List.flatten_cons, List.flatten_nil, List.append_nil]
  have h5 : Fresh B w (fs.flatten ++ fp) := ⟨List.nodup_append.2 ⟨h.nd, h2.nd, fun a ha b hb e => hd a ha (e ▸ hb)⟩, fun b hb => by
    rcases List.mem_append.1 hb with hb | hb
    · exact h.ge b hb
    · exact h2.ge b hb, h.own.append h2.own⟩
  exact h5.only ho fun b hb => by
    rcases List.mem_append.1 hb with hb | hb
    · exact h3 b hb
    · exact h4 b hb
/-- a list of drawn permutations under way, one more of them -/
theorem draw_snoc {g : Nat} {fc : List Nat} {l : List UInt8} {w2 W2 w8 w9 : World} {v v9 : Value} {L : List (List Int)} {fs : List (List Nat)} {q : List Int} {fq : List Nat} {T : TypeId} (hA : Acc w2.heap.size T W2 v L fs) (hF : Fresh w2.heap.size W2 fs.flatten) (hg : g < w2.heap.size) (hfc : ∀ b ∈ fc, b < w2.heap.size)
    (hO : Only [g] w2 W2) (k8 : Only [g] W2 w8) (D8 : Src w8 g fc l) (F8 : Fresh W2.heap.size w8 fq) (c : Value)
    (A9 : Acc w2.heap.size T w9 v9 (L ++ [q]) (fs ++ [fq])) (O9 : Only v.ownBlock.toList (w8.alloc (.cells #[c] T)) w9) :
    Acc w2.heap.size T w9 v9 (L ++ [q]) (fs ++ [fq]) ∧ Fresh w2.heap.size w9 (fs ++ [fq]).flatten ∧ Src w9 g fc l ∧ Only [g] w2 w9 := by
  have hal : Only [] w8 (w8.alloc (.cells #[c] T)) := (Only.refl _ _).alloc _
  have hown := hA.ownlt
  have hz := hO.size
  have hz8 := k8.size
  have hge : ∀ b ∈ v.ownBlock.toList, w2.heap.size ≤ b ∧ b < W2.heap.size := fun b hb => hown b (by simpa using hb)
  have F9 := (hF.only k8 (fun b hb hm => by have := hF.ge b hb; simp at hm; omega)).keep hal
  refine ⟨A9, snocF F9 ((F8.keep hal).mono hz) (fun b hb hm => by have h1 := hA.lt b hb; have h2 := F8.ge b hm; omega) O9 (fun b hb hm => hA.apart b (by simpa using hm) hb) (fun b hb hm => by have h1 := hge b hm; have h2 := F8.ge b hb; omega), ?_, ?_⟩
  · exact (D8.keep hal).only O9 (fun hm => by have := hge g hm; omega) (fun b hb hm => by have h1 := hge b hm; have h2 := hfc b hb; omega)
  · exact ((hO.trans k8).keepThen hal).then_ O9 (fun b hb hl => by have := hge b hb; omega)
/-- drawn: a degree, two lists of permutations -/
def DSG (w : World) (g : Nat) (fc : List Nat) (l : List UInt8) (s2 s3 s4 : Value) (wx : World) : Prop :=
  ∃ (n : Int) (a b : List (List Int)) (fa fb : List Nat), s2 = .int .i64 n ∧ I64 n ∧ Rd wx s3 a fa ∧ Rd wx s4 b fb ∧ a.length ≤ 9 ∧ b.length ≤ 9 ∧ Src wx g fc l ∧ Only [g] w wx
set_option maxHeartbeats 8000000 in
theorem drawSubgroup_any (g : Nat) (fc : List Nat) (l : List UInt8) (w : World) (h : Src w g fc l) (hl : l.length ≤ 4096) :
    Calls Try.prog 33 #[.pointer (some ⟨g, 0, none⟩)] w fun e w' => ∃ s2 s3 s4, e = .returned (.tuple #[s2, s3, s4]) ∧ DSG w g fc l s2 s3 s4 w' := by
  have hgl := h.lt
  have hfc : ∀ b ∈ fc, b < w.heap.size := by obtain ⟨_, _, _, _, _, _, _, h4, _⟩ := h; exact fun b hb => Rp.lt h4 b hb
  obtain ⟨i0, hi, hz0, hz1, hz2⟩ := info_parts Try.info22
  go_enter Try.func33, Try.ntmps33
  go_upto_region 2 with (first
    | (go_at_call 78; (with_reducible refine (drawGroup_any g fc l w h hl).mono ?_); rintro e w2 ⟨s4, s5, rfl, n, gs, fp, rfl, hn, r2, F2, l9, l30, D2, K2⟩; obtain ⟨a2, c2, ob2, fps2, rfl, hfe, hS⟩ := id r2.open_)
    | fail "no arm")
  have Hnf := Lib.hid (show ∀ b ∈ fp, b ∉ [g] from fun b hb hm => by have := F2.ge b hb; simp at hm; omega)
  rcases hgs : gensB n gs
  · have Hgs := Lib.hid hgs
    clear hgs
    go_wp2_with (first
      | (go_at_call 10; (with_reducible refine (specIsGens_rd n (.slice a2 gs.length c2) gs fp w2 r2).mono ?_); rintro e w3 ⟨he, t3⟩; rw [Hgs.out] at he; subst he; have t3 := t3.only [])
      | fail "no arm")
    exact bodyPost_ret (v := .tuple #[.int .i64 n, .slice a2 gs.length c2, .slice a2 gs.length c2]) (by simp [results, Try.results33, go_sem]) rfl ⟨_, _, _, rfl, n, gs, gs, fp, fp, rfl, hn, Rp.keep r2 t3, Rp.keep r2 t3, l9, l9, D2.keep t3, K2.keepThen t3⟩
  · obtain ⟨⟨n1, n20⟩, hgl2, hpn⟩ := gensB_iff.1 hgs
    obtain ⟨m, rfl⟩ := Int.eq_ofNat_of_zero_le (show 0 ≤ n by omega)
    have hpn' : ∀ g ∈ gs, PM.PN m g := by simpa using hpn
    have hbS := hS.bound
    have Hgs := Lib.hid hgs
    have Hpn := Lib.hid hpn'
    have Hfe := Lib.hid hfe
    clear hgs hpn hpn' hfe l30
    go_wp2_with (first
      | (go_at_call 10; (with_reducible refine (specIsGens_rd (m : Int) (.slice a2 gs.length c2) gs fp w2 r2).mono ?_); rintro e w3 ⟨he, t3⟩; rw [Hgs.out] at he; subst he; have t3 := t3.only [])
      | (go_at_call 79; (with_reducible refine (srcBelow_any g fc l 3 _ ((D2.keep t3).keep ((Only.refl _ _).alloc _)) hl (by omega)).mono ?_); rintro e w4 ⟨k0, rfl, k00, k03, D4, K4⟩)
      | fail "no arm")
    have k23 := t3.trans ((Only.refl [] w3).alloc (.cells #[] 36))
    have K24 : Only [g] w2 w4 := (k23.weaken [g]).trans K4
    have hsz2 := K2.size
    have hsz3 := t3.size
    have A3 := Acc.made (α := List Int) w3 w2.heap.size 36 rfl hsz3
    have hgl2' : g < w2.heap.size := by omega
    have hfc2 : ∀ b ∈ fc, b < w2.heap.size := fun b hb => by have := hfc b hb; omega
    have A4 := A3.only K4 (by simp) (fun q hq hm => by have e : w3.heap.size = q := by simpa [Value.ownBlock] using hq
                                                       simp at hm; omega)
    have hk3 : k0 ≤ 3 := by omega
    clear A3 K4 k23
    go_loopw [7, 8] (fun o x wr => ∃ (k : Int) (L : List (List Int)) (fs : List (List Nat)), 0 ≤ k ∧ x = .int .i64 k ∧ (L.length : Int) + k ≤ 3 ∧ Acc w2.heap.size 36 wr o L fs ∧ Fresh w2.heap.size wr fs.flatten ∧ Src wr g fc l ∧ Only [g] w2 wr)
      (fun _ x _ => (intOf x).toNat)
    case atStart => exact ⟨k0, [], [], k00, rfl, by simpa using hk3, A4, Fresh.nil _ _, D4, K24⟩
    case round =>
      obtain ⟨W2, hnew⟩ : ∃ W, W = wr := ⟨_, rfl⟩
      subst hnew
      clear A4 D4 K24 k00 k03 hk3
      obtain ⟨k, L, fs, k1, rfl, hkl, hA, hF, hD, hO⟩ := hrel
      obtain ⟨Ao, Co, hfo⟩ := id hA.form
      subst hfo
      have hz := hO.size
      have hk3 : k ≤ 3 := by omega
      by_cases hk : 0 < k
      · have hlen : L.length + 1 ≤ 1073741824 := by omega
        have hwk : IntKind.i64.wrap (k - 1) = k - 1 := by rw [IntKind.wrap_i64]; omega
        go_wp2_with (first
          | (go_at_call 55; (with_reducible refine (specIdentity_any m W2 (by omega)).mono ?_); rintro e w5 ⟨v5, f5, rfl, r5, F5, t5⟩)
          | (go_at_call 79; (with_reducible refine (srcBelow_any g fc l 4 w5 (hD.keep t5) hl (by omega)).mono ?_); rintro e w6 ⟨i0', rfl, i00, i04, D6, K6⟩)
          | fail "no arm")
        have k26 : Only [g] W2 w6 := (t5.weaken [g]).trans K6
        have hd5 : ∀ b ∈ f5, b ∉ [g] := fun b hb hm => by have := F5.ge b hb; simp at hm; omega
        have r6 := Rp.only r5 K6 hd5
        have F6 := F5.only K6 hd5
        have hPm := PM.PN.id m
        have hw1 : wrap64 (1 + i0') = 1 + i0' := by unfold wrap64; omega
        have hi5 : 1 + i0' ≤ 5 := by omega
        have hi0 : 0 ≤ 1 + i0' := by omega
        have HA := Lib.hid hA
        have HF := Lib.hid hF
        clear r5 F5 t5 K6 hd5 hA hF
        go_loopw [9, 10] (fun o x wr => ∃ (i : Int) (p : List Int) (f : List Nat), 0 ≤ i ∧ i ≤ 5 ∧ x = .int .i64 i ∧ Rd wr o p f ∧ PM.PN m p ∧ Fresh W2.heap.size wr f ∧ Src wr g fc l ∧ Only [g] W2 wr)
          (fun _ x _ => (intOf x).toNat)
        case atStart => exact ⟨1 + i0', _, f5, hi0, hi5, by first | rfl | (congr 1; omega), r6, hPm, F6, D6, k26⟩
        case round =>
          obtain ⟨W4, hnew⟩ : ∃ W, W = wr := ⟨_, rfl⟩
          subst hnew
          clear r6 F6 D6 k26 hPm hi5 hi0 hw1
          obtain ⟨i, p, f, i1, i5, rfl, hr, hp, hF4, hD4, hO4⟩ := hrel
          have hdf : ∀ b ∈ f, b ∉ [g] := fun b hb hm => by have := hF4.ge b hb; simp at hm; omega
          have Hp := Lib.hid hp
          have Hdf := Lib.hid hdf
          have kW4 := hO.trans hO4
          clear hp hdf
          by_cases hgo : 0 < i ∧ 0 < gs.length
          · obtain ⟨h1, h2⟩ := hgo
            have h2I : (0 : Int) < (gs.length : Int) := by omega
            have hw : IntKind.i64.wrap (i - 1) = i - 1 := by rw [IntKind.wrap_i64]; omega
            go_wp2_with (first
              | (go_at_call 79; (with_reducible refine (srcBelow_any g fc l (gs.length : Int) W4 hD4 hl (by omega)).mono ?_); rintro e w7 ⟨r, rfl, r0, r1, D7, K7⟩; obtain ⟨q, rfl⟩ := Int.eq_ofNat_of_zero_le r0; have hql : q < gs.length := (by omega); have hqI : (q : Int) < (gs.length : Int) := (by omega); obtain ⟨b, off, u, rfl, hob, hc0, hu0⟩ := hS.atRow q hql; have K7' := kW4.trans K7; have hnb : b ∉ [g] := Hnf.out b (by rw [Hfe.out, hob]; simp); have cc := K7'.cell hnb hc0; have hu4 := Rp.only hu0 K7' (fun b hb => Hnf.out b (by rw [Hfe.out]; exact List.mem_append_right _ (List.mem_flatten.2 ⟨_, List.getElem_mem _, hb⟩))); have hpm := Hpn.out gs[q] (List.getElem_mem hql); have hr4 := Rp.only hr K7 Hdf.out; have F7 := hF4.only K7 Hdf.out)
              | (go_at_call 39; (with_reducible refine (specCompose_rd m _ u p gs[q] _ _ w7 hr4 hu4 Hp.out hpm (by omega)).mono ?_); rintro e w8 ⟨v8, f8, rfl, r8, F8, t8⟩)
              | fail "no arm")
            go_roundw
            case rel => exact ⟨i - 1, _, f8, by omega, by omega, rfl, r8, Hp.out.comp hpm, F8.mono (by have := (hO4.trans K7).size; omega), D7.keep t8, (hO4.trans K7).keepThen t8⟩
            case measure => simp [intOf]; omega
          · have hcut : (¬ 0 < i) ∨ (0 < i ∧ ¬ ((0 : Int) < (gs.length : Int))) := by
              by_cases h1 : 0 < i
              · exact Or.inr ⟨h1, by omega⟩
              · exact Or.inl h1
            clear hgo
            obtain ⟨ap, cp, rfl, -⟩ := id hr.ints
            rcases hcut with h1 | ⟨h0, h1⟩
            all_goals
              go_upto_region 13 with fail
              go_cut [54] (fun s54 wx => ∃ b : Bool, s54 = .bool b ∧ Src wx g fc l ∧ Only [g] W4 wx)
              case first =>
                go_wp2_with (go_at_call 80; (with_reducible refine (oneIn_any g fc l 3 W4 hD4 hl (by omega)).mono ?_); rintro e w5 ⟨b1, rfl, D5, K5⟩)
                go_meet
                exact ⟨b1, rfl, D5, K5⟩
              case rest =>
              obtain ⟨w5, hnew⟩ : ∃ W, W = wc := ⟨_, rfl⟩
              subst hnew
              obtain ⟨b1, rfl, D5, K5⟩ := hcut
              have r5 := Rp.only hr K5 Hdf.out
              have F5 := hF4.only K5 Hdf.out
              have k5 := hO4.trans K5
              refine (show ∀ a w, Code.wp Try.prog _ _ a w → _ from by assumption) _ _ ?_
              go_cut [9] (fun s9 wx => ∃ (p : List Int) (f : List Nat), Rd wx s9 p f ∧ Fresh W2.heap.size wx f ∧ Src wx g fc l ∧ Only [g] W2 wx)
              case first =>
                go_wp2_with (first
                  | (go_at_call 39; (with_reducible refine (specCompose_rd m (.slice ap p.length cp) (.slice ap p.length cp) p p f f w5 r5 r5 Hp.out Hp.out (by omega)).mono ?_); rintro e w6 ⟨v6, f6, rfl, r6, F6, t6⟩; have D6 := D5.keep t6; have k6 := k5.keepThen t6; have F6' := F6.mono k5.size)
                  | fail "no arm")
                all_goals go_meet
                all_goals first
                  | exact ⟨_, f6, r6, F6', D6, k6⟩
                  | exact ⟨p, f, r5, F5, D5, k5⟩
              case rest =>
              obtain ⟨W5, hnew⟩ : ∃ W, W = wc := ⟨_, rfl⟩
              subst hnew
              clear r5 F5 D5 K5 k5
              obtain ⟨p5, f5, r5, F5, D5, k5⟩ := hcut
              have hd5 : ∀ b ∈ f5, b ∉ [g] := fun b hb hm => by have := F5.ge b hb; simp at hm; omega
              obtain ⟨a5, c5, rfl, -⟩ := id r5.ints
              have Hd5 := Lib.hid hd5
              clear hd5
              go_upto_region 15 with fail
              go_cut [59] (fun s59 wx => ∃ b : Bool, s59 = .bool b ∧ Src wx g fc l ∧ Only [g] W5 wx)
              case first =>
                go_wp2_with (go_at_call 80; (with_reducible refine (oneIn_any g fc l 12 W5 D5 hl (by omega)).mono ?_); rintro e w7 ⟨b2, rfl, D7, K7⟩)
                go_meet
                exact ⟨b2, rfl, D7, K7⟩
              case rest =>
              obtain ⟨w7, hnew⟩ : ∃ W, W = wc := ⟨_, rfl⟩
              subst hnew
              obtain ⟨b2, rfl, D7, K7⟩ := hcut
              have r7 := Rp.only r5 K7 Hd5.out
              have F7 := F5.only K7 Hd5.out
              have k7 := k5.trans K7
              refine (show ∀ a w, Code.wp Try.prog _ _ a w → _ from by assumption) _ _ ?_
              go_cut [9] (fun s9 wx => ∃ (p : List Int) (f : List Nat), Rd wx s9 p f ∧ Fresh W2.heap.size wx f ∧ Src wx g fc l ∧ Only [g] W2 wx)
              case first =>
                go_wp2_with (first
                  | (go_at_call 81; (with_reducible refine (drawAny_any g fc l m w7 D7 hl ⟨by omega, by omega⟩).mono ?_); rintro e w8 ⟨v8, p8, f8, rfl, r8, F8, l8, D8, K8⟩; have k8 := k7.trans K8; have F8' := F8.mono k7.size)
                  | fail "no arm")
                all_goals go_meet
                all_goals first
                  | exact ⟨p8, f8, r8, F8', D8, k8⟩
                  | exact ⟨p5, f5, r7, F7, D7, k7⟩
              case rest =>
              obtain ⟨W8, hnew⟩ : ∃ W, W = wc := ⟨_, rfl⟩
              subst hnew
              obtain ⟨p8, f8, r8, F8, D8, k8⟩ := hcut
              refine (show ∀ a w, Code.wp Try.prog _ _ a w → _ from by assumption) _ _ ?_
              obtain ⟨a8, c8, rfl, -⟩ := id r8.ints
              have A8 := HA.out.only k8 (fun b hb hm => by have := HF.out.ge b hb; simp at hm; omega) (fun q hq hm => by have := (HA.out.ownlt q hq).1; simp at hm; omega)
              go_wp2_with (first
                | (at_builtin; refine wpList_push rfl _ _ 24 rfl w2.heap.size 36 i0 _ 24 Try.underlying24 hi hz0 hz1 hz2 rfl (by decide) (by decide) W8 _ L fs rfl A8 ((Only.refl _ _).alloc _) (by have := (hO.trans k8).size; omega) W8.heap.size 1 [.slice a8 p8.length c8] p8 f8 rfl (lit_src W8 [_] _ rfl) (by intro u hu; simp at hu; subst hu; rfl) (Rp.keep r8 ((Only.refl [] W8).alloc _)) (fun b hb e => by have h1 := F8.ge b hb; have h2 := (HA.out.ownlt b e).2; omega) hlen ?_; intro v9 w9 hA9 hO9 hP9 hN9; have key := draw_snoc HA.out HF.out hgl2' hfc2 hO k8 D8 F8 _ hA9 hO9)
                | fail "no arm")
              all_goals go_roundw
              all_goals first
                | exact ⟨k - 1, _, _, by omega, rfl, by rw [List.length_append, List.length_singleton]; omega, key.1, key.2.1, key.2.2.1, key.2.2.2⟩
                | (simp [intOf]; omega)
      · have HA := Lib.hid hA
        clear hA
        go_wp2
        have hdf : ∀ b ∈ fp, b ∉ [g] := Hnf.out
        exact bodyPost_ret (v := .tuple #[.int .i64 (m : Int), .slice Ao L.length Co, .slice a2 gs.length c2]) (by simp [results, Try.results33, go_sem]) rfl ⟨_, _, _, rfl, (m : Int), L, gs, _, fp, rfl, hn, HA.out.rd (by decide), Rp.only r2 hO hdf, by omega, l9, hD, K2.trans hO⟩
/-- drawn: a degree, two lists of permutations -/
def DS2 (w : World) (s2 s3 s4 : Value) (wx : World) : Prop :=
  ∃ (n : Int) (a b : List (List Int)) (fa fb : List Nat), s2 = .int .i64 n ∧ I64 n ∧ Rd wx s3 a fa ∧ Rd wx s4 b fb ∧ a.length ≤ 9 ∧ b.length ≤ 9 ∧ Only [] w wx
set_option maxHeartbeats 2000000 in
theorem drawNormal_any (v : Value) (l : List UInt8) (fc : List Nat) (w : World) (h : Rd w v l fc) (hl : l.length ≤ 4096) :
    Calls Try.prog 7 #[v] w fun e w' => ∃ s2 s3 s4, e = .returned (.tuple #[s2, s3, s4]) ∧ DS2 w s2 s3 s4 w' := by
  go_enter Try.func7, Try.ntmps7
  go_wp2_with (first
    | (go_at_call 32; (with_reducible refine (newSource_any v l fc w h hl).mono ?_); rintro e w1 ⟨g, rfl, D1, hg, t1⟩)
    | (go_at_call 33; (with_reducible refine (drawSubgroup_any g fc l w1 D1 hl).mono ?_); rintro e w2 ⟨s2, s3, s4, rfl, n, a, b, fa, fb, rfl, hn, ra, rb, la, lb, D2, K2⟩; obtain ⟨aa, ca, _, _, rfl, -, -⟩ := id ra.open_; obtain ⟨ab, cb, _, _, rfl, -, -⟩ := id rb.open_)
    | fail "no arm")
  exact bodyPost_ret (v := .tuple #[.int .i64 n, .slice aa a.length ca, .slice ab b.length cb]) (by simp [results, Try.results7, go_sem]) rfl ⟨_, _, _, rfl, n, a, b, fa, fb, rfl, hn, ra, rb, la, lb, ((t1.weaken [g]).trans K2).mono fun b hb hl => by simp at hb; omega⟩
end Go.Proofs.Ytbediokigibdlaa

namespace PM

/-- the members that begin as m, by the levels that are left -/
def dn (T : Rows) (n : Nat) : Nat → Nat → List Int → List (List Int)
  | 0, _, m => [m]
  | k + 1, i, m => (cho n T i m).flatMap fun v => dn T n k (i + 1) (putV T i m v)
/-- the selection of a rank, by a chain -/
def mselT (T : Rows) (n : Nat) (r i _len : Nat) : Nat := (r % ordM T n (n - i)) / ordM T n (n - (i + 1))
theorem range_mul {α : Type} (f : Nat → α) (b : Nat) : ∀ a, (List.range (a * b)).map f = (List.range a).flatMap fun q => (List.range b).map fun s => f (q * b + s)
  | 0 => by simp
  | a + 1 => by
    rw [List.range_succ, List.flatMap_append, ← range_mul f b a, Nat.succ_mul, List.range_add, List.map_append]
    simp [List.map_map, Function.comp_def]
theorem fm_congr {α β : Type} {f g : α → List β} : ∀ {l : List α}, (∀ x ∈ l, f x = g x) → l.flatMap f = l.flatMap g
  | [], _ => rfl
  | x :: l, h => by
    rw [List.flatMap_cons, List.flatMap_cons, h x (by simp), fm_congr fun y hy => h y (List.mem_cons_of_mem _ hy)]
theorem flatMap_range {α : Type} (l : List Int) (g : Int → List α) : l.flatMap g = (List.range l.length).flatMap fun q => g (l.getD q 0) := by
  have h : l = (List.range l.length).map fun q => l.getD q 0 := by
    apply List.ext_getElem (by simp)
    intro i h1 h2
    simp [h1]
  conv => lhs; rw [h]
  rw [List.flatMap_map]
theorem ordM_dvd (T : Rows) (n : Nat) {a : Nat} : ∀ {b : Nat}, a ≤ b → ordM T n a ∣ ordM T n b
  | 0, h => by obtain rfl : a = 0 := by omega
               exact Nat.dvd_refl _
  | b + 1, h => by
    by_cases e : a = b + 1
    · subst e; exact Nat.dvd_refl _
    · exact Nat.dvd_trans (ordM_dvd T n (show a ≤ b by omega)) ⟨cntR n T (n - (b + 1)), by show cntR n T (n - (b + 1)) * ordM T n b = _; rw [Nat.mul_comm]⟩
theorem desc_sel {T : Rows} {n : Nat} {sel sel' : Nat → Nat → Nat} : ∀ (k i : Nat) (m : List Int), (∀ j, i ≤ j → ∀ l, sel j l = sel' j l) → desc T n sel k i m = desc T n sel' k i m
  | 0, _, _, _ => rfl
  | k + 1, i, m, h => by
    show desc T n sel k (i + 1) _ = desc T n sel' k (i + 1) _
    rw [h i (Nat.le_refl _)]
    exact desc_sel k (i + 1) _ fun j hj => h j (by omega)
theorem dn_eq {T : Rows} {n : Nat} (hw : WF n T) : ∀ (k i : Nat) (m : List Int), i + k = n → PN n m → dn T n k i m = (List.range (ordM T n k)).map fun r => desc T n (mselT T n r) k i m
  | 0, i, m, _, _ => by simp [dn, ordM, desc]
  | k + 1, i, m, hi, hm => by
    have hi' : n - i = k + 1 := by omega
    have hi2 : n - (i + 1) = k := by omega
    have hi3 : n - (k + 1) = i := by omega
    have hl := cho_len (T := T) (i := i) hm
    have hM := (ordM_rng hw k (by omega)).1
    have ho : ordM T n (k + 1) = (cho n T i m).length * ordM T n k := by
      show cntR n T (n - (k + 1)) * ordM T n k = _
      rw [hi3, hl]
    show ((cho n T i m).flatMap fun v => dn T n k (i + 1) (putV T i m v)) = _
    rw [ho, range_mul, flatMap_range]
    refine fm_congr fun q hq => ?_
    have hq' : q < (cho n T i m).length := List.mem_range.1 hq
    have hv : (cho n T i m).getD q 0 ∈ cho n T i m := by rw [List.getD_eq_getElem?_getD, List.getElem?_eq_getElem hq']; exact List.getElem_mem hq'
    rw [dn_eq hw k (i + 1) _ (by omega) (putV_pn hw (by omega) hm hv).1]
    refine List.map_congr_left fun s hs => ?_
    have hs' : s < ordM T n k := List.mem_range.1 hs
    have hlt : q * ordM T n k + s < (cho n T i m).length * ordM T n k := by
      have := Nat.mul_le_mul_right (ordM T n k) (show q + 1 ≤ (cho n T i m).length by omega)
      rw [Nat.succ_mul] at this
      omega
    have hsel : mselT T n (q * ordM T n k + s) i (cho n T i m).length = q := by
      unfold mselT
      rw [hi', hi2, ho, Nat.mod_eq_of_lt hlt, Nat.mul_comm, Nat.mul_add_div (by omega), Nat.div_eq_of_lt hs', Nat.add_zero]
    show desc T n (mselT T n s) k (i + 1) _ = desc T n (mselT T n (q * ordM T n k + s)) k (i + 1) (putV T i m ((cho n T i m).getD (mselT T n (q * ordM T n k + s) i (cho n T i m).length) 0))
    rw [hsel]
    refine desc_sel k (i + 1) _ fun j hj l => ?_
    unfold mselT
    have hd : ordM T n (n - j) ∣ ordM T n k := ordM_dvd T n (by omega)
    obtain ⟨c, hc⟩ := hd
    rw [hc, Nat.mul_comm q, Nat.mul_assoc, Nat.mul_add_mod]
/-- the members that begin alike down to a level, one for each beginning -/
def lvA (T : Rows) (n : Nat) : Nat → List (List Int)
  | 0 => [pts n]
  | i + 1 => (lvA T n i).flatMap fun m => (cho n T i m).map (putV T i m)
theorem lvA_dn (T : Rows) (n : Nat) : ∀ i, i ≤ n → (lvA T n i).flatMap (fun m => dn T n (n - i) i m) = dn T n n 0 (pts n)
  | 0, _ => by simp [lvA]
  | i + 1, h => by
    rw [← lvA_dn T n i (by omega)]
    show ((lvA T n i).flatMap fun m => (cho n T i m).map (putV T i m)).flatMap _ = _
    rw [List.flatMap_assoc]
    refine fm_congr fun m _ => ?_
    rw [show n - i = (n - (i + 1)) + 1 by omega, List.flatMap_map]
    rfl
theorem lvA_all {T : Rows} {n : Nat} (hw : WF n T) : lvA T n n = (List.range (ordM T n n)).map fun r => desc T n (mselT T n r) n 0 (pts n) := by
  rw [← dn_eq hw n 0 (pts n) (by omega) (PN.id n), ← lvA_dn T n n (Nat.le_refl _), Nat.sub_self]
  induction lvA T n n with
  | nil => rfl
  | cons x l ih => rw [List.flatMap_cons, ← ih]; rfl
/-- before, in the order of the entries -/
def Lex (n : Nat) (p q : List Int) : Prop := ∃ i : Nat, i < n ∧ Alike i p q ∧ at_ p (i : Int) < at_ q (i : Int)
theorem dn_lex {T : Rows} {n : Nat} (hw : WF n T) : ∀ (k i : Nat) (m : List Int), i + k = n → PN n m → (dn T n k i m).Pairwise (Lex n) ∧ ∀ p ∈ dn T n k i m, PN n p ∧ Alike i p m
  | 0, i, m, _, hm => by
    refine ⟨by simp [dn], fun p hp => ?_⟩
    have : p = m := by simpa [dn] using hp
    subst this
    exact ⟨hm, fun _ _ _ => rfl⟩
  | k + 1, i, m, hi, hm => by
    have hin : i < n := by omega
    have ih : ∀ v ∈ cho n T i m, (dn T n k (i + 1) (putV T i m v)).Pairwise (Lex n) ∧ ∀ p ∈ dn T n k (i + 1) (putV T i m v), PN n p ∧ Alike (i + 1) p (putV T i m v) := fun v hv => dn_lex hw k (i + 1) _ (by omega) (putV_pn hw hin hm hv).1
    refine ⟨?_, fun p hp => ?_⟩
    · show ((cho n T i m).flatMap fun v => dn T n k (i + 1) (putV T i m v)).Pairwise (Lex n)
      rw [List.pairwise_flatMap]
      refine ⟨fun v hv => (ih v hv).1, ?_⟩
      refine List.Pairwise.imp_of_mem (fun {v v'} hv hv' hlt p hp q hq => ?_) (choO_asc m (rowP n T i))
      obtain ⟨-, h2, h3⟩ := putV_pn hw hin hm hv
      obtain ⟨-, h2', h3'⟩ := putV_pn hw hin hm hv'
      have a1 := ((ih v hv).2 p hp).2
      have a2 := ((ih v' hv').2 q hq).2
      refine ⟨i, hin, fun x x0 x1 => ?_, ?_⟩
      · rw [a1 x x0 (by omega), a2 x x0 (by omega), h2 x x0 x1, h2' x x0 x1]
      · rw [a1 (i : Int) (by omega) (by omega), a2 (i : Int) (by omega) (by omega), h3, h3']
        exact hlt
    · obtain ⟨v, hv, hp2⟩ := List.mem_flatMap.1 hp
      obtain ⟨-, h2, -⟩ := putV_pn hw hin hm hv
      obtain ⟨b1, b2⟩ := (ih v hv).2 p hp2
      exact ⟨b1, fun x x0 x1 => (b2 x x0 (by omega)).trans (h2 x x0 x1)⟩
theorem lvA_lex {T : Rows} {n : Nat} (hw : WF n T) : (lvA T n n).Pairwise (Lex n) := by
  rw [lvA_all hw, ← dn_eq hw n 0 (pts n) (by omega) (PN.id n)]
  exact (dn_lex hw n 0 (pts n) (by omega) (PN.id n)).1
end PM
