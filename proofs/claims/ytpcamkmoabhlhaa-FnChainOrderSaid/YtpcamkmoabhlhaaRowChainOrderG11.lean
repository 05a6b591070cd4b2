/- The program's faults of an entry. (Written by mkprf3.py.) The reference's drawn numbers, permutations (seldom invalid ones), generators (laws 34, 35, ..). The reference's drawn groups (laws 34, 35, ..). The reference's MemberAt: the member of a rank (laws 33, 34, ..). Maps from int64 to int64 that a call makes. (Printed by mkmapv.py out of XMap.) The program's walk down a chain: values, take, from (laws 33, 47). The program's walk down a chain: sorted, from; its generator (laws 33, 47). The program's RandomMember (laws 35, 47). -/
import Derived.Test.YtpcamkmoabhlhaaRowChainOrderG10
import Derived.Test.YtpcamkmoabhlhaaRowChainOrderG3
import Derived.Deep.AppendLies
import Derived.Deep.DeepCutAuto
import Derived.Test.YtpcamkmoabhlhaaRowChainOrderG9
import Derived.Maps.RangeWalk
import Derived.Test.YtpcamkmoabhlhaaRowChainOrderG7
import Derived.Test.YtpcamkmoabhlhaaRowChainOrderG8
import Derived.Deep.RegionLaw
namespace Go.Proofs.Ytpcamkmoabhlhaa
open Go.RowKit
set_option maxRecDepth 10000

theorem wpList_push2 {P : Program} {α : Type} [Rp α] {ops : Array Oper} {rest : List Oper} {o : Oper} {a : Act} {w : World} {Q : Exit → Act → World → Prop} (hgd : o.guard = none) (s x : Operand) (t : TypeId)
    (ho : o.op = .call { callee := .builtin .append, args := #[s, x], argTypes := #[t, t] })
    (B : Nat) (e : TypeId) (i : TypeInfo) (z : Value) (bytes : Nat) (ht : P.underlying t = some (.slice e)) (hi : P.info? e = some i) (hz : i.zero = some z)
    (hsize : i.size = Rp.size α) (hby : i.bytes = bytes) (hzs : z.cells.size = Rp.size α) (hsz : 0 < Rp.size α) (hbb : bytes ≤ 65536)
    (w0 : World) (v : Value) (l : List α) (fs : List (List Nat)) (hs : a.eval s = v) (hA : Acc B e w0 v l fs) (hK0 : Only [] w0 w) (hB : B ≤ w0.heap.size)
    (g c : Nat) (cs : List Value) (y : α) (fp : List Nat) (hx : a.eval x = .slice (some ⟨g, 0, none⟩) 1 c) (hsrc : ∀ j u, cs[j]? = some u → w.cell? ⟨g, j, none⟩ = some u) (hcs : ∀ u ∈ cs, u.oneCell' = true)
    (hy : Rp.rep w cs y fp) (hap : ∀ b ∈ fp, v.ownBlock ≠ some b) (hlen : l.length + 1 ≤ 1073741824)
    (h : ∀ v' w', Acc B e w' v' (l ++ [y]) (fs ++ [fp]) → Only v.ownBlock.toList w w' → (v'.ownBlock = v.ownBlock ∨ v'.ownBlock = some w.heap.size) → wpList P ops Q rest (a.put o.dst v') w') : wpList P ops Q (o :: rest) a w :=
  wpList_plain hgd fun _ hK => wp_push2 s x t ho B e i z bytes ht hi hz hsize hby hzs hsz hbb w0 v l fs hs hA hK0 hB g c cs y fp hx hsrc hcs hy hap hlen fun v' w' h1 h2 _ _ h5 => hK _ _ (h v' w' h1 h2 h5)


end Go.Proofs.Ytpcamkmoabhlhaa

namespace Go.Proofs.Ytpcamkmoabhlhaa
open Go.RowKit
set_option maxRecDepth 10000

/-- an entry is written over -/
theorem AccI.put {B : Nat} {e : TypeId} {w : World} {v : Value} {l : List Int} (h : AccI B e w v l) {i : Nat} (hi : i < l.length) {x : Int} (hx : I64 x) :
    ∃ g c, v = .slice (some ⟨g, 0, none⟩) l.length c ∧ w.cell? ⟨g, i, none⟩ = some (.int .i64 l[i]) ∧ w.frozen? ⟨g, i, none⟩ = false ∧ B ≤ g ∧ AccI B e (w.setCell ⟨g, i, none⟩ (.int .i64 x)) v (l.set i x) := by
  obtain ⟨hO, hw⟩ := h.row
  obtain ⟨g, cap, rfl, hb, hlt⟩ := hO.form (by omega)
  obtain ⟨hO2, -⟩ := hO.stored i (.int .i64 x)
  refine ⟨g, cap, rfl, ?_, hO.frozenAt i, hb, AccI.ofRow ?_ ?_⟩
  · rw [hO.cellAt i (by omega)]; simp [hi]
  · rw [List.length_set, List.map_set]; exact hO2
  · intro y hy
    rcases List.mem_or_eq_of_mem_set hy with h1 | rfl
    · exact hw y h1
    · exact hx
set_option maxHeartbeats 1000000 in
theorem specIdentity_acc (m : Nat) (w : World) (hm : m ≤ 1000) :
    Calls Try.prog 50 #[.int .i64 m] w fun e w' => ∃ v, e = .returned v ∧ AccI w.heap.size 2 w' v (PM.pts m) ∧ Only [] w w' := by
  obtain ⟨i0, hi, hz0, hz1, hz2⟩ := info_parts Try.info2
  go_enter Try.func50, Try.ntmps50
  go_wp2
  go_loopw [3, 4] (fun o i wr => ∃ (j : Nat) (fs : List (List Nat)), j ≤ m ∧ i = .int .i64 j ∧ Acc w.heap.size 2 wr o (PM.pts j) fs ∧ Fresh w.heap.size wr fs.flatten ∧ Only [] w wr)
    (fun _ i _ => m - (intOf i).toNat)
  case atStart => exact ⟨0, [], Nat.zero_le _, rfl, Acc.made w w.heap.size _ rfl (Nat.le_refl _), Fresh.nil _ _, (Only.refl _ _).alloc _⟩
  case round =>
    obtain ⟨j, fs, hj, rfl, hA, hF, hK⟩ := hrel
    by_cases hlt : j < m
    · have hsz := hK.size
      have hlj : (PM.pts j).length + 1 ≤ 1073741824 := by rw [PM.pts_len]; omega
      have hI : I64 (j : Int) := by unfold I64; omega
      have HI := Lib.hid hI; clear hI
      go_wp2_with ((at_builtin; refine wpList_pushF rfl _ _ 23 rfl w.heap.size 2 i0 _ 8 Try.underlying23 hi hz0 hz1 hz2 rfl (by decide) (by decide) wr _ (PM.pts j) fs rfl hA hF ((Only.refl _ _).alloc _) hsz wr.heap.size 1 [.int .i64 (j : Int)] (j : Int) [] rfl (lit_src wr [.int .i64 (j : Int)] _ rfl) (by intro u hu; simp at hu; subst hu; rfl) (int_rd _ HI.out) (Fresh.nil _ _) hlj w (hK.alloc _) (Nat.le_refl _) ?_; intro v3 w3 hA3 hF3 hK3 _))
      go_roundw
      case rel => exact ⟨j + 1, _, by omega, by go_num, by rw [pts_succ]; exact hA3, hF3, hK3⟩
      case measure => simp [intOf]; omega
    · have hjl : j = m := by omega
      rw [hjl] at hA
      have HA := Lib.hid hA
      clear hjl hA
      go_wp2
      go_ret
      exact ⟨_, rfl, ⟨_, HA.out⟩, hK⟩
set_option maxHeartbeats 2000000 in
theorem numberUpTo_any (g : Nat) (fc : List Nat) (l : List UInt8) (n : Int) (w : World) (h : Src w g fc l) (hl : l.length ≤ 4096) (hn : I64 n) :
    Calls Try.prog 66 #[.pointer (some ⟨g, 0, none⟩), .int .i64 n] w fun e w' => ∃ r : Int, e = .returned (.int .i64 r) ∧ I64 r ∧ Src w' g fc l ∧ Only [g] w w' := by
  have hlt := h.lt
  obtain ⟨y, hy⟩ : ∃ y, y = IntKind.i64.wrap (n + 1) := ⟨_, rfl⟩
  have hyI : I64 y := by rw [hy, IntKind.wrap_i64]; unfold I64; omega
  have hyw : IntKind.i64.wrap (n + 1) = y := hy.symm
  obtain ⟨z, hz⟩ : ∃ z, z = IntKind.i64.wrap (min n 4 + 1) := ⟨_, rfl⟩
  have hzI : I64 z := by rw [hz, IntKind.wrap_i64]; unfold I64; omega
  have hzw : IntKind.i64.wrap (min n 4 + 1) = z := hz.symm
  have HyI := Lib.hid hyI
  have HzI := Lib.hid hzI
  have Hn := Lib.hid hn
  clear hy hyI hn hz hzI
  go_enter Try.func66, Try.ntmps66
  go_wp2_with (first
    | (go_at_call 63; (with_reducible refine (oneIn_any g fc l 10 w h hl (by omega)).mono ?_); rintro e w1 ⟨b1, rfl, D1, K1⟩)
    | (go_at_call 63; (with_reducible refine (oneIn_any g fc l 2 w1 D1 hl (by omega)).mono ?_); rintro e w2 ⟨b2, rfl, D2, K2⟩)
    | (go_at_call 90; (with_reducible refine (extremeInt_any g fc l w1 D1 hl).mono ?_); rintro e w2 ⟨x, rfl, hx, D2, K2⟩; have HxI := Lib.hid hx; have hB := Blk.new w2 ([-1, n, y, x].map (Value.int .i64)) 2; have ho : Only [] w2 (w2.alloc (.cells (([-1, n, y, x].map (Value.int .i64))).toArray 2)) := (Only.refl _ _).alloc _; have hgs := D2.lt; clear hx)
    | (go_at_call 65; (with_reducible refine (srcBelow_any g fc l 4 _ (D2.keep (by with_reducible repeat (first | exact Only.refl _ _ | assumption | refine Only.drewN ?_ _ | refine Only.drew ?_ | refine Only.alloc ?_ _ | refine Only.setCell ?_ (by intro hh; exfalso; simp at hh; try omega) _ | refine Only.trans ?_ (by assumption)))) hl (by omega)).mono ?_); rintro e w3 ⟨r, rfl, r0, r1, D3, K3⟩; obtain ⟨k, rfl⟩ := Int.eq_ofNat_of_zero_le r0; have hk : k < 4 := (by omega); have hB1 := hB.only K3 (by simp; omega); have c1 := hB1.cell k (v := .int .i64 (([-1, n, y, x] : List Int)[k]'hk)) (by rw [List.getElem?_map, List.getElem?_eq_getElem (show k < ([-1, n, y, x] : List Int).length from hk)]; rfl); have hk0 : (0 : Int) ≤ (k : Int) := (by omega); have hk1 : (k : Int) < 4 := (by omega))
    | (go_at_call 65; (with_reducible refine (srcBelow_any g fc l y w2 D2 hl (by have := HyI.out; unfold I64 at this; omega)).mono ?_); rintro e w3 ⟨r, rfl, r0, r1, D3, K3⟩)
    | (go_at_call 65; (with_reducible refine (srcBelow_any g fc l z w2 D2 hl (by have := HzI.out; unfold I64 at this; omega)).mono ?_); rintro e w3 ⟨r, rfl, r0, r1, D3, K3⟩)
    | fail "no arm")
  · go_ret
    refine ⟨_, rfl, ?_, D3, ((K1.trans K2).trans (ho.weaken [g])).trans K3⟩
    rcases (show k = 0 ∨ k = 1 ∨ k = 2 ∨ k = 3 by omega) with rfl | rfl | rfl | rfl
    · show I64 (-1); unfold I64; omega
    · exact Hn.out
    · exact HyI.out
    · exact HxI.out
  · go_ret
    exact ⟨r, rfl, by have := HzI.out; unfold I64 at *; omega, D3, (K1.trans K2).trans K3⟩
  · go_ret
    exact ⟨r, rfl, by have := HyI.out; unfold I64 at *; omega, D3, (K1.trans K2).trans K3⟩
set_option maxHeartbeats 4000000 in
theorem drawGens_any (g : Nat) (fc : List Nat) (l : List UInt8) (n : Nat) (w : World) (h : Src w g fc l) (hl : l.length ≤ 4096) (hn : 1 ≤ n ∧ n ≤ 1000) :
    Calls Try.prog 64 #[.pointer (some ⟨g, 0, none⟩), .int .i64 n] w fun e w' => ∃ v gs fs, e = .returned v ∧ Acc w.heap.size 23 w' v gs fs ∧ Fresh w.heap.size w' fs.flatten ∧ (gs.length ≤ 3 ∧ ∀ y : List Int, y ∈ gs → y.length = n) ∧ Src w' g fc l ∧ Only [g] w w' := by
  obtain ⟨i0, hi, hz0, hz1, hz2⟩ := info_parts Try.info22
  have hg := h.lt
  have hfc : ∀ b ∈ fc, b < w.heap.size := by obtain ⟨_, _, _, _, _, _, _, h4, _⟩ := h; exact fun b hb => Rp.lt h4 b hb
  have hA0 := Acc.made (α := List Int) w w.heap.size 23 rfl (Nat.le_refl _)
  have ho : Only [] w (w.alloc (.cells #[] 23)) := (Only.refl _ _).alloc _
  go_enter Try.func64, Try.ntmps64
  go_wp2_with (first
    | (go_at_call 65; (with_reducible refine (srcBelow_any g fc l 3 _ (h.keep (by with_reducible repeat (first | exact Only.refl _ _ | assumption | refine Only.drewN ?_ _ | refine Only.drew ?_ | refine Only.alloc ?_ _ | refine Only.setCell ?_ (by intro hh; exfalso; simp at hh; try omega) _ | refine Only.trans ?_ (by assumption)))) hl (by omega)).mono ?_); rintro e w1 ⟨r, rfl, r0, r1, D1, K1⟩; obtain ⟨k, rfl⟩ := Int.eq_ofNat_of_zero_le r0; have hk : k ≤ 2 := (by omega); have hk1 : IntKind.i64.wrap (1 + (k : Int)) = 1 + (k : Int) := (by rw [IntKind.wrap_i64]; omega))
    | fail "no arm")
  have hA1 := hA0.only K1 (by simp) (by intro q hq hm; simp [Value.ownBlock] at hq hm; omega)
  have K1w : Only [g] w w1 := (ho.weaken [g]).trans K1
  go_loopw [5, 6] (fun o c wr => ∃ (j : Nat) (gs : List (List Int)) (fs : List (List Nat)), c = .int .i64 j ∧ gs.length + j ≤ 3 ∧ Acc w.heap.size 23 wr o gs fs ∧ Fresh w.heap.size wr fs.flatten ∧ (∀ y : List Int, y ∈ gs → y.length = n) ∧ Src wr g fc l ∧ Only [g] w wr)
    (fun _ c _ => (intOf c).toNat)
  case atStart => exact ⟨k + 1, [], [], by go_num, by simp; omega, hA1, Fresh.nil _ _, by simp, D1, K1w⟩
  case round =>
    obtain ⟨W2, hnew⟩ : ∃ W, W = wr := ⟨_, rfl⟩
    subst hnew
    obtain ⟨j, gs, fs, rfl, hlen, hA, hF, hgl, hD, hK⟩ := hrel
    clear hA0 hA1 K1w D1 K1 ho
    by_cases hj : 0 < j
    · have hjI : (0 : Int) < (j : Int) := by omega
      have hsz := hK.size
      go_upto_region 6 with ((go_at_call 50; (with_reducible refine (specIdentity_acc n W2 (by omega)).mono ?_); rintro e w3 ⟨v3, rfl, hA3, t3⟩))
      have D3 := hD.keep t3
      have hg2 : g < W2.heap.size := hD.lt
      go_cut [22] (fun s22 wx => ∃ r4 : Int, s22 = .int .i64 r4 ∧ Src wx g fc l ∧ Only [g] w3 wx)
      case first =>
        go_wp2_with ((go_at_call 65; (with_reducible refine (srcBelow_any g fc l 4 w3 D3 hl (by omega)).mono ?_); rintro e w4 ⟨r4, rfl, r40, r41, D4, K4⟩))
        go_meet
        exact ⟨r4, rfl, D4, K4⟩
      case rest =>
        obtain ⟨W4, hnew⟩ : ∃ W, W = wc := ⟨_, rfl⟩
        subst hnew
        obtain ⟨r4, rfl, D4, K4⟩ := hcut
        have hA4 := hA3.only K4 (fun q hq hm => by have := hA3.ownlt q hq; simp at hm; omega)
        have K24 : Only [g] W2 W4 := (t3.weaken [g]).trans K4
        refine (show ∀ a w, Code.wp Try.prog _ _ a w → _ from by assumption) _ _ ?_
        go_cut [7] (fun s7 wx => ∃ p, AccI W2.heap.size 2 wx s7 p ∧ p.length = n ∧ Src wx g fc l ∧ Only [g] W2 wx)
        case first =>
          have hmv : ∀ {V : World} {q : Nat}, v3.ownBlock = some q → q ∉ [g] := fun hq hm => by have := hA3.ownlt _ hq; simp at hm; omega
          by_cases e0 : r4 = 0
          · subst e0
            go_wp2_with ((go_at_call 88; (with_reducible refine (drawPerm_any g fc l n W4 D4 (by omega) hl).mono ?_); rintro e w5 ⟨v5, p5, rfl, hA5, hp5, D5, K5⟩))
            go_meet
            exact ⟨p5, hA5.low2 K24.size, hp5.1, D5, K24.trans K5⟩
          · by_cases e1 : r4 = 1
            · subst e1
              go_wp2
              go_loopw [8] (fun c wr => ∃ (i : Nat) (p : List Int), c = .int .i64 i ∧ i ≤ n ∧ AccI W2.heap.size 2 wr v3 p ∧ p.length = n ∧ Src wr g fc l ∧ Only [g] W2 wr)
                (fun c _ => n - (intOf c).toNat)
              case atStart => exact ⟨0, _, rfl, Nat.zero_le _, hA4, PM.pts_len n, D4, K24⟩
              case round =>
                obtain ⟨V, hnew⟩ : ∃ W, W = wr := ⟨_, rfl⟩
                subst hnew
                obtain ⟨i, p, rfl, hin, hAp, hpl, hDp, hKp⟩ := hrel
                by_cases hlt : i < n
                · have hinI : (i : Int) < (n : Int) := by omega
                  have hi0 : (0 : Int) ≤ (i : Int) := by omega
                  have hwi : IntKind.i64.wrap ((i : Int) + 1) = (i : Int) + 1 := by rw [IntKind.wrap_i64]; omega
                  have hn0 : (n : Int) ≠ 0 := by omega
                  have hr0 := Int.emod_nonneg ((i : Int) + 1) hn0
                  have hr1 := Int.emod_lt_of_pos ((i : Int) + 1) (show (0 : Int) < (n : Int) by omega)
                  obtain ⟨xx, hxx⟩ : ∃ xx, xx = ((i : Int) + 1) % (n : Int) := ⟨_, rfl⟩
                  have hmd : ((i : Int) + 1) % (n : Int) = xx := hxx.symm
                  have hmd2 : Int.tmod ((i : Int) + 1) (n : Int) = xx := by rw [Int.tmod_eq_emod_of_nonneg (by omega)]; exact hmd
                  rw [← hxx] at hr0 hr1
                  obtain ⟨g3, c3, e3, hc3, hf3, hb3, hA3'⟩ := hAp.put (i := i) (by omega) (x := xx) (by unfold I64; omega)
                  rw [hpl] at e3
                  obtain ⟨y3, hy3⟩ : ∃ y, y = p[i]'(by omega) := ⟨_, rfl⟩
                  rw [← hy3] at hc3
                  have HA3 := Lib.hid hA3'
                  have Hpl := Lib.hid hpl
                  clear hxx hAp hy3 hpl hA3' hmv hA3 hA4
                  subst e3
                  go_wp2
                  exact ⟨⟨i + 1, _, by go_num, by omega, HA3.out, by rw [List.length_set]; exact Hpl.out, hDp.only ((Only.refl [g3] V).setCell (by simp) _) (by simp; omega) (fun b hb hm => by have := hfc b hb; simp at hm; omega), hKp.then_ ((Only.refl [g3] V).setCell (by simp) _) (fun b hb hl => by simp at hb; omega)⟩, by simp [intOf]; omega⟩
                · obtain rfl : i = n := by omega
                  go_wp2
                  go_meet
                  exact ⟨p, hAp, hpl, hDp, hKp⟩
            · go_upto_region 9 with (first
                | (go_at_call 65; (with_reducible refine (srcBelow_any g fc l n W4 D4 hl (by omega)).mono ?_); rintro e w5 ⟨x5, rfl, x50, x51, D5, K5⟩)
                | (go_at_call 65; (with_reducible refine (srcBelow_any g fc l n w5 D5 hl (by omega)).mono ?_); rintro e w6 ⟨x6, rfl, x60, x61, D6, K6⟩)
                | fail "no arm")
              obtain ⟨xa, rfl⟩ := Int.eq_ofNat_of_zero_le x50
              obtain ⟨xb, rfl⟩ := Int.eq_ofNat_of_zero_le x60
              have hxa : xa < n := by omega
              have hxb : xb < n := by omega
              have hxaI : (xa : Int) < (n : Int) := by omega
              have hxbI : (xb : Int) < (n : Int) := by omega
              have hxa0 : (0 : Int) ≤ (xa : Int) := by omega
              have hxb0 : (0 : Int) ≤ (xb : Int) := by omega
              have hA6 := hA4.only (K5.trans K6) (fun q hq => hmv (V := W4) hq)
              obtain ⟨g3, c3, e3, hc3, hf3, hb3, hA7⟩ := hA6.put (i := xa) (by rw [PM.pts_len]; exact hxa) (x := (xb : Int)) (by unfold I64; omega)
              obtain ⟨g4, c4, e4, hc4, hf4, hb4, hA8⟩ := hA7.put (i := xb) (by rw [List.length_set, PM.pts_len]; exact hxb) (x := (xa : Int)) (by unfold I64; omega)
              rw [PM.pts_len] at e3
              rw [List.length_set, PM.pts_len] at e4
              have e34 := e3.symm.trans e4
              injection e34 with e5 _ e6
              subst e6
              injection e5 with e5
              injection e5 with e5 _ _
              subst e5
              obtain ⟨y3, hy3⟩ : ∃ y, w6.cell? ⟨g3, xa, none⟩ = some (.int .i64 y) := ⟨_, hc3⟩
              obtain ⟨y4, hy4⟩ : ∃ y, (w6.setCell ⟨g3, xa, none⟩ (.int .i64 (xb : Int))).cell? ⟨g3, xb, none⟩ = some (.int .i64 y) := ⟨_, hc4⟩
              have HA8 := Lib.hid hA8
              clear hc3 hc4 hA7 hA8 hA6 e4 hmv hA3 hA4
              subst e3
              have k68 : Only [g3] w6 ((w6.setCell ⟨g3, xa, none⟩ (.int .i64 (xb : Int))).setCell ⟨g3, xb, none⟩ (.int .i64 (xa : Int))) := ((Only.refl [g3] w6).setCell (by simp) _).setCell (by simp) _
              go_wp2
              go_meet
              exact ⟨_, HA8.out, by rw [List.length_set, List.length_set, PM.pts_len], D6.only k68 (by simp; omega) (fun b hb hm => by have := hfc b hb; simp at hm; omega), (K24.trans (K5.trans K6)).then_ k68 (fun b hb hl => by simp at hb; omega)⟩
        case rest =>
          obtain ⟨W5, hnew⟩ : ∃ W, W = wc := ⟨_, rfl⟩
          subst hnew
          obtain ⟨p, hA5, hp5, D5, K5⟩ := hcut
          obtain ⟨a5, c5, rfl⟩ := hA5.form
          have Hp5 := Lib.hid hp5
          clear hp5
          have hA6 := hA.only K5 (fun q hq hm => by have := hF.ge q hq; simp at hm; omega) (fun q hq hm => by have := (hA.ownlt q hq).1; simp at hm; omega)
          have hF6 := hF
          have hrow := hA5.rd
          have hfr := hA5.fresh
          have hnl : gs.length + 1 ≤ 1073741824 := by omega
          have hbz : w.heap.size ≤ W5.heap.size := Nat.le_trans hsz K5.size
          go_wp2_with (first
            | (at_builtin; refine wpList_push2 rfl _ _ 22 rfl w.heap.size 23 i0 _ 24 Try.underlying22 hi hz0 hz1 hz2 rfl (by decide) (by decide) W5 u5 gs fs rfl hA6 ((Only.refl [] W5).alloc _) hbz W5.heap.size 1 [.slice a5 p.length c5] p _ rfl (lit_src W5 [.slice a5 p.length c5] _ rfl) (by intro u hu; simp at hu; subst hu; rfl) (Rp.keep hrow ((Only.refl [] W5).alloc _)) ?hap hnl ?_; (case hap => (intro b hb he; have h1 := hfr.ge b hb; have h2 := (hA.ownlt b he).2; omega)); intro v7 w7 hA7 hO7 hN7)
            | fail "no arm")
          have D7 := (D5.keep ((Only.refl [] W5).alloc (.cells #[.slice a5 p.length c5] 23))).only hO7 (fun hm => by have := (hA.ownlt g (by simpa using hm)).1; omega) (fun b hb hm => by have := hfc b hb; have := (hA.ownlt b (by simpa using hm)).1; omega)
          have K7 : Only [g] w w7 := ((hK.trans K5).alloc _).then_ hO7 (fun b hb hl => by have := (hA.ownlt b (by simpa using hb)).1; omega)
          have hs7 : W5.heap.size ≤ w7.heap.size := Nat.le_trans (by simp) hO7.size
          have hkal : Only [] W5 (W5.alloc (.cells #[.slice a5 p.length c5] 23)) := (Only.refl _ _).alloc _
          have F1 : Fresh w.heap.size w7 fs.flatten := ((hF.only K5 (fun q hq hm => by have := hF.ge q hq; simp at hm; omega)).keep hkal).only hO7 (fun q hq hm => hA.apart q (by simpa using hm) hq)
          have F2 := (hfr.keep hkal).only hO7 (fun q hq hm => by have h1 := hfr.ge q hq; have h2 := (hA.ownlt q (by simpa using hm)).2; omega)
          have F3 : Fresh w.heap.size w7 (fs ++ [(Value.slice a5 p.length c5).ownBlock.toList]).flatten := by
            have := F1.append F2 hsz hF.lt
            simpa using this
          exact ⟨⟨j - 1, gs ++ [p], _, by congr 1; omega, by simp; omega, hA7, F3, by
            intro y hy
            rcases List.mem_append.1 hy with hy | hy
            · exact hgl y hy
            · rw [List.mem_singleton.1 hy]; exact Hp5.out, D7, K7⟩, by simp [intOf]; omega⟩
    · obtain rfl : j = 0 := by omega
      go_wp2
      go_ret
      exact ⟨_, gs, fs, rfl, hA, hF, ⟨by omega, hgl⟩, hD, hK⟩
set_option maxHeartbeats 4000000 in
theorem drawAny_any (g : Nat) (fc : List Nat) (l : List UInt8) (n : Nat) (w : World) (h : Src w g fc l) (hl : l.length ≤ 4096) (hn : 1 ≤ n ∧ n ≤ 1000) :
    Calls Try.prog 67 #[.pointer (some ⟨g, 0, none⟩), .int .i64 n] w fun e w' => ∃ v, ∃ p : List Int, ∃ fp, e = .returned v ∧ Rd w' v p fp ∧ Fresh w.heap.size w' fp ∧ p.length ≤ n + 21 ∧ Src w' g fc l ∧ Only [g] w w' := by
  obtain ⟨i0, hi, hz0, hz1, hz2⟩ := info_parts Try.info2
  have hg := h.lt
  have hfc : ∀ b ∈ fc, b < w.heap.size := by obtain ⟨_, _, _, _, _, _, _, h4, _⟩ := h; exact fun b hb => Rp.lt h4 b hb
  have hnI : (0 : Int) < (n : Int) := by omega
  go_enter Try.func67, Try.ntmps67
  go_upto_region 2 with ((go_at_call 88; (with_reducible refine (drawPerm_any g fc l n w h (by omega) hl).mono ?_); rintro e w1 ⟨v1, p1, rfl, hA1, hp1, D1, K1⟩))
  go_cut [14] (fun s14 wx => ∃ b : Bool, s14 = .bool b ∧ Src wx g fc l ∧ Only [g] w1 wx)
  case first =>
    go_wp2_with ((go_at_call 63; (with_reducible refine (oneIn_any g fc l 12 w1 D1 hl (by omega)).mono ?_); rintro e w2 ⟨b, rfl, D2, K2⟩))
    all_goals go_meet
    all_goals exact ⟨_, rfl, D2, K2⟩
  case rest =>
    obtain ⟨W2, hnew⟩ : ∃ W, W = wc := ⟨_, rfl⟩
    subst hnew
    obtain ⟨b, rfl, D2, K2⟩ := hcut
    have hmv : ∀ {q : Nat}, v1.ownBlock = some q → q ∉ [g] := fun hq hm => by have := hA1.ownlt _ hq; simp at hm; omega
    have hA2 := hA1.only K2 (fun q hq => hmv hq)
    have K12 := K1.trans K2
    refine (show ∀ a w, Code.wp Try.prog _ _ a w → _ from by assumption) _ _ ?_
    go_cut [5] (fun s5 wx => ∃ p : List Int, ∃ fp, Rd wx s5 p fp ∧ Fresh w.heap.size wx fp ∧ p.length ≤ n + 1 ∧ Src wx g fc l ∧ Only [g] w wx)
    case first =>
      have hln := hp1.1
      have Hln := Lib.hid hln
      have hs12 := K12.size
      clear hp1 hln
      cases b
      · go_wp2
        go_meet
        exact ⟨p1, _, hA2.rd, hA2.fresh, by rw [Hln.out]; omega, D2, K12⟩
      · go_upto_region 4 with ((go_at_call 65; (with_reducible refine (srcBelow_any g fc l 3 W2 D2 hl (by omega)).mono ?_); rintro e w3 ⟨r, rfl, r0, r1, D3, K3⟩))
        have K13 := K12.trans K3
        have hA3 := hA2.only K3 (fun q hq => hmv hq)
        by_cases e0 : r = 0
        · subst e0
          go_wp2_with (first
            | (go_at_call 65; (with_reducible refine (srcBelow_any g fc l n w3 D3 hl (by omega)).mono ?_); rintro e w4 ⟨x4, rfl, x40, x41, D4, K4⟩)
            | (go_at_call 66; (with_reducible refine (numberUpTo_any g fc l n w4 D4 hl (by unfold I64; omega)).mono ?_); rintro e w5 ⟨y, rfl, hy, D5, K5⟩; obtain ⟨xa, rfl⟩ := Int.eq_ofNat_of_zero_le x40; have hxa : xa < n := (by omega); have hxaI : (xa : Int) < (n : Int) := (by omega); have hxa0 : (0 : Int) ≤ (xa : Int) := (by omega); have hA5 := hA3.only (K4.trans K5) (fun q hq => hmv hq); obtain ⟨g3, c3, e3, hc3, hf3, hb3, hA7⟩ := hA5.put (i := xa) (by rw [Hln.out]; exact hxa) hy; obtain ⟨y3, hy3⟩ : ∃ z, w5.cell? ⟨g3, xa, none⟩ = some (.int .i64 z) := ⟨_, hc3⟩; have HA7 := Lib.hid hA7; rw [Hln.out] at e3; clear hc3 hA7 hA5 hA3 hA2 hA1 hmv; subst e3)
            | fail "no arm")
          go_meet
          have k68 : Only [g3] w5 (w5.setCell ⟨g3, xa, none⟩ (.int .i64 y)) := (Only.refl [g3] w5).setCell (by simp) _
          exact ⟨_, _, HA7.out.rd, HA7.out.fresh, by rw [List.length_set, Hln.out]; omega, D5.only k68 (by simp; omega) (fun b hb hm => by have := hfc b hb; simp at hm; omega), (K13.trans (K4.trans K5)).then_ k68 (fun b hb hl => by simp at hb; omega)⟩
        · by_cases e1 : r = 1
          · subst e1
            obtain ⟨hO, hw⟩ := hA3.row
            obtain ⟨g3, c3, e3, hb3, hlt3⟩ := hO.form (by rw [Hln.out]; omega)
            have hR := hA3.rd
            have hFr := hA3.fresh
            rw [e3] at hR hFr
            obtain ⟨a3, c3', e4, I3⟩ := hR.ints
            rw [Hln.out] at e3 e4
            injection e4 with e5 _ e6
            subst e5
            subst e6
            have hcap := I3.len
            rw [Hln.out] at hcap
            have HI := Lib.hid I3
            have hcI : (n : Int) ≤ (c3 : Int) := by omega
            have hn1 : (1 : Int) ≤ (n : Int) := by omega
            have hFO := Lib.hid hFr
            clear hA3 hA2 hA1 hmv hR hO I3 hFr
            subst e3
            by_cases hc1 : c3 = 1
            · subst hc1
              have hn11 : n = 1 := by omega
              subst hn11
              go_wp2
              go_meet
              exact ⟨[], [], (IntsA.nil _ _ (by simp [maxLen])).rd, Fresh.nil _ _, by simp, D3, K13⟩
            · go_wp2
              go_meet
              exact ⟨p1.drop 1, _, by have := (HI.out.drop (k := 1) (by rw [Hln.out]; omega)).rd; rw [List.length_drop, Hln.out] at this; exact this, hFO.out, by rw [List.length_drop, Hln.out]; omega, D3, K13⟩
          · have e2 : r = 2 := by omega
            subst e2
            have hnI64 : I64 (n : Int) := by unfold I64; omega
            have HnI := Lib.hid hnI64
            have hdl : p1.length + 1 ≤ 1073741824 := by rw [Hln.out]; omega
            have hbw : w.heap.size ≤ w3.heap.size := K13.size
            have HA3 := Lib.hid hA3
            clear hnI64
            go_wp2_with (first
              | (at_builtin; refine wpList_pushI rfl _ _ 23 rfl w.heap.size 2 i0 _ Try.underlying23 hi hz0 hz1 hz2 rfl w3 v1 p1 rfl HA3.out ((Only.refl _ _).alloc _) hbw w3.heap.size 1 (n : Int) rfl (lit1 w3 _ _ rfl) HnI.out hdl ?_; intro v9 w9 hA9 hO9 hP9 hN9)
              | fail "no arm")
            go_meet
            exact ⟨_, _, hA9.rd, hA9.fresh, by rw [List.length_append, Hln.out]; simp, (D3.keep ((Only.refl [] w3).alloc _)).only hO9 (fun hm => by have := (hA3.ownlt g (by simpa using hm)).1; omega) (fun b hb hm => by have := hfc b hb; have := (hA3.ownlt b (by simpa using hm)).1; omega), (K13.alloc _).then_ hO9 (fun b hb hl => by have := (hA3.ownlt b (by simpa using hb)).1; omega)⟩
    case rest =>
      obtain ⟨W5, hnew⟩ : ∃ W, W = wc := ⟨_, rfl⟩
      subst hnew
      obtain ⟨p, fp, r5, F5, hp5, D5, K5⟩ := hcut
      go_wp2_with (first
        | (go_at_call 63; (with_reducible refine (oneIn_any g fc l 60 _ D5 hl (by omega)).mono ?_); rintro e w6 ⟨b6, rfl, D6, K6⟩)
        | (go_at_call 65; (with_reducible refine (srcBelow_any g fc l 2 w6 D6 hl (by omega)).mono ?_); rintro e w7 ⟨r, rfl, r0, r1, D7, K7⟩; obtain ⟨k, rfl⟩ := Int.eq_ofNat_of_zero_le r0; have hk : k ≤ 1 := (by omega); obtain ⟨m, hm⟩ : ∃ m : Nat, m = 20 + k := ⟨_, rfl⟩; have hwk : IntKind.i64.wrap (20 + (k : Int)) = (m : Int) := (by rw [IntKind.wrap_i64]; omega); have hm1 : m ≤ 21 := (by omega); clear hm)
        | (go_at_call 88; (with_reducible refine (drawPerm_any g fc l m w7 D7 (by omega) hl).mono ?_); rintro e w8 ⟨v8, p8, rfl, hA8, hp8, D8, K8⟩)
        | fail "no arm")
      · go_ret
        exact ⟨_, p8, _, rfl, hA8.rd, hA8.fresh.mono (Nat.le_trans K5.size (K6.trans K7).size), by rw [hp8.1]; omega, D8, K5.trans ((K6.trans K7).trans K8)⟩
      · go_ret
        exact ⟨_, p, fp, rfl, Rp.only r5 K6 (fun q hq hm => by have := F5.ge q hq; simp at hm; omega), F5.only K6 (fun q hq hm => by have := F5.ge q hq; simp at hm; omega), by omega, D6, K5.trans K6⟩
end Go.Proofs.Ytpcamkmoabhlhaa

namespace Go.Proofs.Ytpcamkmoabhlhaa
open Go.RowKit
set_option maxRecDepth 10000

theorem Acc.low3 {α : Type} [Rp α] {B B' : Nat} {e : TypeId} {w : World} {v : Value} {l : List α} {fs : List (List Nat)} (h : Acc B e w v l fs) (hB : B' ≤ B) : Acc B' e w v l fs := by
  obtain ⟨⟨css, ho, hcl, hr⟩, hf, ha⟩ := h
  refine ⟨⟨css, ⟨ho.1, ?_⟩, hcl, hr⟩, hf, ha⟩
  rcases ho.2 with h1 | ⟨g, cap, cur, h1, h2, h3⟩
  · exact .inl h1
  · exact .inr ⟨g, cap, cur, h1, Nat.le_trans hB h2, h3⟩
theorem push_facts {w W w4 w5 w7 : World} {g : Nat} {fc : List Nat} {l : List UInt8} {e : TypeId} {v : Value} {gs : List (List Int)} {fs : List (List Nat)} {f : List Nat} (hA : Acc w.heap.size e W v gs fs) (hF : Fresh w.heap.size W fs.flatten) (hK : Only [g] w W) (K4 : Only [g] W w4) (hf : Fresh W.heap.size w4 f) (D4 : Src w4 g fc l) (hg : g < w.heap.size) (hfc : ∀ b ∈ fc, b < w.heap.size) (o5 : Only [] w4 w5) (hO7 : Only v.ownBlock.toList w5 w7) :
    Fresh w.heap.size w7 (fs ++ [f]).flatten ∧ Src w7 g fc l ∧ Only [g] w w7 := by
  have F1 : Fresh w.heap.size w7 fs.flatten := ((hF.only K4 (fun q hq hm => by have := hF.ge q hq; simp at hm; omega)).keep o5).only hO7 (fun q hq hm => hA.apart q (by simpa using hm) hq)
  have F2 := (hf.keep o5).only hO7 (fun q hq hm => by have h1 := hf.ge q hq; have h2 := (hA.ownlt q (by simpa using hm)).2; omega)
  have D7 := (D4.keep o5).only hO7 (fun hm => by have := (hA.ownlt g (by simpa using hm)).1; omega) (fun b hb hm => by have := hfc b hb; have := (hA.ownlt b (by simpa using hm)).1; omega)
  refine ⟨by have := F1.append F2 hK.size hF.lt; simpa using this, D7, ((hK.trans K4).trans (o5.weaken [g])).then_ hO7 (fun b hb hl => by have := (hA.ownlt b (by simpa using hb)).1; omega)⟩
/-- a drawn degree and generators -/
def DG (w : World) (g : Nat) (fc : List Nat) (l : List UInt8) (s4 s5 : Value) (wx : World) : Prop :=
  ∃ (n : Int) (gs : List (List Int)) (fp : List Nat), s4 = .int .i64 n ∧ I64 n ∧ Rd wx s5 gs fp ∧ Fresh w.heap.size wx fp ∧ gs.length ≤ 9 ∧ (∀ y : List Int, y ∈ gs → y.length ≤ 30) ∧ Src wx g fc l ∧ Only [g] w wx
set_option maxHeartbeats 4000000 in
theorem drawGroup_any (g : Nat) (fc : List Nat) (l : List UInt8) (w : World) (h : Src w g fc l) (hl : l.length ≤ 4096) :
    Calls Try.prog 37 #[.pointer (some ⟨g, 0, none⟩)] w fun e w' => ∃ s4 s5, e = .returned (.tuple #[s4, s5]) ∧ DG w g fc l s4 s5 w' := by
  obtain ⟨i0, hi, hz0, hz1, hz2⟩ := info_parts Try.info22
  have hg := h.lt
  have hfc : ∀ b ∈ fc, b < w.heap.size := by obtain ⟨_, _, _, _, _, _, _, h4, _⟩ := h; exact fun b hb => Rp.lt h4 b hb
  go_enter Try.func37, Try.ntmps37
  go_upto_region 2 with ((go_at_call 62; (with_reducible refine (between_rng g fc l 2 5 w h hl (by omega) (by omega) (by omega)).mono ?_); rintro e w1 ⟨n0, rfl, a0, a1, D1, K1⟩))
  go_cut [9] (fun s9 wx => ∃ b : Bool, s9 = .bool b ∧ Src wx g fc l ∧ Only [g] w1 wx)
  case first =>
    go_wp2_with ((go_at_call 63; (with_reducible refine (oneIn_any g fc l 6 w1 D1 hl (by omega)).mono ?_); rintro e w2 ⟨b, rfl, D2, K2⟩))
    go_meet
    exact ⟨_, rfl, D2, K2⟩
  case rest =>
    obtain ⟨W2, hnew⟩ : ∃ W, W = wc := ⟨_, rfl⟩
    subst hnew
    obtain ⟨b, rfl, D2, K2⟩ := hcut
    obtain ⟨m0, rfl⟩ := Int.eq_ofNat_of_zero_le (show 0 ≤ n0 by omega)
    have K12 := K1.trans K2
    refine (show ∀ a w, Code.wp Try.prog _ _ a w → _ from by assumption) _ _ ?_
    go_cut [4] (fun s4 wx => ∃ m : Nat, s4 = .int .i64 m ∧ 1 ≤ m ∧ m ≤ 7 ∧ Src wx g fc l ∧ Only [g] w wx)
    case first =>
      cases b
      · go_wp2
        go_meet
        exact ⟨m0, rfl, by omega, by omega, D2, K12⟩
      · go_wp2_with ((go_at_call 62; (with_reducible refine (between_rng g fc l 1 7 W2 D2 hl (by omega) (by omega) (by omega)).mono ?_); rintro e w3 ⟨n1, rfl, b0, b1, D3, K3⟩; obtain ⟨m1, rfl⟩ := Int.eq_ofNat_of_zero_le (show 0 ≤ n1 by omega)))
        go_meet
        exact ⟨m1, rfl, by omega, by omega, D3, K12.trans K3⟩
    case rest =>
      obtain ⟨W3, hnew⟩ : ∃ W, W = wc := ⟨_, rfl⟩
      subst hnew
      obtain ⟨m, rfl, m1, m7, D3, K3⟩ := hcut
      refine (show ∀ a w, Code.wp Try.prog _ _ a w → _ from by assumption) _ _ ?_
      go_upto_region 5 with ((go_at_call 64; (with_reducible refine (drawGens_any g fc l m W3 D3 hl (by omega)).mono ?_); rintro e w4 ⟨v4, gs, fs, rfl, hA4, hF4, hgl, D4, K4⟩))
      have K34 := K3.trans K4
      go_cut [16] (fun s16 wx => ∃ b : Bool, s16 = .bool b ∧ Src wx g fc l ∧ Only [g] w4 wx)
      case first =>
        go_wp2_with ((go_at_call 63; (with_reducible refine (oneIn_any g fc l 20 w4 D4 hl (by omega)).mono ?_); rintro e w5 ⟨b, rfl, D5, K5⟩))
        go_meet
        exact ⟨_, rfl, D5, K5⟩
      case rest =>
        obtain ⟨W5, hnew⟩ : ∃ W, W = wc := ⟨_, rfl⟩
        subst hnew
        obtain ⟨b, rfl, D5, K5⟩ := hcut
        have K35 := K34.trans K5
        have hFg : ∀ q ∈ fs.flatten, q ∉ [g] := fun q hq hm => by have := hF4.ge q hq; have := K3.size; simp at hm; omega
        have hAg : ∀ q, v4.ownBlock = some q → q ∉ [g] := fun q hq hm => by have := (hA4.ownlt q hq).1; have := K3.size; simp at hm; omega
        have hA5 := (hA4.only K5 hFg hAg).low3 K3.size
        have hF5 := (hF4.only K5 hFg).mono K3.size
        clear hA4 hF4
        refine (show ∀ a w, Code.wp Try.prog _ _ a w → _ from by assumption) _ _ ?_
        go_cut [4, 5] (fun s4 s5 wx => DG w g fc l s4 s5 wx)
        case first =>
          cases b
          · go_wp2
            go_meet
            exact ⟨_, gs, _, rfl, by unfold I64; omega, hA5.rd (by decide), hA5.fresh hF5, by omega, fun y hy => by rw [hgl.2 y hy]; omega, D5, K35⟩
          · go_upto_region 7 with ((go_at_call 65; (with_reducible refine (srcBelow_any g fc l 4 W5 D5 hl (by omega)).mono ?_); rintro e w6 ⟨r, rfl, r0, r1, D6, K6⟩))
            have K36 := K35.trans K6
            have hFg6 : ∀ q ∈ fs.flatten, q ∉ [g] := hFg
            have hA6 := hA5.only K6 hFg hAg
            have hF6 := hF5.only K6 hFg
            have hb6 : w.heap.size ≤ w6.heap.size := K36.size
            have hmI : I64 (m : Int) := by unfold I64; omega
            have hnl : gs.length + 1 ≤ 1073741824 := by omega
            clear hA5 hF5
            by_cases e0 : r = 0
            · subst e0
              go_wp2_with ((go_at_call 66; (with_reducible refine (numberUpTo_any g fc l 20 w6 D6 hl (by unfold I64; omega)).mono ?_); rintro e w7 ⟨n7, rfl, hn7, D7, K7⟩))
              go_meet
              exact ⟨n7, gs, _, rfl, hn7, (hA6.only K7 hFg hAg).rd (by decide), (hA6.only K7 hFg hAg).fresh (hF6.only K7 hFg), by omega, fun y hy => by rw [hgl.2 y hy]; omega, D7, K36.trans K7⟩
            · by_cases e1 : r = 1
              · subst e1
                go_wp2_with (first
                  | (go_at_call 67; (with_reducible refine (drawAny_any g fc l m w6 D6 hl (by omega)).mono ?_); rintro e w7 ⟨v7, p7, f7, rfl, r7, F7, hl7, D7, K7⟩; obtain ⟨a7, c7, rfl, -⟩ := id r7.ints; have hA7 := hA6.only K7 hFg hAg; have hb7 : w.heap.size ≤ w7.heap.size := Nat.le_trans hb6 K7.size)
                  | (at_builtin; refine wpList_push2 rfl _ _ 22 rfl w.heap.size 23 i0 _ 24 Try.underlying22 hi hz0 hz1 hz2 rfl (by decide) (by decide) w7 v4 gs fs rfl hA7 ((Only.refl [] w7).alloc _) hb7 w7.heap.size 1 [.slice a7 p7.length c7] p7 _ rfl (lit_src w7 [.slice a7 p7.length c7] _ rfl) (by intro u hu; simp at hu; subst hu; rfl) (Rp.keep r7 ((Only.refl [] w7).alloc _)) ?hap hnl ?_; (case hap => (intro b hb he; have h1 := F7.ge b hb; have h2 := (hA6.ownlt b he).2; omega)); intro vE wE hAE hOE hNE)
                  | fail "no arm")
                go_meet
                obtain ⟨F9, D9, K9⟩ := push_facts hA6 hF6 K36 K7 F7 D7 hg hfc ((Only.refl [] w7).alloc _) hOE
                exact ⟨_, gs ++ [p7], _, rfl, hmI, hAE.rd (by decide), hAE.fresh F9, by simp; omega, fun y hy => by
                  rcases List.mem_append.1 hy with hy | hy
                  · rw [hgl.2 y hy]; omega
                  · rw [List.mem_singleton.1 hy]; omega, D9, K9⟩
              · by_cases e2 : r = 2
                · subst e2
                  have hA0 := Acc.made (α := List Int) w6 w.heap.size 23 rfl hb6
                  go_wp2
                  go_meet
                  exact ⟨_, [], _, rfl, hmI, hA0.rd (by decide), hA0.fresh (Fresh.nil _ _), by simp, by simp, D6.keep ((Only.refl _ _).alloc _), K36.alloc _⟩
                · have e3 : r = 3 := by omega
                  subst e3
                  go_wp2
                  go_loopw [5] (fun o wr => ∃ (gs' : List (List Int)) (fs' : List (List Nat)), gs'.length ≤ 9 ∧ (∀ y : List Int, y ∈ gs' → y.length ≤ 30) ∧ Acc w.heap.size 23 wr o gs' fs' ∧ Fresh w.heap.size wr fs'.flatten ∧ Src wr g fc l ∧ Only [g] w wr)
                    (fun o _ => 9 - lenV o)
                  case atStart => exact ⟨gs, fs, by omega, fun y hy => by rw [hgl.2 y hy]; omega, hA6, hF6, D6, K36⟩
                  case round =>
                    obtain ⟨W7, hnew⟩ : ∃ W, W = wr := ⟨_, rfl⟩
                    subst hnew
                    obtain ⟨gs', fs', hl9, hl30, hAr, hFr, Dr, Kr⟩ := hrel
                    obtain ⟨a5, c5, rfl⟩ := hAr.form
                    have hFg' : ∀ q ∈ fs'.flatten, q ∉ [g] := fun q hq hm => by have := hFr.ge q hq; simp at hm; omega
                    have hAg' : ∀ q, (Value.slice a5 gs'.length c5).ownBlock = some q → q ∉ [g] := fun q hq hm => by have := (hAr.ownlt q hq).1; simp at hm; omega
                    have hnl' : gs'.length + 1 ≤ 1073741824 := by omega
                    have hbr : w.heap.size ≤ W7.heap.size := Kr.size
                    obtain ⟨pm, hpm⟩ : ∃ q, q = PM.pts m := ⟨_, rfl⟩
                    have Hpm := Lib.hid hpm
                    clear hpm
                    go_wp2_with (first
                      | (go_at_call 65; (with_reducible refine (srcBelow_any g fc l 2 W7 Dr hl (by omega)).mono ?_); rintro e w7 ⟨r2, rfl, r20, r21, D7, K7⟩; have q2 : IntKind.i64.wrap (8 + r2) = 8 + r2 := (by rw [IntKind.wrap_i64]; omega); have hAw := hAr.only K7 hFg' hAg'; have hs7 := K7.size)
                      | (go_at_call 50; (with_reducible refine (specIdentity_acc m w7 (by omega)).mono ?_); rintro e w8 ⟨v8, rfl, hI8, t8⟩; rw [← Hpm.out] at hI8; obtain ⟨a8, c8, e8⟩ := hI8.form; subst e8; have hA8 := hAw.keep t8; have hb8 : w.heap.size ≤ w8.heap.size := Nat.le_trans (Nat.le_trans hbr hs7) t8.size)
                      | (at_builtin; refine wpList_push2 rfl _ _ 22 rfl w.heap.size 23 i0 _ 24 Try.underlying22 hi hz0 hz1 hz2 rfl (by decide) (by decide) w8 (.slice a5 gs'.length c5) gs' fs' rfl hA8 ((Only.refl [] w8).alloc _) hb8 w8.heap.size 1 [.slice a8 pm.length c8] pm _ rfl (lit_src w8 [.slice a8 pm.length c8] _ rfl) (by intro u hu; simp at hu; subst hu; rfl) (Rp.keep hI8.rd ((Only.refl [] w8).alloc _)) ?hap hnl' ?_; (case hap => (intro b hb he; have h1 := hI8.fresh.ge b hb; have h2 := (hAr.ownlt b he).2; omega)); intro vE wE hAE hOE hNE)
                      | fail "no arm")
                    · obtain ⟨F9, D9, K9⟩ := push_facts hAr hFr Kr (K7.trans (t8.weaken [g])) (hI8.fresh.mono hs7) (D7.keep t8) hg hfc ((Only.refl [] w8).alloc _) hOE
                      obtain ⟨aE, cE, hvE⟩ := hAE.form
                      exact ⟨⟨gs' ++ [pm], _, by simp; omega, fun y hy => by
                        rcases List.mem_append.1 hy with hy | hy
                        · exact hl30 y hy
                        · rw [List.mem_singleton.1 hy, Hpm.out, PM.pts_len]; omega, hAE, F9, D9, K9⟩, by rw [hvE]; show 9 - (gs' ++ [pm]).length < 9 - gs'.length; rw [List.length_append]; simp; omega⟩
                    · go_meet
                      exact ⟨_, gs', _, rfl, hmI, hAw.rd (by decide), hAw.fresh (hFr.only K7 hFg'), hl9, hl30, D7, Kr.trans K7⟩
        case rest =>
          obtain ⟨W6, hnew⟩ : ∃ W, W = wc := ⟨_, rfl⟩
          subst hnew
          go_wp2
          exact bodyPost_ret (v := .tuple #[u4, u5]) (by simp [results, Try.results37, go_sem]) rfl ⟨u4, u5, rfl, hcut⟩
end Go.Proofs.Ytpcamkmoabhlhaa

namespace Go.Proofs.Ytpcamkmoabhlhaa
open Go.RowKit
set_option maxRecDepth 10000


end Go.Proofs.Ytpcamkmoabhlhaa

namespace Go.Proofs.Ytpcamkmoabhlhaa
open Go.RowKit
set_option maxRecDepth 10000
open Go.Maps (Keyed)

theorem Try.lawI64 : Keyed Try.prog 2 := Go.Maps.int_keyed Try.underlying2
theorem Try.zeroV64 (w : World) : (zeroValue 2).run Try.prog w = .ok (.int .i64 0) w := by kernel_rfl
/-- block M is a map of at most k entries; g: what lies at a key -/
def Mpv (w : World) (M k : Nat) (g : Int → Option Int) : Prop :=
  ∃ D : DataW Unit, w.ownsMap Try.prog 2 (plainElem Try.prog 2) M k D ∧ ∀ s : Int, I64 s →
    Go.Maps.has D (.int .i64 s) = (g s).isSome ∧ ∀ n, g s = some n → D.atKey (.int .i64 s) (.lit (.int .i64 0)) = .lit (.int .i64 n)
theorem Mpv.lt {w : World} {M k : Nat} {g : Int → Option Int} (h : Mpv w M k g) : M < w.heap.size := by
  obtain ⟨D, h1, -⟩ := h; exact h1.lt
theorem Mpv.frame {w w' : World} {M k : Nat} {g : Int → Option Int} (h : Mpv w M k g) (hf : w'.heap[M]? = w.heap[M]?) : Mpv w' M k g := by
  obtain ⟨D, ⟨es, c, h1, h2⟩, h3⟩ := h
  exact ⟨D, ⟨es, c, by rw [hf]; exact h1, h2⟩, h3⟩
theorem Mpv.only {w w' : World} {fp : List Nat} {M k : Nat} {g : Int → Option Int} (h : Mpv w M k g) (ho : Only fp w w') (hn : M ∉ fp) : Mpv w' M k g := h.frame (ho.block M h.lt hn)
theorem Mpv.keep {w w' : World} {M k : Nat} {g : Int → Option Int} (h : Mpv w M k g) (ho : Only [] w w') : Mpv w' M k g := h.only ho (by simp)
theorem Mpv.made (w : World) {M : Nat} (hM : M = w.heap.size) : Mpv (w.alloc (.map #[] 0)) M 0 (fun _ => none) := by
  subst hM
  exact ⟨.map [], World.ownsMap_made _ _ _ _, fun s _ => ⟨rfl, by simp⟩⟩
theorem Mpv.congr {w : World} {M k : Nat} {g g' : Int → Option Int} (h : Mpv w M k g) (hg : ∀ s, g s = g' s) : Mpv w M k g' := by
  have : g = g' := funext hg
  rw [← this]; exact h
section
variable {w : World} {M k : Nat} {g : Int → Option Int}
/-- v, ok := m[k], as an equation -/
theorem Mpv.run_ok (h : Mpv w M k g) {s : Int} (hs : I64 s) : (Instr.lookup 100 (.map (some M)) (.int .i64 s) true).run Try.prog w = .ok (.tuple #[.int .i64 ((g s).getD 0), .bool (g s).isSome]) w := by
  obtain ⟨D, hown, hg⟩ := h
  obtain ⟨h1, h2⟩ := hg s hs
  obtain ⟨v, ps, hrun, hv⟩ := hown.look_ok Try.lawI64 Try.underlying100 (Try.zeroV64 w) (plainElem_int Try.underlying2 (by decide)) (Go.Maps.keyOf_int_mk Try.underlying2 (WalkArith.wf_i64 hs))
  obtain ⟨c, rfl, hc, -⟩ := plainElem_int_inv Try.underlying2 hv
  have hc1 : D.atKey (.int .i64 s) (.lit (.int .i64 0)) = .lit (.int .i64 c) := congrArg Prod.fst hc
  have hcv : c = (g s).getD 0 := by
    cases hgs : g s with
    | none =>
      rw [hgs] at h1
      rw [Go.Maps.atKey_of_not_has h1] at hc1
      injection hc1 with hc1; injection hc1 with _ hc1; simp [hc1]
    | some n =>
      rw [h2 n hgs] at hc1
      injection hc1 with hc1; injection hc1 with _ hc1; simp [hc1]
  rw [hrun, hcv, h1]
theorem Mpv.run_yes (h : Mpv w M k g) {s : Int} (hs : I64 s) {n : Int} (hg : g s = some n) : (Instr.lookup 100 (.map (some M)) (.int .i64 s) true).run Try.prog w = .ok (.tuple #[.int .i64 n, .bool true]) w := by
  rw [h.run_ok hs, hg]; rfl
/-- m[k] = v -/
theorem Mpv.run_put (h : Mpv w M k g) {s : Int} (hs : I64 s) {n : Int} (hn : I64 n) (hk : k < maxLen) :
    ∃ w', (Instr.mapUpdate 100 (.map (some M)) (.int .i64 s) (.int .i64 n)).run Try.prog w = .ok () w' ∧ Mpv w' M (k + 1) (fun s' => if s' = s then some n else g s') ∧ Only [M] w w' := by
  obtain ⟨D, hown, hg⟩ := h
  have hwf : (Lit.int .i64 n).wf = true := WalkArith.wf_i64 hn
  obtain ⟨w', hrun, r1, r2⟩ := hown.store Try.lawI64 Try.underlying100 hk (Go.Maps.keyOf_int_mk Try.underlying2 (WalkArith.wf_i64 hs)) (plainElem_int Try.underlying2 hwf)
  have hmap := hown.isMap
  refine ⟨w', hrun, ⟨_, r1, fun s' hs' => ?_⟩, ?_⟩
  · by_cases he : s' = s
    · subst he
      have hkl : WideAt.IsKeyLit (Lit.int .i64 s') := trivial
      exact ⟨by rw [Go.Maps.has_put_same hmap hkl]; simp, fun m' hm' => by
        rw [Go.Maps.atKey_put_same hmap hkl]; simp at hm'; rw [hm']⟩
    · have hne : (Lit.int .i64 s') ≠ .int .i64 s := by
        intro e; injection e with _ e; exact he e
      obtain ⟨h1, h2⟩ := hg s' hs'
      exact ⟨by rw [Go.Maps.has_put_other hne, h1]; simp [he], fun m' hm' => by
        rw [Go.Maps.atKey_put_other hne]; simp [he] at hm'; exact h2 m' hm'⟩
  · exact (Only.refl _ _).grown r2.grown (by intro j hj _; injection hj with hj; subst hj; simp)
end
end Go.Proofs.Ytpcamkmoabhlhaa

namespace Go.Proofs.Ytpcamkmoabhlhaa
open Go.RowKit
set_option maxRecDepth 10000

/-- a value's point -/
def gV (m ys : List Int) (x : Int) : Option Int := if x ∈ PM.choO m ys then some (PM.at_ (PM.inv m) x) else none
theorem gV_nil (m : List Int) (x : Int) : gV m [] x = none := rfl
theorem gV_snoc {n : Nat} {m : List Int} (hm : PM.PN n m) {ys : List Int} {y : Int} (h0 : 0 ≤ y) (h1 : y < n) (x : Int) : (if x = PM.at_ m y then some y else gV m ys x) = gV m (ys ++ [y]) x := by
  unfold gV
  rw [PM.choO_snoc]
  by_cases hx : x = PM.at_ m y
  · rw [if_pos hx, if_pos (PM.mem_insU.2 (Or.inl hx)), hx, PM.at_inv hm h0 h1]
  · rw [if_neg hx]
    by_cases hm2 : x ∈ PM.choO m ys
    · rw [if_pos hm2, if_pos (PM.mem_insU.2 (Or.inr hm2))]
    · rw [if_neg hm2, if_neg (fun h => (PM.mem_insU.1 h).elim hx hm2)]
theorem Mpv.mono {w : World} {M k k' : Nat} {g : Int → Option Int} (h : Mpv w M k g) (hk : k ≤ k') : Mpv w M k' g := by
  obtain ⟨D, h1, h2⟩ := h
  exact ⟨D, h1.mono hk, h2⟩
set_option maxHeartbeats 2000000 in
theorem values_any {e : TypeId} {B : Nat} {L : Lay} {gv : Nat → Value} {n : Nat} {G : PM.Gens} {T : PM.Rows} {M F : List Nat} (w : World) (hC : Ch e B w L gv n G T M F) (hT : L.oT = 2) (b i : Nat) (hi : i < n) (v : Value) (m : List Int) (fm : List Nat)
    (hb : Blk w b [.pointer (some ⟨L.g, 0, none⟩), .int .i64 i, v]) (hv : Rd w v m fm) (hm : PM.PN n m) :
    Calls Try.prog 93 #[.pointer (some ⟨b, 0, none⟩)] w fun e w' => ∃ K, e = .returned (.map (some K)) ∧ w.heap.size ≤ K ∧ Mpv w' K 1000 (gV m (orb n T i)) ∧ Only [] w w' := by
  obtain ⟨A, C, rfl, IM⟩ := hv.ints
  have hn20 := hC.le
  have hml := hm.1
  have ct := hC.ct
  rw [hT] at ct
  have cr := hC.row i hi
  have kA : Only [] w (w.alloc (.map #[] 0)) := (Only.refl _ _).alloc _
  have z0 := kA.cell (by simp) (hb.cell 0 rfl)
  have z1 := kA.cell (by simp) (hb.cell 1 rfl)
  have zt := kA.cell (by simp) ct
  have zr := kA.cell (by simp) cr
  have y2 := hb.cell 2 rfl
  have hmm := @run_makeMap Try.prog
  have M0 := (Mpv.made w rfl).congr (fun x => (gV_nil m x).symm)
  obtain ⟨ys, hys⟩ : ∃ ys, ys = orb n T i := ⟨_, rfl⟩
  have hyr : ∀ y ∈ ys, 0 ≤ y ∧ y < n := fun y hy => by rw [hys] at hy; exact (mem_orb.1 hy).1
  have hyl : ys.length ≤ 20 := by
    rw [hys]
    have h1 : (orb n T i).length ≤ (PM.pts n).length := PM.nodup_sub_len (orb_nodup n T i) fun y hy => PM.mem_pts.2 (mem_orb.1 hy).1
    rw [PM.pts_len] at h1
    omega
  rw [← hys]
  have Hys := Lib.hid hys
  have HC := Lib.hid hC
  have Hm := Lib.hid hm
  have HIM := Lib.hid IM
  have HM0 := Lib.hid M0
  have Hyr := Lib.hid hyr
  have Hml := Lib.hid hml
  clear hC hm M0 hT hys hyr IM hml ct cr
  go_enter Try.func93, Try.ntmps93
  go_wp2_with fail
  go_region_held3 (fun w' => Only [] (w.alloc (.map #[] 0)) w' ∧ w'.cell? ⟨b, 0, none⟩ = some (.pointer (some ⟨L.g, 0, none⟩)) ∧ w'.cell? ⟨b, 1, none⟩ = some (.int .i64 i) ∧ w'.cell? ⟨L.g, 2, none⟩ = some (.slice (some ⟨L.bt, 0, none⟩) n L.cT) ∧ w'.cell? ⟨L.bt, i, none⟩ = some (.slice (some ⟨L.rb i, 0, none⟩) n n)) (((refine and_of ?_ (fun h__ => ⟨h__.cell (by simp) z0, h__.cell (by simp) z1, h__.cell (by simp) zt, h__.cell (by simp) zr⟩)); first | exact (Only.refl _ _).drew | exact ((Only.refl _ _).drewN _).drew | exact Only.trans (And.left (by assumption)) (by assumption) | exact Only.alloc (And.left (by assumption)) _ | assumption)) (first | (go_at_call 40; (with_reducible refine (orbitOf_any _ (HC.out.keep (kA.trans (And.left (by assumption)))) i hi).mono ?_); rintro e w1 ⟨vo, fo, rfl, A1, F1, t1⟩; rw [← Hys.out] at A1; have kX : Only [] (w.alloc (.map #[] 0)) w1 := Only.trans (And.left (by assumption)) t1; have kB := Only.trans kA kX; have r1 := A1.rd (by decide); have F2 := A1.fresh F1; obtain ⟨ao, co, rfl, IO⟩ := r1.ints) | fail "no arm")
  have hge : ∀ b ∈ ((Value.slice ao ys.length co).ownBlock.toList ++ fo.flatten), w.heap.size < b := fun b hb => by
    have := F2.ge b hb
    simp at this
    omega
  have HIO := Lib.hid IO
  have Hge := Lib.hid hge
  clear A1 F1 F2 r1 IO hge z0 z1 zt zr t1
  go_wp2_with fail
  go_loopw [22] (fun i wr => ∃ j : Nat, j ≤ ys.length ∧ i = .int .i64 j ∧ Mpv wr w.heap.size j (gV m (ys.take j)) ∧ Only [w.heap.size] w1 wr)
    (fun i _ => ys.length - (intOf i).toNat)
  case atStart => exact ⟨0, Nat.zero_le _, rfl, HM0.out.keep kX, Only.refl _ _⟩
  case round =>
    obtain ⟨W2, hnew⟩ : ∃ W, W = wr := ⟨_, rfl⟩
    subst hnew
    obtain ⟨j, hj, rfl, hM, hO⟩ := hrel
    have KO : Only [] w W2 := kB.then_ hO (fun b hb hl => by simp at hb; omega)
    by_cases hlt : j < ys.length
    · obtain ⟨y, hy⟩ : ∃ y, y = ys[j] := ⟨_, rfl⟩
      have hyr := Hyr.out y (by rw [hy]; exact List.getElem_mem hlt)
      obtain ⟨b2, o2, rfl, -, c2⟩ := (HIO.out.only hO (fun b hb hm => by have := Hge.out b hb; simp at hm; omega)).at_ j hlt
      rw [← hy] at c2
      obtain ⟨b3, o3, rfl, -, c3⟩ := (HIM.out.keep KO).at_pm (x := y) hyr.1 (by rw [Hml.out]; exact hyr.2)
      have y2' := KO.cell (by simp) y2
      have hym : y < (m.length : Int) := by rw [Hml.out]; exact hyr.2
      have hy0 := hyr.1
      have hmr := Hm.out.rng hyr.1 hyr.2
      obtain ⟨w3, hrun3, hM3, hO3⟩ := hM.run_put (s := PM.at_ m y) (by unfold I64; omega) (n := y) (by unfold I64; omega) (by unfold maxLen; omega)
      have htk : ys.take (j + 1) = ys.take j ++ [y] := by rw [take_succ_get ys j hlt, hy]
      have Htk := Lib.hid htk
      clear htk hy
      go_wp2
      go_roundw
      case rel => exact ⟨j + 1, by omega, by go_num, hM3.congr (fun x => by rw [Htk.out]; exact gV_snoc Hm.out hyr.1 hyr.2 x), hO.trans hO3⟩
      case measure => simp [intOf]; omega
    · have hfin : Mpv W2 w.heap.size 1000 (gV m ys) := by
        rw [List.take_of_length_le (by omega)] at hM
        exact hM.mono (by omega)
      go_wp2
      go_ret
      exact ⟨w.heap.size, rfl, Nat.le_refl _, hfin, KO⟩
theorem gV_yes {n : Nat} {T : PM.Rows} {i : Nat} {m : List Int} {vv : Int} (h : vv ∈ PM.cho n T i m) : gV m (orb n T i) vv = some (PM.at_ (PM.inv m) vv) := if_pos h
theorem gV_no {n : Nat} {T : PM.Rows} {i : Nat} {m : List Int} {vv : Int} (h : vv ∉ PM.cho n T i m) : gV m (orb n T i) vv = none := if_neg h
/-- the walk has taken a value: q is chosen, the level is still i -/
def TK (w : World) (L : Lay) (b i : Nat) (q : List Int) (wx : World) : Prop :=
  ∃ a c f', Blk wx b [.pointer (some ⟨L.g, 0, none⟩), .int .i64 i, .slice a q.length c] ∧ Rd wx (.slice a q.length c) q f' ∧ Fresh w.heap.size wx f' ∧ Only [b] w wx
theorem TK.of {w w1 w5 w6 : World} {L : Lay} {b i : Nat} {q : List Int} {a : Option Addr} {c : Nat} {f' : List Nat} {v : Value} (t1 : Only [] w w1) (k5 : Only [] w1 w5) (Y5 : Blk w5 b [.pointer (some ⟨L.g, 0, none⟩), .int .i64 i, v]) (hb : b < w.heap.size)
    (r5 : Rd w5 (.slice a q.length c) q f') (F5 : Fresh w1.heap.size w5 f') (h6 : w6 = w5.setCell ⟨b, 2, none⟩ (.slice a q.length c)) : TK w L b i q w6 := by
  subst h6
  have hs : Only [b] w5 (w5.setCell ⟨b, 2, none⟩ (.slice a q.length c)) := (Only.refl _ _).setCell (by simp) _
  have hsz := t1.size
  have hd : ∀ z ∈ f', z ∉ [b] := fun z hz hm => by have := F5.ge z hz; simp at hm; omega
  have hB := Y5.set 2 (.slice a q.length c)
  simp only [List.set] at hB
  exact ⟨a, c, f', hB, Rp.only r5 hs hd, (F5.mono hsz).only hs hd, ((t1.trans k5).weaken _).trans hs⟩
set_option maxHeartbeats 4000000 in
theorem take_yes {e : TypeId} {B : Nat} {L : Lay} {gv : Nat → Value} {n : Nat} {G : PM.Gens} {T : PM.Rows} {M F : List Nat} (w : World) (hC : Ch e B w L gv n G T M F) (hw : PM.WF n T) (hT : L.oT = 2) (b i : Nat) (hi : i < n) (v : Value) (m : List Int) (fm : List Nat)
    (hb : Blk w b [.pointer (some ⟨L.g, 0, none⟩), .int .i64 i, v]) (hv : Rd w v m fm) (hm : PM.PN n m) (vv : Int) (hvv : vv ∈ PM.cho n T i m) :
    Calls Try.prog 84 #[.pointer (some ⟨b, 0, none⟩), .int .i64 vv] w fun e w' => e = .returned (.bool true) ∧ (∃ v' f', Blk w' b [.pointer (some ⟨L.g, 0, none⟩), .int .i64 ((i : Int) + 1), v'] ∧ Rd w' v' (PM.putV T i m vv) f' ∧ Fresh w.heap.size w' f') ∧ Only [b] w w' := by
  have hn20 := hC.le
  obtain ⟨hv0, hv1, hp0, hp1, hp2, hp3⟩ := PM.cho_pre hm hvv
  have hI : I64 vv := by unfold I64; omega
  have HcV := Lib.hid (values_any w hC hT b i hi v m fm hb hv hm)
  have Hyes := Lib.hid (gV_yes hvv)
  obtain ⟨A, C, rfl, IM⟩ := hv.ints
  obtain ⟨y, hy⟩ : ∃ y, y = PM.at_ (PM.inv m) vv := ⟨_, rfl⟩
  rw [← hy] at Hyes hp0 hp1 hp2 hp3
  have hput : PM.putV T i m vv = PM.comp (PM.tr T i y) m := by unfold PM.putV; rw [← hy]
  have ct := hC.ct
  rw [hT] at ct
  have cr := hC.row i hi
  obtain ⟨bt, ot, capt, ft, crt, hrt, -⟩ := hC.at_some hi hp0 hp1 hp2
  have htp := hw.pn i y hi hp2
  have hlt := Lib.hid htp.1
  have HC := Lib.hid hC
  have Hm := Lib.hid hm
  have Hp := Lib.hid hput
  have Htp := Lib.hid htp
  have HI := Lib.hid hI
  have y0 := hb.cell 0 rfl
  have y1 := hb.cell 1 rfl
  have y2 := hb.cell 2 rfl
  have hblt := hb.lt
  clear hC hm hvv hI hy hput hp2 hp3 htp hv0 hv1 IM
  go_enter Try.func84, Try.ntmps84
  go_upto_region 4 with (first
    | (go_at_call 93; (with_reducible refine (HcV.out).mono ?_); rintro en w1 ⟨K, rfl, hK, hM, t1⟩; have hrun := hM.run_yes HI.out Hyes.out)
    | fail "no arm")
  have x0 := t1.cell (by simp) y0
  have x1 := t1.cell (by simp) y1
  have x2 := t1.cell (by simp) y2
  have xt := t1.cell (by simp) ct
  have xr := t1.cell (by simp) cr
  have xy := t1.cell (by simp) crt
  clear y0 y1 y2 ct cr crt hrun hM
  have kd : Only [] w1 w1.drew := (Only.refl _ _).drew
  have d0 := kd.cell (by simp) x0
  have d1 := kd.cell (by simp) x1
  have d2 := kd.cell (by simp) x2
  have dt := kd.cell (by simp) xt
  have dr := kd.cell (by simp) xr
  have dy := kd.cell (by simp) xy
  have HcC := Lib.hid (fun (W : World) (hW : Only [] w1 W) => implCompose_rd n _ _ (PM.tr T i y) m _ _ W (Rp.keep hrt (Only.trans t1 hW)) (Rp.keep hv (Only.trans t1 hW)) Htp.out Hm.out (by omega))
  have Hb := Lib.hid (fun (W : World) (hW : Only [] w1 W) => hb.keep (t1.trans hW))
  clear kd
  go_cut [] (fun wx => TK w L b i (PM.comp (PM.tr T i y) m) wx)
  case first =>
   go_region_law (first
    | (go_simp; go_at_call 80; (with_reducible refine (HcC.out _ (by with_reducible repeat (first | exact Only.refl _ _ | refine Only.drew ?_))).mono ?_); rintro e w5 ⟨v5, f5, rfl, r5, F5, t5⟩; have k5 : Only [] w1 w5 := Only.trans (by with_reducible repeat (first | exact Only.refl _ _ | refine Only.drew ?_)) t5; have Y5 := Hb.out _ k5; have x5 := Y5.cell 2 rfl; have q5 := Y5.frozen 2; have r50 := r5; obtain ⟨a5, c5, rfl, _⟩ := r5.ints)
    | fail "no arm")
   all_goals go_wp2_with fail
   all_goals go_meet
   all_goals exact TK.of t1 k5 Y5 hblt r50 (F5.mono (by simp)) rfl
  case rest =>
    obtain ⟨a6, c6, f6, B6, r6, F6, O6⟩ := hcut
    obtain ⟨W2, hnew⟩ : ∃ W, W = wc := ⟨_, rfl⟩
    subst hnew
    have z1 := B6.cell 1 rfl
    have p1 := B6.frozen 1
    have hs : Only [b] W2 (W2.setCell ⟨b, 1, none⟩ (.int .i64 ((i : Int) + 1))) := (Only.refl _ _).setCell (by simp) _
    have hd : ∀ z ∈ f6, z ∉ [b] := fun z hz hm => by have := F6.ge z hz; simp at hm; omega
    have hB := B6.set 1 (.int .i64 ((i : Int) + 1))
    simp only [List.set] at hB
    have hfin := (⟨⟨_, _, hB, Rp.only r6 hs hd, F6.only hs hd⟩, O6.trans hs⟩ : (∃ v' f', Blk (W2.setCell ⟨b, 1, none⟩ (.int .i64 ((i : Int) + 1))) b [.pointer (some ⟨L.g, 0, none⟩), .int .i64 ((i : Int) + 1), v'] ∧ Rd (W2.setCell ⟨b, 1, none⟩ (.int .i64 ((i : Int) + 1))) v' (PM.comp (PM.tr T i y) m) f' ∧ Fresh w.heap.size (W2.setCell ⟨b, 1, none⟩ (.int .i64 ((i : Int) + 1))) f') ∧ Only [b] w (W2.setCell ⟨b, 1, none⟩ (.int .i64 ((i : Int) + 1))))
    have hwi : IntKind.i64.wrap ((i : Int) + 1) = (i : Int) + 1 := by rw [IntKind.wrap_i64]; omega
    have Hfin := Lib.hid hfin
    clear hfin hB hs hd r6 F6 O6
    go_wp2
    go_ret
    rw [Hp.out]
    exact ⟨rfl, Hfin.out⟩
end Go.Proofs.Ytpcamkmoabhlhaa

namespace Go.Proofs.Ytpcamkmoabhlhaa
open Go.RowKit
set_option maxRecDepth 10000

theorem ranges_frame {P : Program} {k : TypeId} {R : Value → Option (DataW Unit × List MemPlace)} {b r n cnt : Nat} {D : DataW Unit} {left : Lit → Bool} {w w' : World} (h : w.ranges P k R b r n D left cnt) (hb : w'.heap[b]? = w.heap[b]?) (hr : w'.heap[r]? = w.heap[r]?) : w'.ranges P k R b r n D left cnt := by
  obtain ⟨es, clock, since, seen, c0, h1, F, hs, hD, h2, rest⟩ := h
  exact ⟨es, clock, since, seen, c0, hb.trans h1, F, hs, hD, hr.trans h2, rest⟩
theorem AccI.low {B B' : Nat} {e : TypeId} {w : World} {v : Value} {l : List Int} (h : AccI B e w v l) (hB : B' ≤ B) : AccI B' e w v l := by
  obtain ⟨h1, h2⟩ := h.row
  refine AccI.ofRow ⟨h1.1, ?_⟩ h2
  rcases h1.2 with h3 | ⟨g, cap, cur, h3, h4, h5⟩
  · exact .inl h3
  · exact .inr ⟨g, cap, cur, h3, Nat.le_trans hB h4, h5⟩
theorem same_int (a b : Int) : (Lit.int .i64 a).sameKey (.int .i64 b) = decide (a = b) := by
  show decide (IntKind.i64 = IntKind.i64 ∧ a = b) = _
  by_cases h : a = b <;> simp [h]
/-- the keys met so far: l; those to come: left -/
structure KL (C : List Int) (left : Lit → Bool) (l : List Int) : Prop where
  nd : l.Nodup
  iff : ∀ x, I64 x → (x ∈ l ↔ x ∈ C ∧ left (.int .i64 x) = false)
  big : ∀ x ∈ l, I64 x
  dom : ∀ x, I64 x → left (.int .i64 x) = true → x ∈ C
theorem KL.step {C : List Int} {left : Lit → Bool} {l : List Int} (h : KL C left l) {x : Int} (hx : I64 x) (hl : left (.int .i64 x) = true) : KL C (fun z => left z && !z.sameKey (.int .i64 x)) (l ++ [x]) := by
  have hn : x ∉ l := fun hm => by have := ((h.iff x hx).1 hm).2; rw [hl] at this; cases this
  refine ⟨?_, fun y hy => ?_, fun y hy => ?_, fun y hy hl2 => ?_⟩
  · rw [List.nodup_append]
    exact ⟨h.nd, by simp, fun a ha b hb => by simp at hb; subst hb; intro e; subst e; exact hn ha⟩
  · rw [List.mem_append, h.iff y hy]
    simp only [List.mem_singleton, same_int]
    by_cases he : y = x
    · subst he; simp [h.dom _ hx hl]
    · simp [he]
  · rcases List.mem_append.1 hy with hy | hy
    · exact h.big y hy
    · simp at hy; subst hy; exact hx
  · simp only [same_int, Bool.and_eq_true] at hl2
    exact h.dom y hy hl2.1
theorem KL.end_ {C : List Int} {left : Lit → Bool} {l : List Int} (h : KL C left l) (hl : ∀ z, left z = false) (hC : PM.Asc C) (hCb : ∀ x ∈ C, I64 x) : (l.mergeSort fun x y => decide (x ≤ y)) = C := by
  refine PM.asc_ext (sorted_asc h.nd) hC fun x => ?_
  rw [sorted_mem]
  constructor
  · intro hx; exact ((h.iff x (h.big x hx)).1 hx).1
  · intro hx; exact (h.iff x (hCb x hx)).2 ⟨hx, hl _⟩
set_option maxHeartbeats 4000000 in
theorem walkSorted_any {e : TypeId} {B : Nat} {L : Lay} {gv : Nat → Value} {n : Nat} {G : PM.Gens} {T : PM.Rows} {M F : List Nat} (w : World) (hC : Ch e B w L gv n G T M F) (hw : PM.WF n T) (hT : L.oT = 2) (b i : Nat) (hi : i < n) (v : Value) (m : List Int) (fm : List Nat)
    (hb : Blk w b [.pointer (some ⟨L.g, 0, none⟩), .int .i64 i, v]) (hv : Rd w v m fm) (hm : PM.PN n m) :
    Calls Try.prog 83 #[.pointer (some ⟨b, 0, none⟩)] w fun e w' => ∃ v', e = .returned v' ∧ AccI w.heap.size 2 w' v' (PM.cho n T i m) ∧ Only [] w w' := by
  obtain ⟨i0, hii, hz0, hz1, hz2⟩ := info_parts Try.info2
  have HcV := Lib.hid (values_any w hC hT b i hi v m fm hb hv hm)
  obtain ⟨C, hCd⟩ : ∃ C, C = PM.cho n T i m := ⟨_, rfl⟩
  have hn20 := hC.le
  have hAs : PM.Asc C := by rw [hCd]; exact PM.choO_asc _ _
  have hCb : ∀ x ∈ C, I64 x := fun x hx => by rw [hCd] at hx; have := PM.cho_pre hm hx; unfold I64; omega
  have hCl : C.length ≤ 1000 := by rw [hCd, PM.cho_len hm]; have := PM.cntR_le n T i; omega
  have hCne : C ≠ [] := fun hc => by
    have h1 := PM.cho_len (T := T) (i := i) hm
    rw [← hCd, hc] at h1
    have h2 := PM.cntR_pos hw hi
    simp at h1; omega
  have hgC : ∀ x, (gV m (orb n T i) x).isSome = decide (x ∈ C) := fun x => by
    rw [hCd]
    by_cases hx : x ∈ PM.cho n T i m
    · rw [gV_yes hx]; simp [hx]
    · rw [gV_no hx]; simp [hx]
  rw [← hCd]
  have HAs := Lib.hid hAs
  have HCb := Lib.hid hCb
  have HCne := Lib.hid hCne
  have HgC := Lib.hid hgC
  clear hC hm hb hv hw hAs hCb hCne hgC hCd
  go_enter Try.func83, Try.ntmps83
  go_wp2_with (first
    | (go_at_call 93; (with_reducible refine (HcV.out).mono ?_); rintro en w1 ⟨K, rfl, hK, hM, t1⟩; obtain ⟨D, hown, hg⟩ := hM)
    | (at_range; refine wpList_range_own _ rfl _ 100 rfl 2 2 Try.lawI64 Try.underlying100 _ K 1000 D rfl hown ?_; intro w0 hrg0 hg0 hs0)
    | fail "no arm")
  go_frame
  have hKl := hown.lt
  have k01 : Only [] w1 w0 := (Only.refl _ _).grown hg0 (by intro j hj; cases hj)
  have kw0 : Only [] w w0 := t1.trans k01
  have hl0 : KL C (Go.Maps.has D) [] := ⟨List.nodup_nil, fun x hx => by
      rw [(hg x hx).1, HgC.out]
      by_cases hm : x ∈ C <;> simp [hm], by simp, fun x hx hl => by rw [(hg x hx).1, HgC.out] at hl; simpa using hl⟩
  clear hg hg0 hown t1 k01
  go_loopw [3] (fun o wr => ∃ (left : Lit → Bool) (cnt : Nat) (l : List Int), wr.ranges Try.prog 2 (plainElem Try.prog 2) K w1.heap.size 1000 D left cnt ∧ AccI (w1.heap.size + 1) 2 wr o l ∧ KL C left l ∧ Only [] w wr ∧ w1.heap.size + 1 ≤ wr.heap.size)
    (fun _ wr => wr.rangeLeft K w1.heap.size)
  case atStart => exact ⟨_, _, [], hrg0, AccI.nil _ _ _, hl0, kw0, by omega⟩
  case round =>
    obtain ⟨W2, hnew⟩ : ∃ W, W = wr := ⟨_, rfl⟩
    subst hnew
    obtain ⟨left, cnt, l, hrg, hA, hKL, hO, hsz⟩ := hrel
    have hll : l.length ≤ 1000 := Nat.le_trans (PM.nodup_sub_len hKL.nd fun x hx => ((hKL.iff x (hKL.big x hx)).1 hx).1) hCl
    have hlow : w.heap.size ≤ w1.heap.size + 1 := by have := kw0.size; omega
    go_wp2_with (first
      | (at_next; refine wpList_next_ranges_ii _ rfl _ rfl 2 2 .i64 .i64 Try.lawI64 Try.underlying2 Try.underlying2 K w1.heap.size 1000 _ _ _ rfl hrg ?_ ?_)
      | fail "no arm")
    · intro _ hl0
      have hfin := hKL.end_ hl0 HAs.out HCb.out
      have hlne : l ≠ [] := fun hc => HCne.out (by rw [← hfin, hc]; simp)
      have Hfin := Lib.hid hfin
      obtain ⟨a, c, ho⟩ := hA.form
      subst ho
      clear hfin hl0
      go_wp2_with (first
        | (go_at_call 86; (with_reducible refine (sort_accI W2 _ l hA hlne hll).mono ?_); rintro en w3 ⟨rfl, hA3, hO3⟩; rw [Hfin.out] at hA3)
        | fail "no arm")
      go_ret
      exact ⟨_, rfl, hA3.low hlow, hO.then_ hO3 (fun z hz hl => by have := (hA.ownlt z (by simpa using hz)).1; omega)⟩
    · intro x c w2 cnt1 hwx hwc hlx hat hrg1 hlt hg1 hs1 hen
      have hxI : I64 x := by have h9 := hwx; simp [Lit.wf, IntKind.min, IntKind.max, IntKind.signed, IntKind.bits] at h9; unfold I64; omega
      have k2 : Only [w1.heap.size] W2 w2 := (Only.refl _ _).grown hg1 (by intro j hj _; injection hj with hj; subst hj; simp)
      have hA2 := hA.only k2 (fun g hg hm => by have := (hA.ownlt g hg).1; simp at hm; omega)
      have hO2 : Only [] w w2 := hO.then_ k2 (fun z hz hl => by simp at hz; have := kw0.size; omega)
      have hK2 := hKL.step hxI hlx
      have HXI := Lib.hid hxI
      have hsB : w1.heap.size + 1 ≤ w2.heap.size := by omega
      have Hs1 := Lib.hid hs1
      clear hs1
      clear hKL hxI hat hwx hwc hlx
      go_wp2_with (first
        | (at_builtin; refine wpList_pushI rfl _ _ 23 rfl (w1.heap.size + 1) 2 i0 _ Try.underlying23 hii hz0 hz1 hz2 rfl w2 u3 l rfl hA2 ((Only.refl _ _).alloc _) hsB w2.heap.size 1 x rfl (lit1 w2 _ _ rfl) HXI.out (by omega) ?_; intro v3 w3 hA3 hO3 hP3 hN3)
        | fail "no arm")
      have hsz2 : w2.heap.size = W2.heap.size := Hs1.out
      have hne : ∀ g, g ≤ w1.heap.size → w3.heap[g]? = w2.heap[g]? := fun g hg => by
        have h1 : g < w2.heap.size := by omega
        have h2 := hO3.block g (by simp; omega) (fun hm => by have := (hA2.ownlt g (by simpa using hm)).1; omega)
        have h3 := ((Only.refl [] w2).alloc (.cells #[.int .i64 x] 2)).block g h1 (by simp)
        exact h2.trans h3
      have hrg3 := ranges_frame hrg1 (hne K (by omega)) (hne _ (Nat.le_refl _))
      have hsz3 := hO3.size
      simp at hsz3
      go_roundw
      case rel => exact ⟨_, cnt1, l ++ [x], hrg3, hA3, hK2, hP3 w (hO2.alloc _) hlow, by omega⟩
      case measure => rw [hrg3.left_eq, hrg.left_eq]; exact hlt
end Go.Proofs.Ytpcamkmoabhlhaa

namespace Go.Proofs.Ytpcamkmoabhlhaa
open Go.RowKit
set_option maxRecDepth 10000

theorem from_any (g : Nat) (v : Value) (m : List Int) (f : List Nat) (w : World) (hv : Rd w v m f) :
    Calls Try.prog 82 #[.pointer (some ⟨g, 0, none⟩), v] w fun e w' => e = .returned (.pointer (some ⟨w.heap.size, 0, none⟩)) ∧ Blk w' w.heap.size [.pointer (some ⟨g, 0, none⟩), .int .i64 (0 : Nat), v] ∧ Only [] w w' ∧ w'.heap.size = w.heap.size + 1 := by
  obtain ⟨A, C, rfl, -⟩ := hv.ints
  go_enter Try.func82, Try.ntmps82
  go_wp2
  go_ret
  exact ⟨rfl, Blk.new _ _ _, (Only.refl _ _).alloc _, by simp⟩


end Go.Proofs.Ytpcamkmoabhlhaa
