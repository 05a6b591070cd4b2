/- The program's distances of all states to a set of them, by a queue (laws 41, 46, 51, 57, 58). The program's smallest optimal word (law 38). The program's way down by distances; the distances to a goal (laws 41, 46, 51, 57, 58). The program's method: its check, its words (laws 41, 51, 57, 58). -/
import Derived.Test.YtclhblofchfglaaGreatRowMethodCertifiedG15
import Derived.Test.YtclhblofchfglaaGreatRowMethodCertifiedG17
import Derived.Test.YtclhblofchfglaaGreatRowMethodCertifiedG6
import Derived.Test.YtclhblofchfglaaGreatRowMethodCertifiedG7
import Derived.Test.YtclhblofchfglaaGreatRowMethodCertifiedG12
import Derived.Deep.RegionHeld3
import Derived.Deep.RegionLaw
import Derived.Test.YtclhblofchfglaaGreatRowMethodCertifiedG13
import Derived.Deep.DeepCutAuto
namespace Go.Proofs.YtclhblofchfglaaGreat
open Go.RowKit
set_option maxRecDepth 10000

/-- distances (a row of the call's own, g) and a queue -/
structure DQ (e : TypeId) (B : Nat) (w : World) (g c N : Nat) (wr : World) (q : Value) (D Q : List Int) : Prop where
  ds : AccI B e wr (.slice (some ⟨g, 0, none⟩) N c) D
  qu : Que e B wr q Q
  ap : q.ownBlock ≠ some g
  on : Only [] w wr
section
variable {e : TypeId} {B : Nat} {w : World} {g c N : Nat} {wr wa wb w' : World} {q q' : Value} {D Q Q' : List Int}
theorem DQ.keep (h : DQ e B w g c N wr q D Q) (ho : Only [] wr w') : DQ e B w g c N w' q D Q := ⟨h.ds.keep ho, h.qu.keep ho, h.ap, h.on.trans ho⟩
theorem AccI.len_ {l : List Int} {a : Option Addr} {n c : Nat} (h : AccI B e wr (.slice a n c) l) : n = l.length := by
  obtain ⟨a', c', hv⟩ := h.form
  injection hv
theorem AccI.mono {B' : Nat} {v : Value} {l : List Int} (h : AccI B e wr v l) (hB : B' ≤ B) : AccI B' e wr v l := by
  obtain ⟨hO, hI⟩ := h.row
  refine AccI.ofRow ⟨hO.1, ?_⟩ hI
  rcases hO.2 with h | ⟨g, cap, cur, hv, hb, r⟩
  · exact .inl h
  · exact .inr ⟨g, cap, cur, hv, Nat.le_trans hB hb, r⟩
theorem DQ.put (h : DQ e B w g c N wr q D Q) (hB : w.heap.size ≤ B) {i : Nat} (hi : i < D.length) {x : Int} (hx : I64 x) :
    wr.cell? ⟨g, i, none⟩ = some (.int .i64 D[i]) ∧ wr.frozen? ⟨g, i, none⟩ = false ∧ DQ e B w g c N (wr.setCell ⟨g, i, none⟩ (.int .i64 x)) q (D.set i x) Q := by
  obtain ⟨g', c', hv, h1, h2, h3, h4⟩ := h.ds.put hi hx
  injection hv with e1 e2 e3
  injection e1 with e1; injection e1 with e1
  subst e1
  have hs : Only [g] wr (wr.setCell ⟨g, i, none⟩ (.int .i64 x)) := (Only.refl _ _).setCell (by simp) _
  exact ⟨h1, h2, h4, h.qu.only hs (fun b hb hm => h.ap (by rw [hb]; simp at hm; rw [hm])), h.ap, h.on.then_ hs (fun b hb hl => by simp at hb; subst hb; omega)⟩
theorem DQ.cell (h : DQ e B w g c N wr q D Q) {i : Nat} (hi : i < D.length) : wr.cell? ⟨g, i, none⟩ = some (.int .i64 D[i]) := by
  obtain ⟨g', c', hv, h1, -⟩ := h.ds.put hi (x := 0) (by unfold I64; omega)
  injection hv with e1 e2 e3
  injection e1 with e1; injection e1 with e1
  subst e1
  exact h1
theorem DQ.push (h : DQ e B w g c N wa q D Q) (hw : w.heap.size ≤ B) (hq : Que e B wb q' Q') (oq : Only q.ownBlock.toList wa wb) (nq : q'.ownBlock = q.ownBlock ∨ q'.ownBlock = some wa.heap.size) : DQ e B w g c N wb q' D Q' := by
  have hg := (h.ds.ownlt g rfl).2
  refine ⟨h.ds.only oq (fun b hb hm => ?_), hq, own_after nq h.ap hg, h.on.then_ oq (fun b hb hl => ?_)⟩
  · simp only [Value.ownBlock, Option.some.injEq] at hb
    subst hb
    exact h.ap (by simpa using hm)
  · have := (h.qu.lt b (by simpa using hb)).1
    omega
theorem DQ.pop (h : DQ e B w g c N wr q D Q) (hq : Que e B wr q' Q') (ho : q'.ownBlock = q.ownBlock) : DQ e B w g c N wr q' D Q' := ⟨h.ds, hq, by rw [ho]; exact h.ap, h.on⟩
end
/-- how many cells of a row hold negative numbers -/
def negW (w : World) (g N : Nat) : Nat := ((List.range N).filter fun v => match w.cell? ⟨g, v, none⟩ with | some (.int _ m) => decide (m < 0) | _ => false).length
theorem DQ.negW_ {e : TypeId} {B : Nat} {w : World} {g c N : Nat} {wr : World} {q : Value} {D Q : List Int} (h : DQ e B w g c N wr q D Q) : negW wr g N = negL N D := by
  have hl := h.ds.len_
  unfold negW negL
  congr 1
  refine List.filter_congr fun v hv => ?_
  have hv' : v < D.length := by rw [List.mem_range] at hv; omega
  rw [h.cell hv', getD_get hv']
section
variable {x : Puzzle} {t : Table} {src : List Int → Bool}
theorem rowT_get (hb : Built x t) {v : Nat} (hv : v < t.patterns.length) : rowT x t (t.patterns.getD v []) = (mRow x t v).map fun (tt : Nat) => (tt : Int) := by
  unfold rowT mRow
  rw [List.map_map]
  refine List.map_congr_left fun l hl => ?_
  obtain ⟨j, -, -, e⟩ := idx_step hb hv hl
  show idxL t.patterns (nxt x (t.patterns.getD v []) l) = (((idxL t.patterns (nxt x (t.patterns.getD v []) l)).toNat : Nat) : Int)
  rw [e, Int.toNat_natCast]
end
set_option maxHeartbeats 4000000 in
theorem distancesTo_any (x : Puzzle) (t : Table) (v : Value) (fv : FuncId) (caps : Array Value) (src : List Int → Bool) (w : World) (h : Exp w x t v) (he : expl x = some t)
    (hcf : ∀ args w, (callFunc fv args).run Tryz.prog w = .ok (.enter fv args) w)
    (hc : ∀ i : Nat, i < t.patterns.length → ∀ W, Only [] w W → Calls Tryz.prog fv (#[.int .i64 i] ++ caps) W fun e w'' => e = .returned (.bool (src (t.patterns.getD i []))) ∧ Only [] W w'') :
    Calls Tryz.prog 78 #[v, .func (.func fv) #[] caps] w fun e w' => ∃ u, e = .returned u ∧ AccI w.heap.size 2 w' u (mD x t src) ∧ Only [] w w' := by
  obtain ⟨g, M, v2, us, ud, up, uy, un, fm, f1, f2, f3, km, rfl, hB, -, hS, -, hN, -⟩ := h
  obtain ⟨hb, -⟩ := expl_built he
  obtain ⟨aS, cS, obS, fpS, rfl, -, SS⟩ := hS.open_
  obtain ⟨aN, cN, obN, fpN, rfl, -, SN⟩ := hN.open_
  obtain ⟨i0, hi, hz0, hz1, hz2⟩ := info_parts Tryz.info2
  have hll := hb.ll
  have hne := hb.bi.ne
  have HC := Lib.hid hc
  have Hb := Lib.hid hb
  have hlN : (t.patterns.map (rowT x t)).length = t.patterns.length := List.length_map _
  have y3 := hB.cell 3 rfl
  have y8 := hB.cell 8 rfl
  rw [hlN] at y8
  obtain ⟨N, hNe⟩ : ∃ N, N = t.patterns.length := ⟨_, rfl⟩
  have HNe := Lib.hid hNe
  have hN1 : 1 ≤ N := by rw [hNe]; exact hne
  have hN3 : N ≤ 3000 := by omega
  obtain ⟨sr, hsr⟩ : ∃ sr : Nat → Bool, sr = fun i => src (t.patterns.getD i []) := ⟨_, rfl⟩
  obtain ⟨row, hrow⟩ : ∃ row, row = mRow x t := ⟨_, rfl⟩
  have hfin : mD x t src = (mRun row (N + 1) 0 (mSrc sr N)).1 := by rw [hrow, hsr, hNe]; rfl
  have hsr' : ∀ i : Nat, src (t.patterns.getD i []) = sr i := fun i => by rw [hsr]
  have hrl : ∀ v, v < N → ∀ tt ∈ row v, tt < N := fun v hv tt ht => by rw [hNe] at hv ⊢; rw [hrow] at ht; exact mRow_lt hb hv tt ht
  have hrr : ∀ v, v < N → rowT x t (t.patterns.getD v []) = (row v).map fun (tt : Nat) => (tt : Int) := fun v hv => by rw [hNe] at hv; rw [hrow]; exact rowT_get hb hv
  have Hfin := Lib.hid hfin
  have Hsr := Lib.hid hsr'
  have Hrl := Lib.hid hrl
  have Hrr := Lib.hid hrr
  rw [← hNe] at y3 y8
  have hlen : ∀ W, Only [] w W → Calls Tryz.prog 97 #[.slice aS N cS] W fun e w' => e = .returned (.int .i64 N) ∧ w' = W := fun W hW => by
    have := lengthRows_rd _ t.patterns _ W (SS.frame fun b hb => hW.block b (SS.lt_all b hb) (by simp)).rd
    rwa [← hNe] at this
  have Hlen := Lib.hid hlen
  clear hlen hc hb hlN hNe hsr hrow hfin hsr' hrl hrr hS hN hne
  go_enter Tryz.func78, Tryz.ntmps78
  have d0 : (w.alloc (.cells #[.int .i64 (-1)] 2)).cell? ⟨w.heap.size, 0, none⟩ = some (.int .i64 (-1)) := lit1 w _ _ rfl
  have y3a := ((Only.refl [] w).alloc (.cells #[.int .i64 (-1)] 2)).cell (by simp) y3
  go_upto_region 4 with (first
    | (go_at_call 130; (with_reducible refine (Repeat_one w.heap.size N (-1) _ (by unfold I64; omega) hN1 (by omega) d0).mono ?_); rintro e w1 ⟨u1, rfl, A1, t1⟩; have K1 := ((Only.refl [] w).alloc (.cells #[.int .i64 (-1)] 2)).trans t1; have y3' := K1.cell (by simp) y3)
    | (go_at_call 97; (with_reducible refine (Hlen.out _ K1).mono ?_); rintro e w1 ⟨rfl, rfl⟩)
    | fail "no arm")
  obtain ⟨g5, c5, hu1, -, -, hg5, -⟩ := A1.put (i := 0) (by rw [List.length_replicate]; omega) (x := 0) (by unfold I64; omega)
  rw [List.length_replicate] at hu1
  subst hu1
  rw [← srcD_zero (src := sr)] at A1
  have hcW : ∀ i : Nat, i < N → ∀ W, Only [] w W → Calls Tryz.prog fv (#[.int .i64 i] ++ caps) W fun e w'' => e = .returned (.bool (sr i)) ∧ Only [] W w'' := fun i hi W hW => by
    have := HC.out i (by rw [← HNe.out]; exact hi) W hW
    rwa [Hsr.out i] at this
  have HCW := Lib.hid hcW
  clear hcW HC d0 y3 y3a y3'
  go_loopw [6, 22] (fun q i wr => ∃ k : Nat, k ≤ N ∧ i = .int .i64 k ∧ DQ 2 w.heap.size w g5 c5 N wr q (srcD sr N k) (srcQ sr k))
    (fun _ i _ => N - (intOf i).toNat)
  case atStart => exact ⟨0, Nat.zero_le _, rfl, A1.mono (by simp), (by rw [show srcQ sr 0 = ([] : List Int) from rfl]; exact Que.ofAcc (Acc.nil _ _ _) (by simp)), by simp [Value.ownBlock], K1⟩
  case round =>
    obtain ⟨W2, hnew⟩ : ∃ W, W = wr := ⟨_, rfl⟩
    subst hnew
    obtain ⟨k, hk, rfl, hD⟩ := hrel
    by_cases hlt : k < N
    · have hK := hD.on
      have HD := Lib.hid hD
      clear hD
      rcases hs : sr k
      · have H1 := Lib.hid (srcD_no hlt hs)
        have H2 := Lib.hid (srcQ_no hs)
        have Hs := Lib.hid hs
        clear hs
        go_wp2_with (with_reducible refine (HCW.out k hlt _ hK).mono ?_; rintro e w3 ⟨he, t3⟩; rw [Hs.out] at he; subst he)
        go_roundw
        case rel => exact ⟨k + 1, by omega, by go_num, by rw [H1.out, H2.out]; exact HD.out.keep t3⟩
        case measure => simp [intOf]; omega
      · have H1 := Lib.hid (srcD_yes hlt hs)
        have H2 := Lib.hid (srcQ_yes hs)
        have Hs := Lib.hid hs
        have hql := srcQ_len (src := sr) (k := k)
        have hkI : I64 (k : Int) := by unfold I64; omega
        clear hs
        go_upto_region 7 with (with_reducible refine (HCW.out k hlt _ hK).mono ?_; rintro e w3 ⟨he, t3⟩; rw [Hs.out] at he; subst he)
        obtain ⟨p1, p2, hD3⟩ := (HD.out.keep t3).put (Nat.le_refl _) (i := k) (by rw [srcD_len hk]; omega) (x := 0) (by unfold I64; omega)
        have HD3 := Lib.hid hD3
        clear hD3
        go_upto_region 8 with fail
        obtain ⟨w4, hw4⟩ : ∃ w4, w4 = w3.setCell ⟨g5, k, none⟩ (.int .i64 0) := ⟨_, rfl⟩
        rw [← hw4] at HD3 ⊢
        have HK4 := HD3.out.on.size
        clear hw4 p1 p2
        have hlit := lit1 w4 (.int .i64 k) 2 rfl
        go_wp2_with (at_builtin; refine wpList_que rfl _ _ 25 rfl 2 i0 _ Tryz.underlying25 hi hz0 hz1 hz2 rfl u6 _ rfl (HD3.out.qu.keep ((Only.refl _ _).alloc _)) ⟨w4.heap.size, 0, none⟩ 1 (k : Int) rfl hkI hlit (by omega) (by simp; omega) ?_; intro v5 w5 hq5 ho5 hn5)
        have hD5 := (HD3.out.keep ((Only.refl _ _).alloc (.cells #[.int .i64 k] 2))).push (Nat.le_refl _) hq5 ho5 hn5
        go_roundw
        case rel => exact ⟨k + 1, by omega, by go_num, by rw [H1.out, H2.out]; exact hD5⟩
        case measure => simp [intOf]; omega
    · obtain rfl : N = k := by omega
      rw [srcD_end, srcQ_end] at hD
      have HD := Lib.hid hD
      have HSN := Lib.hid SN
      have Y8 := Lib.hid y8
      clear hD SN SS t1 K1 y8
      go_wp2
      go_loopw [6] (fun q wr => ∃ (k : Nat) (s : MbS), MbI sr row N k [] s ∧ k ≤ s.2.length ∧ mRun row (N + 1 - k) k s = mRun row (N + 1) 0 (mSrc sr N) ∧ DQ 2 w.heap.size w g5 c5 N wr q s.1 ((s.2.drop k).map fun (i : Nat) => (i : Int)))
        (fun q wr => negW wr g5 N + lenV q)
      case atStart => exact ⟨0, mSrc sr N, MbI.start, Nat.zero_le _, rfl, by simpa using HD.out⟩
      case round =>
        clear HD
        obtain ⟨W2, hnew⟩ : ∃ W, W = wr := ⟨_, rfl⟩
        subst hnew
        obtain ⟨k, s, hI, hk, hrun, hD⟩ := hrel
        have hms : negW W2 g5 N + lenV u6 = N - k := by
          rw [hD.negW_, hD.qu.lenV, List.length_map, List.length_drop]
          have := hI.neg_len
          omega
        by_cases hlt : k < s.2.length
        · obtain ⟨v0, hv0⟩ : ∃ v0, v0 = s.2.getD k 0 := ⟨_, rfl⟩
          have hvN : v0 < N := by rw [hv0]; exact hI.rng _ (getD_mem9 hlt)
          have hkN : k < N := Nat.lt_of_lt_of_le hlt hI.len
          have e := drop_head hlt
          rw [← hv0] at e
          have hD0 := hD
          rw [e, List.map_cons] at hD
          obtain ⟨gq, oq, cq, hu6, hcq1, hcq2, hcq⟩ := hD.qu.head
          obtain ⟨nq1, hnq⟩ : ∃ n, n = (List.map (fun (i : Nat) => (i : Int)) (s.2.drop (k + 1))).length := ⟨_, rfl⟩
          rw [← hnq] at hu6 hcq1
          have hnb : nq1 ≤ 3000 := by rw [hnq, List.length_map, List.length_drop]; have := hI.len; omega
          subst hu6
          have hK := hD.on
          have y8w := hK.cell (by simp) Y8.out
          obtain ⟨bN, oN, ur, hAN, -, hcN, hur⟩ := HSN.out.atRow v0 (by rw [List.length_map, ← HNe.out]; exact hvN)
          subst hAN
          have hcNw := hK.cell (by simp) hcN
          rw [List.getElem_map] at hur
          have hrv := Hrr.out v0 hvN
          rw [getD_get (by rw [← HNe.out]; exact hvN)] at hrv
          rw [hrv] at hur
          obtain ⟨rw0, hrw0⟩ : ∃ r : List Nat, r = row v0 := ⟨_, rfl⟩
          rw [← hrw0] at hur
          obtain ⟨aR, cR, hur2, IR⟩ := Rd.ints hur
          rw [List.length_map] at hur2
          subst hur2
          have hrb : rw0.length ≤ 9223372036854775807 := by have := IR.bound; rwa [List.length_map] at this
          have hvi : (v0 : Int) < (N : Int) := by omega
          have HI := Lib.hid hI
          have HD0 := Lib.hid hD0
          have Hv0 := Lib.hid hv0
          have Hrw := Lib.hid hrw0
          have Hrun := Lib.hid hrun
          have Hms := Lib.hid hms
          clear hI hD0 hD e hv0 hrun hms hnq hur hrv hcN hrw0
          go_wp2
          go_quiet (fail)
          have hKq : Only [] W2 (W2.drewN nq) := Only.ofDrewN W2 nq []
          have hDq := HD0.out.keep hKq
          have HDq := Lib.hid hDq
          clear hDq HD0 hcq hcNw y8w
          go_wp2
          go_loopw [6, 51] (fun q i wr => ∃ j : Nat, j ≤ rw0.length ∧ i = .int .i64 j ∧ DQ 2 w.heap.size w g5 c5 N wr q ((rw0.take j).foldl (mRel v0) s).1 ((((rw0.take j).foldl (mRel v0) s).2.drop k).map fun (i : Nat) => (i : Int)))
            (fun _ i _ => rw0.length - (intOf i).toNat)
          case atStart => exact ⟨0, Nat.zero_le _, rfl, HDq.out⟩
          case round =>
            clear HDq
            obtain ⟨W3, hnew⟩ : ∃ W, W = wr := ⟨_, rfl⟩
            subst hnew
            obtain ⟨j, hj, rfl, hD⟩ := hrel
            have hP := MbI.part HI.out Hrl.out hlt Hv0.out.symm j
            rw [← Hrw.out] at hP
            obtain ⟨sj, hsj⟩ : ∃ sj, sj = (rw0.take j).foldl (mRel v0) s := ⟨_, rfl⟩
            rw [← hsj] at hP hD
            obtain ⟨hIj, hkj, hvj⟩ := hP
            by_cases hlj : j < rw0.length
            · have hst := fold_take (mRel v0) rw0 j hlj s
              rw [← hsj] at hst
              have htm : rw0[j] ∈ row v0 := by rw [← Hrw.out]; exact List.getElem_mem hlj
              have htN : rw0[j] < N := Hrl.out v0 hvN _ htm
              obtain ⟨tt, htt⟩ : ∃ tt, tt = rw0[j] := ⟨_, rfl⟩
              rw [← htt] at hst htN
              have hK3 := hD.on
              have IR3 := IR.keep hK3
              obtain ⟨bR, oR, hAR, -, hcR⟩ := IR3.at_ j (by rw [List.length_map]; exact hlj)
              subst hAR
              rw [List.getElem_map, ← htt] at hcR
              have hdl := hIj.dl
              have hcT := hD.cell (i := tt) (by omega)
              obtain ⟨dt, hdt⟩ : ∃ dt, dt = sj.1[tt]'(by omega) := ⟨_, rfl⟩
              rw [← hdt] at hcT
              have hdg : sj.1.getD tt 0 = dt := by rw [getD_get (by omega), hdt]
              have httI : I64 (tt : Int) := by unfold I64; omega
              by_cases hneg : dt < 0
              · rw [mRel_yes (by rw [hdg]; exact hneg)] at hst
                have e := drop_head hkj
                rw [hvj] at e
                have hD0 := hD
                rw [e, List.map_cons] at hD
                obtain ⟨g6, o6, c6, hu6, h61, h62, h63⟩ := hD.qu.head
                obtain ⟨n6, hn6⟩ : ∃ n, n = (List.map (fun (i : Nat) => (i : Int)) (sj.2.drop (k + 1))).length := ⟨_, rfl⟩
                rw [← hn6] at hu6 h61
                have hnb6 : n6 ≤ 3000 := by rw [hn6, List.length_map, List.length_drop]; have := hIj.len; omega
                subst hu6
                have hcV := hD.cell (i := v0) (by omega)
                obtain ⟨dv, hdv⟩ : ∃ dv, dv = sj.1[v0]'(by omega) := ⟨_, rfl⟩
                rw [← hdv] at hcV
                have hdvg : sj.1.getD v0 0 = dv := by rw [getD_get (by omega), hdv]
                have hdv0 : -1 ≤ dv := by rw [← hdvg]; exact hIj.neg v0 hvN
                have hdvN : dv < N := by rw [← hdvg]; exact hIj.bound hvN
                rw [hdvg] at hst
                have hwv : IntKind.i64.wrap (dv + 1) = dv + 1 := by rw [IntKind.wrap_i64]; omega
                obtain ⟨-, p2, hD4⟩ := hD0.put (Nat.le_refl _) (i := tt) (by omega) (x := dv + 1) (by unfold I64; omega)
                have Hst := Lib.hid hst
                have HD4 := Lib.hid hD4
                have hdr : (sj.2 ++ [tt]).drop k = sj.2.drop k ++ [tt] := List.drop_append_of_le_length (by omega)
                have Hdr := Lib.hid hdr
                have hql : ((sj.2.drop k).map fun (i : Nat) => (i : Int)).length + 1 ≤ 1073741824 := by rw [List.length_map, List.length_drop]; have := hIj.len; omega
                have Hql := Lib.hid hql
                clear hst hD4 hD hD0 e hdt hdg hdv hdvg hsj htt hdr hql hn6 hvj
                go_upto_region 17 with fail
                obtain ⟨w4, hw4⟩ : ∃ w4, w4 = W3.setCell ⟨g5, tt, none⟩ (.int .i64 (dv + 1)) := ⟨_, rfl⟩
                rw [← hw4] at HD4 ⊢
                have HK4 := HD4.out.on.size
                clear hw4 p2 hcT hcV hcR h63
                have hlit := lit1 w4 (.int .i64 tt) 2 rfl
                go_wp2_with (at_builtin; refine wpList_que rfl _ _ 25 rfl 2 i0 _ Tryz.underlying25 hi hz0 hz1 hz2 rfl (.slice (some ⟨g6, o6, none⟩) (n6 + 1) c6) _ rfl (HD4.out.qu.keep ((Only.refl _ _).alloc _)) ⟨w4.heap.size, 0, none⟩ 1 (tt : Int) rfl httI hlit Hql.out (by simp; omega) ?_; intro v5 w5 hq5 ho5 hn5)
                have hD5 := (HD4.out.keep ((Only.refl _ _).alloc (.cells #[.int .i64 tt] 2))).push (Nat.le_refl _) hq5 ho5 hn5
                go_roundw
                case rel => exact ⟨j + 1, by omega, by go_num, by rw [Hst.out]; show DQ _ _ _ _ _ _ _ _ (sj.1.set tt (dv + 1)) (((sj.2 ++ [tt]).drop k).map _); rw [Hdr.out, List.map_append]; exact hD5⟩
                case measure => simp [intOf]; omega
              · rw [mRel_no (by rw [hdg]; exact hneg)] at hst
                have Hst := Lib.hid hst
                have HD := Lib.hid hD
                have hnb : decide (dt < 0) = false := decide_eq_false hneg
                clear hst hD hdt hdg hsj htt
                go_wp2
                go_roundw
                case rel => exact ⟨j + 1, by omega, by go_num, by rw [Hst.out]; exact HD.out⟩
                case measure => simp [intOf]; omega
            · have hje : rw0.length = j := by omega
              have hst2 : sj = (row v0).foldl (mRel v0) s := by rw [hsj, ← hje, List.take_length, Hrw.out]
              have hIn := hIj.next hkj (by rw [hvj, ← Hrw.out, ← hje, List.take_length]; exact fun _ h => h)
              have hrun2 : mRun row (N + 1 - (k + 1)) (k + 1) sj = mRun row (N + 1) 0 (mSrc sr N) := by
                rw [← Hrun.out, show N + 1 - k = (N + 1 - (k + 1)) + 1 by omega, mRun_go hlt, hst2, ← Hv0.out]; rfl
              have e := drop_head hkj
              rw [e, List.map_cons] at hD
              obtain ⟨v7, hrun7, hq7, ho7⟩ := hD.qu.pop (P := Tryz.prog) Tryz.underlying25 (fun w => by simp [sizeOf, typeInfo, hi, hz1])
              have hr7 := hrun7 W3
              have hD7 := hD.pop hq7 ho7
              have HD7 := Lib.hid hD7
              have HIn := Lib.hid hIn
              have Hrun2 := Lib.hid hrun2
              have hms7 : negW W3 g5 N + lenV v7 = N - (k + 1) := by
                rw [hD7.negW_, hq7.lenV, List.length_map, List.length_drop]
                have := hIn.neg_len
                omega
              have Hms7 := Lib.hid hms7
              have Hkj := Lib.hid hkj
              clear hst2 hIn hrun2 e hD hq7 ho7 hD7 hms7 hsj hvj
              go_wp2
              go_roundw
              case rel => exact ⟨k + 1, sj, HIn.out, Hkj.out, Hrun2.out, HD7.out⟩
              case measure => rw [Hms.out, Hms7.out]; omega
        · have hke : k = s.2.length := by omega
          subst hke
          rw [mRun_end (by omega)] at hrun
          have Hf := Lib.hid (Hfin.out.trans (by rw [← hrun]) : mD x t src = s.1)
          have HD := Lib.hid hD
          have hz0 : lenV u6 = 0 := by rw [hD.qu.lenV]; simp
          obtain ⟨a6, c6, hu6⟩ := hD.qu.form
          rw [List.drop_length, List.map_nil, List.length_nil] at hu6
          subst hu6
          clear hD hms hrun hI
          go_wp2
          go_ret
          exact ⟨_, rfl, by rw [Hf.out]; exact HD.out.ds, HD.out.on⟩
end Go.Proofs.YtclhblofchfglaaGreat

namespace Go.Proofs.YtclhblofchfglaaGreat
open Go.RowKit
set_option maxRecDepth 10000

/-- two slices under way, apart -/
def Two (B : Nat) (e : TypeId) (w : World) (o o' : Value) (l l' : List Int) : Prop := AccI B e w o l ∧ AccI B e w o' l' ∧ ∀ b, o.ownBlock = some b → o'.ownBlock ≠ some b
theorem Two.keep {B : Nat} {e : TypeId} {w w' : World} {o o' : Value} {l l' : List Int} (h : Two B e w o o' l l') (ho : Only [] w w') : Two B e w' o o' l l' := ⟨h.1.keep ho, h.2.1.keep ho, h.2.2⟩
theorem Two.fst {B : Nat} {e : TypeId} {wa wb : World} {o o' v : Value} {l l' : List Int} {n : Int} (h : Two B e wa o o' l l') (hA : AccI B e wb v (l ++ [n])) (oA : Only o.ownBlock.toList wa wb) (nA : v.ownBlock = o.ownBlock ∨ v.ownBlock = some wa.heap.size) : Two B e wb v o' (l ++ [n]) l' := by
  refine ⟨hA, h.2.1.only oA (fun g hg hm => h.2.2 g (by simpa using hm) hg), fun b hb he => ?_⟩
  rcases nA with e | e
  · exact h.2.2 b (by rw [← e]; exact hb) he
  · rw [e] at hb; injection hb with hb
    have := (h.2.1.ownlt b he).2; omega
/-- the entry of the depths at hand -/
theorem Exp.depth {w : World} {x : Puzzle} {t : Table} {v : Value} (h : Exp w x t v) : ∃ g aD cD fD, v = .pointer (some ⟨g, 0, none⟩) ∧ w.cell? ⟨g, 4, none⟩ = some (.slice aD t.distances.length cD) ∧ IntsA w aD cD t.distances fD := by
  obtain ⟨g, M, v2, us, ud, up, uy, un, fm, f1, f2, f3, k, rfl, hB, -, -, hD, -, -⟩ := h
  obtain ⟨aD, cD, rfl, ID⟩ := hD.ints
  exact ⟨g, aD, cD, _, rfl, hB.cell 4 rfl, ID⟩
end Go.Proofs.YtclhblofchfglaaGreat

namespace Go.Proofs.YtclhblofchfglaaGreat
open Go.RowKit
set_option maxRecDepth 10000

set_option maxHeartbeats 1000000 in
theorem descend_closure (gb ib : Nat) (vd : Value) (D : List Int) (fd : List Nat) (i k : Nat) (w : World) (h1 : w.cell? ⟨gb, 0, none⟩ = some vd) (h2 : w.cell? ⟨ib, 0, none⟩ = some (.int .i64 i)) (hD : Rd w vd D fd) (hi : i < D.length) (hk : k < D.length) :
    Calls Tryz.prog 120 #[.int .i64 k, .pointer (some ⟨gb, 0, none⟩), .pointer (some ⟨ib, 0, none⟩)] w fun e w' => e = .returned (.bool (decide (D.getD k 0 < D.getD i 0))) ∧ Only [] w w' := by
  obtain ⟨a, c, rfl, I⟩ := hD.ints
  have hb := I.bound
  obtain ⟨b, off, rfl, -, c1⟩ := I.at_ i hi
  obtain ⟨b', off', hA, -, c2⟩ := I.at_ k hk
  injection hA with hA; injection hA with hA1 hA2; subst hA1; subst hA2
  have e1 : D.getD k 0 = D[k] := getD_get hk
  have e2 : D.getD i 0 = D[i] := getD_get hi
  obtain ⟨dk, hdk⟩ : ∃ d, d = D[k] := ⟨_, rfl⟩
  obtain ⟨di, hdi⟩ : ∃ d, d = D[i] := ⟨_, rfl⟩
  rw [← hdk] at c2 e1
  rw [← hdi] at c1 e2
  rw [e1, e2]
  clear e1 e2 hdk hdi
  go_enter Tryz.func120, Tryz.ntmps120
  go_wp2
  go_quiet (fail)
  go_wp2
  go_ret
  exact ⟨rfl, Only.ofDrewN _ _ _⟩
set_option maxHeartbeats 1000000 in
theorem descend_far (v vd : Value) (D : List Int) (fd : List Nat) (i : Nat) (w : World) (hv : Rd w vd D fd) (hi : i < D.length) (hN : 200 < D.getD i 0) :
    Calls Tryz.prog 66 #[v, vd, .int .i64 i] w fun e w' => e = .returned (.tuple #[.slice none 0 0, .int .i64 0, .bool false]) ∧ Only [] w w' := by
  obtain ⟨a, c, rfl, I⟩ := hv.ints
  have hb := I.bound
  obtain ⟨b, off, rfl, -, c1⟩ := I.at_ i hi
  rw [getD_get hi] at hN
  obtain ⟨di, hdi⟩ : ∃ d, d = D[i] := ⟨_, rfl⟩
  rw [← hdi] at c1 hN
  have hK : Only [] w ((w.alloc (.cells #[.slice (some ⟨b, off, none⟩) D.length c] 25)).alloc (.cells #[.int .i64 i] 2)) := ((Only.refl _ _).alloc _).alloc _
  have d1 := hK.cell (by simp) c1
  have d2 := lit1 (w.alloc (.cells #[.slice (some ⟨b, off, none⟩) D.length c] 25)) (.int .i64 i) 2 (g := w.heap.size + 1) (by simp)
  have d3 := ((Only.refl [] _).alloc (.cells #[.int .i64 i] 2)).cell (by simp) (lit1 w (.slice (some ⟨b, off, none⟩) D.length c) 25 rfl)
  clear hdi c1
  go_enter Tryz.func66, Tryz.ntmps66
  go_wp2
  exact bodyPost_ret (v := .tuple #[.slice none 0 0, .int .i64 0, .bool false]) (by simp [results, Tryz.results66, go_sem]) rfl ⟨rfl, hK⟩
theorem down_idx {x : Puzzle} {t : Table} {src : List Int → Bool} (hb : Built x t) {i n k j : Nat} (hi : i < t.patterns.length) (hd : (mD x t src).getD i 0 = (n : Int) + 1) (h : Down x (tD x t src) i n k j) :
    idxF (fun y : Int => decide ((mD x t src).getD y.toNat 0 < (mD x t src).getD i 0)) (rowT x t (t.patterns.getD i [])) = k ∧ k < (rowT x t (t.patterns.getD i [])).length ∧ (rowT x t (t.patterns.getD i [])).getD k 0 = j := by
  have hk := h.hk
  have hrl : (rowT x t (t.patterns.getD i [])).length = (ltrs x.moves.length).length := by simp [rowT]
  have hget : ∀ m (hm : m < (ltrs x.moves.length).length), ∃ i' : Nat, i' < t.patterns.length ∧ t.patterns.getD i' [] = nxt x (t.patterns.getD i []) ((ltrs x.moves.length)[m]) ∧ (rowT x t (t.patterns.getD i []))[m]'(by omega) = i' := fun m hm => by
    obtain ⟨i', a, b, c⟩ := idx_step hb hi (List.getElem_mem hm)
    exact ⟨i', a, b, by simpa [rowT] using c⟩
  obtain ⟨j', j1, j2, j3⟩ := hget k hk
  have hjj : j' = j := by
    have e1 := hb.idx j1
    have e2 := hb.idx h.hj
    have e3 : t.patterns.getD j [] = nxt x (t.patterns.getD i []) ((ltrs x.moves.length)[k]) := h.nx
    rw [j2, ← e3] at e1
    have e4 : idxL t.patterns ((tD x t src).patterns.getD j []) = j := e2
    have e5 : (tD x t src).patterns = t.patterns := rfl
    rw [e5] at e4
    omega
  subst hjj
  refine ⟨idxF_some (by omega) (fun y hy => ?_) ?_, by omega, by rw [getD_get (by omega), j3]⟩
  · rw [List.mem_take_iff_getElem] at hy
    obtain ⟨m, hm, rfl⟩ := hy
    obtain ⟨i', a, b, c⟩ := hget m (by omega)
    rw [c, Int.toNat_natCast, hd]
    exact decide_eq_false (h.no m (by omega) i' a b).2
  · rw [j3, Int.toNat_natCast, hd]
    have : (mD x t src).getD j' 0 = n := h.ds
    exact decide_eq_true (by omega)
set_option maxHeartbeats 4000000 in
theorem descend_yes (x : Puzzle) (t : Table) (v vd : Value) (src : List Int → Bool) (fd : List Nat) (i0 N : Nat) (w : World) (h : Exp w x t v) (he : expl x = some t) (h0 : src t.tracked = true) (hv : Rd w vd (mD x t src) fd)
    (hi0 : i0 < t.patterns.length) (hN : (mD x t src).getD i0 0 = N) (h200 : N ≤ 200) :
    Calls Tryz.prog 66 #[v, vd, .int .i64 i0] w fun e w' => ∃ (u : Value) (j : Nat), e = .returned (.tuple #[u, .int .i64 j, .bool true]) ∧ AccI w.heap.size 2 w' u (oW x (tD x t src) N (t.patterns.getD i0 [])) ∧ j < t.patterns.length ∧ t.patterns.getD j [] = wEnd x (t.patterns.getD i0 []) (oW x (tD x t src) N (t.patterns.getD i0 [])) ∧ (mD x t src).getD j 0 = 0 ∧ Only [] w w' := by
  obtain ⟨hb, -⟩ := expl_built he
  obtain ⟨q1, q20, q8, -⟩ := validPz_facts hb.v
  obtain ⟨g, M, v2, us, ud, up, uy, un, fm, f1, f2, f3, km, rfl, hB, hp, -, -, hNx, -⟩ := h
  obtain ⟨v2', hvv, -, -, h2⟩ := hp
  have e2 : v2 = v2' := by simpa using hvv
  subst e2
  obtain ⟨A2, C2, _, _, rfl, -, -⟩ := h2.open_
  obtain ⟨aN, cN, obN, fpN, rfl, -, SN⟩ := hNx.open_
  obtain ⟨aD, cD, rfl, ID⟩ := hv.ints
  obtain ⟨iI, hiI, hzI0, hzI1, hzI2⟩ := info_parts Tryz.info2
  have hlD : (mD x t src).length = t.patterns.length := (mD_F hb).dl
  have hbD := ID.bound
  obtain ⟨D, hDe⟩ : ∃ D, D = mD x t src := ⟨_, rfl⟩
  have HDe := Lib.hid hDe
  rw [← hDe] at ID hN hlD hbD ⊢
  have x2 := hB.cell 2 rfl
  have y8 := hB.cell 8 rfl
  have hlm : (t.patterns.map (rowT x t)).length = t.patterns.length := List.length_map _
  have hll := hb.ll
  obtain ⟨np, hnp⟩ : ∃ np, np = t.patterns.length := ⟨_, rfl⟩
  rw [hlm, ← hnp] at y8
  have hnp3 : np ≤ 3000 := by omega
  have hi0n : (i0 : Int) < np := by omega
  have hi0m : i0 < np := by omega
  have hlDn : D.length = np := by omega
  have Hnp := Lib.hid hnp
  have HlD := Lib.hid hlDn
  obtain ⟨s0, hs0⟩ : ∃ s0, s0 = t.patterns.getD i0 [] := ⟨_, rfl⟩
  have Hs0 := Lib.hid hs0
  rw [← hs0]
  rw [hlDn] at hbD
  have Hb := Lib.hid hb
  have HN := Lib.hid hN
  obtain ⟨T, hT⟩ : ∃ T, T = tD x t src := ⟨_, rfl⟩
  have HT := Lib.hid hT
  rw [← hT]
  have hK0 : Only [] w ((w.alloc (.cells #[.slice aD D.length cD] 25)).alloc (.cells #[.int .i64 i0] 2)) := ((Only.refl _ _).alloc _).alloc _
  have B1 : Blk ((w.alloc (.cells #[.slice aD D.length cD] 25)).alloc (.cells #[.int .i64 i0] 2)) w.heap.size [.slice aD D.length cD] := (Blk.new w [.slice aD D.length cD] 25).keep ((Only.refl _ _).alloc _)
  have B2 : Blk ((w.alloc (.cells #[.slice aD D.length cD] 25)).alloc (.cells #[.int .i64 i0] 2)) (w.heap.size + 1) [.int .i64 i0] := Blk.new_at (cs := [.int .i64 i0]) (by simp)
  obtain ⟨W0, hW0⟩ : ∃ W0, W0 = (w.alloc (.cells #[.slice aD D.length cD] 25)).alloc (.cells #[.int .i64 i0] 2) := ⟨_, rfl⟩
  have hz0 : W0.heap.size = w.heap.size + 2 := by rw [hW0]; simp
  have hid : i0 < D.length := by omega
  have cI := (ID.keep hK0).at_ i0 hid
  rw [show D[i0] = (N : Int) by rw [← hN, getD_get hid]] at cI
  obtain ⟨bD, oD, rfl, -, cI⟩ := cI
  have x2' := hK0.cell (by simp) x2
  rw [hlDn] at B1 hW0 cI x2' ⊢
  rw [hlDn] at B2 hK0
  rw [← hW0] at B1 B2 hK0 cI x2'
  have b1 := B1.cell 0 rfl
  have b2 := B2.cell 0 rfl
  clear he hDe hlD hlm hnp hlDn hs0 hb hN hT hvv h2 hNx hv x2 hid
  go_enter Tryz.func66, Tryz.ntmps66
  go_upto_region 1 with fail
  rw [← hW0]
  clear hW0
  go_upto_region 5 with (first
    | (go_at_call 118; (with_reducible refine (letters_any x.moves.length _ (by omega)).mono ?_); rintro e w1 ⟨u1, f8, rfl, r1, F1, t1⟩; obtain ⟨a1, c1, rfl, I1⟩ := r1.ints)
    | fail "no arm")
  obtain ⟨ls, hls⟩ : ∃ ls, ls = ltrs x.moves.length := ⟨_, rfl⟩
  rw [← hls] at I1 ⊢
  have Hls := Lib.hid hls
  have hK1 := hK0.trans t1
  have hz1 := hK1.size
  have hz1' := t1.size
  have B1' := B1.keep t1
  have B2' := B2.keep t1
  have hf8 : ∀ b ∈ f8, b ∉ [w.heap.size + 1] := fun b hb hm => by have := F1.ge b hb; simp at hm; omega
  clear hls r1 F1 B1 B2 b1 b2 cI x2' t1 hi0n
  go_loopw [9] (fun o wr => ∃ (n i : Nat) (dn : List Int), n ≤ 200 ∧ dn.length + n = N ∧ i < np ∧ D.getD i 0 = n ∧ dn ++ oW x T n (t.patterns.getD i []) = oW x T N s0 ∧ wEnd x s0 dn = t.patterns.getD i [] ∧ Blk wr (w.heap.size + 1) [.int .i64 i] ∧ AccI w1.heap.size 2 wr o dn ∧ Only [w.heap.size + 1] w1 wr)
    (fun o _ => N - lenV o)
  case atStart => exact ⟨N, i0, [], h200, by simp, hi0m, HN.out, by rw [Hs0.out]; rfl, by rw [Hs0.out]; rfl, B2', AccI.nil _ _ _, Only.refl _ _⟩
  case round =>
    obtain ⟨W3, hnew⟩ : ∃ W, W = wr := ⟨_, rfl⟩
    subst hnew
    obtain ⟨n, i, dn, hn, hlen, hil, hdi, hcat, hend, hB2, hA, hO⟩ := hrel
    have hB1 := B1'.only hO (by simp)
    have hK3 : Only [] w W3 := hK1.then_ hO (by simp)
    have hid : i < D.length := by rw [HlD.out]; exact hil
    have cI := (ID.keep hK3).at_ i hid
    rw [show D[i] = (n : Int) by rw [← hdi, getD_get hid]] at cI
    obtain ⟨bD', oD', eD, -, cI⟩ := cI
    injection eD with eD; injection eD with eD1 eD2; subst eD1; subst eD2
    have b1 := hB1.cell 0 rfl
    have b2 := hB2.cell 0 rfl
    have hinp : (i : Int) < np := by omega
    have Hcat := Lib.hid hcat
    have Hdi := Lib.hid hdi
    have Hlen := Lib.hid hlen
    have Hend := Lib.hid hend
    have HA := Lib.hid hA
    have HB2 := Lib.hid hB2
    clear hcat hdi hlen hend hA hB2
    by_cases hn0 : 0 < n
    · obtain ⟨m, hm⟩ : ∃ m, n = m + 1 := ⟨n - 1, by omega⟩
      have hdm : (mD x t src).getD i 0 = (m : Int) + 1 := by rw [← HDe.out, Hdi.out, hm]; push_cast; rfl
      have hip : i < t.patterns.length := by rw [← Hnp.out]; exact hil
      obtain ⟨k, j, hDn⟩ := mDown (n := m) Hb.out h0 hip hdm
      obtain ⟨k1, k2, k3⟩ := down_idx Hb.out hip hdm hDn
      have hjp : j < np := by rw [Hnp.out]; exact hDn.hj
      have e9 : oW x T (m + 1) (t.patterns.getD i []) = (ltrs x.moves.length)[k]'hDn.hk :: oW x T m (t.patterns.getD j []) := by rw [HT.out]; exact hDn.oW_
      have e8 : t.patterns.getD j [] = nxt x (t.patterns.getD i []) ((ltrs x.moves.length)[k]'hDn.hk) := hDn.nx
      have e7 : (mD x t src).getD j 0 = m := hDn.ds
      obtain ⟨l, hl⟩ : ∃ l, l = (ltrs x.moves.length)[k]'hDn.hk := ⟨_, rfl⟩
      have hla : l ∈ ltrs x.moves.length := by rw [hl]; exact List.getElem_mem _
      have hkl : k < ls.length := by rw [Hls.out]; exact hDn.hk
      have hlk : ls[k] = l := by rw [hl]; simp [Hls.out]
      rw [← hl] at e9 e8
      rw [← HDe.out] at e7 k1
      have HIl := Lib.hid (show I64 l by have := mem_ltrs.1 hla; unfold I64; omega)
      have hrm : ∀ y ∈ rowT x t (t.patterns.getD i []), ∃ z : Nat, y = z ∧ z < D.length := fun y hy => by
        unfold rowT at hy
        obtain ⟨l', hl', rfl⟩ := List.mem_map.1 hy
        obtain ⟨z, z1, -, z2⟩ := idx_step Hb.out hip hl'
        exact ⟨z, z2, by rw [HlD.out, Hnp.out]; exact z1⟩
      obtain ⟨bN, oN, ur, hAN, -, hcN, hur⟩ := SN.atRow i (by rw [List.length_map]; exact hip)
      subst hAN
      rw [List.getElem_map, show t.patterns[i] = t.patterns.getD i [] from (getD_get hip).symm] at hur
      obtain ⟨row, hrow⟩ : ∃ row, row = rowT x t (t.patterns.getD i []) := ⟨_, rfl⟩
      rw [← hrow] at hur k1 k2 k3 hrm
      obtain ⟨aR, cR, rfl, IR⟩ := hur.ints
      have IR3 := IR.keep hK3
      have hrb := IR.bound
      have hcR0 := IR.at_ k k2
      rw [show row[k] = (j : Int) by rw [← k3, getD_get k2]] at hcR0
      obtain ⟨bR, oR, rfl, -, hcR0⟩ := hcR0
      have y8w := hK3.cell (by simp) y8
      have hcNw := hK3.cell (by simp) hcN
      have hix : ∀ W, Only [] W3 W → Calls Tryz.prog 119 #[.slice (some ⟨bR, oR, none⟩) row.length cR, .func (.func 120) #[] #[.pointer (some ⟨w.heap.size, 0, none⟩), .pointer (some ⟨w.heap.size + 1, 0, none⟩)]] W fun e w' => e = .returned (.int .i64 k) ∧ Only [] W w' := fun W hW => by
        have hq := IndexFunc_ints 120 #[.pointer (some ⟨w.heap.size, 0, none⟩), .pointer (some ⟨w.heap.size + 1, 0, none⟩)] (fun y => decide (D.getD y.toNat 0 < D.getD i 0)) Tryz.call120 (.slice (some ⟨bR, oR, none⟩) row.length cR) row _ W (IR3.keep hW).rd (fun y hy W' hW' => by
          obtain ⟨z, rfl, hz⟩ := hrm y hy
          rw [Int.toNat_natCast]
          have hKw := hK3.trans (hW.trans hW')
          refine descend_closure w.heap.size (w.heap.size + 1) (.slice (some ⟨bD, oD, none⟩) D.length cD) D _ i z W' ?_ ((HB2.out.keep (hW.trans hW')).cell 0 rfl) (ID.keep hKw).rd hid hz
          rw [HlD.out]; exact (hB1.keep (hW.trans hW')).cell 0 rfl)
        rw [k1] at hq; exact hq
      have Hix := Lib.hid hix
      have hlm : m + 1 = n := hm.symm
      have hm200 : m ≤ 200 := by omega
      have hlen1 : dn.length + 1 ≤ 1073741824 := by have := Hlen.out; omega
      have hsz1 : w1.heap.size ≤ W3.heap.size := hO.size
      have I3 := I1.only hO hf8
      have hlb := I1.bound
      obtain ⟨bl, ol, rfl, -, hcl⟩ := I3.at_ k hkl
      rw [hlk] at hcl
      have hki : (k : Int) < ls.length := by omega
      have hkr : (k : Int) < row.length := by omega
      have HcN := Lib.hid hcN
      have HcR := Lib.hid (show w.cell? ⟨bR, oR + k, none⟩ = some (.int .i64 j) from hcR0)
      have He9 := Lib.hid e9
      have He8 := Lib.hid e8
      have He7 := Lib.hid e7
      have Hm := Lib.hid hm
      clear hix hrm hm hrow IR hcR0 k1 k3 e9 e8 e7 hl hlk hla hDn IR3 hcN hur hdm hlm
      go_wp2
      go_region_held3 (fun w' => Only [] W3 w' ∧ w'.cell? ⟨g, 8, none⟩ = some (.slice (some ⟨bN, oN, none⟩) np cN) ∧ w'.cell? ⟨w.heap.size + 1, 0, none⟩ = some (.int .i64 i) ∧ w'.cell? ⟨bN, oN + i, none⟩ = some (.slice (some ⟨bR, oR, none⟩) row.length cR)) (((refine and_of ?_ (fun h__ => ⟨h__.cell (by simp) y8w, h__.cell (by simp) b2, h__.cell (by simp) hcNw⟩)); first | exact (Only.refl _ _).drew | exact ((Only.refl _ _).drewN _).drew | exact Only.trans (And.left (by assumption)) (by assumption) | exact Only.alloc (And.left (by assumption)) _ | assumption)) (first | (go_at_call 119; (with_reducible refine (Hix.out _ (And.left (by assumption))).mono ?_); rintro e w5 ⟨rfl, t5⟩) | fail "no arm")
      have k5 : Only [] W3 w5 := (Only.refl [] W3).trans (And.left (by assumption))
      have hA5 := HA.out.keep k5
      have HA5 := Lib.hid hA5
      have hcl5 := k5.cell (by simp) hcl
      have hO5 : Only [w.heap.size + 1] w1 w5 := hO.keepThen k5
      have hsz5 : w1.heap.size ≤ w5.heap.size := hO5.size
      have hK5 := hK3.trans k5
      have HB5 := Lib.hid (HB2.out.keep k5)
      clear hA5 hcl b1 b2 cI y8w hcNw I3
      go_upto_region 8 with (at_builtin; refine wpList_pushI rfl _ _ 25 rfl w1.heap.size 2 iI _ Tryz.underlying25 hiI hzI0 hzI1 hzI2 rfl w5 u9 dn rfl HA5.out ((Only.refl _ _).alloc _) hsz5 w5.heap.size 1 l rfl (lit1 w5 _ _ rfl) HIl.out hlen1 ?_; intro v9 w9 hA9 hO9 hP9 hN9)
      have hO9w : Only [w.heap.size + 1] w1 w9 := hO5.then_ (fp' := u9.ownBlock.toList) (((Only.refl _ _).alloc _).trans hO9) (fun b hb hlt => by have := (HA5.out.ownlt b (by simpa using hb)).1; omega)
      have hK9 : Only [] w w9 := hP9 w (hK5.alloc _) (by omega)
      have hib : w.heap.size + 1 ∉ u9.ownBlock.toList := fun hm => by have := (HA5.out.ownlt _ (by simpa using hm)).1; omega
      have hB9 : Blk w9 (w.heap.size + 1) [.int .i64 i] := (HB5.out.keep ((Only.refl _ _).alloc _)).only hO9 hib
      have kd : Only [] w9 w9.drew := (Only.refl _ _).drew
      have z0 := (hB9.keep kd).cell 0 rfl
      have z1 := (hB9.keep kd).frozen 0
      have z2 := (hK9.trans kd).cell (by simp) y8
      have z3 := (hK9.trans kd).cell (by simp) HcN.out
      have z4 := (hK9.trans kd).cell (by simp) HcR.out
      have hap : (v9.ownBlock ≠ some (w.heap.size + 1)) := fun e => by have := (hA9.ownlt _ e).1; omega
      have kf : Only [w.heap.size + 1] w9.drew (w9.drew.setCell ⟨w.heap.size + 1, 0, none⟩ (.int .i64 j)) := (Only.refl _ _).setCell (by simp) _
      have HBf := Lib.hid (show Blk (w9.drew.setCell ⟨w.heap.size + 1, 0, none⟩ (.int .i64 j)) (w.heap.size + 1) [.int .i64 j] from (hB9.keep kd).set 0 (.int .i64 j))
      have HAf := Lib.hid (show AccI w1.heap.size 2 (w9.drew.setCell ⟨w.heap.size + 1, 0, none⟩ (.int .i64 j)) v9 (dn ++ [l]) from (hA9.keep kd).only kf (fun b hb hm => hap (by rw [hb]; simp at hm; rw [hm])))
      have HOf := Lib.hid (show Only [w.heap.size + 1] w1 (w9.drew.setCell ⟨w.heap.size + 1, 0, none⟩ (.int .i64 j)) from (hO9w.drew).trans kf)
      have Hl1 := Lib.hid (show (dn ++ [l]).length + m = N by have := Hlen.out; have := Hm.out; rw [List.length_append, List.length_singleton]; omega)
      have Hl2 := Lib.hid (show (dn ++ [l]) ++ oW x T m (t.patterns.getD j []) = oW x T N s0 by rw [← Hcat.out, Hm.out, He9.out, List.append_assoc]; rfl)
      have Hl3 := Lib.hid (show wEnd x s0 (dn ++ [l]) = t.patterns.getD j [] by rw [wEnd_snoc, Hend.out, He8.out])
      have Hl4 := Lib.hid (show N - lenV v9 < N - lenV u9 by
        obtain ⟨_, _, ev⟩ := hA9.form
        obtain ⟨_, _, eu⟩ := HA5.out.form
        rw [ev, eu]
        show N - (dn ++ [l]).length < N - dn.length
        have := Hlen.out
        rw [List.length_append, List.length_singleton]; omega)
      clear hA9 hO9w hO9 hP9 hN9 hB9 HA5 HA HB5 HB2 hcl5 hO5 k5 t5 hB1 hO
      go_wp2
      go_region_law (fail)
      all_goals go_wp2_with fail
      all_goals exact ⟨⟨m, j, dn ++ [l], hm200, Hl1.out, hjp, He7.out, Hl2.out, Hl3.out, HBf.out, HAf.out, HOf.out⟩, Hl4.out⟩
    · obtain rfl : n = 0 := by omega
      have hfin : dn = oW x T N s0 := by have := Hcat.out; rwa [show oW x T 0 (t.patterns.getD i []) = [] from rfl, List.append_nil] at this
      have Hfin := Lib.hid hfin
      clear hfin
      go_wp2
      go_quiet (fail)
      go_wp2
      exact bodyPost_ret (v := .tuple #[u9, .int .i64 i, .bool true]) (by simp [results, Tryz.results66, go_sem]) rfl ⟨u9, i, rfl, by rw [← Hfin.out]; exact (HA.out.mono (by omega)).keep (Only.ofDrewN _ _ _), by rw [← Hnp.out]; exact hil, by rw [← Hfin.out, Hend.out], Hdi.out, hK3.drewN _⟩
theorem map_self {f : Int → Int} : ∀ {l : List Int}, l.map f = l ↔ ∀ y ∈ l, f y = y
  | [] => by simp
  | a :: l => by
    rw [List.map_cons, List.cons_eq_cons, map_self]
    simp
theorem gS_any (goal s : List Int) : gS goal s = !(goal.any fun y => !decide (PM.at_ s y = y)) := by
  unfold gS PM.comp
  rw [Bool.eq_iff_iff, decide_eq_true_iff, map_self]
  simp
set_option maxHeartbeats 1000000 in
theorem satis_closure (gb : Nat) (vs : Value) (s : List Int) (fs : List Nat) (y : Int) (w : World) (h1 : w.cell? ⟨gb, 0, none⟩ = some vs) (hs : Rd w vs s fs) (h2 : 0 ≤ y) (h3 : y < s.length) :
    Calls Tryz.prog 164 #[.int .i64 y, .pointer (some ⟨gb, 0, none⟩)] w fun e w' => e = .returned (.bool (!decide (PM.at_ s y = y))) ∧ Only [] w w' := by
  obtain ⟨a, c, rfl, I⟩ := hs.ints
  have hb := I.bound
  obtain ⟨b, off, rfl, -, hc⟩ := I.at_pm h2 h3
  obtain ⟨z, hz⟩ : ∃ z, z = PM.at_ s y := ⟨_, rfl⟩
  rw [← hz] at hc ⊢
  clear hz
  by_cases hzy : z = y
  · have hb2 : (z != y) = false := by simp [hzy]
    have Hf := Lib.hid (show (!decide (z = y)) = false by simp [hzy])
    clear hzy
    go_enter Tryz.func164, Tryz.ntmps164
    go_wp2
    go_ret
    exact ⟨ret_bool Hf.out.symm, Only.refl _ _⟩
  · have hb2 : (z != y) = true := by simpa using hzy
    have Hf := Lib.hid (show (!decide (z = y)) = true by simp [hzy])
    clear hzy
    go_enter Tryz.func164, Tryz.ntmps164
    go_wp2
    go_ret
    exact ⟨ret_bool Hf.out.symm, Only.refl _ _⟩
set_option maxHeartbeats 1000000 in
theorem satisfies_any (vg : Value) (goal : List Int) (fg : List Nat) (vs : Value) (s : List Int) (fs : List Nat) (w : World) (hg : Rd w vg goal fg) (hs : Rd w vs s fs) (hr : ∀ y ∈ goal, 0 ≤ y ∧ y < s.length) :
    Calls Tryz.prog 122 #[vg, vs] w fun e w' => e = .returned (.bool (gS goal s)) ∧ Only [] w w' := by
  obtain ⟨av, cv, rfl, Is⟩ := hs.ints
  have Hfin := Lib.hid (gS_any goal s)
  have k0 : Only [] w (w.alloc (.cells #[.slice av s.length cv] 25)) := (Only.refl _ _).alloc _
  have Hc := Lib.hid (ContainsFunc_ints 164 #[.pointer (some ⟨w.heap.size, 0, none⟩)] (fun y => !decide (PM.at_ s y = y)) Tryz.call164 vg goal _ (w.alloc (.cells #[.slice av s.length cv] 25)) (Rp.keep hg k0) (fun y hy W hW => satis_closure w.heap.size (.slice av s.length cv) s _ y W (hW.cell (by simp) (lit1 w (.slice av s.length cv) 25 rfl)) (Rp.keep hs (k0.trans hW)) (hr y hy).1 (hr y hy).2))
  go_enter Tryz.func122, Tryz.ntmps122
  go_wp2_with (first
    | (go_at_call 115; (with_reducible refine (Hc.out).mono ?_); rintro e w1 ⟨rfl, t1⟩)
    | fail "no arm")
  go_ret
  exact ⟨ret_bool Hfin.out.symm, k0.trans t1⟩
set_option maxHeartbeats 1000000 in
theorem goal_closure (x : Puzzle) (t : Table) (v vg : Value) (goal : List Int) (fg : List Nat) (gb eb i : Nat) (w : World) (h : Exp w x t v) (he : expl x = some t) (hg : Rd w vg goal fg) (ht : trackB x.points goal = true) (hi : i < t.patterns.length) (h1 : w.cell? ⟨gb, 0, none⟩ = some vg) (h2 : w.cell? ⟨eb, 0, none⟩ = some v) :
    Calls Tryz.prog 121 #[.int .i64 i, .pointer (some ⟨gb, 0, none⟩), .pointer (some ⟨eb, 0, none⟩)] w fun e w' => e = .returned (.bool (gS goal (t.patterns.getD i []))) ∧ Only [] w w' := by
  have hr : ∀ y ∈ goal, 0 ≤ y ∧ y < (t.patterns.getD i []).length := fun y hy => by
    have a := (trackB_iff.1 ht).2.1 y hy
    rw [expl_len1 he hi]; omega
  obtain ⟨g, M, v2, us, ud, up, uy, un, fm, f1, f2, f3, km, rfl, hB, -, hS, -, -, -⟩ := h
  obtain ⟨aS, cS, obS, fpS, rfl, -, SS⟩ := hS.open_
  obtain ⟨ag, cg, rfl, Ig⟩ := hg.ints
  have hbS := SS.bound
  obtain ⟨bS, oS, ur, rfl, -, hcS, hur⟩ := SS.atRow i hi
  rw [show t.patterns[i] = t.patterns.getD i [] from (getD_get hi).symm] at hur
  obtain ⟨au, cu, rfl, Iu⟩ := hur.ints
  have y3 := hB.cell 3 rfl
  have hil : (i : Int) < t.patterns.length := by omega
  have Hs := Lib.hid (fun (W : World) (hW : Only [] w W) => satisfies_any _ goal _ _ (t.patterns.getD i []) _ W (Rp.keep Ig.rd hW) (Rp.keep Iu.rd hW) hr)
  obtain ⟨s, hs⟩ : ∃ s, s = t.patterns.getD i [] := ⟨_, rfl⟩
  rw [← hs] at Hs hcS ⊢
  clear hs hr hS hg
  go_enter Tryz.func121, Tryz.ntmps121
  go_wp2
  go_region_held3 (fun w' => Only [] w w' ∧ w'.cell? ⟨gb, 0, none⟩ = some (.slice ag goal.length cg) ∧ w'.cell? ⟨eb, 0, none⟩ = some (.pointer (some ⟨g, 0, none⟩)) ∧ w'.cell? ⟨g, 3, none⟩ = some (.slice (some ⟨bS, oS, none⟩) t.patterns.length cS) ∧ w'.cell? ⟨bS, oS + i, none⟩ = some (.slice au s.length cu)) (((refine and_of ?_ (fun h__ => ⟨h__.cell (by simp) h1, h__.cell (by simp) h2, h__.cell (by simp) y3, h__.cell (by simp) hcS⟩)); first | exact (Only.refl _ _).drew | exact ((Only.refl _ _).drewN _).drew | exact Only.trans (And.left (by assumption)) (by assumption) | exact Only.alloc (And.left (by assumption)) _ | assumption)) (first | (go_at_call 122; (with_reducible refine (Hs.out _ (And.left (by assumption))).mono ?_); rintro e w5 ⟨rfl, t5⟩) | fail "no arm")
  have k5 : Only [] w w5 := (Only.refl [] w).trans (And.left (by assumption))
  go_wp2
  go_ret
  exact ⟨rfl, k5⟩
set_option maxHeartbeats 1000000 in
theorem goalDistances_any (x : Puzzle) (t : Table) (v vg : Value) (goal : List Int) (fg : List Nat) (w : World) (h : Exp w x t v) (he : expl x = some t) (hg : Rd w vg goal fg) (ht : trackB x.points goal = true) :
    Calls Tryz.prog 67 #[v, vg] w fun e w' => ∃ u, e = .returned u ∧ AccI w.heap.size 2 w' u (mD x t (gS goal)) ∧ Only [] w w' := by
  obtain ⟨ag, cg, rfl, Ig⟩ := hg.ints
  have hv : ∃ g : Nat, v = .pointer (some ⟨g, 0, none⟩) := by obtain ⟨g, _, _, _, _, _, _, _, _, _, _, _, _, hv, -⟩ := h; exact ⟨g, hv⟩
  obtain ⟨g, rfl⟩ := hv
  have k0 : Only [] w ((w.alloc (.cells #[.pointer (some ⟨g, 0, none⟩)] 75)).alloc (.cells #[.slice ag goal.length cg] 25)) := ((Only.refl _ _).alloc _).alloc _
  have c1 := lit1 (w.alloc (.cells #[.pointer (some ⟨g, 0, none⟩)] 75)) (.slice ag goal.length cg) 25 (g := w.heap.size + 1) (by simp)
  have c2 := ((Only.refl [] _).alloc (.cells #[.slice ag goal.length cg] 25)).cell (by simp) (lit1 w (.pointer (some ⟨g, 0, none⟩)) 75 rfl)
  have Hd := Lib.hid (distancesTo_any x t (.pointer (some ⟨g, 0, none⟩)) 121 #[.pointer (some ⟨w.heap.size + 1, 0, none⟩), .pointer (some ⟨w.heap.size, 0, none⟩)] (gS goal) _ (h.keep k0) he Tryz.call121 (fun i hi W hW => goal_closure x t (.pointer (some ⟨g, 0, none⟩)) (.slice ag goal.length cg) goal _ (w.heap.size + 1) w.heap.size i W ((h.keep k0).keep hW) he (Rp.keep hg (k0.trans hW)) ht hi (hW.cell (by simp) c1) (hW.cell (by simp) c2)))
  go_enter Tryz.func67, Tryz.ntmps67
  go_wp2_with (first
    | (go_at_call 78; (with_reducible refine (Hd.out).mono ?_); rintro e w1 ⟨u1, rfl, A1, t1⟩)
    | fail "no arm")
  go_ret
  exact ⟨u1, rfl, A1.mono (by simp; omega), k0.trans t1⟩
end Go.Proofs.YtclhblofchfglaaGreat

namespace Go.Proofs.YtclhblofchfglaaGreat
open Go.RowKit
set_option maxRecDepth 10000

set_option maxHeartbeats 1000000 in
theorem IsMethod_closure (gb : Nat) (vb : Value) (b : List Int) (fb : List Nat) (y : Int) (w : World) (h1 : w.cell? ⟨gb, 0, none⟩ = some vb) (hb : Rd w vb b fb) :
    Calls Tryz.prog 116 #[.int .i64 y, .pointer (some ⟨gb, 0, none⟩)] w fun e w' => e = .returned (.bool (!decide (y ∈ b))) ∧ Only [] w w' := by
  obtain ⟨a, c, rfl, I⟩ := hb.ints
  go_enter Tryz.func116, Tryz.ntmps116
  go_wp2_with (first
    | (go_at_call 117; (with_reducible refine (Contains_ints a c b y _ w I).mono ?_); rintro e w1 ⟨rfl, d1⟩; have t1 := d1.only [])
    | fail "no arm")
  go_ret
  exact ⟨rfl, t1⟩
set_option maxHeartbeats 4000000 in
theorem implIsMethod_any (cs : List Value) (x : Puzzle) (fp : List Nat) (v : Value) (goals : List (List Int)) (fg : List Nat) (w : World) (h : Rp.rep w cs x fp) (hg : Rd w v goals fg) :
    Calls Tryz.prog 65 #[.agg cs.toArray, v] w fun e w' => e = .returned (.bool (methB x goals)) ∧ Only [] w w' := by
  have h0 := h
  obtain ⟨v2, rfl, p0, p1, h2⟩ := h
  clear p0 p1 h2
  have hg0 := hg
  obtain ⟨a, cap, ob, fps, rfl, -, S⟩ := hg.open_
  have hb := S.bound
  have X0 : Blk (w.alloc (.cells #[.int .i64 x.points, .string x.names, v2] 33)) w.heap.size [.int .i64 x.points, .string x.names, v2] := Blk.new w [.int .i64 x.points, .string x.names, v2] 33
  rcases hv : validPz x
  · have Hf := Lib.hid (methB_no1 (goals := goals) hv)
    have Hv := Lib.hid hv
    clear hv
    go_enter Tryz.func65, Tryz.ntmps65
    go_wp2_with (first
      | (go_at_call 85; (with_reducible refine (implIsValidPuzzle_any [.int .i64 x.points, .string x.names, v2] x _ _ (Rp.keep h0 (by with_reducible repeat (first | exact Only.refl _ _ | assumption | refine Only.drewN ?_ _ | refine Only.drew ?_ | refine Only.alloc ?_ _ | refine Only.setCell ?_ (by intro hh; exfalso; simp at hh; try omega) _ | refine Only.trans ?_ (by assumption))))).mono ?_); rintro e w1 ⟨he, t1⟩; rw [Hv.out] at he; subst he)
      | fail "no arm")
    go_ret
    exact ⟨ret_bool Hf.out.symm, (by with_reducible repeat (first | exact Only.refl _ _ | assumption | refine Only.drewN ?_ _ | refine Only.drew ?_ | refine Only.alloc ?_ _ | refine Only.setCell ?_ (by intro hh; exfalso; simp at hh; try omega) _ | refine Only.trans ?_ (by assumption)))⟩
  have hvf := validPz_facts hv
  obtain ⟨q1, q20, -, -⟩ := hvf
  have Hv := Lib.hid hv
  rcases hr : inR (goals.length : Int) 1 5
  · have Hf := Lib.hid (methB_no2 (x := x) hr)
    have Hr := Lib.hid hr
    clear hv hr
    go_enter Tryz.func65, Tryz.ntmps65
    go_wp2_with (first
      | (go_at_call 85; (with_reducible refine (implIsValidPuzzle_any [.int .i64 x.points, .string x.names, v2] x _ _ (Rp.keep h0 (by with_reducible repeat (first | exact Only.refl _ _ | assumption | refine Only.drewN ?_ _ | refine Only.drew ?_ | refine Only.alloc ?_ _ | refine Only.setCell ?_ (by intro hh; exfalso; simp at hh; try omega) _ | refine Only.trans ?_ (by assumption))))).mono ?_); rintro e w1 ⟨he, t1⟩; rw [Hv.out] at he; subst he)
      | (go_at_call 97; (with_reducible refine (lengthRows_rd _ goals _ _ (Rp.keep hg0 (by with_reducible repeat (first | exact Only.refl _ _ | assumption | refine Only.drewN ?_ _ | refine Only.drew ?_ | refine Only.alloc ?_ _ | refine Only.setCell ?_ (by intro hh; exfalso; simp at hh; try omega) _ | refine Only.trans ?_ (by assumption))))).mono ?_); rintro e w1 ⟨rfl, rfl⟩)
      | (go_at_call 96; (with_reducible refine (within_any (goals.length : Int) 1 5 _).mono ?_); rintro e w1 ⟨he, rfl⟩; rw [Hr.out] at he; subst he)
      | fail "no arm")
    go_ret
    exact ⟨ret_bool Hf.out.symm, (by with_reducible repeat (first | exact Only.refl _ _ | assumption | refine Only.drewN ?_ _ | refine Only.drew ?_ | refine Only.alloc ?_ _ | refine Only.setCell ?_ (by intro hh; exfalso; simp at hh; try omega) _ | refine Only.trans ?_ (by assumption)))⟩
  have hrg := inR_iff.1 hr
  have Hr := Lib.hid hr
  clear hv hr
  go_enter Tryz.func65, Tryz.ntmps65
  go_upto_region 4 with (first
    | (go_at_call 85; (with_reducible refine (implIsValidPuzzle_any [.int .i64 x.points, .string x.names, v2] x _ _ (Rp.keep h0 (by with_reducible repeat (first | exact Only.refl _ _ | assumption | refine Only.drewN ?_ _ | refine Only.drew ?_ | refine Only.alloc ?_ _ | refine Only.setCell ?_ (by intro hh; exfalso; simp at hh; try omega) _ | refine Only.trans ?_ (by assumption))))).mono ?_); rintro e w1 ⟨he, t1⟩; rw [Hv.out] at he; subst he)
    | (go_at_call 97; (with_reducible refine (lengthRows_rd _ goals _ _ (Rp.keep hg0 (by with_reducible repeat (first | exact Only.refl _ _ | assumption | refine Only.drewN ?_ _ | refine Only.drew ?_ | refine Only.alloc ?_ _ | refine Only.setCell ?_ (by intro hh; exfalso; simp at hh; try omega) _ | refine Only.trans ?_ (by assumption))))).mono ?_); rintro e w1 ⟨rfl, rfl⟩)
    | (go_at_call 96; (with_reducible refine (within_any (goals.length : Int) 1 5 _).mono ?_); rintro e w1 ⟨he, rfl⟩; rw [Hr.out] at he; subst he)
    | fail "no arm")
  have K1 : Only [] w w1 := (by with_reducible repeat (first | exact Only.refl _ _ | assumption | refine Only.drewN ?_ _ | refine Only.drew ?_ | refine Only.alloc ?_ _ | refine Only.setCell ?_ (by intro hh; exfalso; simp at hh; try omega) _ | refine Only.trans ?_ (by assumption)))
  have X1 := X0.keep t1
  clear X0 t1
  go_loopw [18] (fun i wr => ∃ j : Nat, j ≤ goals.length ∧ i = .int .i64 j ∧ okTo x goals j ∧ Only [] w1 wr)
    (fun i _ => goals.length - (intOf i).toNat)
  case atStart => exact ⟨0, Nat.zero_le _, rfl, fun i hi => by omega, Only.refl _ _⟩
  case round =>
    obtain ⟨W2, hnew⟩ : ∃ W, W = wr := ⟨_, rfl⟩
    subst hnew
    obtain ⟨j, hj, rfl, hok, hK⟩ := hrel
    have kW := K1.trans hK
    have Hok := Lib.hid hok
    clear hok
    by_cases hlt : j < goals.length
    · obtain ⟨b, off, u, rfl, -, hc, hu⟩ := S.atRow j hlt
      have hgd : goals.getD j [] = goals[j] := getD_get hlt
      have hcw := kW.cell (by simp) hc
      obtain ⟨ag, cg, rfl, Ig⟩ := hu.ints
      obtain ⟨goal, hgl⟩ : ∃ goal, goal = goals[j] := ⟨_, rfl⟩
      rw [← hgl] at hgd Ig hcw
      have kb : Only [] W2 (W2.alloc (.cells #[.slice ag goal.length cg] 25)) := (Only.refl _ _).alloc _
      have c0 := lit1 W2 (.slice ag goal.length cg) 25 rfl
      have x0 := ((X1.keep hK).keep kb).cell 0 rfl
      have I2 := (Ig.keep kW).keep kb
      have Hgd := Lib.hid hgd
      clear hgl hc hu hgd
      rcases ht : trackB x.points goal
      · have Hf := Lib.hid (methB_no3 hlt (by rw [Hgd.out, ht]; simp))
        have Ht := Lib.hid ht
        clear ht
        go_wp2_with (first
          | (go_at_call 114; (with_reducible refine (isTracked_rd x.points _ goal _ _ I2.rd (by omega) (by omega)).mono ?_); rintro e w3 ⟨he, d3⟩; rw [Ht.out] at he; subst he; have t3 := d3.only [])
          | fail "no arm")
        go_ret
        exact ⟨ret_bool Hf.out.symm, (kW.trans kb).trans t3⟩
      · have Ht := Lib.hid ht
        clear ht
        go_upto_region 8 with (first
          | (go_at_call 114; (with_reducible refine (isTracked_rd x.points _ goal _ _ I2.rd (by omega) (by omega)).mono ?_); rintro e w3 ⟨he, d3⟩; rw [Ht.out] at he; subst he; have t3 := d3.only []; clear d3)
          | fail "no arm")
        have k3 := kb.trans t3
        have k3w := kW.trans k3
        have c3 := t3.cell (by simp) c0
        obtain ⟨gb, hgb⟩ : ∃ gb, gb = W2.heap.size := ⟨_, rfl⟩
        rw [← hgb] at c3 ⊢
        clear c0 x0 kb t3 hgb hcw I2
        obtain ⟨r, hr⟩ : ∃ r : Bool, r = (decide (0 < j) && !pairB (goals.getD (j - 1) []) goal) := ⟨_, rfl⟩
        go_cut [49] (fun s49 wx => s49 = .bool r ∧ Only [] w3 wx)
        case first =>
          by_cases hj0 : 0 < j
          · obtain ⟨jp, hjp⟩ : ∃ jp, jp = j - 1 := ⟨_, rfl⟩
            have hjl : jp < goals.length := by omega
            obtain ⟨b', off', u', hA', -, hc', hu'⟩ := S.atRow jp hjl
            injection hA' with hA'; injection hA' with hA1 hA2; subst hA1; subst hA2
            have hpd : goals.getD jp [] = goals[jp] := getD_get hjl
            obtain ⟨ap, cp, rfl, Ip⟩ := hu'.ints
            rw [← hjp] at hr
            obtain ⟨prev, hpv⟩ : ∃ prev, prev = goals[jp] := ⟨_, rfl⟩
            rw [← hpv] at hpd Ip hc'
            rw [hpd] at hr
            have hcp := k3w.cell (by simp) hc'
            have Ip3 := Ip.keep k3w
            have e1 : IntKind.i64.wrap ((j : Int) - 1) = (j : Int) - 1 := by rw [IntKind.wrap_i64]; omega
            have e2 : ((j : Int) - 1).toNat = jp := by omega
            have e3 : (0 : Int) ≤ (j : Int) - 1 := by omega
            have e4 : (j : Int) - 1 < (goals.length : Int) := by omega
            have e5 : (0 : Int) < (j : Int) := by omega
            have e6 : (1 : Int) ≤ (j : Int) := by omega
            clear hpv hpd hc' hu' hjp Ip
            by_cases hle : goal.length ≤ prev.length
            · have hge : decide ((goal.length : Int) ≤ (prev.length : Int)) = true := decide_eq_true (by omega)
              have hrr : r = true := by rw [hr]; unfold pairB; rw [decide_eq_false (by omega : ¬ prev.length < goal.length), decide_eq_true hj0]; rfl
              subst hrr
              clear hr
              go_quiet (fail)
              go_wp2
              go_meet
              exact ⟨rfl, (by with_reducible repeat (first | exact Only.refl _ _ | assumption | refine Only.drewN ?_ _ | refine Only.drew ?_ | refine Only.alloc ?_ _ | refine Only.setCell ?_ (by intro hh; exfalso; simp at hh; try omega) _ | refine Only.trans ?_ (by assumption)))⟩
            · have hge : decide ((goal.length : Int) ≤ (prev.length : Int)) = false := decide_eq_false (by omega)
              have hrr : r = prev.any fun y => !decide (y ∈ goal) := by
                rw [hr]; unfold pairB; rw [decide_eq_true (by omega : prev.length < goal.length), decide_eq_true hj0, Bool.true_and, Bool.true_and, List.not_all_eq_any_not]
              have hcf : ∀ W, Only [] w3 W → Calls Tryz.prog 115 #[.slice ap prev.length cp, .func (.func 116) #[] #[.pointer (some ⟨gb, 0, none⟩)]] W fun e w' => e = .returned (.bool r) ∧ Only [] W w' := fun W hW => by
                rw [hrr]
                exact ContainsFunc_ints 116 #[.pointer (some ⟨gb, 0, none⟩)] (fun y => !decide (y ∈ goal)) Tryz.call116 (.slice ap prev.length cp) prev _ W (Ip3.keep hW).rd (fun y hy W' hW' => IsMethod_closure gb (.slice ag goal.length cg) goal _ y W' ((hW.trans hW').cell (by simp) c3) (Ig.keep (k3w.trans (hW.trans hW'))).rd)
              have Hcf := Lib.hid hcf
              clear hcf hrr hr
              go_region_held3 (fun w' => Only [] w3 w' ∧ w'.cell? ⟨b, off + jp, none⟩ = some (.slice ap prev.length cp) ∧ w'.cell? ⟨gb, 0, none⟩ = some (.slice ag goal.length cg)) (((refine and_of ?_ (fun h__ => ⟨h__.cell (by simp) hcp, h__.cell (by simp) c3⟩)); first | exact (Only.refl _ _).drew | exact ((Only.refl _ _).drewN _).drew | exact Only.trans (And.left (by assumption)) (by assumption) | exact Only.alloc (And.left (by assumption)) _ | assumption)) (first | (go_at_call 115; (with_reducible refine (Hcf.out _ (And.left (by assumption))).mono ?_); rintro e w5 ⟨rfl, t5⟩) | fail "no arm")
              go_wp2
              go_meet
              exact ⟨rfl, (Only.refl [] w3).trans (And.left (by assumption))⟩
          · have e5 : ¬ (0 : Int) < (j : Int) := by omega
            have hrr : r = false := by rw [hr, decide_eq_false hj0]; rfl
            subst hrr
            clear hr
            go_quiet (fail)
            go_wp2
            go_meet
            exact ⟨rfl, (by with_reducible repeat (first | exact Only.refl _ _ | assumption | refine Only.drewN ?_ _ | refine Only.drew ?_ | refine Only.alloc ?_ _ | refine Only.setCell ?_ (by intro hh; exfalso; simp at hh; try omega) _ | refine Only.trans ?_ (by assumption)))⟩
        case rest =>
          obtain ⟨W4, hnew⟩ : ∃ W, W = wc := ⟨_, rfl⟩
          subst hnew
          obtain ⟨rfl, k4⟩ := hcut
          cases r
          · have Hn := Lib.hid (Hok.out.next (by rw [Hgd.out]; exact Ht.out) (fun h0 => by
              rw [decide_eq_true h0, Bool.true_and] at hr
              rw [Hgd.out]
              cases hp : pairB (goals.getD (j - 1) []) goal
              · rw [hp] at hr; cases hr
              · rfl))
            clear hr
            go_wp2
            go_roundw
            case rel => exact ⟨j + 1, by omega, by go_num, Hn.out, hK.trans (k3.trans k4)⟩
            case measure => simp [intOf]; omega
          · have Hf := Lib.hid (methB_no3 (x := x) hlt (fun hc => by
              have h3 := hr.symm
              rw [Bool.and_eq_true] at h3
              have h4 := hc.2 (of_decide_eq_true h3.1)
              rw [Hgd.out] at h4
              rw [h4] at h3
              exact absurd h3.2 (by simp)))
            clear hr
            go_wp2
            go_ret
            exact ⟨ret_bool Hf.out.symm, k3w.trans k4⟩
    · have hje : j = goals.length := by omega
      have hok := Hok.out
      rw [hje] at hok
      have Hf := Lib.hid (methB_end Hv.out Hr.out hok)
      have hlp : goals.length - 1 < goals.length := by omega
      obtain ⟨b, off, u, rfl, -, hc, hu⟩ := S.atRow (goals.length - 1) hlp
      have hgd : goals.getD (goals.length - 1) [] = goals[goals.length - 1] := getD_get hlp
      obtain ⟨al, cl, rfl, Il⟩ := hu.ints
      obtain ⟨last, hl⟩ : ∃ l, l = goals[goals.length - 1] := ⟨_, rfl⟩
      rw [← hl] at hgd Il hc
      rw [hgd] at Hf
      obtain ⟨jp, hjp⟩ : ∃ jp, jp = goals.length - 1 := ⟨_, rfl⟩
      rw [← hjp] at hc
      have e1 : IntKind.i64.wrap ((goals.length : Int) - 1) = (goals.length : Int) - 1 := by rw [IntKind.wrap_i64]; omega
      have e2 : ((goals.length : Int) - 1).toNat = jp := by omega
      have e3 : (0 : Int) ≤ (goals.length : Int) - 1 := by omega
      have e4 : (goals.length : Int) - 1 < (goals.length : Int) := by omega
      have hcw := kW.cell (by simp) hc
      have x0 := (X1.keep hK).cell 0 rfl
      have Il2 := Il.keep kW
      have hjI : ¬ (j : Int) < (goals.length : Int) := by omega
      clear hl hgd hjp hc hu Hok hok hje
      go_upto_region 11 with fail
      go_region_held3 (fun w' => Only [] W2 w' ∧ w'.cell? ⟨b, off + jp, none⟩ = some (.slice al last.length cl) ∧ w'.cell? ⟨w.heap.size, 0, none⟩ = some (.int .i64 x.points)) (((refine and_of ?_ (fun h__ => ⟨h__.cell (by simp) hcw, h__.cell (by simp) x0⟩)); first | exact (Only.refl _ _).drew | exact ((Only.refl _ _).drewN _).drew | exact Only.trans (And.left (by assumption)) (by assumption) | exact Only.alloc (And.left (by assumption)) _ | assumption)) (first | (go_at_call 47; (with_reducible refine (lengthInt_q _ last _ _ (Il2.keep (And.left (by assumption))).rd).mono ?_); rintro e w5 ⟨rfl, d5⟩; have t5 := d5.only []) | fail "no arm")
      have k5 : Only [] W2 w5 := (Only.refl [] W2).trans (And.left (by assumption))
      go_wp2
      go_ret
      exact ⟨ret_bool Hf.out.symm, kW.trans k5⟩
end Go.Proofs.YtclhblofchfglaaGreat
