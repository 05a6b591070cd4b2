/- The program's distances of all states to a set of them, by a queue (laws 41, 46, 51, 57, 58). The distances of the first phase, by the reference (laws 46, 51, 57, 58). -/
import Derived.Test.YtclhblofchfglaaGreatRowTwoPhaseCertifiedG14
import Derived.Test.YtclhblofchfglaaGreatRowTwoPhaseCertifiedG16
import Derived.Test.YtclhblofchfglaaGreatRowTwoPhaseCertifiedG6
import Derived.Test.YtclhblofchfglaaGreatRowTwoPhaseCertifiedG7
import Derived.Test.YtclhblofchfglaaGreatRowTwoPhaseCertifiedG13
import Derived.Deep.RegionHeld3
namespace Go.Proofs.YtclhblofchfglaaGreat
open Go.RowKit
set_option maxRecDepth 10000

/-- distances (a row of the call's own, g) and a queue -/
structure DQ (e : TypeId) (B : Nat) (w : World) (g c N : Nat) (wr : World) (q : Value) (D Q : List Int) : Prop where
  ds : AccI B e wr (.slice (some ⟨g, 0, none⟩) N c) D
  qu : Que e B wr q Q
  ap : q.ownBlock ≠ some g
  on : Only [] w wr
section
variable {e : TypeId} {B : Nat} {w : World} {g c N : Nat} {wr wa wb w' : World} {q q' : Value} {D Q Q' : List Int}
theorem DQ.keep (h : DQ e B w g c N wr q D Q) (ho : Only [] wr w') : DQ e B w g c N w' q D Q := ⟨h.ds.keep ho, h.qu.keep ho, h.ap, h.on.trans ho⟩
theorem AccI.len_ {l : List Int} {a : Option Addr} {n c : Nat} (h : AccI B e wr (.slice a n c) l) : n = l.length := by
  obtain ⟨a', c', hv⟩ := h.form
  injection hv
theorem AccI.mono {B' : Nat} {v : Value} {l : List Int} (h : AccI B e wr v l) (hB : B' ≤ B) : AccI B' e wr v l := by
  obtain ⟨hO, hI⟩ := h.row
  refine AccI.ofRow ⟨hO.1, ?_⟩ hI
  rcases hO.2 with h | ⟨g, cap, cur, hv, hb, r⟩
  · exact .inl h
  · exact .inr ⟨g, cap, cur, hv, Nat.le_trans hB hb, r⟩
theorem DQ.put (h : DQ e B w g c N wr q D Q) (hB : w.heap.size ≤ B) {i : Nat} (hi : i < D.length) {x : Int} (hx : I64 x) :
    wr.cell? ⟨g, i, none⟩ = some (.int .i64 D[i]) ∧ wr.frozen? ⟨g, i, none⟩ = false ∧ DQ e B w g c N (wr.setCell ⟨g, i, none⟩ (.int .i64 x)) q (D.set i x) Q := by
  obtain ⟨g', c', hv, h1, h2, h3, h4⟩ := h.ds.put hi hx
  injection hv with e1 e2 e3
  injection e1 with e1; injection e1 with e1
  subst e1
  have hs : Only [g] wr (wr.setCell ⟨g, i, none⟩ (.int .i64 x)) := (Only.refl _ _).setCell (by simp) _
  exact ⟨h1, h2, h4, h.qu.only hs (fun b hb hm => h.ap (by rw [hb]; simp at hm; rw [hm])), h.ap, h.on.then_ hs (fun b hb hl => by simp at hb; subst hb; omega)⟩
theorem DQ.cell (h : DQ e B w g c N wr q D Q) {i : Nat} (hi : i < D.length) : wr.cell? ⟨g, i, none⟩ = some (.int .i64 D[i]) := by
  obtain ⟨g', c', hv, h1, -⟩ := h.ds.put hi (x := 0) (by unfold I64; omega)
  injection hv with e1 e2 e3
  injection e1 with e1; injection e1 with e1
  subst e1
  exact h1
theorem DQ.push (h : DQ e B w g c N wa q D Q) (hw : w.heap.size ≤ B) (hq : Que e B wb q' Q') (oq : Only q.ownBlock.toList wa wb) (nq : q'.ownBlock = q.ownBlock ∨ q'.ownBlock = some wa.heap.size) : DQ e B w g c N wb q' D Q' := by
  have hg := (h.ds.ownlt g rfl).2
  refine ⟨h.ds.only oq (fun b hb hm => ?_), hq, own_after nq h.ap hg, h.on.then_ oq (fun b hb hl => ?_)⟩
  · simp only [Value.ownBlock, Option.some.injEq] at hb
    subst hb
    exact h.ap (by simpa using hm)
  · have := (h.qu.lt b (by simpa using hb)).1
    omega
theorem DQ.pop (h : DQ e B w g c N wr q D Q) (hq : Que e B wr q' Q') (ho : q'.ownBlock = q.ownBlock) : DQ e B w g c N wr q' D Q' := ⟨h.ds, hq, by rw [ho]; exact h.ap, h.on⟩
end
/-- how many cells of a row hold negative numbers -/
def negW (w : World) (g N : Nat) : Nat := ((List.range N).filter fun v => match w.cell? ⟨g, v, none⟩ with | some (.int _ m) => decide (m < 0) | _ => false).length
theorem DQ.negW_ {e : TypeId} {B : Nat} {w : World} {g c N : Nat} {wr : World} {q : Value} {D Q : List Int} (h : DQ e B w g c N wr q D Q) : negW wr g N = negL N D := by
  have hl := h.ds.len_
  unfold negW negL
  congr 1
  refine List.filter_congr fun v hv => ?_
  have hv' : v < D.length := by rw [List.mem_range] at hv; omega
  rw [h.cell hv', getD_get hv']
section
variable {x : Puzzle} {t : Table} {src : List Int → Bool}
theorem rowT_get (hb : Built x t) {v : Nat} (hv : v < t.patterns.length) : rowT x t (t.patterns.getD v []) = (mRow x t v).map fun (tt : Nat) => (tt : Int) := by
  unfold rowT mRow
  rw [List.map_map]
  refine List.map_congr_left fun l hl => ?_
  obtain ⟨j, -, -, e⟩ := idx_step hb hv hl
  show idxL t.patterns (nxt x (t.patterns.getD v []) l) = (((idxL t.patterns (nxt x (t.patterns.getD v []) l)).toNat : Nat) : Int)
  rw [e, Int.toNat_natCast]
end
set_option maxHeartbeats 4000000 in
theorem distancesTo_any (x : Puzzle) (t : Table) (v : Value) (fv : FuncId) (pre caps : Array Value) (src : List Int → Bool) (w : World) (h : Exp w x t v) (he : expl x = some t)
    (hcf : ∀ args w, (callFunc fv args).run Tryz.prog w = .ok (.enter fv args) w)
    (hc : ∀ i : Nat, i < t.patterns.length → ∀ W, Only [] w W → Calls Tryz.prog fv (pre.push (.int .i64 i) ++ caps) W fun e w'' => e = .returned (.bool (src (t.patterns.getD i []))) ∧ Only [] W w'') :
    Calls Tryz.prog 78 #[v, .func (.func fv) pre caps] w fun e w' => ∃ u, e = .returned u ∧ AccI w.heap.size 2 w' u (mD x t src) ∧ Only [] w w' := by
  obtain ⟨g, M, v2, us, ud, up, uy, un, fm, f1, f2, f3, km, rfl, hB, -, hS, -, hN, -⟩ := h
  obtain ⟨hb, -⟩ := expl_built he
  obtain ⟨aS, cS, obS, fpS, rfl, -, SS⟩ := hS.open_
  obtain ⟨aN, cN, obN, fpN, rfl, -, SN⟩ := hN.open_
  obtain ⟨i0, hi, hz0, hz1, hz2⟩ := info_parts Tryz.info2
  have hll := hb.ll
  have hne := hb.bi.ne
  have HC := Lib.hid hc
  have Hb := Lib.hid hb
  have hlN : (t.patterns.map (rowT x t)).length = t.patterns.length := List.length_map _
  have y3 := hB.cell 3 rfl
  have y8 := hB.cell 8 rfl
  rw [hlN] at y8
  obtain ⟨N, hNe⟩ : ∃ N, N = t.patterns.length := ⟨_, rfl⟩
  have HNe := Lib.hid hNe
  have hN1 : 1 ≤ N := by rw [hNe]; exact hne
  have hN3 : N ≤ 3000 := by omega
  obtain ⟨sr, hsr⟩ : ∃ sr : Nat → Bool, sr = fun i => src (t.patterns.getD i []) := ⟨_, rfl⟩
  obtain ⟨row, hrow⟩ : ∃ row, row = mRow x t := ⟨_, rfl⟩
  have hfin : mD x t src = (mRun row (N + 1) 0 (mSrc sr N)).1 := by rw [hrow, hsr, hNe]; rfl
  have hsr' : ∀ i : Nat, src (t.patterns.getD i []) = sr i := fun i => by rw [hsr]
  have hrl : ∀ v, v < N → ∀ tt ∈ row v, tt < N := fun v hv tt ht => by rw [hNe] at hv ⊢; rw [hrow] at ht; exact mRow_lt hb hv tt ht
  have hrr : ∀ v, v < N → rowT x t (t.patterns.getD v []) = (row v).map fun (tt : Nat) => (tt : Int) := fun v hv => by rw [hNe] at hv; rw [hrow]; exact rowT_get hb hv
  have Hfin := Lib.hid hfin
  have Hsr := Lib.hid hsr'
  have Hrl := Lib.hid hrl
  have Hrr := Lib.hid hrr
  rw [← hNe] at y3 y8
  have hlen : ∀ W, Only [] w W → Calls Tryz.prog 97 #[.slice aS N cS] W fun e w' => e = .returned (.int .i64 N) ∧ w' = W := fun W hW => by
    have := lengthRows_rd _ t.patterns _ W (SS.frame fun b hb => hW.block b (SS.lt_all b hb) (by simp)).rd
    rwa [← hNe] at this
  have Hlen := Lib.hid hlen
  clear hlen hc hb hlN hNe hsr hrow hfin hsr' hrl hrr hS hN hne
  go_enter Tryz.func78, Tryz.ntmps78
  have d0 : (w.alloc (.cells #[.int .i64 (-1)] 2)).cell? ⟨w.heap.size, 0, none⟩ = some (.int .i64 (-1)) := lit1 w _ _ rfl
  have y3a := ((Only.refl [] w).alloc (.cells #[.int .i64 (-1)] 2)).cell (by simp) y3
  go_upto_region 4 with (first
    | (go_at_call 130; (with_reducible refine (Repeat_one w.heap.size N (-1) _ (by unfold I64; omega) hN1 (by omega) d0).mono ?_); rintro e w1 ⟨u1, rfl, A1, t1⟩; have K1 := ((Only.refl [] w).alloc (.cells #[.int .i64 (-1)] 2)).trans t1; have y3' := K1.cell (by simp) y3)
    | (go_at_call 97; (with_reducible refine (Hlen.out _ K1).mono ?_); rintro e w1 ⟨rfl, rfl⟩)
    | fail "no arm")
  obtain ⟨g5, c5, hu1, -, -, hg5, -⟩ := A1.put (i := 0) (by rw [List.length_replicate]; omega) (x := 0) (by unfold I64; omega)
  rw [List.length_replicate] at hu1
  subst hu1
  rw [← srcD_zero (src := sr)] at A1
  have hcW : ∀ i : Nat, i < N → ∀ W, Only [] w W → Calls Tryz.prog fv (pre.push (.int .i64 i) ++ caps) W fun e w'' => e = .returned (.bool (sr i)) ∧ Only [] W w'' := fun i hi W hW => by
    have := HC.out i (by rw [← HNe.out]; exact hi) W hW
    rwa [Hsr.out i] at this
  have HCW := Lib.hid hcW
  clear hcW HC d0 y3 y3a y3'
  go_loopw [6, 22] (fun q i wr => ∃ k : Nat, k ≤ N ∧ i = .int .i64 k ∧ DQ 2 w.heap.size w g5 c5 N wr q (srcD sr N k) (srcQ sr k))
    (fun _ i _ => N - (intOf i).toNat)
  case atStart => exact ⟨0, Nat.zero_le _, rfl, A1.mono (by simp), (by rw [show srcQ sr 0 = ([] : List Int) from rfl]; exact Que.ofAcc (Acc.nil _ _ _) (by simp)), by simp [Value.ownBlock], K1⟩
  case round =>
    obtain ⟨W2, hnew⟩ : ∃ W, W = wr := ⟨_, rfl⟩
    subst hnew
    obtain ⟨k, hk, rfl, hD⟩ := hrel
    by_cases hlt : k < N
    · have hK := hD.on
      have HD := Lib.hid hD
      clear hD
      rcases hs : sr k
      · have H1 := Lib.hid (srcD_no hlt hs)
        have H2 := Lib.hid (srcQ_no hs)
        have Hs := Lib.hid hs
        clear hs
        go_wp2_with (with_reducible refine (HCW.out k hlt _ hK).mono ?_; rintro e w3 ⟨he, t3⟩; rw [Hs.out] at he; subst he)
        go_roundw
        case rel => exact ⟨k + 1, by omega, by go_num, by rw [H1.out, H2.out]; exact HD.out.keep t3⟩
        case measure => simp [intOf]; omega
      · have H1 := Lib.hid (srcD_yes hlt hs)
        have H2 := Lib.hid (srcQ_yes hs)
        have Hs := Lib.hid hs
        have hql := srcQ_len (src := sr) (k := k)
        have hkI : I64 (k : Int) := by unfold I64; omega
        clear hs
        go_upto_region 7 with (with_reducible refine (HCW.out k hlt _ hK).mono ?_; rintro e w3 ⟨he, t3⟩; rw [Hs.out] at he; subst he)
        obtain ⟨p1, p2, hD3⟩ := (HD.out.keep t3).put (Nat.le_refl _) (i := k) (by rw [srcD_len hk]; omega) (x := 0) (by unfold I64; omega)
        have HD3 := Lib.hid hD3
        clear hD3
        go_upto_region 8 with fail
        obtain ⟨w4, hw4⟩ : ∃ w4, w4 = w3.setCell ⟨g5, k, none⟩ (.int .i64 0) := ⟨_, rfl⟩
        rw [← hw4] at HD3 ⊢
        have HK4 := HD3.out.on.size
        clear hw4 p1 p2
        have hlit := lit1 w4 (.int .i64 k) 2 rfl
        go_wp2_with (at_builtin; refine wpList_que rfl _ _ 25 rfl 2 i0 _ Tryz.underlying25 hi hz0 hz1 hz2 rfl u6 _ rfl (HD3.out.qu.keep ((Only.refl _ _).alloc _)) ⟨w4.heap.size, 0, none⟩ 1 (k : Int) rfl hkI hlit (by omega) (by simp; omega) ?_; intro v5 w5 hq5 ho5 hn5)
        have hD5 := (HD3.out.keep ((Only.refl _ _).alloc (.cells #[.int .i64 k] 2))).push (Nat.le_refl _) hq5 ho5 hn5
        go_roundw
        case rel => exact ⟨k + 1, by omega, by go_num, by rw [H1.out, H2.out]; exact hD5⟩
        case measure => simp [intOf]; omega
    · obtain rfl : N = k := by omega
      rw [srcD_end, srcQ_end] at hD
      have HD := Lib.hid hD
      have HSN := Lib.hid SN
      have Y8 := Lib.hid y8
      clear hD SN SS t1 K1 y8
      go_wp2
      go_loopw [6] (fun q wr => ∃ (k : Nat) (s : MbS), MbI sr row N k [] s ∧ k ≤ s.2.length ∧ mRun row (N + 1 - k) k s = mRun row (N + 1) 0 (mSrc sr N) ∧ DQ 2 w.heap.size w g5 c5 N wr q s.1 ((s.2.drop k).map fun (i : Nat) => (i : Int)))
        (fun q wr => negW wr g5 N + lenV q)
      case atStart => exact ⟨0, mSrc sr N, MbI.start, Nat.zero_le _, rfl, by simpa using HD.out⟩
      case round =>
        clear HD
        obtain ⟨W2, hnew⟩ : ∃ W, W = wr := ⟨_, rfl⟩
        subst hnew
        obtain ⟨k, s, hI, hk, hrun, hD⟩ := hrel
        have hms : negW W2 g5 N + lenV u6 = N - k := by
          rw [hD.negW_, hD.qu.lenV, List.length_map, List.length_drop]
          have := hI.neg_len
          omega
        by_cases hlt : k < s.2.length
        · obtain ⟨v0, hv0⟩ : ∃ v0, v0 = s.2.getD k 0 := ⟨_, rfl⟩
          have hvN : v0 < N := by rw [hv0]; exact hI.rng _ (getD_mem9 hlt)
          have hkN : k < N := Nat.lt_of_lt_of_le hlt hI.len
          have e := drop_head hlt
          rw [← hv0] at e
          have hD0 := hD
          rw [e, List.map_cons] at hD
          obtain ⟨gq, oq, cq, hu6, hcq1, hcq2, hcq⟩ := hD.qu.head
          obtain ⟨nq1, hnq⟩ : ∃ n, n = (List.map (fun (i : Nat) => (i : Int)) (s.2.drop (k + 1))).length := ⟨_, rfl⟩
          rw [← hnq] at hu6 hcq1
          have hnb : nq1 ≤ 3000 := by rw [hnq, List.length_map, List.length_drop]; have := hI.len; omega
          subst hu6
          have hK := hD.on
          have y8w := hK.cell (by simp) Y8.out
          obtain ⟨bN, oN, ur, hAN, -, hcN, hur⟩ := HSN.out.atRow v0 (by rw [List.length_map, ← HNe.out]; exact hvN)
          subst hAN
          have hcNw := hK.cell (by simp) hcN
          rw [List.getElem_map] at hur
          have hrv := Hrr.out v0 hvN
          rw [getD_get (by rw [← HNe.out]; exact hvN)] at hrv
          rw [hrv] at hur
          obtain ⟨rw0, hrw0⟩ : ∃ r : List Nat, r = row v0 := ⟨_, rfl⟩
          rw [← hrw0] at hur
          obtain ⟨aR, cR, hur2, IR⟩ := Rd.ints hur
          rw [List.length_map] at hur2
          subst hur2
          have hrb : rw0.length ≤ 9223372036854775807 := by have := IR.bound; rwa [List.length_map] at this
          have hvi : (v0 : Int) < (N : Int) := by omega
          have HI := Lib.hid hI
          have HD0 := Lib.hid hD0
          have Hv0 := Lib.hid hv0
          have Hrw := Lib.hid hrw0
          have Hrun := Lib.hid hrun
          have Hms := Lib.hid hms
          clear hI hD0 hD e hv0 hrun hms hnq hur hrv hcN hrw0
          go_wp2
          go_quiet (fail)
          have hKq : Only [] W2 (W2.drewN nq) := Only.ofDrewN W2 nq []
          have hDq := HD0.out.keep hKq
          have HDq := Lib.hid hDq
          clear hDq HD0 hcq hcNw y8w
          go_wp2
          go_loopw [6, 51] (fun q i wr => ∃ j : Nat, j ≤ rw0.length ∧ i = .int .i64 j ∧ DQ 2 w.heap.size w g5 c5 N wr q ((rw0.take j).foldl (mRel v0) s).1 ((((rw0.take j).foldl (mRel v0) s).2.drop k).map fun (i : Nat) => (i : Int)))
            (fun _ i _ => rw0.length - (intOf i).toNat)
          case atStart => exact ⟨0, Nat.zero_le _, rfl, HDq.out⟩
          case round =>
            clear HDq
            obtain ⟨W3, hnew⟩ : ∃ W, W = wr := ⟨_, rfl⟩
            subst hnew
            obtain ⟨j, hj, rfl, hD⟩ := hrel
            have hP := MbI.part HI.out Hrl.out hlt Hv0.out.symm j
            rw [← Hrw.out] at hP
            obtain ⟨sj, hsj⟩ : ∃ sj, sj = (rw0.take j).foldl (mRel v0) s := ⟨_, rfl⟩
            rw [← hsj] at hP hD
            obtain ⟨hIj, hkj, hvj⟩ := hP
            by_cases hlj : j < rw0.length
            · have hst := fold_take (mRel v0) rw0 j hlj s
              rw [← hsj] at hst
              have htm : rw0[j] ∈ row v0 := by rw [← Hrw.out]; exact List.getElem_mem hlj
              have htN : rw0[j] < N := Hrl.out v0 hvN _ htm
              obtain ⟨tt, htt⟩ : ∃ tt, tt = rw0[j] := ⟨_, rfl⟩
              rw [← htt] at hst htN
              have hK3 := hD.on
              have IR3 := IR.keep hK3
              obtain ⟨bR, oR, hAR, -, hcR⟩ := IR3.at_ j (by rw [List.length_map]; exact hlj)
              subst hAR
              rw [List.getElem_map, ← htt] at hcR
              have hdl := hIj.dl
              have hcT := hD.cell (i := tt) (by omega)
              obtain ⟨dt, hdt⟩ : ∃ dt, dt = sj.1[tt]'(by omega) := ⟨_, rfl⟩
              rw [← hdt] at hcT
              have hdg : sj.1.getD tt 0 = dt := by rw [getD_get (by omega), hdt]
              have httI : I64 (tt : Int) := by unfold I64; omega
              by_cases hneg : dt < 0
              · rw [mRel_yes (by rw [hdg]; exact hneg)] at hst
                have e := drop_head hkj
                rw [hvj] at e
                have hD0 := hD
                rw [e, List.map_cons] at hD
                obtain ⟨g6, o6, c6, hu6, h61, h62, h63⟩ := hD.qu.head
                obtain ⟨n6, hn6⟩ : ∃ n, n = (List.map (fun (i : Nat) => (i : Int)) (sj.2.drop (k + 1))).length := ⟨_, rfl⟩
                rw [← hn6] at hu6 h61
                have hnb6 : n6 ≤ 3000 := by rw [hn6, List.length_map, List.length_drop]; have := hIj.len; omega
                subst hu6
                have hcV := hD.cell (i := v0) (by omega)
                obtain ⟨dv, hdv⟩ : ∃ dv, dv = sj.1[v0]'(by omega) := ⟨_, rfl⟩
                rw [← hdv] at hcV
                have hdvg : sj.1.getD v0 0 = dv := by rw [getD_get (by omega), hdv]
                have hdv0 : -1 ≤ dv := by rw [← hdvg]; exact hIj.neg v0 hvN
                have hdvN : dv < N := by rw [← hdvg]; exact hIj.bound hvN
                rw [hdvg] at hst
                have hwv : IntKind.i64.wrap (dv + 1) = dv + 1 := by rw [IntKind.wrap_i64]; omega
                obtain ⟨-, p2, hD4⟩ := hD0.put (Nat.le_refl _) (i := tt) (by omega) (x := dv + 1) (by unfold I64; omega)
                have Hst := Lib.hid hst
                have HD4 := Lib.hid hD4
                have hdr : (sj.2 ++ [tt]).drop k = sj.2.drop k ++ [tt] := List.drop_append_of_le_length (by omega)
                have Hdr := Lib.hid hdr
                have hql : ((sj.2.drop k).map fun (i : Nat) => (i : Int)).length + 1 ≤ 1073741824 := by rw [List.length_map, List.length_drop]; have := hIj.len; omega
                have Hql := Lib.hid hql
                clear hst hD4 hD hD0 e hdt hdg hdv hdvg hsj htt hdr hql hn6 hvj
                go_upto_region 17 with fail
                obtain ⟨w4, hw4⟩ : ∃ w4, w4 = W3.setCell ⟨g5, tt, none⟩ (.int .i64 (dv + 1)) := ⟨_, rfl⟩
                rw [← hw4] at HD4 ⊢
                have HK4 := HD4.out.on.size
                clear hw4 p2 hcT hcV hcR h63
                have hlit := lit1 w4 (.int .i64 tt) 2 rfl
                go_wp2_with (at_builtin; refine wpList_que rfl _ _ 25 rfl 2 i0 _ Tryz.underlying25 hi hz0 hz1 hz2 rfl (.slice (some ⟨g6, o6, none⟩) (n6 + 1) c6) _ rfl (HD4.out.qu.keep ((Only.refl _ _).alloc _)) ⟨w4.heap.size, 0, none⟩ 1 (tt : Int) rfl httI hlit Hql.out (by simp; omega) ?_; intro v5 w5 hq5 ho5 hn5)
                have hD5 := (HD4.out.keep ((Only.refl _ _).alloc (.cells #[.int .i64 tt] 2))).push (Nat.le_refl _) hq5 ho5 hn5
                go_roundw
                case rel => exact ⟨j + 1, by omega, by go_num, by rw [Hst.out]; show DQ _ _ _ _ _ _ _ _ (sj.1.set tt (dv + 1)) (((sj.2 ++ [tt]).drop k).map _); rw [Hdr.out, List.map_append]; exact hD5⟩
                case measure => simp [intOf]; omega
              · rw [mRel_no (by rw [hdg]; exact hneg)] at hst
                have Hst := Lib.hid hst
                have HD := Lib.hid hD
                have hnb : decide (dt < 0) = false := decide_eq_false hneg
                clear hst hD hdt hdg hsj htt
                go_wp2
                go_roundw
                case rel => exact ⟨j + 1, by omega, by go_num, by rw [Hst.out]; exact HD.out⟩
                case measure => simp [intOf]; omega
            · have hje : rw0.length = j := by omega
              have hst2 : sj = (row v0).foldl (mRel v0) s := by rw [hsj, ← hje, List.take_length, Hrw.out]
              have hIn := hIj.next hkj (by rw [hvj, ← Hrw.out, ← hje, List.take_length]; exact fun _ h => h)
              have hrun2 : mRun row (N + 1 - (k + 1)) (k + 1) sj = mRun row (N + 1) 0 (mSrc sr N) := by
                rw [← Hrun.out, show N + 1 - k = (N + 1 - (k + 1)) + 1 by omega, mRun_go hlt, hst2, ← Hv0.out]; rfl
              have e := drop_head hkj
              rw [e, List.map_cons] at hD
              obtain ⟨v7, hrun7, hq7, ho7⟩ := hD.qu.pop (P := Tryz.prog) Tryz.underlying25 (fun w => by simp [sizeOf, typeInfo, hi, hz1])
              have hr7 := hrun7 W3
              have hD7 := hD.pop hq7 ho7
              have HD7 := Lib.hid hD7
              have HIn := Lib.hid hIn
              have Hrun2 := Lib.hid hrun2
              have hms7 : negW W3 g5 N + lenV v7 = N - (k + 1) := by
                rw [hD7.negW_, hq7.lenV, List.length_map, List.length_drop]
                have := hIn.neg_len
                omega
              have Hms7 := Lib.hid hms7
              have Hkj := Lib.hid hkj
              clear hst2 hIn hrun2 e hD hq7 ho7 hD7 hms7 hsj hvj
              go_wp2
              go_roundw
              case rel => exact ⟨k + 1, sj, HIn.out, Hkj.out, Hrun2.out, HD7.out⟩
              case measure => rw [Hms.out, Hms7.out]; omega
        · have hke : k = s.2.length := by omega
          subst hke
          rw [mRun_end (by omega)] at hrun
          have Hf := Lib.hid (Hfin.out.trans (by rw [← hrun]) : mD x t src = s.1)
          have HD := Lib.hid hD
          have hz0 : lenV u6 = 0 := by rw [hD.qu.lenV]; simp
          obtain ⟨a6, c6, hu6⟩ := hD.qu.form
          rw [List.drop_length, List.map_nil, List.length_nil] at hu6
          subst hu6
          clear hD hms hrun hI
          go_wp2
          go_ret
          exact ⟨_, rfl, by rw [Hf.out]; exact HD.out.ds, HD.out.on⟩
end Go.Proofs.YtclhblofchfglaaGreat

namespace Go.Proofs.YtclhblofchfglaaGreat
open Go.RowKit
set_option maxRecDepth 10000

/-- distances (a row of the call's own, g) and a list -/
structure DA (e : TypeId) (B : Nat) (w : World) (g c N : Nat) (wr : World) (q : Value) (D Q : List Int) : Prop where
  ds : AccI B e wr (.slice (some ⟨g, 0, none⟩) N c) D
  qu : AccI B e wr q Q
  ap : q.ownBlock ≠ some g
  on : Only [] w wr
section
variable {e : TypeId} {B : Nat} {w : World} {g c N : Nat} {wr wa wb w' : World} {q q' : Value} {D Q Q' : List Int}
theorem DA.keep (h : DA e B w g c N wr q D Q) (ho : Only [] wr w') : DA e B w g c N w' q D Q := ⟨h.ds.keep ho, h.qu.keep ho, h.ap, h.on.trans ho⟩
theorem DA.put (h : DA e B w g c N wr q D Q) (hB : w.heap.size ≤ B) {i : Nat} (hi : i < D.length) {x : Int} (hx : I64 x) :
    wr.cell? ⟨g, i, none⟩ = some (.int .i64 D[i]) ∧ wr.frozen? ⟨g, i, none⟩ = false ∧ Only [g] wr (wr.setCell ⟨g, i, none⟩ (.int .i64 x)) ∧ DA e B w g c N (wr.setCell ⟨g, i, none⟩ (.int .i64 x)) q (D.set i x) Q := by
  obtain ⟨g', c', hv, h1, h2, h3, h4⟩ := h.ds.put hi hx
  injection hv with e1 e2 e3
  injection e1 with e1; injection e1 with e1
  subst e1
  have hs : Only [g] wr (wr.setCell ⟨g, i, none⟩ (.int .i64 x)) := (Only.refl _ _).setCell (by simp) _
  exact ⟨h1, h2, hs, h4, h.qu.only hs (fun b hb hm => h.ap (by rw [hb]; simp at hm; rw [hm])), h.ap, h.on.then_ hs (fun b hb hl => by simp at hb; subst hb; omega)⟩
theorem DA.cell (h : DA e B w g c N wr q D Q) {i : Nat} (hi : i < D.length) : wr.cell? ⟨g, i, none⟩ = some (.int .i64 D[i]) := by
  obtain ⟨g', c', hv, h1, -⟩ := h.ds.put hi (x := 0) (by unfold I64; omega)
  injection hv with e1 e2 e3
  injection e1 with e1; injection e1 with e1
  subst e1
  exact h1
theorem DA.at_ (h : DA e B w g c N wr q D Q) {i : Nat} (hi : i < Q.length) : ∃ gq cq, q = .slice (some ⟨gq, 0, none⟩) Q.length cq ∧ wr.cell? ⟨gq, i, none⟩ = some (.int .i64 Q[i]) := by
  obtain ⟨g', c', hv, h1, -⟩ := h.qu.put hi (x := 0) (by unfold I64; omega)
  exact ⟨g', c', hv, h1⟩
theorem DA.push (h : DA e B w g c N wa q D Q) (hw : w.heap.size ≤ B) (hq : AccI B e wb q' Q') (oq : Only q.ownBlock.toList wa wb) (nq : q'.ownBlock = q.ownBlock ∨ q'.ownBlock = some wa.heap.size) : DA e B w g c N wb q' D Q' := by
  have hg := (h.ds.ownlt g rfl).2
  refine ⟨h.ds.only oq (fun b hb hm => ?_), hq, own_after nq h.ap hg, h.on.then_ oq (fun b hb hl => ?_)⟩
  · simp only [Value.ownBlock, Option.some.injEq] at hb
    subst hb
    exact h.ap (by simpa using hm)
  · have := (h.qu.ownlt b (by simpa using hb)).1
    omega
end
/-- memory that neither the row g nor the list q is -/
structure DL (f : List Nat) (W6 wr : World) (q : Value) (g : Nat) : Prop where
  kp : ∀ b ∈ f, wr.heap[b]? = W6.heap[b]?
  ga : ∀ b ∈ f, q.ownBlock ≠ some b
  gg : g ∉ f
  gl : ∀ b ∈ f, b < wr.heap.size
section
variable {f : List Nat} {W6 wr wa wb w' : World} {q q' : Value} {g : Nat}
theorem DL.keep (h : DL f W6 wr q g) (ho : Only [] wr w') : DL f W6 w' q g :=
  ⟨fun b hb => (ho.block b (h.gl b hb) (by simp)).trans (h.kp b hb), h.ga, h.gg, fun b hb => Nat.lt_of_lt_of_le (h.gl b hb) ho.size⟩
theorem DL.put (h : DL f W6 wr q g) (ho : Only [g] wr w') : DL f W6 w' q g :=
  ⟨fun b hb => (ho.block b (h.gl b hb) (fun hm => h.gg (by simp at hm; rw [← hm]; exact hb))).trans (h.kp b hb), h.ga, h.gg, fun b hb => Nat.lt_of_lt_of_le (h.gl b hb) ho.size⟩
theorem DL.push (h : DL f W6 wa q g) (oq : Only q.ownBlock.toList wa wb) (nq : q'.ownBlock = q.ownBlock ∨ q'.ownBlock = some wa.heap.size) : DL f W6 wb q' g :=
  ⟨fun b hb => (oq.block b (h.gl b hb) (fun hm => h.ga b hb (by simpa using hm))).trans (h.kp b hb), fun b hb => own_after nq (h.ga b hb) (h.gl b hb), h.gg, fun b hb => Nat.lt_of_lt_of_le (h.gl b hb) oq.size⟩
theorem DL.ints (h : DL f W6 wr q g) {a : Option Addr} {c : Nat} {l : List Int} (hr : IntsA W6 a c l f) : IntsA wr a c l f := hr.frame fun b hb => h.kp b hb
end
/-- the distances while the first k states have been looked at -/
def srcE (src : Nat → Bool) (N k : Nat) : List Int := ((List.range k).map fun i => if src i = true then (0 : Int) else -1) ++ List.replicate (N - k) 0
section
variable {src : Nat → Bool} {N k : Nat}
theorem srcE_len (hk : k ≤ N) : (srcE src N k).length = N := by unfold srcE; simp; omega
theorem srcE_zero : srcE src N 0 = List.replicate N 0 := by unfold srcE; simp
theorem srcE_end : srcE src N N = (mSrc src N).1 := by unfold srcE mSrc; simp
theorem srcE_set (hk : k < N) (v : Int) : (srcE src N k).set k v = ((List.range k).map fun i => if src i = true then (0 : Int) else -1) ++ v :: List.replicate (N - (k + 1)) 0 := by
  unfold srcE
  rw [List.set_append_right _ _ (by simp), List.length_map, List.length_range, Nat.sub_self, show N - k = (N - (k + 1)) + 1 by omega, List.replicate_succ, List.set_cons_zero]
theorem srcE_no (hk : k < N) (h : src k = false) : srcE src N (k + 1) = (srcE src N k).set k (-1) := by
  rw [srcE_set hk]
  unfold srcE
  rw [List.range_succ, List.map_append, List.append_assoc]
  simp [h]
theorem srcE_yes (hk : k < N) (h : src k = true) : srcE src N (k + 1) = ((srcE src N k).set k (-1)).set k 0 := by
  rw [List.set_set, srcE_set hk]
  unfold srcE
  rw [List.range_succ, List.map_append, List.append_assoc]
  simp [h]
end
/-- where a search has a state -/
theorem sIdx_at (x : Puzzle) (t : Table) (v u : Value) (s : List Int) (f : List Nat) (i : Nat) (w : World) {B : Nat} (h : SrF B w x t v) (he : expl x = some t) (hu : Rd w u s f) (hi : i < t.patterns.length) (hs : t.patterns.getD i [] = s) :
    Calls Tryz.prog 126 #[v, u] w fun e w' => e = .returned (.int .i64 i) ∧ Only [] w w' := by
  obtain ⟨hb, -⟩ := expl_built he
  obtain ⟨A1, A2, A3, C1, C2, C3, so, ob, fps, fd, fz, rfl, hR, hS, -⟩ := h
  exact searchIndex_yes A1 A2 A3 C1 C2 C3 true t.patterns t.distances so ob fps fd fz x.points.toNat _ s f _ hR hS hu (by rw [← hs]; exact expl_len1 he hi) hb.ll i hi hs hb.bi.nd
theorem sIdx_no (x : Puzzle) (t : Table) (v u : Value) (s : List Int) (f : List Nat) (w : World) {B : Nat} (h : SrF B w x t v) (he : expl x = some t) (hu : Rd w u s f) (hl : s.length = x.points.toNat) (hs : s ∉ t.patterns) :
    Calls Tryz.prog 126 #[v, u] w fun e w' => e = .returned (.int .i64 (-1)) ∧ Only [] w w' := by
  obtain ⟨hb, -⟩ := expl_built he
  obtain ⟨A1, A2, A3, C1, C2, C3, so, ob, fps, fd, fz, rfl, hR, hS, -⟩ := h
  exact searchIndex_no A1 A2 A3 C1 C2 C3 true t.patterns t.distances so ob fps fd fz x.points.toNat _ s f _ hR hS hu hl hb.ll hs
/-- the lists of a search in memory -/
theorem SrF.rows {B : Nat} {w : World} {x : Puzzle} {t : Table} {A1 A2 A3 : Option Addr} {n1 C1 n2 C2 n3 C3 : Nat} {wh : Bool} (h : SrF B w x t (.agg #[.slice A1 n1 C1, .slice A2 n2 C2, .slice A3 n3 C3, .bool wh])) : n1 = t.patterns.length ∧ ∃ ob fps, SeqA w A1 C1 t.patterns ob fps := by
  obtain ⟨A1', A2', A3', C1', C2', C3', so, ob, fps, fd, fz, e, hR, -, -⟩ := h
  injection e with e
  have e1 := congrArg (fun a : Array Value => a[0]?) e
  simp at e1
  obtain ⟨rfl, rfl, rfl⟩ := e1
  exact ⟨rfl, ob, fps, hR.ls⟩
set_option maxHeartbeats 8000000 in
theorem phaseOneDistances_any (cs : List Value) (x : Puzzle) (t ts : Table) (sub : List Int) (fp : List Nat) (B1 B2 : Nat) (A1 A2 A3 A4 A5 A6 : Option Addr) (n1 n2 n3 n4 n5 n6 C1 C2 C3 C4 C5 C6 : Nat) (wh wg : Bool) (w : World) (h : Rp.rep w cs x fp)
    (hS : SrF B1 w x t (.agg #[.slice A1 n1 C1, .slice A2 n2 C2, .slice A3 n3 C3, .bool wh])) (hG : SrF B2 w (subP x sub) ts (.agg #[.slice A4 n4 C4, .slice A5 n5 C5, .slice A6 n6 C6, .bool wg])) (he : expl x = some t) (h2 : expl (subP x sub) = some ts) :
    Calls Tryz.prog 73 #[.agg cs.toArray, .agg #[.slice A1 n1 C1, .slice A2 n2 C2, .slice A3 n3 C3, .bool wh], .agg #[.slice A4 n4 C4, .slice A5 n5 C5, .slice A6 n6 C6, .bool wg]] w fun e w' => ∃ u, e = .returned u ∧ AccI w.heap.size 2 w' u (mD x t (subS ts)) ∧ Only [] w w' := by
  have h0 := h
  obtain ⟨v2, rfl, p0, p1, h3⟩ := h
  obtain ⟨hb, -⟩ := expl_built he
  obtain ⟨q1, q20, q8, -⟩ := validPz_facts hb.v
  obtain ⟨hn1, obL, fpL, SL⟩ := hS.rows
  obtain ⟨i0, hi, hz0, hz1, hz2⟩ := info_parts Tryz.info2
  have hll := hb.ll
  have hne := hb.bi.ne
  have Hb := Lib.hid hb
  have He := Lib.hid he
  have H2 := Lib.hid h2
  obtain ⟨N, hNe⟩ : ∃ N, N = t.patterns.length := ⟨_, rfl⟩
  rw [← hNe] at hn1
  subst hn1
  have HNe := Lib.hid hNe
  have hN1 : 1 ≤ n1 := by rw [hNe]; exact hne
  have hN3 : n1 ≤ 3000 := by omega
  obtain ⟨sr, hsr⟩ : ∃ sr : Nat → Bool, sr = fun i => subS ts (t.patterns.getD i []) := ⟨_, rfl⟩
  obtain ⟨row, hrow⟩ : ∃ row, row = mRow x t := ⟨_, rfl⟩
  have hfin : mD x t (subS ts) = (mRun row (n1 + 1) 0 (mSrc sr n1)).1 := by rw [hrow, hsr, hNe]; rfl
  have hsr' : ∀ i : Nat, subS ts (t.patterns.getD i []) = sr i := fun i => by rw [hsr]
  have hrl : ∀ v, v < n1 → ∀ tt ∈ row v, tt < n1 := fun v hv tt ht => by rw [hNe] at hv ⊢; rw [hrow] at ht; exact mRow_lt hb hv tt ht
  have Hfin := Lib.hid hfin
  have Hsr := Lib.hid hsr'
  have Hrl := Lib.hid hrl
  have Hrow := Lib.hid hrow
  have X0 : Blk (((w.alloc (.cells #[.int .i64 x.points, .string x.names, v2] 33)).alloc (.cells #[.slice A1 n1 C1, .slice A2 n2 C2, .slice A3 n3 C3, .bool wh] 85)).alloc (.cells #[.slice A4 n4 C4, .slice A5 n5 C5, .slice A6 n6 C6, .bool wg] 85)) w.heap.size [.int .i64 x.points, .string x.names, v2] := ((Blk.new w [.int .i64 x.points, .string x.names, v2] 33).keep ((Only.refl _ _).alloc _)).keep ((Only.refl _ _).alloc _)
  have F0 : Blk (((w.alloc (.cells #[.int .i64 x.points, .string x.names, v2] 33)).alloc (.cells #[.slice A1 n1 C1, .slice A2 n2 C2, .slice A3 n3 C3, .bool wh] 85)).alloc (.cells #[.slice A4 n4 C4, .slice A5 n5 C5, .slice A6 n6 C6, .bool wg] 85)) (w.heap.size + 1) [.slice A1 n1 C1, .slice A2 n2 C2, .slice A3 n3 C3, .bool wh] := (Blk.new_at (w := w.alloc (.cells #[.int .i64 x.points, .string x.names, v2] 33)) (cs := [.slice A1 n1 C1, .slice A2 n2 C2, .slice A3 n3 C3, .bool wh]) (by simp)).keep ((Only.refl _ _).alloc _)
  have G0 : Blk (((w.alloc (.cells #[.int .i64 x.points, .string x.names, v2] 33)).alloc (.cells #[.slice A1 n1 C1, .slice A2 n2 C2, .slice A3 n3 C3, .bool wh] 85)).alloc (.cells #[.slice A4 n4 C4, .slice A5 n5 C5, .slice A6 n6 C6, .bool wg] 85)) (w.heap.size + 1 + 1) [.slice A4 n4 C4, .slice A5 n5 C5, .slice A6 n6 C6, .bool wg] := Blk.new_at (by simp)
  obtain ⟨W0, hW0⟩ : ∃ W0, W0 = (((w.alloc (.cells #[.int .i64 x.points, .string x.names, v2] 33)).alloc (.cells #[.slice A1 n1 C1, .slice A2 n2 C2, .slice A3 n3 C3, .bool wh] 85)).alloc (.cells #[.slice A4 n4 C4, .slice A5 n5 C5, .slice A6 n6 C6, .bool wg] 85)) := ⟨_, rfl⟩
  have K0 : Only [] w W0 := by rw [hW0]; exact (((Only.refl _ _).alloc _).alloc _).alloc _
  have HW0 := Lib.hid hW0
  rw [← hW0] at X0 F0 G0
  have f00 := F0.cell 0 rfl
  clear hW0 p0 p1 h3 hb he h2 hNe hsr hrow hfin hsr' hrl hne
  go_enter Tryz.func73, Tryz.ntmps73
  go_upto_region 1 with fail
  rw [← HW0.out]
  go_upto_region 2 with (at_make; refine wpList_make_full _ rfl _ _ 25 rfl W0.heap.size 2 i0 _ 1 Tryz.underlying25 hi hz0 hz1 _ _ _ _ n1 rfl rfl rfl rfl (by rw [hz2]; omega) (by unfold maxLen; omega) (Nat.le_refl _) ?_; intro w1 hown hg)
  rw [madeInts, Nat.mul_one] at hown
  have A0 : AccI W0.heap.size 2 w1 (.slice (some ⟨W0.heap.size, 0, none⟩) n1 n1) (List.replicate n1 0) := by
    refine AccI.ofRow ?_ (fun y hy => by rw [List.eq_of_mem_replicate hy]; unfold I64; omega)
    rw [map_zero, List.length_replicate]; exact hown
  have k01 : Only [] W0 w1 := (Only.refl _ _).grown hg (by simp)
  have hs1 : W0.heap.size < w1.heap.size := (A0.ownlt _ rfl).2
  rw [← srcE_zero (src := sr)] at A0
  clear hown hg f00
  go_upto_region 4 with fail
  have D0 : DA 2 W0.heap.size W0 W0.heap.size n1 n1 (w1.alloc (.cells #[] 2)) (.slice (some ⟨w1.heap.size, 0, none⟩) 0 0) (srcE sr n1 0) (srcQ sr 0) := ⟨A0.keep ((Only.refl _ _).alloc _), AccI.made w1 W0.heap.size 2 rfl (by omega), by simp [Value.ownBlock]; omega, k01.alloc _⟩
  clear A0 k01 hs1
  go_loopw [8, 9] (fun q i wr => ∃ k : Nat, k ≤ n1 ∧ i = .int .i64 k ∧ DA 2 W0.heap.size W0 W0.heap.size n1 n1 wr q (srcE sr n1 k) (srcQ sr k))
    (fun _ i _ => n1 - (intOf i).toNat)
  case atStart => exact ⟨0, Nat.zero_le _, rfl, D0⟩
  case round =>
    clear D0
    obtain ⟨W2, hnew⟩ : ∃ W, W = wr := ⟨_, rfl⟩
    subst hnew
    obtain ⟨k, hk, rfl, hD⟩ := hrel
    by_cases hlt : k < n1
    · obtain ⟨p1, p2, -, hD1⟩ := hD.put (Nat.le_refl _) (i := k) (by rw [srcE_len hk]; exact hlt) (x := -1) (by unfold I64; omega)
      have hlk : k < t.patterns.length := by rw [← HNe.out]; exact hlt
      obtain ⟨bL, oL, ur, hAL, -, hcL, hur⟩ := SL.atRow k hlk
      subst hAL
      rw [show t.patterns[k] = t.patterns.getD k [] from (getD_get hlk).symm] at hur
      obtain ⟨aU, cU, rfl, IU⟩ := hur.ints
      have hsl := expl_len1 He.out hlk
      have hsk := Hsr.out k
      have HD1 := Lib.hid hD1
      clear hD hD1
      go_upto_region 7 with fail
      obtain ⟨w3, hw3⟩ : ∃ w3, w3 = W2.setCell ⟨W0.heap.size, k, none⟩ (.int .i64 (-1)) := ⟨_, rfl⟩
      rw [← hw3] at HD1 ⊢
      clear hw3 p1 p2
      have kW := HD1.out.on
      have hK3 := K0.trans kW
      have hcL3 := hK3.cell (by simp) hcL
      have f0 := (F0.keep kW).cell 0 rfl
      have g0 := (G0.keep kW).cell 0 rfl
      have g1 := (G0.keep kW).cell 1 rfl
      have g2 := (G0.keep kW).cell 2 rfl
      have g3 := (G0.keep kW).cell 3 rfl
      obtain ⟨s, hs⟩ : ∃ s, s = t.patterns.getD k [] := ⟨_, rfl⟩
      rw [← hs] at hcL3 IU hsl hsk
      have hkn : (k : Int) < n1 := by omega
      rcases hsr : sr k
      · have hm : s ∉ ts.patterns := by rw [hsr] at hsk; exact of_decide_eq_false hsk
        have Hc := Lib.hid (fun (W : World) (hW : Only [] w3 W) => sIdx_no (subP x sub) ts (.agg #[.slice A4 n4 C4, .slice A5 n5 C5, .slice A6 n6 C6, .bool wg]) (.slice aU s.length cU) s _ W (hG.keep (hK3.trans hW)) H2.out ((IU.keep (hK3.trans hW)).rd) hsl hm)
        have He1 := Lib.hid (srcE_no hlt hsr)
        have He2 := Lib.hid (srcQ_no hsr)
        clear hsl hsk hsr hm hs hur hcL hK3
        go_wp2
        go_region_held3 (fun w' => Only [] w3 w' ∧ w'.cell? ⟨w.heap.size + 1 + 1, 0, none⟩ = some (.slice A4 n4 C4) ∧ w'.cell? ⟨w.heap.size + 1 + 1, 1, none⟩ = some (.slice A5 n5 C5) ∧ w'.cell? ⟨w.heap.size + 1 + 1, 2, none⟩ = some (.slice A6 n6 C6) ∧ w'.cell? ⟨w.heap.size + 1 + 1, 3, none⟩ = some (.bool wg) ∧ w'.cell? ⟨w.heap.size + 1, 0, none⟩ = some (.slice (some ⟨bL, oL, none⟩) n1 C1) ∧ w'.cell? ⟨bL, oL + k, none⟩ = some (.slice aU s.length cU)) (((refine and_of ?_ (fun h__ => ⟨h__.cell (by simp) g0, h__.cell (by simp) g1, h__.cell (by simp) g2, h__.cell (by simp) g3, h__.cell (by simp) f0, h__.cell (by simp) hcL3⟩)); first | exact (Only.refl _ _).drew | exact ((Only.refl _ _).drewN _).drew | exact Only.trans (And.left (by assumption)) (by assumption) | exact Only.alloc (And.left (by assumption)) _ | assumption)) (first | (go_at_call 126; (with_reducible refine (Hc.out _ (And.left (by assumption))).mono ?_); rintro e w5 ⟨rfl, t5⟩) | fail "no arm")
        have k5 : Only [] w3 w5 := (Only.refl [] w3).trans (And.left (by assumption))
        go_wp2
        go_roundw
        case rel => exact ⟨k + 1, by omega, by go_num, by rw [He1.out, He2.out]; exact HD1.out.keep k5⟩
        case measure => simp [intOf]; omega
      · have hm : s ∈ ts.patterns := by rw [hsr] at hsk; exact of_decide_eq_true hsk
        obtain ⟨j, hj, hjs⟩ := List.getElem_of_mem hm
        have Hc := Lib.hid (fun (W : World) (hW : Only [] w3 W) => sIdx_at (subP x sub) ts (.agg #[.slice A4 n4 C4, .slice A5 n5 C5, .slice A6 n6 C6, .bool wg]) (.slice aU s.length cU) s _ j W (hG.keep (hK3.trans hW)) H2.out ((IU.keep (hK3.trans hW)).rd) hj (by rw [getD_get hj, hjs]))
        have He1 := Lib.hid (srcE_yes hlt hsr)
        have He2 := Lib.hid (srcQ_yes hsr)
        have hql := srcQ_len (src := sr) (k := k)
        have hkI : I64 (k : Int) := by unfold I64; omega
        have hj0 : (0 : Int) ≤ (j : Int) := by omega
        clear hsl hsk hsr hm hs hur hcL hK3 hjs
        go_wp2
        go_region_held3 (fun w' => Only [] w3 w' ∧ w'.cell? ⟨w.heap.size + 1 + 1, 0, none⟩ = some (.slice A4 n4 C4) ∧ w'.cell? ⟨w.heap.size + 1 + 1, 1, none⟩ = some (.slice A5 n5 C5) ∧ w'.cell? ⟨w.heap.size + 1 + 1, 2, none⟩ = some (.slice A6 n6 C6) ∧ w'.cell? ⟨w.heap.size + 1 + 1, 3, none⟩ = some (.bool wg) ∧ w'.cell? ⟨w.heap.size + 1, 0, none⟩ = some (.slice (some ⟨bL, oL, none⟩) n1 C1) ∧ w'.cell? ⟨bL, oL + k, none⟩ = some (.slice aU s.length cU)) (((refine and_of ?_ (fun h__ => ⟨h__.cell (by simp) g0, h__.cell (by simp) g1, h__.cell (by simp) g2, h__.cell (by simp) g3, h__.cell (by simp) f0, h__.cell (by simp) hcL3⟩)); first | exact (Only.refl _ _).drew | exact ((Only.refl _ _).drewN _).drew | exact Only.trans (And.left (by assumption)) (by assumption) | exact Only.alloc (And.left (by assumption)) _ | assumption)) (first | (go_at_call 126; (with_reducible refine (Hc.out _ (And.left (by assumption))).mono ?_); rintro e w5 ⟨rfl, t5⟩) | fail "no arm")
        have k5 : Only [] w3 w5 := (Only.refl [] w3).trans (And.left (by assumption))
        obtain ⟨p1, p2, -, hD6⟩ := (HD1.out.keep k5).put (Nat.le_refl _) (i := k) (by rw [List.length_set, srcE_len hk]; exact hlt) (x := 0) (by unfold I64; omega)
        have HD6 := Lib.hid hD6
        clear hD6
        go_upto_region 9 with fail
        obtain ⟨w6, hw6⟩ : ∃ w6, w6 = w5.setCell ⟨W0.heap.size, k, none⟩ (.int .i64 0) := ⟨_, rfl⟩
        rw [← hw6] at HD6 ⊢
        have HK6 := HD6.out.on.size
        clear hw6 p1 p2 f0 g0 g1 g2 g3 hcL3
        go_wp2_with (at_builtin; refine wpList_pushI rfl _ _ 25 rfl W0.heap.size 2 i0 _ Tryz.underlying25 hi hz0 hz1 hz2 rfl w6 u8 _ rfl HD6.out.qu ((Only.refl _ _).alloc _) HK6 w6.heap.size 1 (k : Int) rfl (lit1 w6 _ _ rfl) hkI (by omega) ?_; intro v9 w9 hA9 hO9 hP9 hN9)
        have hD9 := (HD6.out.keep ((Only.refl _ _).alloc (.cells #[.int .i64 k] 2))).push (Nat.le_refl _) hA9 hO9 hN9
        go_roundw
        case rel => exact ⟨k + 1, by omega, by go_num, by rw [He1.out, He2.out]; exact hD9⟩
        case measure => simp [intOf]; omega
    · obtain rfl : n1 = k := by omega
      rw [srcE_end, srcQ_end] at hD
      have HD := Lib.hid hD
      clear hD
      have X2 := X0.keep HD.out.on
      have x0 := X2.cell 0 rfl
      have x1 := X2.cell 1 rfl
      have x2 := X2.cell 2 rfl
      have KW2 := K0.trans HD.out.on
      go_upto_region 12 with (first
        | (go_at_call 127; (with_reducible refine (lettersOf_any [.int .i64 x.points, .string x.names, v2] x _ _ (Rp.keep h0 KW2) (by omega)).mono ?_); rintro e w6 ⟨u6, f6, rfl, r6, F6, t6⟩; obtain ⟨a6, c6, rfl, I6⟩ := r6.ints)
        | fail "no arm")
      have hg0 : W0.heap.size < W2.heap.size := (HD.out.ds.ownlt _ rfl).2
      have hq0 := fun b hb => (HD.out.qu.ownlt b hb).2
      have DL0 : DL f6 w6 w6 u8 W0.heap.size := ⟨fun _ _ => rfl, fun b hb he => (by have := F6.ge b hb; have := hq0 b he; omega), fun hb => (by have := F6.ge _ hb; omega), F6.lt⟩
      have D0 := HD.out.keep t6
      obtain ⟨ls, hls⟩ : ∃ ls, ls = ltrs x.moves.length := ⟨_, rfl⟩
      rw [← hls] at I6 ⊢
      have Hls := Lib.hid hls
      clear HD x0 x1 x2 X2 KW2 r6 F6 t6 hg0 hq0 hls
      go_loopw [8, 11] (fun q i wr => ∃ (k : Nat) (s : MbS), MbI sr row n1 k [] s ∧ k ≤ s.2.length ∧ mRun row (n1 + 1 - k) k s = mRun row (n1 + 1) 0 (mSrc sr n1) ∧ i = .int .i64 k ∧ DA 2 W0.heap.size W0 W0.heap.size n1 n1 wr q s.1 (s.2.map fun (i : Nat) => (i : Int)) ∧ DL f6 w6 wr q W0.heap.size)
        (fun _ i _ => n1 - (intOf i).toNat)
      case atStart => exact ⟨0, mSrc sr n1, MbI.start, Nat.zero_le _, rfl, rfl, D0, DL0⟩
      case round =>
        clear D0 DL0
        obtain ⟨W2, hnew⟩ : ∃ W, W = wr := ⟨_, rfl⟩
        subst hnew
        obtain ⟨k, s, hI, hk, hrun, rfl, hD, hDL⟩ := hrel
        by_cases hlt : k < s.2.length
        · obtain ⟨v0, hv0⟩ : ∃ v0, v0 = s.2.getD k 0 := ⟨_, rfl⟩
          have hvN : v0 < n1 := by rw [hv0]; exact hI.rng _ (getD_mem9 hlt)
          have hkN : k < n1 := Nat.lt_of_lt_of_le hlt hI.len
          obtain ⟨gq, cq, hu8, -⟩ := hD.at_ (i := k) (by rw [List.length_map]; exact hlt)
          rw [List.length_map] at hu8
          obtain ⟨nq, hnq⟩ : ∃ n, n = s.2.length := ⟨_, rfl⟩
          rw [← hnq] at hu8
          have hnk : (k : Int) < nq := by omega
          obtain ⟨rw0, hrw0⟩ : ∃ r : List Nat, r = row v0 := ⟨_, rfl⟩
          have hrwl : rw0.length = ls.length := by rw [hrw0, Hrow.out, Hls.out]; simp [mRow]
          have HI := Lib.hid hI
          have HD := Lib.hid hD
          have HDL := Lib.hid hDL
          have Hv0 := Lib.hid hv0
          have Hrw := Lib.hid hrw0
          have Hrun := Lib.hid hrun
          have Hrwl := Lib.hid hrwl
          clear hI hD hDL hv0 hrw0 hrun hnq hrwl
          subst hu8
          go_wp2
          go_loopw [8, 12] (fun q jv wr => ∃ j' : Nat, j' ≤ ls.length ∧ jv = .int .i64 j' ∧ DA 2 W0.heap.size W0 W0.heap.size n1 n1 wr q ((rw0.take j').foldl (mRel v0) s).1 (((rw0.take j').foldl (mRel v0) s).2.map fun (i : Nat) => (i : Int)) ∧ DL f6 w6 wr q W0.heap.size)
            (fun _ jv _ => ls.length - (intOf jv).toNat)
          case atStart => exact ⟨0, Nat.zero_le _, rfl, HD.out, HDL.out⟩
          case round =>
            clear HD HDL
            obtain ⟨W3, hnew⟩ : ∃ W, W = wr := ⟨_, rfl⟩
            subst hnew
            obtain ⟨j', hj, rfl, hD, hDL⟩ := hrel
            have hP := MbI.part HI.out Hrl.out hlt Hv0.out.symm j'
            rw [← Hrw.out] at hP
            obtain ⟨sj, hsj⟩ : ∃ sj, sj = (rw0.take j').foldl (mRel v0) s := ⟨_, rfl⟩
            rw [← hsj] at hP hD
            obtain ⟨hIj, hkj, hvj⟩ := hP
            have I6w := hDL.ints I6
            have hlb := I6w.bound
            by_cases hlj : j' < ls.length
            · have hlr : j' < rw0.length := by rw [Hrwl.out]; exact hlj
              have hst := fold_take (mRel v0) rw0 j' hlr s
              rw [← hsj] at hst
              have hla : ls[j'] ∈ ltrs x.moves.length := by rw [← Hls.out]; exact List.getElem_mem hlj
              have hvt : v0 < t.patterns.length := by rw [← HNe.out]; exact hvN
              obtain ⟨i', hi', hpi, hix⟩ := idx_step Hb.out hvt hla
              have htt : rw0[j'] = i' := by
                have e1 : rw0[j'] = (idxL t.patterns (nxt x (t.patterns.getD v0 []) ls[j'])).toNat := by
                  simp [Hrw.out, Hrow.out, mRow, Hls.out]
                rw [e1, hix, Int.toNat_natCast]
              rw [htt] at hst
              have htN : i' < n1 := by rw [HNe.out]; exact hi'
              obtain ⟨bl, ol, rfl, -, hcl⟩ := I6w.at_ j' hlj
              obtain ⟨l, hl⟩ : ∃ l, l = ls[j'] := ⟨_, rfl⟩
              rw [← hl] at hcl hla hpi
              obtain ⟨gq, cq, hu8, hcQ⟩ := hD.at_ (i := k) (by rw [List.length_map]; exact hkj)
              rw [List.getElem_map, ← getD_get (z := 0) hkj, hvj] at hcQ
              rw [List.length_map] at hu8
              obtain ⟨nq', hnq'⟩ : ∃ n, n = sj.2.length := ⟨_, rfl⟩
              rw [← hnq'] at hu8
              have hnk' : (k : Int) < nq' := by omega
              have hnq3 : nq' ≤ 3000 := by have := hIj.len; omega
              subst hu8
              have hK3 := K0.trans hD.on
              obtain ⟨bL, oL, ur, hAL, -, hcL, hur⟩ := SL.atRow v0 hvt
              subst hAL
              rw [show t.patterns[v0] = t.patterns.getD v0 [] from (getD_get hvt).symm] at hur
              obtain ⟨aU, cU, rfl, IU⟩ := hur.ints
              have hrng := (patB_iff.1 (expl_pat He.out hvt)).2.1
              have hql : (t.patterns.getD v0 []).length ≤ 1000 := by rw [expl_len1 He.out hvt]; omega
              obtain ⟨pt, hpt⟩ : ∃ pt, pt = t.patterns.getD v0 [] := ⟨_, rfl⟩
              rw [← hpt] at hcL IU hrng hql hpi
              have hcL3 := hK3.cell (by simp) hcL
              have Hc := Lib.hid (fun (W : World) (hW : Only [] W3 W) => applyLetter_any [.int .i64 x.points, .string x.names, v2] x _ (.slice aU pt.length cU) pt _ l W (Rp.keep h0 (hK3.trans hW)) ((IU.keep (hK3.trans hW)).rd) Hb.out.v hla hrng hql)
              have Hs := Lib.hid (fun (W : World) (u : Value) (f : List Nat) (hW : Only [] W3 W) (hr : Rd W u (nxt x pt l) f) => sIdx_at x t (.agg #[.slice (some ⟨bL, oL, none⟩) n1 C1, .slice A2 n2 C2, .slice A3 n3 C3, .bool wh]) u (nxt x pt l) f i' W (hS.keep (hK3.trans hW)) He.out hr hi' hpi)
              obtain ⟨nx, hnx⟩ : ∃ nx, nx = nxt x pt l := ⟨_, rfl⟩
              rw [← hnx] at Hc Hs
              have kW := hD.on
              have f0 := (F0.keep kW).cell 0 rfl
              have f1 := (F0.keep kW).cell 1 rfl
              have f2 := (F0.keep kW).cell 2 rfl
              have f3 := (F0.keep kW).cell 3 rfl
              have x0 := (X0.keep kW).cell 0 rfl
              have x1 := (X0.keep kW).cell 1 rfl
              have x2 := (X0.keep kW).cell 2 rfl
              have hvi : (v0 : Int) < n1 := by omega
              have hji : (j' : Int) < ls.length := by omega
              have hdl := hIj.dl
              have HD := Lib.hid hD
              have HDL := Lib.hid hDL
              have HIj := Lib.hid hIj
              have Hvj := Lib.hid hvj
              have Hst := Lib.hid hst
              obtain ⟨dt, hdt⟩ : ∃ dt, dt = sj.1[i']'(by omega) := ⟨_, rfl⟩
              have hdg : sj.1.getD i' 0 = dt := by rw [getD_get (by omega), hdt]
              have hcT := fun (W : World) (hW : Only [] W3 W) => (hD.keep hW).cell (i := i') (by omega)
              rw [← hdt] at hcT
              have HcT := Lib.hid hcT
              have Hdg := Lib.hid hdg
              have HcQ := Lib.hid hcQ
              have hdlv : v0 < sj.1.length := by omega
              have hdlt : i' < sj.1.length := by omega
              have Hln := Lib.hid hnq'
              clear hD hDL hIj hst hdt hdg hcT hnx hpt hpi hix hla hrng hql hl hvj hur hcL htt hi' hdl hsj hnq' I6w
              go_wp2
              go_region_held3 (fun w' => Only [] W3 w' ∧ w'.cell? ⟨w.heap.size + 1, 0, none⟩ = some (.slice (some ⟨bL, oL, none⟩) n1 C1) ∧ w'.cell? ⟨w.heap.size + 1, 1, none⟩ = some (.slice A2 n2 C2) ∧ w'.cell? ⟨w.heap.size + 1, 2, none⟩ = some (.slice A3 n3 C3) ∧ w'.cell? ⟨w.heap.size + 1, 3, none⟩ = some (.bool wh) ∧ w'.cell? ⟨w.heap.size, 0, none⟩ = some (.int .i64 x.points) ∧ w'.cell? ⟨w.heap.size, 1, none⟩ = some (.string x.names) ∧ w'.cell? ⟨w.heap.size, 2, none⟩ = some (v2) ∧ w'.cell? ⟨gq, k, none⟩ = some (.int .i64 v0) ∧ w'.cell? ⟨bL, oL + v0, none⟩ = some (.slice aU pt.length cU) ∧ w'.cell? ⟨bl, ol + j', none⟩ = some (.int .i64 l)) (((refine and_of ?_ (fun h__ => ⟨h__.cell (by simp) f0, h__.cell (by simp) f1, h__.cell (by simp) f2, h__.cell (by simp) f3, h__.cell (by simp) x0, h__.cell (by simp) x1, h__.cell (by simp) x2, h__.cell (by simp) hcQ, h__.cell (by simp) hcL3, h__.cell (by simp) hcl⟩)); first | exact (Only.refl _ _).drew | exact ((Only.refl _ _).drewN _).drew | exact Only.trans (And.left (by assumption)) (by assumption) | exact Only.alloc (And.left (by assumption)) _ | assumption)) (first | (go_at_call 128; (with_reducible refine (Hc.out _ (And.left (by assumption))).mono ?_); rintro e w5 ⟨u5, f5, rfl, r5, F5, t5⟩) | (go_at_call 126; (with_reducible refine (Hs.out _ u5 f5 (And.left (by assumption)) (Rp.keep r5 (by with_reducible repeat (first | exact Only.refl _ _ | assumption | refine Only.drewN ?_ _ | refine Only.drew ?_ | refine Only.alloc ?_ _ | refine Only.setCell ?_ (by intro hh; exfalso; simp at hh; try omega) _ | refine Only.trans ?_ (by assumption))))).mono ?_); rintro e w7 ⟨rfl, t7⟩) | fail "no arm")
              have k7 : Only [] W3 w7 := (Only.refl [] W3).trans (And.left (by assumption))
              have hcT7 := HcT.out _ k7
              have hD7 := HD.out.keep k7
              have hDL7 := HDL.out.keep k7
              by_cases hneg : dt < 0
              · have hst := Hst.out
                rw [mRel_yes (by rw [Hdg.out]; exact hneg)] at hst
                have hcV := hD7.cell (i := v0) hdlv
                obtain ⟨dv, hdv⟩ : ∃ dv, dv = sj.1[v0] := ⟨_, rfl⟩
                rw [← hdv] at hcV
                have hdvg : sj.1.getD v0 0 = dv := by rw [getD_get hdlv, hdv]
                have hdv0 : -1 ≤ dv := by rw [← hdvg]; exact HIj.out.neg v0 hvN
                have hdvN : dv < n1 := by rw [← hdvg]; exact HIj.out.bound hvN
                rw [hdvg] at hst
                have hwv : IntKind.i64.wrap (dv + 1) = dv + 1 := by rw [IntKind.wrap_i64]; omega
                obtain ⟨-, p2, p3, hD8⟩ := hD7.put (Nat.le_refl _) (i := i') hdlt (x := dv + 1) (by unfold I64; omega)
                have hDL8 := hDL7.put p3
                have HD8 := Lib.hid hD8
                have HDL8 := Lib.hid hDL8
                have Hst2 := Lib.hid hst
                have hcQ7 := k7.cell (by
                  have := (HD.out.qu.ownlt gq rfl)
                  simp) HcQ.out
                have httI : I64 (i' : Int) := by unfold I64; omega
                have hql2 : (sj.2.map fun (i : Nat) => (i : Int)).length + 1 ≤ 1073741824 := by rw [List.length_map, ← Hln.out]; omega
                have Hql2 := Lib.hid hql2
                clear hst hD7 hDL7 hD8 hDL8 hdv hdvg hql2 p3 x0 x1 x2 f0 f1 f2 f3 hcL3 hcl hcQ
                go_upto_region 20 with fail
                obtain ⟨w8, hw8⟩ : ∃ w8, w8 = w7.setCell ⟨W0.heap.size, i', none⟩ (.int .i64 (dv + 1)) := ⟨_, rfl⟩
                rw [← hw8] at HD8 HDL8 ⊢
                have HK8 := HD8.out.on.size
                clear hw8 p2 hcT7 hcV hcQ7
                go_wp2_with (at_builtin; refine wpList_pushI rfl _ _ 25 rfl W0.heap.size 2 i0 _ Tryz.underlying25 hi hz0 hz1 hz2 rfl w8 (.slice (some ⟨gq, 0, none⟩) nq' cq) _ rfl HD8.out.qu ((Only.refl _ _).alloc _) HK8 w8.heap.size 1 (i' : Int) rfl (lit1 w8 _ _ rfl) httI Hql2.out ?_; intro v9 w9 hA9 hO9 hP9 hN9)
                have hD9 := (HD8.out.keep ((Only.refl _ _).alloc (.cells #[.int .i64 i'] 2))).push (Nat.le_refl _) hA9 hO9 hN9
                have hDL9 := (HDL8.out.keep ((Only.refl _ _).alloc (.cells #[.int .i64 i'] 2))).push hO9 hN9
                go_roundw
                case rel => exact ⟨j' + 1, by omega, by go_num, by rw [Hst2.out, List.map_append]; exact hD9, hDL9⟩
                case measure => simp [intOf]; omega
              · have hst := Hst.out
                rw [mRel_no (by rw [Hdg.out]; exact hneg)] at hst
                have Hst2 := Lib.hid hst
                have hnb : decide (dt < 0) = false := decide_eq_false hneg
                have HD7 := Lib.hid hD7
                have HDL7 := Lib.hid hDL7
                clear hst hD7 hDL7 x0 x1 x2 f0 f1 f2 f3 hcL3 hcl hcQ
                go_wp2
                go_roundw
                case rel => exact ⟨j' + 1, by omega, by go_num, by rw [Hst2.out]; exact HD7.out, HDL7.out⟩
                case measure => simp [intOf]; omega
            · have hje : rw0.length = j' := by rw [Hrwl.out]; omega
              have hst2 : sj = (row v0).foldl (mRel v0) s := by rw [hsj, ← hje, List.take_length, Hrw.out]
              have hIn := hIj.next hkj (by rw [hvj, ← Hrw.out, ← hje, List.take_length]; exact fun _ h => h)
              have hrun2 : mRun row (n1 + 1 - (k + 1)) (k + 1) sj = mRun row (n1 + 1) 0 (mSrc sr n1) := by
                rw [← Hrun.out, show n1 + 1 - k = (n1 + 1 - (k + 1)) + 1 by omega, mRun_go hlt, hst2, ← Hv0.out]; rfl
              have HIn := Lib.hid hIn
              have Hrun2 := Lib.hid hrun2
              have HD := Lib.hid hD
              have HDL := Lib.hid hDL
              have Hkj := Lib.hid hkj
              have hjl : ¬ (j' : Int) < (ls.length : Int) := by omega
              clear hst2 hIn hrun2 hD hDL hsj hvj hIj
              go_wp2
              go_roundw
              case rel => exact ⟨k + 1, sj, HIn.out, Hkj.out, Hrun2.out, by go_num, HD.out, HDL.out⟩
              case measure => simp [intOf]; omega
        · have hke : k = s.2.length := by omega
          subst hke
          rw [mRun_end (by omega)] at hrun
          have Hf := Lib.hid (Hfin.out.trans (by rw [← hrun]) : mD x t (subS ts) = s.1)
          obtain ⟨a8, c8, hu8⟩ := hD.qu.form
          rw [List.length_map] at hu8
          subst hu8
          have HD := Lib.hid hD
          obtain ⟨nq, hnq⟩ : ∃ n, n = s.2.length := ⟨_, rfl⟩
          clear hD hrun hI hDL
          go_wp2
          go_ret
          exact ⟨_, rfl, by rw [Hf.out]; exact HD.out.ds.mono K0.size, K0.trans HD.out.on⟩
end Go.Proofs.YtclhblofchfglaaGreat
