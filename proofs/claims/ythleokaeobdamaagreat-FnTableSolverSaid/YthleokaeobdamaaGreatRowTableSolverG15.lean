/- The reference's depth of a state, its distance (laws 20, 38). -/
import Derived.Test.YthleokaeobdamaaGreatRowTableSolverG14
import Derived.Test.YthleokaeobdamaaGreatRowTableSolverG10
import Derived.Deep.RegionHeld3
import Derived.Test.YthleokaeobdamaaGreatRowTableSolverG9
namespace Go.Proofs.YthleokaeobdamaaGreat
open Go.RowKit
set_option maxRecDepth 10000
theorem Zko (A1 A2 A3:Option Addr) (C1 C2 C3:Nat) (wh:Bool) (L:List (List Int)) (D:List Int) (so:List Nat) (ob:List Nat) (fps:List (List Nat)) (fd fs:List Nat) (m:Nat) (v:Value) (s:List Int) (f:List Nat) (w:World)
  (h:SrR w A1 A2 A3 C1 C2 C3 L D so ob fps fd fs) (hS:Srt m L so) (hv:Rd w v s f) (hs:s.length = m) (hL:L.length<=3000) (i:Nat) (hi:i < L.length) (hg:L.getD i [] = s) (hnd:L.Nodup) :
  Calls Tryz.prog 166 #[.agg #[.slice A1 L.length C1,.slice A2 D.length C2,.slice A3 so.length C3,.bool wh],v] w fun e w'=>e = .returned (.int .i64 i)/\Only [] w w':=by
 refine (Zeh A1 A2 A3 C1 C2 C3 wh L D so ob fps fd fs m v s f w h hS hv hs hL).mono ?_
 rintro e w' ⟨r,rfl,h1,h2,h3⟩
 have hm:s∈L:=by rw [<- hg,Zag hi];exact List.getElem_mem hi
 rcases h2 with rfl | ⟨k,rfl,hk,hg2⟩
 ·have:=h1.2 hm;omega
 ·rw [Zag hk] at hg2
  rw [Zag hi] at hg
  have:=Zfm hnd hk hi (hg2.trans hg.symm)
  subst this
  exact ⟨rfl,h3⟩
theorem Zlp (A1 A2 A3:Option Addr) (C1 C2 C3:Nat) (wh:Bool) (L:List (List Int)) (D:List Int) (so:List Nat) (ob:List Nat) (fps:List (List Nat)) (fd fs:List Nat) (m:Nat) (v:Value) (s:List Int) (f:List Nat) (w:World)
  (h:SrR w A1 A2 A3 C1 C2 C3 L D so ob fps fd fs) (hS:Srt m L so) (hv:Rd w v s f) (hs:s.length = m) (hL:L.length<=3000) (hn:s ∉ L) :
  Calls Tryz.prog 166 #[.agg #[.slice A1 L.length C1,.slice A2 D.length C2,.slice A3 so.length C3,.bool wh],v] w fun e w'=>e = .returned (.int .i64 (-1))/\Only [] w w':=by
 refine (Zeh A1 A2 A3 C1 C2 C3 wh L D so ob fps fd fs m v s f w h hS hv hs hL).mono ?_
 rintro e w' ⟨r,rfl,h1,h2,h3⟩
 rcases h2 with rfl | ⟨k,rfl,hk,hg2⟩
 ·exact ⟨rfl,h3⟩
 ·exact absurd (h1.1 (by omega)) hn
def depT (t:Table) (s:List Int):Int:=if s∈t.patterns then atD t (idxL t.patterns s) else -1
theorem Ztt {x:Puzzle} {t:Table} (hb:Built x t) {i:Nat} (hi:i < t.patterns.length):depT t (t.patterns.getD i []) = t.distances.getD i 0:=by
 unfold depT
 rw [if_pos (by rw [Zag hi];exact List.getElem_mem hi),hb.idx hi]
 unfold atD
 rw [Int.toNat_natCast]
theorem depT_no {t:Table} {s:List Int} (h:s ∉ t.patterns):depT t s = -1:=if_neg h
set_option maxHeartbeats 2000000 in
theorem Zqv (x:Puzzle) (t:Table) (v u:Value) (s:List Int) (f:List Nat) (w:World) {B:Nat} (h:SrF B w x t v) (hb:Built x t) (hu:Rd w u s f) (hs:s.length = x.points.toNat) :
  Calls Tryz.prog 107 #[v,u] w fun e w'=>e = .returned (.int .i64 (depT t s))/\Only [] w w':=by
 obtain ⟨A1,A2,A3,C1,C2,C3,so,ob,fps,fd,fz,rfl,hR,hS,-⟩:=h
 have hL:=hb.ll
 have hdl:t.distances.length = t.patterns.length:=hb.bi.dl
 have hnd:t.patterns.Nodup:=hb.bi.nd
 have HS:=zH hS
 have Hnd:=zH hnd
 have Hb:=zH hb
 have Hs:=zH hs
 have Hdl:=zH hdl
 clear hS hnd hb hs hdl
 have hB:=Blk.new w [.slice A1 t.patterns.length C1,.slice A2 t.distances.length C2,.slice A3 so.length C3,.bool true] 78
 by_cases hm:s∈t.patterns
 ·obtain ⟨i,hi,e⟩:=List.getElem_of_mem hm
  have hg:t.patterns.getD i [] = s:=by rw [Zag hi,e]
  have hd:=Ztt Hb.out hi
  rw [hg] at hd
  have hid:i < t.distances.length:=by rw [Hdl.out];exact hi
  obtain ⟨b2,off2,rfl,-,hc0⟩:=hR.dp.at_ i hid
  have hdv:t.distances.getD i 0 = t.distances[i]:=Zag hid
  have Hd:=zH (hd.trans hdv)
  have Hg:=zH hg
  clear hm e hg hd hdv
  go_enter Tryz.func107,Tryz.ntmps107
  go_wp2_with (first
   | (go_at_call 166;(with_reducible refine (Zko A1 (some ⟨b2,off2,none⟩) A3 C1 C2 C3 true t.patterns t.distances so ob fps fd fz x.points.toNat _ s f _ (hR.keep zA) HS.out (zK hu zA) Hs.out hL i hi Hg.out Hnd.out).mono ?_);rintro e w1 ⟨rfl,t1⟩;have y1:=(hB.keep t1).cell 1 rfl;have y2:=(((Only.refl [] w).alloc _).trans t1).cell (by simp) hc0)
   | fail)
  go_ret
  exact ⟨ret_int Hd.out.symm,zA⟩
 ·have Hd:=zH (depT_no hm)
  have Hm:=zH hm
  clear hm
  go_enter Tryz.func107,Tryz.ntmps107
  go_wp2_with (first
   | (go_at_call 166;(with_reducible refine (Zlp A1 A2 A3 C1 C2 C3 true t.patterns t.distances so ob fps fd fz x.points.toNat _ s f _ (hR.keep zA) HS.out (zK hu zA) Hs.out hL Hm.out).mono ?_);rintro e w1 ⟨rfl,t1⟩;have y1:=(hB.keep t1).cell 1 rfl)
   | fail)
  go_ret
  exact ⟨ret_int Hd.out.symm,zA⟩
theorem Zkt (cs:List Value) (x:Puzzle) (fp:List Nat) (w:World) (h:Rp.rep w cs x fp) (he:expl x = none) :
  Calls Tryz.prog 106 #[.agg cs.toArray] w fun e w'=>∃ A1 n1 C1 A2 n2 C2 A3 n3 C3 wh,e = .returned (.tuple #[.agg #[.slice A1 n1 C1,.slice A2 n2 C2,.slice A3 n3 C3,.bool wh],.bool false])/\Only [] w w':=by
 refine (Zfg cs x fp w h).mono ?_
 rintro e w' ⟨⟨-,A1,n1,C1,A2,n2,C2,A3,n3,C3,wh,rfl⟩ | ⟨t,h1,-⟩,ho⟩
 ·exact ⟨A1,n1,C1,A2,n2,C2,A3,n3,C3,wh,rfl,ho⟩
 ·rw [he] at h1;cases h1
theorem Zfi (cs:List Value) (x:Puzzle) (t:Table) (fp:List Nat) (w:World) (h:Rp.rep w cs x fp) (he:expl x = some t) :
  Calls Tryz.prog 106 #[.agg cs.toArray] w fun e w'=>∃ A1 n1 C1 A2 n2 C2 A3 n3 C3 wh,e = .returned (.tuple #[.agg #[.slice A1 n1 C1,.slice A2 n2 C2,.slice A3 n3 C3,.bool wh],.bool true])/\SrF w.heap.size w' x t (.agg #[.slice A1 n1 C1,.slice A2 n2 C2,.slice A3 n3 C3,.bool wh])/\Only [] w w':=by
 refine (Zfg cs x fp w h).mono ?_
 rintro e w' ⟨⟨h1,-⟩ | ⟨t',h1,v,rfl,h2⟩,ho⟩
 ·rw [he] at h1;cases h1
 ·rw [he] at h1
  injection h1 with h1
  subst h1
  have h3:=h2
  obtain ⟨A1,A2,A3,C1,C2,C3,so,ob,fps,fd,fz,rfl,-⟩:=h3
  exact ⟨_,_,_,_,_,_,_,_,_,_,rfl,h2,ho⟩
theorem Zsq {x:Puzzle} {t:Table} {s:List Int} (ht:expl x = some t):distX x s = depT t s:=by
 rcases hr:reachB x s
 ·rw [Zke hr,depT_no]
  intro hm
  rw [(Zhc ht).1 hm] at hr;cases hr
 ·unfold distX depT
  rw [ht,if_pos ((Zhc ht).2 hr)]
  show (if reachB x s = true then _ else _) = _
  rw [if_pos hr]
theorem Zrr {x:Puzzle} {s:List Int} (h:stateB x s = false):distX x s = -1:=Zke (by unfold reachB;rw [h];rfl)
theorem store4 {w1:World} {r:Nat} {o0 o1 o2 o3:Value} (hR:Blk w1 r [o0,o1,o2,o3]) (a b c d:Value) :
  Blk ((((w1.setCell ⟨r,0,none⟩ a).setCell ⟨r,1,none⟩ b).setCell ⟨r,2,none⟩ c).setCell ⟨r,3,none⟩ d) r [a,b,c,d] /\
  Only [r] w1 ((((w1.setCell ⟨r,0,none⟩ a).setCell ⟨r,1,none⟩ b).setCell ⟨r,2,none⟩ c).setCell ⟨r,3,none⟩ d):=by
 refine ⟨?_,(((zO.setCell (by simp) _).setCell (by simp) _).setCell (by simp) _).setCell (by simp) _⟩
 exact (((hR.set 0 a).set 1 b).set 2 c).set 3 d
set_option maxHeartbeats 4000000 in
theorem Zgf (cs:List Value) (x:Puzzle) (fp:List Nat) (v:Value) (s:List Int) (fs:List Nat) (w:World) (h:Rp.rep w cs x fp) (hs:Rd w v s fs) :
  Calls Tryz.prog 57 #[.agg cs.toArray,v] w fun e w'=>∃ A1 n1 C1 A2 n2 C2 A3 n3 C3 wh,e = .returned (.tuple #[.agg #[.slice A1 n1 C1,.slice A2 n2 C2,.slice A3 n3 C3,.bool wh],.int .i64 (distX x s),.bool (decide (0<=distX x s))])/\(∀ t,expl x = some t->SrF w.heap.size w' x t (.agg #[.slice A1 n1 C1,.slice A2 n2 C2,.slice A3 n3 C3,.bool wh]))/\Only [] w w':=by
 have h0:=h
 obtain ⟨v2,rfl,p0,p1,h2⟩:=h
 clear p0 p1 h2
 have X0:Blk ((w.alloc (.cells #[.int .i64 x.points,.string x.names,v2] 26)).alloc (.cells #[.slice none 0 0,.slice none 0 0,.slice none 0 0,.bool false] 78)) w.heap.size [.int .i64 x.points,.string x.names,v2]:=(Blk.new w [.int .i64 x.points,.string x.names,v2] 26).keep (zO.alloc _)
 have Y0:Blk ((w.alloc (.cells #[.int .i64 x.points,.string x.names,v2] 26)).alloc (.cells #[.slice none 0 0,.slice none 0 0,.slice none 0 0,.bool false] 78)) (w.heap.size + 1) [.slice none 0 0,.slice none 0 0,.slice none 0 0,.bool false]:=Blk.new_at (by simp)
 rcases he:expl x with _ | t
 ·have Hn:=zH (Zhj (s:=s) he)
  have He:=zH he
  clear he
  go_enter Tryz.func57,Tryz.ntmps57
  go_wp2_with (first
   | (go_at_call 106;(with_reducible refine (Zkt [.int .i64 x.points,.string x.names,v2] x _ _ (zK h0 zA) He.out).mono ?_);rintro e w1 ⟨A1,n1,C1,A2,n2,C2,A3,n3,C3,wh,rfl,t1⟩;have Z:=Blk.new w1 [.slice none 0 0,.slice none 0 0,.slice none 0 0,.bool false] 78;obtain ⟨z0,z1,z2,z3⟩:=Z.c4;obtain ⟨zp0,zp1,zp2,zp3⟩:=Z.f4;have Y1:=(Y0.keep t1).keep ((Only.refl [] _).alloc (.cells #[.slice A1 n1 C1,.slice A2 n2 C2,.slice A3 n3 C3,.bool wh] 78));have U1:=Blk.new w1 [.slice A1 n1 C1,.slice A2 n2 C2,.slice A3 n3 C3,.bool wh] 78;obtain ⟨a0,a1,a2,a3⟩:=U1.c4;obtain ⟨g0,g1,g2,g3⟩:=Y1.c4;obtain ⟨p0,p1,p2,p3⟩:=Y1.f4)
   | fail)
  have K1:Only [] w (w1.alloc (.cells #[.slice A1 n1 C1,.slice A2 n2 C2,.slice A3 n3 C3,.bool wh] 78)):=zA
  obtain ⟨Yf,kf⟩:=store4 Y1 (.slice A1 n1 C1) (.slice A2 n2 C2) (.slice A3 n3 C3) (.bool wh)
  obtain ⟨wf,hwf⟩:∃ wf,wf = (((((w1.alloc (.cells #[.slice A1 n1 C1,.slice A2 n2 C2,.slice A3 n3 C3,.bool wh] 78)).setCell ⟨w.heap.size + 1,0,none⟩ (.slice A1 n1 C1)).setCell ⟨w.heap.size + 1,1,none⟩ (.slice A2 n2 C2)).setCell ⟨w.heap.size + 1,2,none⟩ (.slice A3 n3 C3)).setCell ⟨w.heap.size + 1,3,none⟩ (.bool wh)):=⟨_,rfl⟩
  rw [<- hwf] at Yf kf ⊢
  clear hwf g0 g1 g2 g3 p0 p1 p2 p3
  obtain ⟨r0,r1,r2,r3⟩:=Yf.c4
  refine bodyPost_ret (v:=.tuple #[.agg #[.slice A1 n1 C1,.slice A2 n2 C2,.slice A3 n3 C3,.bool wh],.int .i64 (-1),.bool false]) (by simp [results,Tryz.results57,go_sem,r0,r1,r2,r3]) rfl ⟨A1,n1,C1,A2,n2,C2,A3,n3,C3,wh,by rw [Hn.out];rfl,fun t h9=>(by cases h9),K1.then_ kf (by simp)⟩
 ·obtain ⟨hb,-⟩:=Zdb he
  have He:=zH he
  have Hb:=zH hb
  clear he hb
  rcases hq:stateB x s
  ·have Hn:=zH (Zrr hq)
   have Hq:=zH hq
   clear hq
   go_enter Tryz.func57,Tryz.ntmps57
   go_wp2_with (first
    | (go_at_call 106;(with_reducible refine (Zfi [.int .i64 x.points,.string x.names,v2] x t _ _ (zK h0 zA) He.out).mono ?_);rintro e w1 ⟨A1,n1,C1,A2,n2,C2,A3,n3,C3,wh,rfl,hS,t1⟩;have Z:=Blk.new w1 [.slice none 0 0,.slice none 0 0,.slice none 0 0,.bool false] 78;obtain ⟨z0,z1,z2,z3⟩:=Z.c4;obtain ⟨zp0,zp1,zp2,zp3⟩:=Z.f4;have X1:=(X0.keep t1).keep ((Only.refl [] _).alloc (.cells #[.slice A1 n1 C1,.slice A2 n2 C2,.slice A3 n3 C3,.bool wh] 78));obtain ⟨x0,x1,x2⟩:=X1.c3;have Y1:=(Y0.keep t1).keep ((Only.refl [] _).alloc (.cells #[.slice A1 n1 C1,.slice A2 n2 C2,.slice A3 n3 C3,.bool wh] 78));have U1:=Blk.new w1 [.slice A1 n1 C1,.slice A2 n2 C2,.slice A3 n3 C3,.bool wh] 78)
    | (go_at_call 69;(with_reducible refine (Zau [.int .i64 x.points,.string x.names,v2] x _ _ s _ _ (zK h0 zA) (zK hs zA)).mono ?_);rintro e w2 ⟨he,t2⟩;rw [Hq.out] at he;subst he;have U2:=U1.keep t2;have Y2:=Y1.keep t2;obtain ⟨a0,a1,a2,a3⟩:=U2.c4;obtain ⟨g0,g1,g2,g3⟩:=Y2.c4;obtain ⟨p0,p1,p2,p3⟩:=Y2.f4)
    | fail)
   have K1:Only [] w w2:=zA
   have hS2:=SrF.keep hS (((Only.refl [] w1).alloc (.cells #[.slice A1 n1 C1,.slice A2 n2 C2,.slice A3 n3 C3,.bool wh] 78)).trans t2)
   have Y9:=Y2
   obtain ⟨Yf,kf⟩:=store4 Y9 (.slice A1 n1 C1) (.slice A2 n2 C2) (.slice A3 n3 C3) (.bool wh)
   obtain ⟨wf,hwf⟩:∃ wf,wf = ((((w2.setCell ⟨w.heap.size + 1,0,none⟩ (.slice A1 n1 C1)).setCell ⟨w.heap.size + 1,1,none⟩ (.slice A2 n2 C2)).setCell ⟨w.heap.size + 1,2,none⟩ (.slice A3 n3 C3)).setCell ⟨w.heap.size + 1,3,none⟩ (.bool wh)):=⟨_,rfl⟩
   rw [<- hwf] at Yf kf ⊢
   clear hwf g0 g1 g2 g3 p0 p1 p2 p3
   obtain ⟨r0,r1,r2,r3⟩:=Yf.c4
   exact bodyPost_ret (v:=.tuple #[.agg #[.slice A1 n1 C1,.slice A2 n2 C2,.slice A3 n3 C3,.bool wh],.int .i64 (-1),.bool false]) (by simp [results,Tryz.results57,go_sem,r0,r1,r2,r3]) rfl ⟨A1,n1,C1,A2,n2,C2,A3,n3,C3,wh,by rw [Hn.out];rfl,fun t' h9=>(by injection h9 with h9;subst h9;exact (SrF.only hS2 kf (by intro b hb;simp at hb;subst hb;simp)).mono (by simp;omega)),K1.then_ kf (by simp)⟩
  ·have hsl:s.length = x.points.toNat:=(Zam hq).2.2.2.1
   have Hq:=zH hq
   have Hsl:=zH hsl
   have Hd:=zH (Zsq (s:=s) He.out)
   clear hq hsl
   go_enter Tryz.func57,Tryz.ntmps57
   go_wp2_with (first
    | (go_at_call 106;(with_reducible refine (Zfi [.int .i64 x.points,.string x.names,v2] x t _ _ (zK h0 zA) He.out).mono ?_);rintro e w1 ⟨A1,n1,C1,A2,n2,C2,A3,n3,C3,wh,rfl,hS,t1⟩;have Z:=Blk.new w1 [.slice none 0 0,.slice none 0 0,.slice none 0 0,.bool false] 78;obtain ⟨z0,z1,z2,z3⟩:=Z.c4;obtain ⟨zp0,zp1,zp2,zp3⟩:=Z.f4;have X1:=(X0.keep t1).keep ((Only.refl [] _).alloc (.cells #[.slice A1 n1 C1,.slice A2 n2 C2,.slice A3 n3 C3,.bool wh] 78));obtain ⟨x0,x1,x2⟩:=X1.c3;have Y1:=(Y0.keep t1).keep ((Only.refl [] _).alloc (.cells #[.slice A1 n1 C1,.slice A2 n2 C2,.slice A3 n3 C3,.bool wh] 78));have U1:=Blk.new w1 [.slice A1 n1 C1,.slice A2 n2 C2,.slice A3 n3 C3,.bool wh] 78)
    | (go_at_call 69;(with_reducible refine (Zau [.int .i64 x.points,.string x.names,v2] x _ _ s _ _ (zK h0 zA) (zK hs zA)).mono ?_);rintro e w2 ⟨he,t2⟩;rw [Hq.out] at he;subst he;have U2:=U1.keep t2;have Y2:=Y1.keep t2;obtain ⟨b0,b1,b2,b3⟩:=U2.c4;have hS2:=SrF.keep hS (((Only.refl [] w1).alloc (.cells #[.slice A1 n1 C1,.slice A2 n2 C2,.slice A3 n3 C3,.bool wh] 78)).trans t2))
    | (go_at_call 107;(with_reducible refine (Zqv x t _ _ s _ _ hS2 Hb.out (zK hs zA) Hsl.out).mono ?_);rintro e w3 ⟨he,t3⟩;rw [<- Hd.out] at he;subst he;have U3:=U2.keep t3;have Y9:=Y2.keep t3;obtain ⟨a0,a1,a2,a3⟩:=U3.c4;obtain ⟨g0,g1,g2,g3⟩:=Y9.c4;obtain ⟨p0,p1,p2,p3⟩:=Y9.f4)
    | fail)
   have K1:Only [] w w3:=zA
   have hS3:=SrF.keep hS2 t3
   obtain ⟨Yf,kf⟩:=store4 Y9 (.slice A1 n1 C1) (.slice A2 n2 C2) (.slice A3 n3 C3) (.bool wh)
   obtain ⟨wf,hwf⟩:∃ wf,wf = ((((w3.setCell ⟨w.heap.size + 1,0,none⟩ (.slice A1 n1 C1)).setCell ⟨w.heap.size + 1,1,none⟩ (.slice A2 n2 C2)).setCell ⟨w.heap.size + 1,2,none⟩ (.slice A3 n3 C3)).setCell ⟨w.heap.size + 1,3,none⟩ (.bool wh)):=⟨_,rfl⟩
   rw [<- hwf] at Yf kf ⊢
   clear hwf g0 g1 g2 g3 p0 p1 p2 p3
   obtain ⟨r0,r1,r2,r3⟩:=Yf.c4
   exact bodyPost_ret (v:=.tuple #[.agg #[.slice A1 n1 C1,.slice A2 n2 C2,.slice A3 n3 C3,.bool wh],.int .i64 (distX x s),.bool (decide (0<=distX x s))]) (by simp [results,Tryz.results57,go_sem,r0,r1,r2,r3]) rfl ⟨A1,n1,C1,A2,n2,C2,A3,n3,C3,wh,rfl,fun t' h9=>(by injection h9 with h9;subst h9;exact (SrF.only hS3 kf (by intro b hb;simp at hb;subst hb;simp)).mono (by simp;omega)),K1.then_ kf (by simp)⟩
set_option maxHeartbeats 4000000 in
theorem Zjn (cs:List Value) (x:Puzzle) (fp:List Nat) (v:Value) (s:List Int) (fs:List Nat) (w:World) (h:Rp.rep w cs x fp) (hs:Rd w v s fs) :
  Calls Tryz.prog 16 #[.agg cs.toArray,v] w fun e w'=>e = .returned (.int .i64 (distX x s))/\Only [] w w':=by
 have h0:=h
 obtain ⟨v2,rfl,p0,p1,h2⟩:=h
 clear p0 p1 h2
 by_cases hd:0<=distX x s
 ·have hdb:decide (0<=distX x s) = true:=decide_eq_true hd
  have Hdb:=zH hdb
  clear hdb hd
  go_enter Tryz.func16,Tryz.ntmps16
  go_wp2_with (first
   | (go_at_call 57;(with_reducible refine (Zgf [.int .i64 x.points,.string x.names,v2] x _ v s _ _ (zK h0 zA) (zK hs zA)).mono ?_);rintro e w1 ⟨A1,n1,C1,A2,n2,C2,A3,n3,C3,wh,he,q1,t1⟩;rw [Hdb.out] at he;subst he)
   | fail)
  go_ret
  exact ⟨rfl,zA⟩
 ·have hdb:decide (0<=distX x s) = false:=decide_eq_false hd
  have Hdb:=zH hdb
  have hn:distX x s = -1:=by
   rcases Zpb x s with h1 | h1
   ·exact h1
   ·exact absurd h1.1 hd
  have Hn:=zH hn
  clear hdb hd hn
  go_enter Tryz.func16,Tryz.ntmps16
  go_wp2_with (first
   | (go_at_call 57;(with_reducible refine (Zgf [.int .i64 x.points,.string x.names,v2] x _ v s _ _ (zK h0 zA) (zK hs zA)).mono ?_);rintro e w1 ⟨A1,n1,C1,A2,n2,C2,A3,n3,C3,wh,he,q1,t1⟩;rw [Hdb.out] at he;subst he)
   | fail)
  go_ret
  exact ⟨ret_int Hn.out.symm,zA⟩
set_option maxHeartbeats 8000000 in
theorem Zqn (cs:List Value) (x:Puzzle) (fp:List Nat) (v:Value) (tr:List Int) (ft:List Nat) (w:World) (h:Rp.rep w cs x fp) (hv:Rd w v tr ft) (hx:validPz x = true) (hp:patB x.points tr.length tr = true) (htl:tr.length<=1000) :
  Calls Tryz.prog 161 #[.agg cs.toArray,v] w fun e w'=>∃ u1 u2 f1 f2,e = .returned (.tuple #[u1,u2,.bool (bFrom x 3001 0 ([tr],[0])).isSome]) /\
   Rd w' u1 ((bFrom x 3001 0 ([tr],[0])).getD ([],[])).1 f1/\Rd w' u2 ((bFrom x 3001 0 ([tr],[0])).getD ([],[])).2 f2/\Fresh w.heap.size w' (f1 ++ f2)/\Only [] w w':=by
 have h0:=h
 obtain ⟨v2,rfl,p0,p1,h2⟩:=h
 obtain ⟨A2,C2,_,_,rfl,-,-⟩:=h2.open_
 obtain ⟨a,cap,rfl,Iv⟩:=hv.ints
 obtain ⟨g1,g2,g3,g4⟩:=Zad hx
 clear Iv p0 p1
 have Hp:=zH hp
 have Hx:=zH hx
 clear hp hx
 have X0:Blk (w.alloc (.cells #[.int .i64 x.points,.string x.names,.slice A2 x.moves.length C2] 26)) w.heap.size [.int .i64 x.points,.string x.names,.slice A2 x.moves.length C2]:=Blk.new w _ _
 obtain ⟨R,hR⟩:∃ R,R = bFrom x 3001 0 ([tr],[0]):=⟨_,rfl⟩
 rw [<- hR]
 have HR:=zH hR
 clear hR
 have hmm:=@run_makeMap Tryz.prog
 go_enter Tryz.func161,Tryz.ntmps161
 have hkl:(kB tr).size<=maxLen:=by rw [kB_size];unfold maxLen;omega
 go_upto_region 3 with (first
  | (go_at_call 92;(with_reducible refine (Zdm _ tr _ _ (zK hv zA) (by omega)).mono ?_);rintro e w1 ⟨u1,f1,rfl,r1,F1,t1⟩;obtain ⟨a1,c1,rfl,I1⟩:=r1.ints;clear I1;have hz1:=t1.size;simp at hz1;have hM:=MpB.made ((w1.alloc (.cells #[.slice a1 tr.length c1] 27)).alloc (.cells #[.int .i64 0] 2)) (M:=w1.heap.size + 1 + 1) (by simp))
  | (go_at_call 209;(with_reducible refine (Zcp _ tr _ _ (zK hv zA) htl).mono ?_);rintro e w2 ⟨rfl,t2⟩;obtain ⟨w3,hrun3,hM3,hO3⟩:=(hM.keep t2).run_put hkl true (by unfold maxLen;omega))
  | fail)
 have X3:Blk w3 w.heap.size [.int .i64 x.points,.string x.names,.slice A2 x.moves.length C2]:=(((((X0.keep t1).keep ((Only.refl [] _).alloc _)).keep ((Only.refl [] _).alloc _)).keep ((Only.refl [] _).alloc _)).keep t2).only hO3 (by simp;omega)
 have K2:Only [] w w2:=zA
 have K3:Only [] w w3:=K2.then_ hO3 (by intro b hb hl;simp at hb;omega)
 have hz2:=t2.size
 simp at hz2
 have hz3:=hO3.size
 have hf1:∀ g∈f1,w.heap.size < g/\g < w1.heap.size:=fun g hg=>⟨by have:=F1.ge g hg;simp at this;omega,F1.lt g hg⟩
 have kk:Only [] (w1.alloc (.cells #[.slice a1 tr.length c1] 27)) w2:=((((Only.refl [] _).alloc _).alloc _)).trans t2
 have kk2:Only [] ((w1.alloc (.cells #[.slice a1 tr.length c1] 27)).alloc (.cells #[.int .i64 0] 2)) w2:=((Only.refl [] _).alloc _).trans t2
 have P0:∀ W:World,W = w3->PBf x tr.length w w3.heap.size w3 (w1.heap.size + 1 + 1) [tr] [0] W (.slice (some ⟨w1.heap.size,0,none⟩) 1 1) (.slice (some ⟨w1.heap.size + 1,0,none⟩) 1 1) [f1] [[]]:=by
  rintro W rfl
  have hA1:=((Acc.one w.heap.size 27 (cs:=[.slice a1 tr.length c1]) r1 rfl (by omega)).keep kk)
  have hA2:=((Acc.one (α:=Int) (w:=w1.alloc (.cells #[.slice a1 tr.length c1] 27)) w.heap.size 2 (cs:=[.int .i64 0]) (x:=(0:Int)) (fp:=[]) (int_rd _ (by unfold I64;omega)) (g:=w1.heap.size + 1) (by simp) (by omega)).keep kk2)
  have hFr:Fresh w.heap.size w2 [f1].flatten:=by
   have:=(F1.mono (B':=w.heap.size) (by simp)).keep (((Only.refl [] w1).alloc (.cells #[.slice a1 tr.length c1] 27)).trans kk)
   simpa using this
  refine ⟨hA1.only hO3 (fun b hb hm=>?_) (fun g hg hm=>?_),hA2.only hO3 (fun b hb hm=>by simp at hb) (fun g hg hm=>?_),hFr.only hO3 (fun b hb hm=>?_),?_,rfl,by simp,by simpa using Hp.out,by simp,?_,⟨by simp [Value.ownBlock];omega,?_⟩,?_,fun _ _=>rfl,K3,Nat.le_refl _,by omega,Nat.le_refl _⟩
  ·have:=hf1 b (by simpa using hb);simp at hm;omega
  ·simp [Value.ownBlock] at hg;simp at hm;omega
  ·simp [Value.ownBlock] at hg;simp at hm;omega
  ·have:=hf1 b (by simpa using hb);simp at hm;omega
  ·exact hM3.congr fun s=>by rw [show (if s = kB tr then true else false) = (if s = kB tr then true else metB [] s) from rfl,Znf,List.nil_append]
  ·intro g hg
   simp only [Value.ownBlock,Option.some.injEq] at hg
   subst hg
   refine ⟨by simp [Value.ownBlock],fun hm=>?_,by omega⟩
   have:=hf1 _ (by simpa using hm);omega
  ·intro hm
   have:=hf1 _ (by simpa using hm);omega
  ·rintro g (rfl | hg | hg)
   ·omega
   ·simp [Value.ownBlock] at hg;omega
   ·simp [Value.ownBlock] at hg;omega
 obtain ⟨b1,hb1⟩:∃ b1,b1 = w1.heap.size:=⟨_,rfl⟩
 rw [<- hb1] at P0 hM3 ⊢
 clear kk kk2 hz2 hz1 hf1 r1 F1 t1 t2 hM hO3 hM3 X0 hb1 K2 hrun3
 have hll:(ltrs x.moves.length).length<=1000:=by rw [Zfk];omega
 have hmv:∀ g∈x.moves,PM.IsP g/\g.length<=1000:=fun g hg=>by have:=g4 g hg;have:=(Zch.1 this.2);exact ⟨this.2,by omega⟩
 have x0:=X3.cell 2 rfl
 go_upto_region 5 with (first
  | (go_at_call 169;(with_reducible refine (Zix x.moves.length _ (by omega)).mono ?_);rintro e w4 ⟨u4,f4,rfl,r4,F4,t4⟩;obtain ⟨a4,c4,rfl,I4⟩:=r4.ints)
  | fail)
 have K4:Only [] w w4:=K3.trans t4
 have X4:=X3.keep t4
 obtain ⟨ls,hls⟩:∃ ls,ls = ltrs x.moves.length:=⟨_,rfl⟩
 rw [<- hls] at r4 I4 hll
 rw [<- hls]
 have Hls:=zH hls
 have hml:x.moves.length<=1000:=by omega
 obtain ⟨iL,hiL,hL0,hL1,hL2⟩:=info_parts Tryz.info22
 obtain ⟨iD,hiD,hD0,hD1,hD2⟩:=info_parts Tryz.info2
 clear hls x0
 go_loopw [10,31] (fun o i wr=>∃ (j:Nat) (fs:List (List Nat)),j<=ls.length/\i = .int .i64 j/\Acc w4.heap.size 27 wr o ((ls.take j).map (mv x.moves)) fs/\(∀ b∈fs.flatten,b < w.heap.size\/w4.heap.size<=b)/\Only [] w4 wr)
  (fun _ i _=>ls.length - (intOf i).toNat)
 case atStart=>exact ⟨0,[],Nat.zero_le _,rfl,Acc.nil _ _ _,by simp,Only.refl _ _⟩
 case round=>
  obtain ⟨W2,hnew⟩:∃ W,W = wr:=⟨_,rfl⟩
  subst hnew
  obtain ⟨j,fs,hj,rfl,hA,hF,hK⟩:=hrel
  by_cases hlt:j < ls.length
  ·obtain ⟨b,off,rfl,-,hc0⟩:=I4.at_ j hlt
   have hc:=hK.cell (by simp) hc0
   have hlj:ls[j]∈ltrs x.moves.length:=by rw [<- Hls.out];exact List.getElem_mem hlt
   have Hlj:=zH hlj
   have x0:=(X4.keep hK).cell 2 rfl
   have hh2:=zK h2 (K4.trans hK)
   have hsn:(ls.take (j + 1)).map (mv x.moves) = (ls.take j).map (mv x.moves) ++ [mv x.moves ls[j]]:=by rw [Zab ls j hlt,List.map_append];rfl
   have Hsn:=zH hsn
   have hzK:=hK.size
   have hzw:=K4.size
   clear hlj hsn hc0
   have hal:((ls.take j).map (mv x.moves)).length + 1<=1073741824:=by simp;omega
   go_wp2_with (first
    | (go_at_call 217;(with_reducible refine (Zgl (.slice A2 x.moves.length C2) x.moves ls[j] _ _ (zK hh2 zA) hmv Hlj.out hml).mono ?_);rintro e w5 ⟨u5,f5,rfl,r5,F5,t5⟩;obtain ⟨a5,c5,rfl,I5⟩:=r5.ints;clear I5;have hB5:w4.heap.size<=W2.heap.size:=hzK;have hf5:∀ b∈f5,b < w.heap.size\/W2.heap.size<=b:=(fun b hb=>(F5 b hb).imp (fun hm=>Rp.lt h2 b hm) id);have hr5:=zK r5 ((Only.refl [] w5).alloc (.cells #[.slice a5 (mv x.moves ls[j]).length c5] 27));have hapb:∀ b∈f5,u10.ownBlock ≠ some b:=(fun b hb he=>by have:=hA.ownlt b he;rcases hf5 b hb with h9 | h9 <;> omega))
    | (at_builtin;refine Zck rfl _ _ 24 rfl w4.heap.size 27 iL _ 24 Tryz.underlying24 hiL hL0 hL1 hL2 rfl (by decide) (by decide) W2 _ ((ls.take j).map (mv x.moves)) fs rfl hA (t5.alloc _) hB5 w5.heap.size 1 [.slice a5 (mv x.moves ls[j]).length c5] (mv x.moves ls[j]) f5 rfl (lit_src w5 [.slice a5 (mv x.moves ls[j]).length c5] _ rfl) (by intro u hu;simp at hu;subst hu;rfl) hr5 hapb hal ?_;intro v9 w9 hA9 hO9 hP9 hQ9 hN9)
    | fail)
   go_roundw
   case rel=>exact ⟨j + 1,_,by omega,by go_num,by rw [Hsn.out];exact hA9,fun b hb=>by
    rw [List.flatten_append] at hb
    rcases List.mem_append.1 hb with hb | hb
    ·exact hF b hb
    ·exact (hf5 b (by simpa using hb)).imp id (fun h9=>by omega),hP9 w4 ((hK.trans t5).alloc _) (Nat.le_refl _)⟩
   case measure=>simp [intOf];omega
  ·obtain rfl:j = ls.length:=by omega
   rw [List.take_length] at hA
   obtain ⟨mvs,hmvs⟩:∃ mvs,mvs = ls.map (mv x.moves):=⟨_,rfl⟩
   rw [<- hmvs] at hA
   have Hmvs:=zH hmvs
   have hml2:mvs.length = ls.length:=by rw [hmvs,List.length_map]
   have hm1:mvs.length<=1000:=by omega
   have Hml2:=zH hml2
   have hMr:=hA.rd (by decide)
   have hMf:∀ g∈u10.ownBlock.toList ++ fs.flatten,g < w.heap.size\/(w3.heap.size<=g/\g < W2.heap.size):=fun g hg=>by
    have hz5:=t4.size
    rcases List.mem_append.1 hg with hg | hg
    ·have:=hA.ownlt g (by simpa using hg);omega
    ·have h8:=hA.lt g hg
     rcases hF g hg with h9 | h9
     ·exact .inl h9
     ·omega
   have P5:=(P0 w3 rfl).start (t4.trans hK)
   obtain ⟨a10,c10,rfl⟩:=hA.form
   obtain ⟨fm,hfm⟩:∃ fm,fm = (Value.slice a10 mvs.length c10).ownBlock.toList ++ fs.flatten:=⟨_,rfl⟩
   rw [<- hfm] at hMr hMf
   have K5:=K4.trans hK
   clear hfm hA hF hK P0 hmvs hml2 hj hlt
   obtain ⟨W,hW⟩:∃ W,W = W2:=⟨_,rfl⟩
   rw [<- hW] at hMr hMf P5 K5 ⊢
   clear hW
   go_upto_region 10 with fail
   go_loopw [7,8,13] (fun o7 o8 i wr=>∃ (k:Nat) (L:List (List Int)) (D:List Int) (fs fd:List (List Nat)),i = .int .i64 k/\k<=L.length/\PBf x tr.length w w3.heap.size W (b1 + 1 + 1) L D wr o7 o8 fs fd/\R = bFrom x (3001 - k) k (L,D))
    (fun _ _ i _=>3001 - (intOf i).toNat)
   case atStart=>exact ⟨0,[tr],[0],_,_,rfl,by simp,P5,HR.out⟩
   case round=>
    obtain ⟨W3,hnew⟩:∃ W,W = wr:=⟨_,rfl⟩
    subst hnew
    obtain ⟨k,L,D,fs,fd,rfl,hk,hF,hRk⟩:=hrel
    have HRk:=zH hRk
    have hL3:=hF.ll
    clear hRk
    obtain ⟨a7,c7,rfl⟩:=hF.acc.form
    by_cases hlt:k < L.length
    ·have hst:=HRk.out.trans (Zlc hlt hL3)
     rw [<- Hls.out] at hst
     have Hst:=zH hst
     clear hst
     obtain ⟨q,hq⟩:∃ q,q = L.getD k []:=⟨_,rfl⟩
     obtain ⟨d1,hd1⟩:∃ d,d = D.getD k 0 + 1:=⟨_,rfl⟩
     rw [<- hq,<- hd1] at Hst
     have Hq:=zH hq.symm
     have Hd:=zH hd1.symm
     clear hq hd1
     go_wp2
     go_loopw [7,8,51] (fun o7 o8 i wr=>∃ (i':Nat) (L:List (List Int)) (D:List Int) (fs fd:List (List Nat)),i = .int .i64 i'/\i'<=mvs.length/\PBf x tr.length w w3.heap.size W (b1 + 1 + 1) L D wr o7 o8 fs fd/\k < L.length/\L.getD k [] = q/\D.getD k 0 + 1 = d1/\R = (bLets x q d1 (ls.drop i') (L,D)).bind (bFrom x (3001 - (k + 1)) (k + 1)))
      (fun _ _ i _=>mvs.length - (intOf i).toNat)
     case atStart=>exact ⟨0,L,D,fs,fd,rfl,Nat.zero_le _,hF,hlt,Hq.out,Hd.out,by rw [List.drop_zero];exact Hst.out⟩
     case round=>
      clear hL3 hF HRk Hst Hq Hd hlt hk
      obtain ⟨W4,hnew⟩:∃ W,W = wr:=⟨_,rfl⟩
      subst hnew
      obtain ⟨i,L,D,fs,fd,rfl,hi,hF,hlt,hq,hd,hRi⟩:=hrel
      have Hq:=zH hq
      have Hd:=zH hd
      have HRi:=zH hRi
      have hL3:=hF.ll
      have HDl:=zH hF.dl
      clear hq hd hRi
      have hMo:Rd W4 (.slice a10 mvs.length c10) mvs fm:=hF.old hMr hMf
      obtain ⟨a7',c7',rfl⟩:=hF.acc.form
      obtain ⟨a8,c8,rfl⟩:=hF.dep.form
      by_cases hil:i < mvs.length
      ·have hq1:=hMo.open_
       obtain ⟨aq,cq,obq,fpq,hv1,-,hS1⟩:=hq1
       injection hv1 with e1 _ e2
       subst e1
       subst e2
       obtain ⟨bm,om,um,rfl,-,hcm,hum⟩:=hS1.atRow i hil
       have hq2:=(hF.acc.rd (by decide)).open_
       obtain ⟨aq,cq,obq,fpq,hv1,-,hS2⟩:=hq2
       injection hv1 with e1 _ e2
       subst e1
       subst e2
       obtain ⟨bl,ol,ul,rfl,-,hcl,hul⟩:=hS2.atRow k hlt
       have hil2:i < ls.length:=by have:=Hml2.out;omega
       have hmi:mvs[i] = mv x.moves ls[i]:=by simp [Hmvs.out]
       have hqk:L[k] = q:=by have:=Hq.out;rw [List.getD_eq_getElem?_getD,List.getElem?_eq_getElem hlt] at this;exact this
       have hla:ls[i]∈ltrs x.moves.length:=by rw [<- Hls.out];exact List.getElem_mem hil2
       have hpat:=hF.pat L[k] (List.getElem_mem hlt)
       rw [hqk] at hul hpat
       rw [hmi] at hum
       have hql:q.length<=1000:=by rw [(Zaz.1 hpat).1];exact htl
       have hmp:=mv_pn (Zbw Hx.out) hla
       have hrq:∀ z∈q,0<=z/\z < (mv x.moves ls[i]).length:=fun z hz=>by have:=(Zaz.1 hpat).2.1 z hz;rw [hmp.1];omega
       have hps:patB x.points tr.length (nxt x q ls[i]) = true:=nxt_pat Hx.out hpat hla
       obtain ⟨s,hs⟩:∃ s,s = nxt x q ls[i]:=⟨_,rfl⟩
       rw [<- hs] at hps
       have hsl:s.length<=1000:=by rw [(Zaz.1 hps).1];exact htl
       have hkz:(kB s).size<=maxLen:=by rw [kB_size];unfold maxLen;omega
       have hmet:metB L (kB s) = decide (s∈L):=Zuc (by omega) hF.pat hps
       have hdr:ls.drop i = ls[i] :: ls.drop (i + 1):=List.drop_eq_getElem_cons hil2
       have Hdr:=zH hdr
       have Hs:=zH hs
       have Hps:=zH hps
       have Hrq:=zH hrq
       have hcs:PM.comp q (mv x.moves ls[i]) = s:=by rw [hs];rfl
       have Hcs:=zH hcs
       clear hs hps hdr hrq hcs hmi hqk hla hpat hmp
       by_cases hmem:s∈L
       ·have hmt:metB L (kB s) = true:=by rw [hmet];simp [hmem]
        have Hmet:=zH hmt
        have Hmem:=zH hmem
        clear hmt hmet hmem
        go_wp2_with (first
         | (go_at_call 211;(with_reducible refine (Zfs um ul (mv x.moves ls[i]) q _ _ _ (zK hum zA) (zK hul zA) Hrq.out hql).mono ?_);rintro e w5 ⟨u5,f5,rfl,r5,F5,t5⟩;rw [Hcs.out] at r5)
         | (go_at_call 209;(with_reducible refine (Zcp u5 s _ _ (zK r5 zA) hsl).mono ?_);rintro e w6 ⟨rfl,t6⟩;have k6:Only [] W4 w6:=t5.trans t6;have hrun6:=(hF.mp.keep k6).run_at hkz;rw [Hmet.out] at hrun6)
         | fail)
        go_roundw
        case rel=>exact ⟨i + 1,L,D,fs,fd,by go_num,by omega,hF.only k6,hlt,Hq.out,Hd.out,by rw [HRi.out,Hdr.out,Znc (by rw [<- Hs.out];exact Hmem.out)]⟩
        case measure=>simp [intOf];omega
       ·have hmt:metB L (kB s) = false:=by rw [hmet];simp [hmem]
        have Hmet:=zH hmt
        have Hmem:=zH hmem
        clear hmt hmet hmem
        by_cases hfull:L.length = 3000
        ·have Hfull:=zH hfull
         have hfb:((L.length:Int) == 3000) = true:=by simp [hfull]
         have hno:R = none:=by rw [HRi.out,Hdr.out,Zkn (by rw [<- Hs.out];exact Hmem.out) hfull];rfl
         have Hno:=zH hno
         clear hfull hno
         go_wp2_with (first
          | (go_at_call 211;(with_reducible refine (Zfs um ul (mv x.moves ls[i]) q _ _ _ (zK hum zA) (zK hul zA) Hrq.out hql).mono ?_);rintro e w5 ⟨u5,f5,rfl,r5,F5,t5⟩;rw [Hcs.out] at r5)
          | (go_at_call 209;(with_reducible refine (Zcp u5 s _ _ (zK r5 zA) hsl).mono ?_);rintro e w6 ⟨rfl,t6⟩;have k6:Only [] W4 w6:=t5.trans t6;have hrun6:=(hF.mp.keep k6).run_at hkz;rw [Hmet.out] at hrun6)
          | fail)
         refine bodyPost_ret (v:=.tuple #[.slice none 0 0,.slice none 0 0,.bool false]) (by simp [results,Tryz.results161,go_sem]) rfl ⟨.slice none 0 0,.slice none 0 0,[],[],by rw [Hno.out];rfl,by rw [Hno.out];exact nil_rd _,by rw [Hno.out];exact nil_rd _,Fresh.nil _ _,hF.on.trans k6⟩
        ·have hfb:((L.length:Int) == 3000) = false:=by simp;omega
         have hL4:L.length < 3000:=by omega
         clear hfull
         have hkD:k < D.length:=by have:=HDl.out;omega
         have hq3:=(hF.dep.rd (by decide)).ints
         obtain ⟨aq,cq,hv1,hI8⟩:=hq3
         injection hv1 with e1 _ e2
         subst e1
         subst e2
         obtain ⟨b8,o8,rfl,-,hcd⟩:=hI8.at_ k hkD
         obtain ⟨dk,hdk0⟩:∃ dk,dk = D[k]'hkD:=⟨_,rfl⟩
         have hdk:=hF.rng (D[k]'hkD) (List.getElem_mem _)
         rw [<- hdk0] at hcd hdk
         have hdd:dk + 1 = d1:=by
          have:=Hd.out
          rw [List.getD_eq_getElem?_getD,List.getElem?_eq_getElem hkD] at this
          rw [hdk0];exact this
         have Hdd:=zH hdd
         have hdk1:0<=dk:=hdk.1
         have hdk2:dk<=3000:=by have:=hdk.2;have:=HDl.out;omega
         have hdk3:=hdk.2
         have Hdk3:=zH hdk3
         have hw1:IntKind.i64.wrap (dk + 1) = dk + 1:=by rw [IntKind.wrap_i64];omega
         have ha2:=hF.a2 b8 rfl
         have hb8M:b8 ∉ [b1 + 1 + 1]:=by simpa using ha2.2.2
         have hb8l:b8 ∉ (Value.slice (some ⟨bl,ol,none⟩) L.length c7').ownBlock.toList:=by have:=ha2.1;simpa using this
         have hM7:b1 + 1 + 1 ∉ (Value.slice (some ⟨bl,ol,none⟩) L.length c7').ownBlock.toList:=by have:=hF.a1.1;simpa using this
         clear hdk hdk0 hdd hdk3
         have hll1:L.length + 1<=1073741824:=by omega
         have hld1:D.length + 1<=1073741824:=by have:=HDl.out;omega
         have hBW:w.heap.size<=W4.heap.size:=hF.on.size
         have hMl:=hF.mp.lt
         have hI1:I64 (dk + 1):=by unfold I64;omega
         have HI1:=zH hI1
         clear hI1
         go_wp2_with (first
          | (go_at_call 211;(with_reducible refine (Zfs um ul (mv x.moves ls[i]) q _ _ _ (zK hum zA) (zK hul zA) Hrq.out hql).mono ?_);rintro e w5 ⟨u5,f5,rfl,r5,F5,t5⟩;rw [Hcs.out] at r5;obtain ⟨a5,c5,rfl,I5⟩:=r5.ints;clear I5)
          | (go_at_call 209;(with_reducible refine (Zcp (.slice a5 s.length c5) s _ _ (zK r5 zA) hsl).mono ?_);rintro e w6 ⟨rfl,t6⟩;have k6:Only [] W4 w6:=t5.trans t6;have hrun6:=(hF.mp.keep k6).run_at hkz;rw [Hmet.out] at hrun6;obtain ⟨w7,hrun7,hM7,hO7⟩:=(hF.mp.keep k6).run_put hkz true (by unfold maxLen;omega);have hcd7:=hO7.cell hb8M (k6.cell (by simp) hcd);have acc7:=(hF.acc.keep k6).only hO7 (fun b hb hm=>hF.a1.2 (by simp at hm;rwa [<- hm])) (fun g hg hm=>hF.a1.1 (by simp at hm;rw [<- hm];exact hg));have dep7:=(hF.dep.keep k6).only hO7 (fun b hb hm=>by rw [hF.fd0] at hb;cases hb) (fun g hg hm=>(hF.a2 g hg).2.2 (by simpa using hm));have hf5M:∀ b∈f5,b ∉ [b1 + 1 + 1]:=(fun b hb hm=>by have:=F5.ge b hb;simp at hm;omega);have r7:=Rp.only (zK r5 t6) hO7 hf5M;have hs7:=hO7.size;have hs6:=k6.size;have r8:=zK r7 ((Only.refl [] w7).alloc (.cells #[.slice a5 s.length c5] 27));have hap8:∀ b∈f5,(Value.slice (some ⟨bl,ol,none⟩) L.length c7').ownBlock ≠ some b:=(fun b hb he=>by have:=F5.ge b hb;have:=(hF.acc.ownlt b he).2;omega);have hB7:w.heap.size<=w7.heap.size:=(by omega))
          | (at_builtin;refine Zck rfl _ _ 24 rfl w.heap.size 27 iL _ 24 Tryz.underlying24 hiL hL0 hL1 hL2 rfl (by decide) (by decide) w7 (.slice (some ⟨bl,ol,none⟩) L.length c7') L fs rfl acc7 ((Only.refl [] w7).alloc _) hB7 w7.heap.size 1 [.slice a5 s.length c5] s f5 rfl (lit_src w7 [.slice a5 s.length c5] _ rfl) (by intro u hu;simp at hu;subst hu;rfl) r8 hap8 hll1 ?_;intro v9 w9 hA9 hO9 hP9 hQ9 hN9;have hcd9:=hO9.cell hb8l (((Only.refl [] w7).alloc _).cell (by simp) hcd7);have dep9:=(dep7.keep ((Only.refl [] w7).alloc _)).only hO9 (fun b hb hm=>by rw [hF.fd0] at hb;cases hb) (fun g hg hm=>(hF.a2 g hg).1 (by simpa using hm));have hs9:=hO9.size;have hB9:w.heap.size<=w9.heap.size:=(by simp at hs9;omega))
          | (at_builtin;refine Zck rfl _ _ 27 rfl w.heap.size 2 iD _ 8 Tryz.underlying27 hiD hD0 hD1 hD2 rfl (by decide) (by decide) w9 (.slice (some ⟨b8,o8,none⟩) D.length c8) D fd rfl dep9 ((Only.refl [] w9).alloc _) hB9 w9.heap.size 1 [.int .i64 (dk + 1)] (dk + 1) [] rfl (lit_src w9 [.int .i64 (dk + 1)] _ rfl) (by intro u hu;simp at hu;subst hu;rfl) (int_rd _ HI1.out) (by simp) hld1 ?_;intro v10 w10 hA10 hO10 hP10 hQ10 hN10)
          | fail)
         have hFF:Fresh w.heap.size w9 (fs ++ [f5]).flatten:=by
          have g1:=(Fresh.append (hF.fr.keep t5) F5 hBW (fun b hb=>hF.fr.lt b hb)).keep t6
          have g2:=g1.only hO7 (fun b hb hm=>by
           rcases List.mem_append.1 hb with hb | hb
           ·exact hF.a1.2 (by simp at hm;rwa [<- hm])
           ·exact hf5M b hb hm)
          have g3:=(g2.keep ((Only.refl [] w7).alloc (.cells #[.slice a5 s.length c5] 27))).only hO9 (fun b hb hm=>by
           rcases List.mem_append.1 hb with hb | hb
           ·exact hF.acc.apart b (by simpa using hm) hb
           ·exact hap8 b hb (by simpa using hm))
          simpa using g3
         have hStep:=PBf.step (d:=d1) hF hL4 Hps.out (by have:=Hdd.out;have:=Hdk3.out;omega) (hM7.congr fun z=>Znf L s z) ((Only.weaken k6 _).trans hO7) ((Only.refl [] w7).alloc _) hA9 hO9 hN9 hFF (fun hm=>hf5M _ hm (by simp)) (fun g hg=>.inl (F5.ge g hg)) ((Only.refl [] w9).alloc _) (by rw [<- Hdd.out];exact hA10) hO10 hN10
         go_roundw
         case rel=>exact ⟨i + 1,L ++ [s],D ++ [d1],_,_,by go_num,by omega,hStep,by simp;omega,by rw [Zdn hlt];exact Hq.out,by rw [Zdn hkD];exact Hd.out,by rw [HRi.out,Hdr.out,Znu (by rw [<- Hs.out];exact Hmem.out) (by omega),<- Hs.out]⟩
         case measure=>simp [intOf];omega
      ·obtain rfl:i = mvs.length:=by omega
       have hend:R = bFrom x (3001 - (k + 1)) (k + 1) (L,D):=by rw [HRi.out,Hml2.out,List.drop_length];rfl
       have Hend:=zH hend
       clear hend
       go_wp2
       exact ⟨⟨k + 1,L,D,fs,fd,by go_num,by omega,hF,Hend.out⟩,by simp [intOf];omega⟩
    ·obtain rfl:k = L.length:=by omega
     have hend:R = some (L,D):=by rw [HRk.out,Znv hlt hL3]
     have Hend:=zH hend
     clear hend
     obtain ⟨o1,o2,o3⟩:=hF.out
     go_wp2
     refine bodyPost_ret (v:=.tuple #[.slice a7 L.length c7,u8,.bool true]) (by simp [results,Tryz.results161,go_sem]) rfl ⟨_,_,_,_,by rw [Hend.out];rfl,by rw [Hend.out];exact o1,by rw [Hend.out];exact o2,o3,hF.on⟩
set_option maxHeartbeats 1000000 in
theorem Zdw (cs:List Value) (x:Puzzle) (fp:List Nat) (v:Value) (l:List Int) (f2:List Nat) (w:World) (h:Rp.rep w cs x fp) (h2:Rd w v l f2) :
  Calls Tryz.prog 160 #[.agg cs.toArray,v] w fun e w'=>e = .returned (.bool (validPz x && trackB x.points l))/\Only [] w w':=by
 have h0:=h
 obtain ⟨v2,rfl,p0,p1,hm⟩:=h
 rcases hq:validPz x
 ·go_enter Tryz.func160,Tryz.ntmps160
  go_wp2_with ((go_at_call 128;(with_reducible refine (Zav [.int .i64 x.points,.string x.names,v2] x _ _ (zK h0 zA)).mono ?_);rintro e w1 ⟨he,t1⟩;rw [hq] at he;subst he))
  go_ret
  exact ⟨rfl,zA⟩
 obtain ⟨g1,g2,g3,g4⟩:=Zad hq
 have hB:=Blk.new_at (w:=w) (cs:=[.int .i64 x.points,.string x.names,v2]) (t:=26) rfl
 go_enter Tryz.func160,Tryz.ntmps160
 go_wp2_with (first | (go_at_call 128;(with_reducible refine (Zav [.int .i64 x.points,.string x.names,v2] x _ _ (zK h0 zA)).mono ?_);rintro e w1 ⟨he,t1⟩;rw [hq] at he;subst he;have y0:=(hB.keep t1).cell 0 rfl) | (go_at_call 175;(with_reducible refine (Zqa x.points v l _ _ (zK h2 zA) (by omega) (by omega)).mono ?_);rintro e w2 ⟨rfl,m2,rfl⟩))
 go_ret
 exact ⟨rfl,zA⟩
set_option maxHeartbeats 2000000 in
theorem Zes (cs:List Value) (x:Puzzle) (fp:List Nat) (v:Value) (tr:List Int) (ft:List Nat) (w:World) (h:Rp.rep w cs x fp) (hv:Rd w v tr ft) :
  Calls Tryz.prog 102 #[.agg cs.toArray,v] w fun e w'=>∃ u1 u2 f1 f2,e = .returned (.tuple #[u1,u2,.bool (bfs16 x tr).isSome]) /\
   Rd w' u1 ((bfs16 x tr).getD ([],[])).1 f1/\Rd w' u2 ((bfs16 x tr).getD ([],[])).2 f2/\Fresh w.heap.size w' (f1 ++ f2)/\Only [] w w':=by
 have h0:=h
 obtain ⟨v2,rfl,p0,p1,hm⟩:=h
 have X0:=Blk.new w [.int .i64 x.points,.string x.names,v2] 26
 simp only [List.toArray] at X0
 rcases hq:validPz x && trackB x.points tr
 ·have Hn:=zH (Zhk hq)
  have Hq:=zH hq
  clear hq
  go_enter Tryz.func102,Tryz.ntmps102
  go_wp2_with (first
   | (go_at_call 160;(with_reducible refine (Zdw [.int .i64 x.points,.string x.names,v2] x _ _ tr _ _ (zK h0 zA) (zK hv zA)).mono ?_);rintro e w1 ⟨he,t1⟩;rw [Hq.out] at he;subst he)
   | fail)
  refine bodyPost_ret (v:=.tuple #[.slice none 0 0,.slice none 0 0,.bool false]) (by simp [results,Tryz.results102,go_sem]) rfl ⟨.slice none 0 0,.slice none 0 0,[],[],by rw [Hn.out];rfl,by rw [Hn.out];exact nil_rd _,by rw [Hn.out];exact nil_rd _,Fresh.nil _ _,zA⟩
 ·have Hn:=zH (Zek hq)
  obtain ⟨q1,q2⟩:=(Bool.and_eq_true _ _).mp hq
  have Hq:=zH hq
  have Hv:=zH q1
  have Hp:=zH (Zev q2)
  have htl:tr.length<=1000:=by
   have h3:=(Zbb.1 q2).2.len
   have:=(Zad q1).2.1
   omega
  clear hq q1 q2
  go_enter Tryz.func102,Tryz.ntmps102
  go_wp2_with (first
   | (go_at_call 160;(with_reducible refine (Zdw [.int .i64 x.points,.string x.names,v2] x _ _ tr _ _ (zK h0 zA) (zK hv zA)).mono ?_);rintro e w1 ⟨he,t1⟩;rw [Hq.out] at he;subst he;have X1:=X0.keep t1;obtain ⟨g0,g1,g2⟩:=X1.c3)
   | (go_at_call 161;(with_reducible refine (Zqn [.int .i64 x.points,.string x.names,v2] x _ _ tr _ _ (zK h0 zA) (zK hv zA) Hv.out Hp.out htl).mono ?_);rintro e w2 ⟨u1,u2,f1,f2,rfl,r1,r2,F2,t2⟩)
   | fail)
  have K2:Only [] w w2:=zA
  have hsz:=t1.size
  simp at hsz
  refine bodyPost_ret (v:=.tuple #[u1,u2,.bool (bFrom x 3001 0 ([tr],[0])).isSome]) (by simp [results,Tryz.results102,go_sem]) rfl ⟨u1,u2,f1,f2,by rw [Hn.out],by rw [Hn.out];exact r1,by rw [Hn.out];exact r2,F2.mono (by omega),K2⟩
set_option maxHeartbeats 4000000 in
theorem Zcw (cs:List Value) (x:Puzzle) (fp:List Nat) (v:Value) (tr:List Int) (ft:List Nat) (w:World) (h:Rp.rep w cs x fp) (hv:Rd w v tr ft) (htl:tr.length<=2097152) :
  Calls Tryz.prog 52 #[.agg cs.toArray,v] w fun e w'=>∃ cs' fp',e = .returned (.tuple #[.agg (List.toArray cs'),.bool (bTab x tr).isSome])/\Rp.rep w' cs' ((bTab x tr).getD noTab) fp'/\Fresh w.heap.size w' fp'/\Only [] w w':=by
 have h0:=h
 obtain ⟨v2,rfl,p0,p1,h2⟩:=h
 obtain ⟨A2,C2,_,_,rfl,-,-⟩:=h2.open_
 obtain ⟨a,cap,rfl,Iv⟩:=hv.ints
 clear Iv h2 p0 p1
 have X0:Blk ((w.alloc (.cells #[.int .i64 x.points,.string x.names,.slice A2 x.moves.length C2] 26)).alloc (.cells #[.slice none 0 0,.slice none 0 0,.slice none 0 0] 41)) w.heap.size [.int .i64 x.points,.string x.names,.slice A2 x.moves.length C2]:=(Blk.new w [.int .i64 x.points,.string x.names,.slice A2 x.moves.length C2] 26).keep (zO.alloc _)
 have Y0:Blk ((w.alloc (.cells #[.int .i64 x.points,.string x.names,.slice A2 x.moves.length C2] 26)).alloc (.cells #[.slice none 0 0,.slice none 0 0,.slice none 0 0] 41)) (w.heap.size + 1) [.slice none 0 0,.slice none 0 0,.slice none 0 0]:=Blk.new_at (by simp)
 obtain ⟨x0,x1,x2⟩:=X0.c3
 rcases hq:bfs16 x tr with _ | s
 ·have Hq:=zH hq
  have hb:bTab x tr = none:=by unfold bTab;rw [hq];rfl
  have Hb:=zH hb
  clear hq hb
  go_enter Tryz.func52,Tryz.ntmps52
  go_wp2_with (first
   | (go_at_call 102;(with_reducible refine (Zes [.int .i64 x.points,.string x.names,.slice A2 x.moves.length C2] x _ _ tr _ _ (zK h0 zA) (zK hv zA)).mono ?_);rintro e w2 ⟨u1,u2,f1,f2,he,r1,r2,F2,t2⟩;rw [Hq.out] at he;subst he;have Y1:=Y0.keep t2;obtain ⟨g0,g1,g2⟩:=Y1.c3;obtain ⟨p0,p1,p2⟩:=Y1.f3)
   | fail)
  have K2:Only [] w w2:=zA
  have Yf:=((Y1.set 0 (.slice none 0 0)).set 1 (.slice none 0 0)).set 2 (.slice none 0 0)
  have kf:=K2.then_ ((((Only.refl [w.heap.size + 1] w2).setCell (p:=⟨w.heap.size + 1,0,none⟩) (by simp) (.slice none 0 0)).setCell (p:=⟨w.heap.size + 1,1,none⟩) (by simp) (.slice none 0 0)).setCell (p:=⟨w.heap.size + 1,2,none⟩) (by simp) (.slice none 0 0)) (by simp)
  obtain ⟨wf,hwf⟩:∃ wf,wf = (((w2.setCell ⟨w.heap.size + 1,0,none⟩ (.slice none 0 0)).setCell ⟨w.heap.size + 1,1,none⟩ (.slice none 0 0)).setCell ⟨w.heap.size + 1,2,none⟩ (.slice none 0 0)):=⟨_,rfl⟩
  rw [<- hwf] at Yf kf ⊢
  simp only [List.set] at Yf
  clear hwf g0 g1 g2 p0 p1 p2
  obtain ⟨r0,r1,r2⟩:=Yf.c3
  refine bodyPost_ret (v:=.tuple #[.agg #[.slice none 0 0,.slice none 0 0,.slice none 0 0],.bool false]) (by simp [results,Tryz.results52,go_sem,r0,r1,r2]) rfl ⟨[.slice none 0 0,.slice none 0 0,.slice none 0 0],[],by rw [Hb.out];rfl,?_,Fresh.nil _ _,kf⟩
  rw [Hb.out]
  exact ⟨_,_,_,[],[],[],rfl,rfl,nil_rd _,nil_rd _,nil_rd _⟩
 ·have Hq:=zH hq
  have hb:bTab x tr = some ⟨tr,s.1,s.2⟩:=by unfold bTab;rw [hq];rfl
  have Hb:=zH hb
  clear hq hb
  go_enter Tryz.func52,Tryz.ntmps52
  go_wp2_with (first
   | (go_at_call 102;(with_reducible refine (Zes [.int .i64 x.points,.string x.names,.slice A2 x.moves.length C2] x _ _ tr _ _ (zK h0 zA) (zK hv zA)).mono ?_);rintro e w2 ⟨u1,u2,f1,f2,he,r1,r2,F2,t2⟩;rw [Hq.out] at he r1 r2;subst he;simp only [Option.getD] at r1 r2;obtain ⟨a1,c1,ob,fps,rfl,e1,S1⟩:=r1.open_;obtain ⟨a2,c2,rfl,I2⟩:=r2.ints;have Y1:=Y0.keep t2)
   | (go_at_call 92;(with_reducible refine (Zdm _ tr _ _ (zK hv zA) (by omega)).mono ?_);rintro e w3 ⟨u3,f3,rfl,r3,F3,t3⟩;obtain ⟨a3,c3,rfl,I3⟩:=r3.ints;have Y2:=Y1.keep t3;obtain ⟨g0,g1,g2⟩:=Y2.c3;obtain ⟨p0,p1,p2⟩:=Y2.f3)
   | fail)
  have K2:Only [] w w2:=zA
  have K3:=K2.trans t3
  have hsz:=t2.size
  simp at hsz
  have F:=(F2.keep t3).append F3 t2.size (fun g hg=>F2.lt g hg)
  have hFg:∀ g∈(f1 ++ f2) ++ f3,g ∉ [w.heap.size + 1]:=fun g hg hm=>by have:=F.ge g hg;simp at this hm;omega
  have Yf:=((Y2.set 0 (.slice a3 tr.length c3)).set 1 (.slice a1 s.1.length c1)).set 2 (.slice a2 s.2.length c2)
  have kf:Only [w.heap.size + 1] w3 (((w3.setCell ⟨w.heap.size + 1,0,none⟩ (.slice a3 tr.length c3)).setCell ⟨w.heap.size + 1,1,none⟩ (.slice a1 s.1.length c1)).setCell ⟨w.heap.size + 1,2,none⟩ (.slice a2 s.2.length c2)):=((zO.setCell (by simp) _).setCell (by simp) _).setCell (by simp) _
  obtain ⟨wf,hwf⟩:∃ wf,wf = (((w3.setCell ⟨w.heap.size + 1,0,none⟩ (.slice a3 tr.length c3)).setCell ⟨w.heap.size + 1,1,none⟩ (.slice a1 s.1.length c1)).setCell ⟨w.heap.size + 1,2,none⟩ (.slice a2 s.2.length c2)):=⟨_,rfl⟩
  rw [<- hwf] at Yf kf ⊢
  simp only [List.set] at Yf
  clear hwf g0 g1 g2 p0 p1 p2
  obtain ⟨z0,z1,z2⟩:=Yf.c3
  have hP:((f1 ++ f2) ++ f3).Perm (f3 ++ (f1 ++ f2)):=List.perm_append_comm
  have hFf:=((F.mono (B':=w.heap.size) (by simp;omega)).only kf hFg)
  refine bodyPost_ret (v:=.tuple #[.agg #[.slice a3 tr.length c3,.slice a1 s.1.length c1,.slice a2 s.2.length c2],.bool true]) (by simp [results,Tryz.results52,go_sem,z0,z1,z2]) rfl ⟨[.slice a3 tr.length c3,.slice a1 s.1.length c1,.slice a2 s.2.length c2],f3 ++ (f1 ++ f2),by rw [Hb.out];rfl,?_,⟨hP.nodup hFf.nd,fun b hb=>hFf.ge b (hP.mem_iff.2 hb),hFf.own.sub fun b hb=>hP.mem_iff.2 hb⟩,K3.then_ kf (by simp)⟩
  rw [Hb.out]
  exact ⟨_,_,_,f3,f1,f2,rfl,rfl,Rp.only r3 kf (fun g hg=>hFg g (by simp [hg])),Rp.only (zK r1 t3) kf (fun g hg=>hFg g (by simp [hg])),Rp.only (zK r2 t3) kf (fun g hg=>hFg g (by simp [hg]))⟩
set_option maxHeartbeats 4000000 in
theorem Zap (cs:List Value) (x:Puzzle) (fp:List Nat) (v:Value) (trs:List (List Int)) (ft:List Nat) (w:World) (h:Rp.rep w cs x fp) (hv:Rd w v trs ft) (hsm:∀ y∈trs,y.length<=2097152) :
  Calls Tryz.prog 12 #[.agg cs.toArray,v] w fun e w'=>∃ u fp',e = .returned (.tuple #[u,.bool (bTabs x trs).isSome])/\Rd w' u ((bTabs x trs).getD []) fp'/\Fresh w.heap.size w' fp'/\Only [] w w':=by
 have h0:=h
 obtain ⟨v2,rfl,p0,p1,h2⟩:=h
 obtain ⟨A2,C2,_,_,rfl,-,-⟩:=h2.open_
 obtain ⟨a,cap,ob,fps,rfl,-,hS⟩:=hv.open_
 have hb:=hS.bound
 obtain ⟨i0,hi,hz0,hz1,hz2⟩:=info_parts Tryz.infoTab
 clear p0 p1
 rcases hq:inR trs.length 1 4
 ·have Hn:=zH (by unfold bTabs;rw [hq];rfl:bTabs x trs = none)
  have Hq:=zH hq
  clear hq
  go_enter Tryz.func12,Tryz.ntmps12
  go_wp2_with (first
   | (go_at_call 51;(with_reducible refine (Zhs _ trs _ _ (zK hv zA)).mono ?_);rintro e w ⟨rfl,rfl⟩)
   | (go_at_call 50;(with_reducible refine (Zai trs.length 1 4 _).mono ?_);rintro e w1 ⟨he,h1⟩;subst h1;rw [Hq.out] at he;subst he)
   | fail)
  refine bodyPost_ret (v:=.tuple #[.slice none 0 0,.bool false]) (by simp [results,Tryz.results12,go_sem]) rfl ⟨.slice none 0 0,[],by rw [Hn.out];rfl,?_,Fresh.nil _ _,zA⟩
  rw [Hn.out]
  exact nil_rd _
 ·have Hn:=zH (by unfold bTabs;rw [if_pos hq]:bTabs x trs = bTabsK x trs)
  obtain ⟨q1,q2⟩:=inR_iff.1 hq
  have Hq:=zH hq
  have Hsm:=zH hsm
  clear hq hsm
  go_enter Tryz.func12,Tryz.ntmps12
  go_wp2_with (first
   | (go_at_call 51;(with_reducible refine (Zhs _ trs _ _ (zK hv zA)).mono ?_);rintro e w ⟨rfl,rfl⟩)
   | (go_at_call 50;(with_reducible refine (Zai trs.length 1 4 _).mono ?_);rintro e w1 ⟨he,h1⟩;subst h1;rw [Hq.out] at he;subst he)
   | fail)
  have X1:=Blk.new w [.int .i64 x.points,.string x.names,.slice A2 x.moves.length C2] 26
  have K1:Only [] w (w.alloc (.cells #[.int .i64 x.points,.string x.names,.slice A2 x.moves.length C2] 26)):=zO.alloc _
  have s1:(w.alloc (.cells #[.int .i64 x.points,.string x.names,.slice A2 x.moves.length C2] 26)).heap.size = w.heap.size + 1:=by simp
  simp only [List.toArray] at X1
  obtain ⟨w1,hw1⟩:∃ w1,w1 = (w.alloc (.cells #[.int .i64 x.points,.string x.names,.slice A2 x.moves.length C2] 26)):=⟨_,rfl⟩
  rw [<- hw1] at X1 K1 s1 ⊢
  have hs1:=Nat.le_of_eq s1
  have hs2:=Nat.le_of_eq s1.symm
  clear hw1 s1
  go_loopw [6,17] (fun o i wr=>∃ (j:Nat) (ts:List Table) (fs:List (List Nat)),j<=trs.length/\i = .int .i64 j/\bTabsK x (trs.take j) = some ts/\ts.length = j/\Acc (w.heap.size + 1) 41 wr o ts fs/\Fresh (w.heap.size + 1) wr fs.flatten/\Only [] w1 wr)
   (fun _ i _=>trs.length - (intOf i).toNat)
  case atStart=>exact ⟨0,[],[],Nat.zero_le _,rfl,rfl,rfl,Acc.nil _ _ _,Fresh.nil _ _,Only.refl _ _⟩
  case round=>
   obtain ⟨W2,hnew⟩:∃ W,W = wr:=⟨_,rfl⟩
   subst hnew
   obtain ⟨j,ts,fs,hj,rfl,hts,htl,hA,hF,hK⟩:=hrel
   have Hts:=zH hts
   have htl4:ts.length<=4:=by omega
   have Htl:=zH htl
   clear hts htl
   by_cases hlt:j < trs.length
   ·obtain ⟨b,off,u,rfl,-,hc0,hu0⟩:=hS.atRow j hlt
    have hc:=(K1.trans hK).cell (by simp) hc0
    have hu:=zK hu0 (K1.trans hK)
    have X2:=X1.keep hK
    obtain ⟨x0,x1,x2⟩:=X2.c3
    have KK:=K1.trans hK
    have Hc:=zH (fun (W:World) (hh:Only [] W2 W)=>Zcw [.int .i64 x.points,.string x.names,.slice A2 x.moves.length C2] x _ u trs[j] _ W (zK h0 (KK.trans hh)) (zK hu hh) (Hsm.out _ (List.getElem_mem hlt)))
    have ka:=(Only.refl [] W2).alloc (.cells #[.slice none 0 0,.slice none 0 0,.slice none 0 0] 41)
    have hca:=ka.cell (by simp) hc
    have xa0:=ka.cell (by simp) x0
    have xa1:=ka.cell (by simp) x1
    have xa2:=ka.cell (by simp) x2
    clear hc0 hu0
    go_upto_region 7 with fail
    have hzW:=KK.size
    have hc3:([.slice none 0 0,.slice none 0 0,.slice none 0 0]:List Value).length = 3:=rfl
    go_cut [9,10] (fun s8 s9 wx=>BT1 W2 wx s8 s9 (bTab x trs[j]))
    case first=>
     go_wp2_with (first
      | (go_at_call 52;(with_reducible refine (Hc.out _ zA).mono ?_);rintro e w4 ⟨cs4,f4,he4,r4,F4,t4⟩;have rr:=id r4;obtain ⟨u1,u2,u3,e1,e2,e3,rfl,-,s1,s2,s3⟩:=r4;simp only [List.cons_append,List.nil_append] at rr;have hq1:=s1.open_;have hq2:=s2.open_;have hq3:=s3.open_;obtain ⟨a1,k1,_,_,rfl,-,-⟩:=hq1;obtain ⟨a2,k2,_,_,rfl,-,-⟩:=hq2;obtain ⟨a3,k3,_,_,rfl,-,-⟩:=hq3;subst he4;have Z:=Blk.new w4 [.slice none 0 0,.slice none 0 0,.slice none 0 0] 41;obtain ⟨g0,g1,g2⟩:=Z.c3;obtain ⟨p0,p1,p2⟩:=Z.f3)
      | fail)
     go_meet
     have KK5:Only [] W2 w4:=(by with_reducible repeat (first | exact Only.refl _ _ | assumption | refine Only.drew ?_ | refine Only.alloc ?_ _ | refine Only.trans ?_ (by assumption)))
     with_reducible exact BT1.of2 KK5 rfl rfl rfl rr F4 rfl
    case rest=>
     have q7:=hcut
     clear hcut
     obtain ⟨g,B1,B2,B3,D1,D2,D3,f,rfl,rfl,z,r,F,k⟩:=q7
     rcases hbt:bTab x trs[j] with _ | t
     ·have Hno:=zH (Zjg (List.getElem_mem hlt) hbt)
      rw [hbt] at z r
      simp only [Option.getD,Option.isSome] at z r ⊢
      clear hbt
      go_wp2
      refine bodyPost_ret (v:=.tuple #[.slice none 0 0,.bool false]) (by simp [results,Tryz.results12,go_sem]) rfl ⟨.slice none 0 0,[],by rw [Hn.out,Hno.out];rfl,by rw [Hn.out,Hno.out];exact nil_rd _,Fresh.nil _ _,KK.trans k⟩
     ·have hsn:bTabsK x (trs.take (j + 1)) = some (ts ++ [t]):=by rw [Zab trs j hlt,Zgp,Hts.out,hbt];rfl
      have Hsn:=zH hsn
      rw [hbt] at z r
      simp only [Option.getD,Option.isSome] at z r ⊢
      obtain ⟨d0,d1,d2⟩:=z.c3
      clear hbt hsn
      have hF3:=F.keep ((Only.refl [] wc).alloc (.cells #[.slice B1 t.tracked.length D1,.slice B2 t.patterns.length D2,.slice B3 t.distances.length D3] 41))
      have hr3:=zK r ((Only.refl [] wc).alloc (.cells #[.slice B1 t.tracked.length D1,.slice B2 t.patterns.length D2,.slice B3 t.distances.length D3] 41))
      have kz:=(hK.trans k).alloc (.cells #[.slice B1 t.tracked.length D1,.slice B2 t.patterns.length D2,.slice B3 t.distances.length D3] 41)
      have hwB:w.heap.size + 1<=W2.heap.size:=Nat.le_trans hs2 hK.size
      go_wp2_with (at_builtin;refine Zah rfl _ _ 30 rfl (w.heap.size + 1) 41 i0 _ 72 Tryz.underlying30 hi hz0 hz1 hz2 rfl (by decide) (by decide) W2 _ ts fs rfl hA hF (k.alloc _) hwB wc.heap.size 1 [.slice B1 t.tracked.length D1,.slice B2 t.patterns.length D2,.slice B3 t.distances.length D3] t f rfl (lit_src wc [.slice B1 t.tracked.length D1,.slice B2 t.patterns.length D2,.slice B3 t.distances.length D3] _ rfl) (by intro u hu;simp at hu;rcases hu with rfl | rfl | rfl <;> rfl) hr3 hF3 (by omega) w1 kz hs1 ?_;intro v9 w9 hA9 hF9 hK9 hW9)
      go_roundw
      case rel=>exact ⟨j + 1,ts ++ [t],fs ++ [f],by omega,by go_num,Hsn.out,by simp [Htl.out],hA9,hF9,hK9⟩
      case measure=>simp [intOf];omega
   ·obtain rfl:j = trs.length:=by omega
    rw [List.take_length] at Hts
    have HA:=zH hA
    clear hA
    go_wp2
    refine bodyPost_ret (v:=.tuple #[u6,.bool true]) (by simp [results,Tryz.results12,go_sem]) rfl ⟨u6,_,by rw [Hn.out,Hts.out];rfl,?_,((HA.out.fresh hF).mono (by omega)),K1.trans hK⟩
    rw [Hn.out,Hts.out]
    exact HA.out.rd (by decide)
end Go.Proofs.YthleokaeobdamaaGreat
